/- Walk: no lower stamp is left to make. -/
import Derived.Test.YtkioddmhjbaleaaGreatDoorHyp2
namespace Go.Proofs.YtkioddmhjbaleaaGreatDoor
open Go.RowKit
set_option linter.unusedVariables false
set_option linter.unusedSimpArgs false
set_option maxRecDepth 20000 in
set_option maxHeartbeats 4000000 in
theorem Next_spent (seed : List UInt8) (hs : seed.length = 32) (h : Int) (t : Nat) (hg : High3 h t) (X B P Q t' : Nat) (low x0 x1 x2 : Value) (w : World) (hX : w.heap[X]? = some (.cells (hV (.pointer (some ⟨P, 0, none⟩)) seed h (t : Int) low x0 x1 x2) 62 (0, 0))) (hgB : 1 < B) (hBX : B ≤ X) (hBP : B ≤ P) (hSt : StampAt w P (hup seed) t t) (ht' : t = t' + 1) (hlw : low = .pointer (some ⟨Q, 0, none⟩)) (hBQ : B ≤ Q) (hQP : Q ≠ P) (hSQ : StampAt w Q (hlow seed t') t t) (hro : RoundsAt w) :
    Calls Tryz.prog 32 #[.pointer (some ⟨X, 0, none⟩)] w fun e w' => e = .returned (.iface 29 (.int .i64 6)) ∧ Ho B w w' ∧ HyAt w' X B seed h t (t * t) := by
  have hN := hg.bounds
  have hN256 : t ≤ 256 := by omega
  have hBw : B ≤ w.heap.size := Nat.le_trans hBX (Nat.le_of_lt (lt_of_heap hX))
  obtain ⟨kk, hk1, hk2, hk3⟩ := hg.pow
  have HK := Lib.hid (And.intro hk1 (And.intro hk2 hk3))
  have SL := Lib.hid hs
  have RO := Lib.hid hro
  have HX0 := Lib.hid hX
  have HLX := Lib.hid (lt_of_heap hX)
  have SP := Lib.hid hSt
  have SQ := Lib.hid hSQ
  have HT' := Lib.hid ht'
  have HLW := Lib.hid hlw
  obtain ⟨LS, hLS⟩ : ∃ z, z = hlow seed t := ⟨_, rfl⟩
  have HLS := Lib.hid hLS
  have LSL := Lib.hid (show LS.length = 32 by rw [hLS]; exact hlow_length _ _)
  obtain ⟨RT0, hRT⟩ : ∃ z, z = troot (leavesK LS t) := ⟨_, rfl⟩
  have HRT := Lib.hid hRT
  have RTL := Lib.hid (show RT0.length = 32 by rw [hRT]; exact troot_length _ (leavesK_dig _ _))
  have HIS := Lib.hid (show (Tryz.prog.info? 23).map (·.size) = some (seed.map vB).length by rw [List.length_map, hs]; exact dig_size)
  have HIL := Lib.hid (show (Tryz.prog.info? 23).map (·.size) = some (LS.map vB).length by rw [List.length_map, LSL.out]; exact dig_size)
  have HIR := Lib.hid (show (Tryz.prog.info? 23).map (·.size) = some (RT0.map vB).length by rw [List.length_map, RTL.out]; exact dig_size)
  have C8 := Lib.hid (fun w' (hb : Below w.heap.size w w') => show Calls Tryz.prog 52 #[.agg (dV seed), .int .i64 (t : Int)] w' (fun e w'' => e = .returned (.agg (dV LS)) ∧ Below w'.heap.size w' w'') by rw [hLS]; exact HLow_calls seed hs t (by omega) w' (hro.at_ hb))
  clear hX hs hro hSt hSQ ht' hlw hk1 hk2 hk3 hLS hRT hg
  go_enter Tryz.func32, Tryz.ntmps32
  go_upto_region 1 with fail
  go_cut [3] from 6 (fun v wx => ∃ T, v = .pointer (some ⟨T, 0, none⟩) ∧ wx.heap[T]? = some (.cells (dV LS) 23 (0, 0)) ∧ w.heap.size ≤ T ∧ Below w.heap.size w wx)
  case first =>
    have hX1 := HX0.out
    have SR := Lib.hid (hV_seed hX1)
    have c34 := cell_of_row w X 34 _ _ _ hX1
    rw [hV_34 SL.out] at c34
    have C34 := Lib.hid c34
    have BB_wd := Lib.hid (show Below w.heap.size w w.drew from (Below.refl _ _).drew)
    obtain ⟨wd, hwd⟩ : ∃ z, z = w.drew := ⟨_, rfl⟩
    refine wp_region_held_drew (S := fun w' => Below w.heap.size w w') (by kernel_rfl) BB_wd.out (fun hHeld => ?_)
    rw [← hwd] at hHeld BB_wd ⊢
    clear hX1 c34 hwd
    refine wpAnyH_take (i := 0) (oi := _) (v := .pointer (some ⟨X, 0, none⟩)) rfl (by kernel_rfl) (by kernel_rfl) (by kernel_rfl) (fun _ _ _ h => h) (Or.inl ⟨by rfl, fun w hw => by go_simp⟩) hHeld ?_
    simp only [Act.put, List.getElem_toArray, List.getElem_cons_zero, List.getElem_cons_succ, List.setIfInBounds_toArray, List.set_cons_zero, List.set_cons_succ]
    refine wpAnyH_take (i := 1) (oi := _) (v := .pointer (some ⟨X, 0, none⟩)) rfl (by kernel_rfl) (by kernel_rfl) (by kernel_rfl) (fun _ _ _ h => h) (Or.inl ⟨by rfl, fun w hw => by go_simp⟩) hHeld ?_
    simp only [Act.put, List.getElem_toArray, List.getElem_cons_zero, List.getElem_cons_succ, List.setIfInBounds_toArray, List.set_cons_zero, List.set_cons_succ]
    refine wpAnyH_take (i := 2) (oi := _) (v := .pointer (some ⟨X, 1, none⟩)) rfl (by kernel_rfl) (by kernel_rfl) (by kernel_rfl) (fun _ _ _ h => h) (Or.inl ⟨by rfl, fun w hw => by go_simp⟩) hHeld ?_
    simp only [Act.put, List.getElem_toArray, List.getElem_cons_zero, List.getElem_cons_succ, List.setIfInBounds_toArray, List.set_cons_zero, List.set_cons_succ]
    refine wpAnyH_take (i := 3) (oi := _) (v := _) rfl (by kernel_rfl) (by kernel_rfl) (by kernel_rfl) (fun _ _ _ h => h) (yieldsIf_load_mid (by rfl) _ _ rfl _ _ rfl (seed.map vB) _ (fun w hw => range_belowH SR.out hw HLX.out) Tryz.underlying23 rfl HIS.out) hHeld ?_
    simp only [Act.put, List.getElem_toArray, List.getElem_cons_zero, List.getElem_cons_succ, List.setIfInBounds_toArray, List.set_cons_zero, List.set_cons_succ]
    refine wpAnyH_take (i := 4) (oi := _) (v := .pointer (some ⟨X, 0, none⟩)) rfl (by kernel_rfl) (by kernel_rfl) (by kernel_rfl) (fun _ _ _ h => h) (Or.inl ⟨by rfl, fun w hw => by go_simp⟩) hHeld ?_
    simp only [Act.put, List.getElem_toArray, List.getElem_cons_zero, List.getElem_cons_succ, List.setIfInBounds_toArray, List.set_cons_zero, List.set_cons_succ]
    refine wpAnyH_take (i := 5) (oi := _) (v := .pointer (some ⟨X, 0, none⟩)) rfl (by kernel_rfl) (by kernel_rfl) (by kernel_rfl) (fun _ _ _ h => h) (Or.inl ⟨by rfl, fun w hw => by go_simp⟩) hHeld ?_
    simp only [Act.put, List.getElem_toArray, List.getElem_cons_zero, List.getElem_cons_succ, List.setIfInBounds_toArray, List.set_cons_zero, List.set_cons_succ]
    refine wpAnyH_take (i := 6) (oi := _) (v := .pointer (some ⟨X, 34, none⟩)) rfl (by kernel_rfl) (by kernel_rfl) (by kernel_rfl) (fun _ _ _ h => h) (Or.inl ⟨by rfl, fun w hw => by go_simp⟩) hHeld ?_
    simp only [Act.put, List.getElem_toArray, List.getElem_cons_zero, List.getElem_cons_succ, List.setIfInBounds_toArray, List.set_cons_zero, List.set_cons_succ]
    refine wpAnyH_take (i := 7) (oi := _) (v := .int .i64 (t : Int)) rfl (by kernel_rfl) (by kernel_rfl) (by kernel_rfl) (fun _ _ _ h => h) (Or.inl ⟨by rfl, fun w hw => by have hcc := (hw.cell (p := ⟨X, 34, none⟩) HLX.out).trans C34.out; go_simp⟩) hHeld ?_
    simp only [Act.put, List.getElem_toArray, List.getElem_cons_zero, List.getElem_cons_succ, List.setIfInBounds_toArray, List.set_cons_zero, List.set_cons_succ]
    refine wpAnyH_ready (rs := [8, 9]) (by kernel_rfl) (by simp) ?_
    refine AllReadyH.cons (o := _) rfl (fun K hK => ?_) (AllReadyH.cons (o := _) rfl (fun K hK => ?_) AllReadyH.nil)
    · have HK := Lib.hid hK
      clear hK
      go_simp
      go_at_call 52
      refine (C8.out wd BB_wd.out).mono ?_
      rintro e wa ⟨rfl, hb⟩
      have BB_wa := Lib.hid (show Below w.heap.size w wa from BB_wd.out.trans (hb.mono BB_wd.out.size))
      clear hb
      dsimp only
      refine HK.out _ _ BB_wa.out ?_
      clear HK K hHeld
      try simp only [Act.put, List.getElem_toArray, List.getElem_cons_zero, List.getElem_cons_succ, List.setIfInBounds_toArray, List.set_cons_zero, List.set_cons_succ]
      intro hHeld
      refine wpAnyH_ready (rs := [9]) (by kernel_rfl) (by simp) ?_
      refine AllReadyH.cons (o := _) rfl (fun K hK => ?_) AllReadyH.nil
      have HK := Lib.hid hK
      clear hK
      go_simp
      rw [zdig]
      obtain ⟨T, hT⟩ : ∃ z, z = wa.heap.size := ⟨_, rfl⟩
      obtain ⟨wb, hwb⟩ : ∃ z, z = wa.alloc (.cells (dV nz) 23) := ⟨_, rfl⟩
      have BB_wb := Lib.hid (show Below w.heap.size w wb by rw [hwb]; exact BB_wa.out.alloc BB_wa.out.size _)
      have GT_wb := Lib.hid (show wb.heap[T]? = some (.cells (dV nz) 23 (0, 0)) by rw [hwb, hT]; exact heap_alloc_new _ _)
      have LT := Lib.hid (show w.heap.size ≤ T by rw [hT]; exact BB_wa.out.size)
      rw [← hT, ← hwb]
      clear hT hwb
      refine HK.out _ _ BB_wb.out ?_
      clear HK K hHeld
      try simp only [Act.put, List.getElem_toArray, List.getElem_cons_zero, List.getElem_cons_succ, List.setIfInBounds_toArray, List.set_cons_zero, List.set_cons_succ]
      intro hHeld
      refine wpAnyH_ready (rs := [10]) (by kernel_rfl) (by simp) ?_
      refine AllReadyH.cons (o := _) rfl (fun K hK => ?_) AllReadyH.nil
      have HK := Lib.hid hK
      clear hK
      rw [if_pos (by rfl)]
      refine wp_store_row _ _ _ rfl T (dV LS) (by rfl) (by rfl) _ (dV nz) GT_wb.out (by rw [dV_size LSL.out]; exact dig_size) (by rw [dV_size LSL.out, dV_size nz_length]) (dV_one _) ?_
      obtain ⟨wf, hw2⟩ : ∃ z, z = wb.setRow T (dV LS) := ⟨_, rfl⟩
      have GF := Lib.hid (show wf.heap[T]? = some (.cells (dV LS) 23 (0, 0)) by rw [hw2]; exact setRow_heap _ _ _ _ _ _ GT_wb.out)
      have BB_wf := Lib.hid (show Below w.heap.size w wf by rw [hw2]; exact below_setRowW BB_wb.out LT.out _)
      rw [← hw2]
      clear hw2
      refine HK.out _ _ BB_wf.out ?_
      clear HK K hHeld
      try simp only [Act.put, List.getElem_toArray, List.getElem_cons_zero, List.getElem_cons_succ, List.setIfInBounds_toArray, List.set_cons_zero, List.set_cons_succ]
      intro hHeld
      refine wpAnyH_done (by kernel_rfl) ?_ _
      clear hHeld
      go_wp2_with fail
      go_meet
      exact ⟨T, rfl, GF.out, LT.out, BB_wf.out⟩
    · have HK := Lib.hid hK
      clear hK
      go_simp
      rw [zdig]
      obtain ⟨T, hT⟩ : ∃ z, z = wd.heap.size := ⟨_, rfl⟩
      obtain ⟨wa, hwa⟩ : ∃ z, z = wd.alloc (.cells (dV nz) 23) := ⟨_, rfl⟩
      have BB_wa := Lib.hid (show Below w.heap.size w wa by rw [hwa]; exact BB_wd.out.alloc BB_wd.out.size _)
      have GT_wa := Lib.hid (show wa.heap[T]? = some (.cells (dV nz) 23 (0, 0)) by rw [hwa, hT]; exact heap_alloc_new _ _)
      have LT := Lib.hid (show w.heap.size ≤ T by rw [hT]; exact BB_wd.out.size)
      rw [← hT, ← hwa]
      clear hT hwa
      refine HK.out _ _ BB_wa.out ?_
      clear HK K hHeld
      try simp only [Act.put, List.getElem_toArray, List.getElem_cons_zero, List.getElem_cons_succ, List.setIfInBounds_toArray, List.set_cons_zero, List.set_cons_succ]
      intro hHeld
      refine wpAnyH_ready (rs := [8]) (by kernel_rfl) (by simp) ?_
      refine AllReadyH.cons (o := _) rfl (fun K hK => ?_) AllReadyH.nil
      have HK := Lib.hid hK
      clear hK
      go_simp
      go_at_call 52
      refine (C8.out wa BB_wa.out).mono ?_
      rintro e wb ⟨rfl, hb⟩
      have BB_wb := Lib.hid (show Below w.heap.size w wb from BB_wa.out.trans (hb.mono BB_wa.out.size))
      have GT_wb := Lib.hid ((hb.block T (lt_of_heap GT_wa.out)).trans GT_wa.out)
      clear hb
      dsimp only
      refine HK.out _ _ BB_wb.out ?_
      clear HK K hHeld
      try simp only [Act.put, List.getElem_toArray, List.getElem_cons_zero, List.getElem_cons_succ, List.setIfInBounds_toArray, List.set_cons_zero, List.set_cons_succ]
      intro hHeld
      refine wpAnyH_ready (rs := [10]) (by kernel_rfl) (by simp) ?_
      refine AllReadyH.cons (o := _) rfl (fun K hK => ?_) AllReadyH.nil
      have HK := Lib.hid hK
      clear hK
      rw [if_pos (by rfl)]
      refine wp_store_row _ _ _ rfl T (dV LS) (by rfl) (by rfl) _ (dV nz) GT_wb.out (by rw [dV_size LSL.out]; exact dig_size) (by rw [dV_size LSL.out, dV_size nz_length]) (dV_one _) ?_
      obtain ⟨wf, hw2⟩ : ∃ z, z = wb.setRow T (dV LS) := ⟨_, rfl⟩
      have GF := Lib.hid (show wf.heap[T]? = some (.cells (dV LS) 23 (0, 0)) by rw [hw2]; exact setRow_heap _ _ _ _ _ _ GT_wb.out)
      have BB_wf := Lib.hid (show Below w.heap.size w wf by rw [hw2]; exact below_setRowW BB_wb.out LT.out _)
      rw [← hw2]
      clear hw2
      refine HK.out _ _ BB_wf.out ?_
      clear HK K hHeld
      try simp only [Act.put, List.getElem_toArray, List.getElem_cons_zero, List.getElem_cons_succ, List.setIfInBounds_toArray, List.set_cons_zero, List.set_cons_succ]
      intro hHeld
      refine wpAnyH_done (by kernel_rfl) ?_ _
      clear hHeld
      go_wp2_with fail
      go_meet
      exact ⟨T, rfl, GF.out, LT.out, BB_wf.out⟩
  case rest =>
  obtain ⟨T, rfl, hT, hTw, hbT⟩ := hcut
  obtain ⟨wA, rfl⟩ : ∃ z, z = wc := ⟨_, rfl⟩
  have GT := Lib.hid hT
  have HTw := Lib.hid hTw
  have BA := Lib.hid hbT
  have GX := Lib.hid ((hbT.block X HLX.out).trans HX0.out)
  have SA := Lib.hid (SP.out.below hbT)
  clear hT hTw hbT C8
  have C10 := Lib.hid (fun w' (hb : Below wA.heap.size wA w') => show Calls Tryz.prog 24 #[.agg (dV LS), .int .i64 h] w' (fun e w'' => e = .returned (.tuple #[.agg (dV RT0), .nilIface]) ∧ Below w'.heap.size w' w'') by rw [HRT.out]; exact Public_z LS LSL.out kk h HK.out.1 HK.out.2.1 t HK.out.2.2 w' ((RO.out.at_ BA.out).at_ hb))
  go_upto_region 2 with fail
  go_cut [4, 5] from 6 (fun v4 v5 wx => ∃ U, v4 = .pointer (some ⟨U, 0, none⟩) ∧ v5 = .nilIface ∧ wx.heap[U]? = some (.cells (dV RT0) 23 (0, 0)) ∧ wA.heap.size ≤ U ∧ Below wA.heap.size wA wx)
  case first =>
    have hX1 := GX.out
    have c33 := cell_of_row wA X 33 _ _ _ hX1
    rw [hV_33 SL.out] at c33
    have C33 := Lib.hid c33
    have lXA := Nat.lt_of_lt_of_le HLX.out BA.out.size
    have LXA := Lib.hid lXA
    have RT := Lib.hid (range_of_row GT.out)
    have LTA := Lib.hid (lt_of_heap GT.out)
    have BB_wd := Lib.hid (show Below wA.heap.size wA wA.drew from (Below.refl _ _).drew)
    obtain ⟨wd, hwd⟩ : ∃ z, z = wA.drew := ⟨_, rfl⟩
    refine wp_region_held_drew (S := fun w' => Below wA.heap.size wA w') (by kernel_rfl) BB_wd.out (fun hHeld => ?_)
    rw [← hwd] at hHeld BB_wd ⊢
    clear hX1 c33 hwd lXA
    refine wpAnyH_take (i := 0) (oi := _) (v := _) rfl (by kernel_rfl) (by kernel_rfl) (by kernel_rfl) (fun _ _ _ h => h) (yieldsIf_load_mid (by rfl) _ _ rfl _ _ rfl (LS.map vB) _ (fun w hw => range_belowH RT.out hw LTA.out) Tryz.underlying23 rfl HIL.out) hHeld ?_
    simp only [Act.put, List.getElem_toArray, List.getElem_cons_zero, List.getElem_cons_succ, List.setIfInBounds_toArray, List.set_cons_zero, List.set_cons_succ]
    refine wpAnyH_take (i := 1) (oi := _) (v := .pointer (some ⟨X, 0, none⟩)) rfl (by kernel_rfl) (by kernel_rfl) (by kernel_rfl) (fun _ _ _ h => h) (Or.inl ⟨by rfl, fun w hw => by go_simp⟩) hHeld ?_
    simp only [Act.put, List.getElem_toArray, List.getElem_cons_zero, List.getElem_cons_succ, List.setIfInBounds_toArray, List.set_cons_zero, List.set_cons_succ]
    refine wpAnyH_take (i := 2) (oi := _) (v := .pointer (some ⟨X, 0, none⟩)) rfl (by kernel_rfl) (by kernel_rfl) (by kernel_rfl) (fun _ _ _ h => h) (Or.inl ⟨by rfl, fun w hw => by go_simp⟩) hHeld ?_
    simp only [Act.put, List.getElem_toArray, List.getElem_cons_zero, List.getElem_cons_succ, List.setIfInBounds_toArray, List.set_cons_zero, List.set_cons_succ]
    refine wpAnyH_take (i := 3) (oi := _) (v := .pointer (some ⟨X, 33, none⟩)) rfl (by kernel_rfl) (by kernel_rfl) (by kernel_rfl) (fun _ _ _ h => h) (Or.inl ⟨by rfl, fun w hw => by go_simp⟩) hHeld ?_
    simp only [Act.put, List.getElem_toArray, List.getElem_cons_zero, List.getElem_cons_succ, List.setIfInBounds_toArray, List.set_cons_zero, List.set_cons_succ]
    refine wpAnyH_take (i := 4) (oi := _) (v := .int .i64 h) rfl (by kernel_rfl) (by kernel_rfl) (by kernel_rfl) (fun _ _ _ h => h) (Or.inl ⟨by rfl, fun w hw => by have hcc := (hw.cell (p := ⟨X, 33, none⟩) LXA.out).trans C33.out; go_simp⟩) hHeld ?_
    simp only [Act.put, List.getElem_toArray, List.getElem_cons_zero, List.getElem_cons_succ, List.setIfInBounds_toArray, List.set_cons_zero, List.set_cons_succ]
    refine wpAnyH_ready (rs := [5, 9]) (by kernel_rfl) (by simp) ?_
    refine AllReadyH.cons (o := _) rfl (fun K hK => ?_) (AllReadyH.cons (o := _) rfl (fun K hK => ?_) AllReadyH.nil)
    · have HK := Lib.hid hK
      clear hK
      go_simp
      go_at_call 24
      refine (C10.out wd BB_wd.out).mono ?_
      rintro e wa ⟨rfl, hb⟩
      have BB_wa := Lib.hid (show Below wA.heap.size wA wa from BB_wd.out.trans (hb.mono BB_wd.out.size))
      clear hb
      dsimp only
      refine HK.out _ _ BB_wa.out ?_
      clear HK K hHeld
      try simp only [Act.put, List.getElem_toArray, List.getElem_cons_zero, List.getElem_cons_succ, List.setIfInBounds_toArray, List.set_cons_zero, List.set_cons_succ]
      intro hHeld
      refine wpAnyH_take (i := 6) (oi := _) (v := .tuple #[.agg (dV RT0), .nilIface]) rfl (by kernel_rfl) (by kernel_rfl) (by kernel_rfl) (fun _ _ _ h => h) (Or.inl ⟨by rfl, fun w hw => by go_simp⟩) hHeld ?_
      simp only [Act.put, List.getElem_toArray, List.getElem_cons_zero, List.getElem_cons_succ, List.setIfInBounds_toArray, List.set_cons_zero, List.set_cons_succ]
      refine wpAnyH_take (i := 7) (oi := _) (v := .agg (dV RT0)) rfl (by kernel_rfl) (by kernel_rfl) (by kernel_rfl) (fun _ _ _ h => h) (Or.inl ⟨by rfl, fun w hw => by go_simp⟩) hHeld ?_
      simp only [Act.put, List.getElem_toArray, List.getElem_cons_zero, List.getElem_cons_succ, List.setIfInBounds_toArray, List.set_cons_zero, List.set_cons_succ]
      refine wpAnyH_take (i := 8) (oi := _) (v := .nilIface) rfl (by kernel_rfl) (by kernel_rfl) (by kernel_rfl) (fun _ _ _ h => h) (Or.inl ⟨by rfl, fun w hw => by go_simp⟩) hHeld ?_
      simp only [Act.put, List.getElem_toArray, List.getElem_cons_zero, List.getElem_cons_succ, List.setIfInBounds_toArray, List.set_cons_zero, List.set_cons_succ]
      refine wpAnyH_ready (rs := [9]) (by kernel_rfl) (by simp) ?_
      refine AllReadyH.cons (o := _) rfl (fun K hK => ?_) AllReadyH.nil
      have HK := Lib.hid hK
      clear hK
      go_simp
      rw [zdig]
      obtain ⟨U, hU⟩ : ∃ z, z = wa.heap.size := ⟨_, rfl⟩
      obtain ⟨wb, hwb⟩ : ∃ z, z = wa.alloc (.cells (dV nz) 23) := ⟨_, rfl⟩
      have BB_wb := Lib.hid (show Below wA.heap.size wA wb by rw [hwb]; exact BB_wa.out.alloc BB_wa.out.size _)
      have GT_wb := Lib.hid (show wb.heap[U]? = some (.cells (dV nz) 23 (0, 0)) by rw [hwb, hU]; exact heap_alloc_new _ _)
      have LT := Lib.hid (show wA.heap.size ≤ U by rw [hU]; exact BB_wa.out.size)
      rw [← hU, ← hwb]
      clear hU hwb
      refine HK.out _ _ BB_wb.out ?_
      clear HK K hHeld
      try simp only [Act.put, List.getElem_toArray, List.getElem_cons_zero, List.getElem_cons_succ, List.setIfInBounds_toArray, List.set_cons_zero, List.set_cons_succ]
      intro hHeld
      refine wpAnyH_ready (rs := [10]) (by kernel_rfl) (by simp) ?_
      refine AllReadyH.cons (o := _) rfl (fun K hK => ?_) AllReadyH.nil
      have HK := Lib.hid hK
      clear hK
      rw [if_pos (by rfl)]
      refine wp_store_row _ _ _ rfl U (dV RT0) (by rfl) (by rfl) _ (dV nz) GT_wb.out (by rw [dV_size RTL.out]; exact dig_size) (by rw [dV_size RTL.out, dV_size nz_length]) (dV_one _) ?_
      obtain ⟨wf, hw2⟩ : ∃ z, z = wb.setRow U (dV RT0) := ⟨_, rfl⟩
      have GF := Lib.hid (show wf.heap[U]? = some (.cells (dV RT0) 23 (0, 0)) by rw [hw2]; exact setRow_heap _ _ _ _ _ _ GT_wb.out)
      have BB_wf := Lib.hid (show Below wA.heap.size wA wf by rw [hw2]; exact below_setRowW BB_wb.out LT.out _)
      rw [← hw2]
      clear hw2
      refine HK.out _ _ BB_wf.out ?_
      clear HK K hHeld
      try simp only [Act.put, List.getElem_toArray, List.getElem_cons_zero, List.getElem_cons_succ, List.setIfInBounds_toArray, List.set_cons_zero, List.set_cons_succ]
      intro hHeld
      refine wpAnyH_take (i := 11) (oi := _) (v := .nilIface) rfl (by kernel_rfl) (by kernel_rfl) (by kernel_rfl) (fun _ _ _ h => h) (Or.inl ⟨by rfl, fun w hw => by go_simp⟩) hHeld ?_
      simp only [Act.put, List.getElem_toArray, List.getElem_cons_zero, List.getElem_cons_succ, List.setIfInBounds_toArray, List.set_cons_zero, List.set_cons_succ]
      refine wpAnyH_done (by kernel_rfl) ?_ _
      clear hHeld
      go_wp2_with fail
      go_meet
      exact ⟨U, rfl, rfl, GF.out, LT.out, BB_wf.out⟩
    · have HK := Lib.hid hK
      clear hK
      go_simp
      rw [zdig]
      obtain ⟨U, hU⟩ : ∃ z, z = wd.heap.size := ⟨_, rfl⟩
      obtain ⟨wa, hwa⟩ : ∃ z, z = wd.alloc (.cells (dV nz) 23) := ⟨_, rfl⟩
      have BB_wa := Lib.hid (show Below wA.heap.size wA wa by rw [hwa]; exact BB_wd.out.alloc BB_wd.out.size _)
      have GT_wa := Lib.hid (show wa.heap[U]? = some (.cells (dV nz) 23 (0, 0)) by rw [hwa, hU]; exact heap_alloc_new _ _)
      have LT := Lib.hid (show wA.heap.size ≤ U by rw [hU]; exact BB_wd.out.size)
      rw [← hU, ← hwa]
      clear hU hwa
      refine HK.out _ _ BB_wa.out ?_
      clear HK K hHeld
      try simp only [Act.put, List.getElem_toArray, List.getElem_cons_zero, List.getElem_cons_succ, List.setIfInBounds_toArray, List.set_cons_zero, List.set_cons_succ]
      intro hHeld
      refine wpAnyH_ready (rs := [5]) (by kernel_rfl) (by simp) ?_
      refine AllReadyH.cons (o := _) rfl (fun K hK => ?_) AllReadyH.nil
      have HK := Lib.hid hK
      clear hK
      go_simp
      go_at_call 24
      refine (C10.out wa BB_wa.out).mono ?_
      rintro e wb ⟨rfl, hb⟩
      have BB_wb := Lib.hid (show Below wA.heap.size wA wb from BB_wa.out.trans (hb.mono BB_wa.out.size))
      have GT_wb := Lib.hid ((hb.block U (lt_of_heap GT_wa.out)).trans GT_wa.out)
      clear hb
      dsimp only
      refine HK.out _ _ BB_wb.out ?_
      clear HK K hHeld
      try simp only [Act.put, List.getElem_toArray, List.getElem_cons_zero, List.getElem_cons_succ, List.setIfInBounds_toArray, List.set_cons_zero, List.set_cons_succ]
      intro hHeld
      refine wpAnyH_take (i := 6) (oi := _) (v := .tuple #[.agg (dV RT0), .nilIface]) rfl (by kernel_rfl) (by kernel_rfl) (by kernel_rfl) (fun _ _ _ h => h) (Or.inl ⟨by rfl, fun w hw => by go_simp⟩) hHeld ?_
      simp only [Act.put, List.getElem_toArray, List.getElem_cons_zero, List.getElem_cons_succ, List.setIfInBounds_toArray, List.set_cons_zero, List.set_cons_succ]
      refine wpAnyH_take (i := 7) (oi := _) (v := .agg (dV RT0)) rfl (by kernel_rfl) (by kernel_rfl) (by kernel_rfl) (fun _ _ _ h => h) (Or.inl ⟨by rfl, fun w hw => by go_simp⟩) hHeld ?_
      simp only [Act.put, List.getElem_toArray, List.getElem_cons_zero, List.getElem_cons_succ, List.setIfInBounds_toArray, List.set_cons_zero, List.set_cons_succ]
      refine wpAnyH_take (i := 8) (oi := _) (v := .nilIface) rfl (by kernel_rfl) (by kernel_rfl) (by kernel_rfl) (fun _ _ _ h => h) (Or.inl ⟨by rfl, fun w hw => by go_simp⟩) hHeld ?_
      simp only [Act.put, List.getElem_toArray, List.getElem_cons_zero, List.getElem_cons_succ, List.setIfInBounds_toArray, List.set_cons_zero, List.set_cons_succ]
      refine wpAnyH_ready (rs := [10]) (by kernel_rfl) (by simp) ?_
      refine AllReadyH.cons (o := _) rfl (fun K hK => ?_) AllReadyH.nil
      have HK := Lib.hid hK
      clear hK
      rw [if_pos (by rfl)]
      refine wp_store_row _ _ _ rfl U (dV RT0) (by rfl) (by rfl) _ (dV nz) GT_wb.out (by rw [dV_size RTL.out]; exact dig_size) (by rw [dV_size RTL.out, dV_size nz_length]) (dV_one _) ?_
      obtain ⟨wf, hw2⟩ : ∃ z, z = wb.setRow U (dV RT0) := ⟨_, rfl⟩
      have GF := Lib.hid (show wf.heap[U]? = some (.cells (dV RT0) 23 (0, 0)) by rw [hw2]; exact setRow_heap _ _ _ _ _ _ GT_wb.out)
      have BB_wf := Lib.hid (show Below wA.heap.size wA wf by rw [hw2]; exact below_setRowW BB_wb.out LT.out _)
      rw [← hw2]
      clear hw2
      refine HK.out _ _ BB_wf.out ?_
      clear HK K hHeld
      try simp only [Act.put, List.getElem_toArray, List.getElem_cons_zero, List.getElem_cons_succ, List.setIfInBounds_toArray, List.set_cons_zero, List.set_cons_succ]
      intro hHeld
      refine wpAnyH_take (i := 11) (oi := _) (v := .nilIface) rfl (by kernel_rfl) (by kernel_rfl) (by kernel_rfl) (fun _ _ _ h => h) (Or.inl ⟨by rfl, fun w hw => by go_simp⟩) hHeld ?_
      simp only [Act.put, List.getElem_toArray, List.getElem_cons_zero, List.getElem_cons_succ, List.setIfInBounds_toArray, List.set_cons_zero, List.set_cons_succ]
      refine wpAnyH_done (by kernel_rfl) ?_ _
      clear hHeld
      go_wp2_with fail
      go_meet
      exact ⟨U, rfl, rfl, GF.out, LT.out, BB_wf.out⟩
  case rest =>
  obtain ⟨U, rfl, rfl, hT, hTw, hbT⟩ := hcut
  obtain ⟨wB, rfl⟩ : ∃ z, z = wc := ⟨_, rfl⟩
  have GU := Lib.hid hT
  have HUw := Lib.hid (Nat.le_trans BA.out.size hTw)
  have BB := Lib.hid (BA.out.trans (hbT.mono BA.out.size))
  have GXB := Lib.hid ((hbT.block X (lt_of_heap GX.out)).trans GX.out)
  have GTB := Lib.hid ((hbT.block T (lt_of_heap GT.out)).trans GT.out)
  have SB := Lib.hid (SA.out.below hbT)
  clear hT hTw hbT C10 GX GT SA
  go_upto_region 5 with fail
  have RU := Lib.hid (range_of_row GU.out)
  have KS : ∀ w' : World, (∀ (b : Nat) (c : Array Value) (ty : TypeId) (fr : Nat × Nat), wB.heap[b]? = some (.cells c ty fr) → ty ≠ 82 → w'.heap[b]? = some (.cells c ty fr)) → (w'.cell? ⟨X, 0, none⟩ = some (.pointer (some ⟨P, 0, none⟩)) ∧ w'.rangeAt U 0 (RT0.map vB)) := fun w' hb => by
    refine ⟨?_, range_of_row (hb U _ _ _ GU.out (by decide))⟩
    rw [cell_of_row w' X 0 _ _ _ (hb X _ _ _ GXB.out (by decide)), hV_0]
  have HKS := Lib.hid KS
  obtain ⟨wd, hwd⟩ : ∃ z, z = wB.drew := ⟨_, rfl⟩
  refine wp_region_held_drew (S := fun w' => w'.cell? ⟨X, 0, none⟩ = some (.pointer (some ⟨P, 0, none⟩)) ∧ w'.rangeAt U 0 (RT0.map vB)) (by kernel_rfl) (by rw [← hwd]; exact KS wd (fun b c ty fr h _ => by rw [hwd]; exact h)) (fun hHeld => ?_)
  rw [← hwd] at hHeld ⊢
  have BD := Lib.hid (show Below wB.heap.size wB wd by rw [hwd]; exact (Below.refl _ _).drew)
  have SD := Lib.hid (SB.out.below BD.out)
  have BWD := Lib.hid (BB.out.trans (BD.out.mono BB.out.size))
  have GXD := Lib.hid ((BD.out.block X (lt_of_heap GXB.out)).trans GXB.out)
  have GTD := Lib.hid ((BD.out.block T (lt_of_heap GTB.out)).trans GTB.out)
  have ROD := Lib.hid (RO.out.at_ BWD.out)
  clear KS hwd
  refine wpAnyH_take (i := 0) (oi := _) (v := .pointer (some ⟨X, 0, none⟩)) rfl (by kernel_rfl) (by kernel_rfl) (by kernel_rfl) (fun _ _ _ h => h) (Or.inl ⟨by rfl, fun w hw => by go_simp⟩) hHeld ?_
  simp only [Act.put, List.getElem_toArray, List.getElem_cons_zero, List.getElem_cons_succ, List.setIfInBounds_toArray, List.set_cons_zero, List.set_cons_succ]
  refine wpAnyH_take (i := 1) (oi := _) (v := .pointer (some ⟨X, 0, none⟩)) rfl (by kernel_rfl) (by kernel_rfl) (by kernel_rfl) (fun _ _ _ h => h) (Or.inl ⟨by rfl, fun w hw => by go_simp⟩) hHeld ?_
  simp only [Act.put, List.getElem_toArray, List.getElem_cons_zero, List.getElem_cons_succ, List.setIfInBounds_toArray, List.set_cons_zero, List.set_cons_succ]
  refine wpAnyH_take (i := 2) (oi := _) (v := .pointer (some ⟨X, 0, none⟩)) rfl (by kernel_rfl) (by kernel_rfl) (by kernel_rfl) (fun _ _ _ h => h) (Or.inl ⟨by rfl, fun w hw => by go_simp⟩) hHeld ?_
  simp only [Act.put, List.getElem_toArray, List.getElem_cons_zero, List.getElem_cons_succ, List.setIfInBounds_toArray, List.set_cons_zero, List.set_cons_succ]
  refine wpAnyH_take (i := 3) (oi := _) (v := .pointer (some ⟨X, 0, none⟩)) rfl (by kernel_rfl) (by kernel_rfl) (by kernel_rfl) (fun _ _ _ h => h) (Or.inl ⟨by rfl, fun w hw => by go_simp⟩) hHeld ?_
  simp only [Act.put, List.getElem_toArray, List.getElem_cons_zero, List.getElem_cons_succ, List.setIfInBounds_toArray, List.set_cons_zero, List.set_cons_succ]
  refine wpAnyH_take (i := 4) (oi := _) (v := .pointer (some ⟨P, 0, none⟩)) rfl (by kernel_rfl) (by kernel_rfl) (by kernel_rfl) (fun _ _ _ h => h) (Or.inl ⟨by rfl, fun w hw => by have hcc := hw.1; go_simp⟩) hHeld ?_
  simp only [Act.put, List.getElem_toArray, List.getElem_cons_zero, List.getElem_cons_succ, List.setIfInBounds_toArray, List.set_cons_zero, List.set_cons_succ]
  refine wpAnyH_take (i := 5) (oi := _) (v := _) rfl (by kernel_rfl) (by kernel_rfl) (by kernel_rfl) (fun _ _ _ h => h) (yieldsIf_load_mid (by rfl) _ _ rfl _ _ rfl (RT0.map vB) _ (fun w hw => hw.2) Tryz.underlying23 rfl HIR.out) hHeld ?_
  simp only [Act.put, List.getElem_toArray, List.getElem_cons_zero, List.getElem_cons_succ, List.setIfInBounds_toArray, List.set_cons_zero, List.set_cons_succ]
  refine wpAnyH_ready (rs := [6]) (by kernel_rfl) (by simp) ?_
  refine AllReadyH.cons (o := _) rfl (fun K hK => ?_) AllReadyH.nil
  have HK := Lib.hid hK
  clear hK
  go_simp
  go_at_call 33
  refine (Sign_spent (hup seed) RT0 (hup_length _) RTL.out P t hN256 wd SD.out).mono ?_
  rintro e we ⟨rfl, hb⟩
  have BE := Lib.hid (BWD.out.trans (hb.mono BWD.out.size))
  have GXE := Lib.hid ((hb.block X (lt_of_heap GXD.out)).trans GXD.out)
  have S2 := Lib.hid (HKS.out we (fun b c ty fr hb1 h1 => (hb.block b (lt_of_heap ((BD.out.block b (lt_of_heap hb1)).trans hb1))).trans ((BD.out.block b (lt_of_heap hb1)).trans hb1)))
  have GUE := Lib.hid ((hb.block U (lt_of_heap ((BD.out.block U (lt_of_heap GU.out)).trans GU.out))).trans ((BD.out.block U (lt_of_heap GU.out)).trans GU.out))
  clear hb
  dsimp only
  refine HK.out _ _ S2.out ?_
  clear HK K hHeld
  try simp only [Act.put, List.getElem_toArray, List.getElem_cons_zero, List.getElem_cons_succ, List.setIfInBounds_toArray, List.set_cons_zero, List.set_cons_succ]
  intro hHeld
  refine wpAnyH_take (i := 7) (oi := _) (v := .tuple #[.agg #[.int .i64 0, .slice none 0 0, .slice none 0 0], .iface 29 (.int .i64 6)]) rfl (by kernel_rfl) (by kernel_rfl) (by kernel_rfl) (fun _ _ _ h => h) (Or.inl ⟨by rfl, fun w hw => by go_simp⟩) hHeld ?_
  simp only [Act.put, List.getElem_toArray, List.getElem_cons_zero, List.getElem_cons_succ, List.setIfInBounds_toArray, List.set_cons_zero, List.set_cons_succ]
  refine wpAnyH_take (i := 8) (oi := _) (v := .agg #[.int .i64 0, .slice none 0 0, .slice none 0 0]) rfl (by kernel_rfl) (by kernel_rfl) (by kernel_rfl) (fun _ _ _ h => h) (Or.inl ⟨by rfl, fun w hw => by go_simp⟩) hHeld ?_
  simp only [Act.put, List.getElem_toArray, List.getElem_cons_zero, List.getElem_cons_succ, List.setIfInBounds_toArray, List.set_cons_zero, List.set_cons_succ]
  refine wpAnyH_take (i := 9) (oi := _) (v := .iface 29 (.int .i64 6)) rfl (by kernel_rfl) (by kernel_rfl) (by kernel_rfl) (fun _ _ _ h => h) (Or.inl ⟨by rfl, fun w hw => by go_simp⟩) hHeld ?_
  simp only [Act.put, List.getElem_toArray, List.getElem_cons_zero, List.getElem_cons_succ, List.setIfInBounds_toArray, List.set_cons_zero, List.set_cons_succ]
  refine wpAnyH_take (i := 10) (oi := _) (v := .pointer (some ⟨X, 0, none⟩)) rfl (by kernel_rfl) (by kernel_rfl) (by kernel_rfl) (fun _ _ _ h => h) (Or.inl ⟨by rfl, fun w hw => by go_simp⟩) hHeld ?_
  simp only [Act.put, List.getElem_toArray, List.getElem_cons_zero, List.getElem_cons_succ, List.setIfInBounds_toArray, List.set_cons_zero, List.set_cons_succ]
  refine wpAnyH_take (i := 11) (oi := _) (v := .pointer (some ⟨X, 36, none⟩)) rfl (by kernel_rfl) (by kernel_rfl) (by kernel_rfl) (fun _ _ _ h => h) (Or.inl ⟨by rfl, fun w hw => by go_simp⟩) hHeld ?_
  simp only [Act.put, List.getElem_toArray, List.getElem_cons_zero, List.getElem_cons_succ, List.setIfInBounds_toArray, List.set_cons_zero, List.set_cons_succ]
  refine wpAnyH_ready (rs := [12]) (by kernel_rfl) (by simp) ?_
  refine AllReadyH.cons (o := _) rfl (fun K hK => ?_) AllReadyH.nil
  have HK := Lib.hid hK
  clear hK
  rw [if_pos (by rfl)]
  refine wp_store_mid _ _ _ rfl X 36 #[.int .i64 0, .slice none 0 0, .slice none 0 0] (by rfl) (by rfl) (hV_there SL.out GXE.out) (info_sig _ _ _) (sig_one _ _ _ _ _ _ _) ?_
  obtain ⟨wf, hwf⟩ : ∃ z, z = we.setCells X 36 [.int .i64 0, .slice none 0 0, .slice none 0 0] := ⟨_, rfl⟩
  have hon : Only we wf X := by rw [hwf]; exact Only.setCells3 _ _ _ _ _ _
  have hbf : Below B we wf := by rw [hwf]; exact below_setCells _ _ (Below.refl _ _) hBX
  have GXF := Lib.hid (show wf.heap[X]? = some (.cells (hV (.pointer (some ⟨P, 0, none⟩)) seed h (t : Int) low (.int .i64 0) (.slice none 0 0) (.slice none 0 0)) 62 (0, 0)) by rw [hwf]; exact hV_put SL.out GXE.out _ _ _)
  have HOF := Lib.hid ((Ho.of_below BE.out hBw).trans (Ho.of_only hon hbf GXE.out))
  have SF := Lib.hid (hon.stamp GXE.out (by decide) (by decide) (SP.out.below BE.out))
  have SQF := Lib.hid (hon.stamp GXE.out (by decide) (by decide) (SQ.out.below BE.out))
  have S3 := Lib.hid (show wf.cell? ⟨X, 0, none⟩ = some (.pointer (some ⟨P, 0, none⟩)) ∧ wf.rangeAt U 0 (RT0.map vB) from ⟨by rw [cell_of_row wf X 0 _ _ _ GXF.out, hV_0], range_of_row (hon.blk GXE.out GUE.out (by decide))⟩)
  rw [← hwf]
  clear hwf hon hbf
  refine HK.out _ _ S3.out ?_
  clear HK K hHeld
  try simp only [Act.put, List.getElem_toArray, List.getElem_cons_zero, List.getElem_cons_succ, List.setIfInBounds_toArray, List.set_cons_zero, List.set_cons_succ]
  intro hHeld
  refine wpAnyH_take (i := 13) (oi := _) (v := .iface 29 (.int .i64 6)) rfl (by kernel_rfl) (by kernel_rfl) (by kernel_rfl) (fun _ _ _ h => h) (Or.inl ⟨by rfl, fun w hw => by go_simp⟩) hHeld ?_
  simp only [Act.put, List.getElem_toArray, List.getElem_cons_zero, List.getElem_cons_succ, List.setIfInBounds_toArray, List.set_cons_zero, List.set_cons_succ]
  refine wpAnyH_done (by kernel_rfl) ?_ _
  clear hHeld HKS RU S2 S3 SB GXB GTB GU SD GXD GTD BD GXE BE
  have FIN := Lib.hid (show HyAt wf X B seed h t (t * t) from ⟨P, t, low, _, _, _, GXF.out, hBX, hBP, SF.out, Nat.le_refl _, sig_one _ _ _ _ _ _ _, .inr ⟨t', Q, t, HT'.out, by have := HT'.out; omega, HLW.out, hBQ, hQP, Nat.le_refl _, (by have := HT'.out; subst this; exact Nat.succ_mul t' (t' + 1)), SQF.out, fun hl => absurd hl (Nat.lt_irrefl _)⟩⟩)
  go_wp2_with fail
  go_ret
  exact ⟨rfl, HOF.out, FIN.out⟩
end Go.Proofs.YtkioddmhjbaleaaGreatDoor
