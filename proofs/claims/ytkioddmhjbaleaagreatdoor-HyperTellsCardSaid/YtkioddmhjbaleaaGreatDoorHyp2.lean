/- Walk: the next lower stamp of a Hyper, with its key signed. -/
import Derived.Test.YtkioddmhjbaleaaGreatDoorHypA
import Derived.Deep.CutBlock
namespace Go.Proofs.YtkioddmhjbaleaaGreatDoor
open Go.RowKit
set_option linter.unusedVariables false
set_option linter.unusedSimpArgs false
/-- a Hyper whose lower stamp can sign yet -/
def HyR (w : World) (X B : Nat) (seed : List UInt8) (h : Int) (N t nx : Nat) : Prop :=
  ∃ (P Q : Nat) (x0 x1 x2 : Value), w.heap[X]? = some (.cells (hV (.pointer (some ⟨P, 0, none⟩)) seed h ((t + 1 : Nat) : Int) (.pointer (some ⟨Q, 0, none⟩)) x0 x1 x2) 62 (0, 0)) ∧ B ≤ X ∧ B ≤ P ∧ B ≤ Q ∧ Q ≠ P ∧ t < N ∧ nx ≤ N ∧ StampAt w P (hup seed) N (t + 1) ∧ StampAt w Q (hlow seed t) N nx ∧ KeyAt w (hup seed) (hlow seed t) N t x0 x1 x2 ∧ One3 x0 x1 x2
theorem range_belowH {w w' : World} {D B o : Nat} {cs : List Value} (h : w.rangeAt B o cs) (hb : Below D w w') (hB : B < D) : w'.rangeAt B o cs := fun j v hj => (hb.cell (p := ⟨B, o + j, none⟩) hB).trans (h j v hj)
set_option maxRecDepth 20000 in
set_option maxHeartbeats 4000000 in
theorem Next_ok (seed : List UInt8) (hs : seed.length = 32) (h : Int) (N : Nat) (hg : High3 h N) (X B P t : Nat) (low x0 x1 x2 : Value) (w : World) (hX : w.heap[X]? = some (.cells (hV (.pointer (some ⟨P, 0, none⟩)) seed h (t : Int) low x0 x1 x2) 62 (0, 0))) (hgB : 1 < B) (hBX : B ≤ X) (hBP : B ≤ P) (hSt : StampAt w P (hup seed) N t) (ht : t < N) (hro : RoundsAt w) :
    Calls Tryz.prog 32 #[.pointer (some ⟨X, 0, none⟩)] w fun e w' => e = .returned .nilIface ∧ Ho B w w' ∧ HyR w' X B seed h N t 0 := by
  have hN := hg.bounds
  have hN256 : N ≤ 256 := by omega
  have hBw : B ≤ w.heap.size := Nat.le_trans hBX (Nat.le_of_lt (lt_of_heap hX))
  obtain ⟨kk, hk1, hk2, hk3⟩ := hg.pow
  have HK := Lib.hid (And.intro hk1 (And.intro hk2 hk3))
  have SL := Lib.hid hs
  have RO := Lib.hid hro
  have HX0 := Lib.hid hX
  have HLX := Lib.hid (lt_of_heap hX)
  have SP := Lib.hid hSt
  obtain ⟨LS, hLS⟩ : ∃ z, z = hlow seed t := ⟨_, rfl⟩
  have HLS := Lib.hid hLS
  have LSL := Lib.hid (show LS.length = 32 by rw [hLS]; exact hlow_length _ _)
  obtain ⟨RT0, hRT⟩ : ∃ z, z = troot (leavesK LS N) := ⟨_, rfl⟩
  have HRT := Lib.hid hRT
  have RTL := Lib.hid (show RT0.length = 32 by rw [hRT]; exact troot_length _ (leavesK_dig _ _))
  have HIS := Lib.hid (show (Tryz.prog.info? 23).map (·.size) = some (seed.map vB).length by rw [List.length_map, hs]; exact dig_size)
  have HIL := Lib.hid (show (Tryz.prog.info? 23).map (·.size) = some (LS.map vB).length by rw [List.length_map, LSL.out]; exact dig_size)
  have HIR := Lib.hid (show (Tryz.prog.info? 23).map (·.size) = some (RT0.map vB).length by rw [List.length_map, RTL.out]; exact dig_size)
  have C8 := Lib.hid (fun w' (hb : Below w.heap.size w w') => show Calls Tryz.prog 52 #[.agg (dV seed), .int .i64 (t : Int)] w' (fun e w'' => e = .returned (.agg (dV LS)) ∧ Below w'.heap.size w' w'') by rw [hLS]; exact HLow_calls seed hs t (by omega) w' (hro.at_ hb))
  clear hX hs hro hSt hk1 hk2 hk3 hLS hRT hg
  go_enter Tryz.func32, Tryz.ntmps32
  go_upto_region 1 with fail
  go_cut [3] from 6 (fun v wx => ∃ T, v = .pointer (some ⟨T, 0, none⟩) ∧ wx.heap[T]? = some (.cells (dV LS) 23 (0, 0)) ∧ w.heap.size ≤ T ∧ Below w.heap.size w wx)
  case first =>
    have hX1 := HX0.out
    have SR := Lib.hid (hV_seed hX1)
    have c34 := cell_of_row w X 34 _ _ _ hX1
    rw [hV_34 SL.out] at c34
    have C34 := Lib.hid c34
    have BB_wd := Lib.hid (show Below w.heap.size w w.drew from (Below.refl _ _).drew)
    obtain ⟨wd, hwd⟩ : ∃ z, z = w.drew := ⟨_, rfl⟩
    refine wp_region_held_drew (S := fun w' => Below w.heap.size w w') (by kernel_rfl) BB_wd.out (fun hHeld => ?_)
    rw [← hwd] at hHeld BB_wd ⊢
    clear hX1 c34 hwd
    refine wpAnyH_take (i := 0) (oi := _) (v := .pointer (some ⟨X, 0, none⟩)) rfl (by kernel_rfl) (by kernel_rfl) (by kernel_rfl) (fun _ _ _ h => h) (Or.inl ⟨by rfl, fun w hw => by go_simp⟩) hHeld ?_
    simp only [Act.put, List.getElem_toArray, List.getElem_cons_zero, List.getElem_cons_succ, List.setIfInBounds_toArray, List.set_cons_zero, List.set_cons_succ]
    refine wpAnyH_take (i := 1) (oi := _) (v := .pointer (some ⟨X, 0, none⟩)) rfl (by kernel_rfl) (by kernel_rfl) (by kernel_rfl) (fun _ _ _ h => h) (Or.inl ⟨by rfl, fun w hw => by go_simp⟩) hHeld ?_
    simp only [Act.put, List.getElem_toArray, List.getElem_cons_zero, List.getElem_cons_succ, List.setIfInBounds_toArray, List.set_cons_zero, List.set_cons_succ]
    refine wpAnyH_take (i := 2) (oi := _) (v := .pointer (some ⟨X, 1, none⟩)) rfl (by kernel_rfl) (by kernel_rfl) (by kernel_rfl) (fun _ _ _ h => h) (Or.inl ⟨by rfl, fun w hw => by go_simp⟩) hHeld ?_
    simp only [Act.put, List.getElem_toArray, List.getElem_cons_zero, List.getElem_cons_succ, List.setIfInBounds_toArray, List.set_cons_zero, List.set_cons_succ]
    refine wpAnyH_take (i := 3) (oi := _) (v := _) rfl (by kernel_rfl) (by kernel_rfl) (by kernel_rfl) (fun _ _ _ h => h) (yieldsIf_load_mid (by rfl) _ _ rfl _ _ rfl (seed.map vB) _ (fun w hw => range_belowH SR.out hw HLX.out) Tryz.underlying23 rfl HIS.out) hHeld ?_
    simp only [Act.put, List.getElem_toArray, List.getElem_cons_zero, List.getElem_cons_succ, List.setIfInBounds_toArray, List.set_cons_zero, List.set_cons_succ]
    refine wpAnyH_take (i := 4) (oi := _) (v := .pointer (some ⟨X, 0, none⟩)) rfl (by kernel_rfl) (by kernel_rfl) (by kernel_rfl) (fun _ _ _ h => h) (Or.inl ⟨by rfl, fun w hw => by go_simp⟩) hHeld ?_
    simp only [Act.put, List.getElem_toArray, List.getElem_cons_zero, List.getElem_cons_succ, List.setIfInBounds_toArray, List.set_cons_zero, List.set_cons_succ]
    refine wpAnyH_take (i := 5) (oi := _) (v := .pointer (some ⟨X, 0, none⟩)) rfl (by kernel_rfl) (by kernel_rfl) (by kernel_rfl) (fun _ _ _ h => h) (Or.inl ⟨by rfl, fun w hw => by go_simp⟩) hHeld ?_
    simp only [Act.put, List.getElem_toArray, List.getElem_cons_zero, List.getElem_cons_succ, List.setIfInBounds_toArray, List.set_cons_zero, List.set_cons_succ]
    refine wpAnyH_take (i := 6) (oi := _) (v := .pointer (some ⟨X, 34, none⟩)) rfl (by kernel_rfl) (by kernel_rfl) (by kernel_rfl) (fun _ _ _ h => h) (Or.inl ⟨by rfl, fun w hw => by go_simp⟩) hHeld ?_
    simp only [Act.put, List.getElem_toArray, List.getElem_cons_zero, List.getElem_cons_succ, List.setIfInBounds_toArray, List.set_cons_zero, List.set_cons_succ]
    refine wpAnyH_take (i := 7) (oi := _) (v := .int .i64 (t : Int)) rfl (by kernel_rfl) (by kernel_rfl) (by kernel_rfl) (fun _ _ _ h => h) (Or.inl ⟨by rfl, fun w hw => by have hcc := (hw.cell (p := ⟨X, 34, none⟩) HLX.out).trans C34.out; go_simp⟩) hHeld ?_
    simp only [Act.put, List.getElem_toArray, List.getElem_cons_zero, List.getElem_cons_succ, List.setIfInBounds_toArray, List.set_cons_zero, List.set_cons_succ]
    refine wpAnyH_ready (rs := [8, 9]) (by kernel_rfl) (by simp) ?_
    refine AllReadyH.cons (o := _) rfl (fun K hK => ?_) (AllReadyH.cons (o := _) rfl (fun K hK => ?_) AllReadyH.nil)
    · have HK := Lib.hid hK
      clear hK
      go_simp
      go_at_call 52
      refine (C8.out wd BB_wd.out).mono ?_
      rintro e wa ⟨rfl, hb⟩
      have BB_wa := Lib.hid (show Below w.heap.size w wa from BB_wd.out.trans (hb.mono BB_wd.out.size))
      clear hb
      dsimp only
      refine HK.out _ _ BB_wa.out ?_
      clear HK K hHeld
      try simp only [Act.put, List.getElem_toArray, List.getElem_cons_zero, List.getElem_cons_succ, List.setIfInBounds_toArray, List.set_cons_zero, List.set_cons_succ]
      intro hHeld
      refine wpAnyH_ready (rs := [9]) (by kernel_rfl) (by simp) ?_
      refine AllReadyH.cons (o := _) rfl (fun K hK => ?_) AllReadyH.nil
      have HK := Lib.hid hK
      clear hK
      go_simp
      rw [zdig]
      obtain ⟨T, hT⟩ : ∃ z, z = wa.heap.size := ⟨_, rfl⟩
      obtain ⟨wb, hwb⟩ : ∃ z, z = wa.alloc (.cells (dV nz) 23) := ⟨_, rfl⟩
      have BB_wb := Lib.hid (show Below w.heap.size w wb by rw [hwb]; exact BB_wa.out.alloc BB_wa.out.size _)
      have GT_wb := Lib.hid (show wb.heap[T]? = some (.cells (dV nz) 23 (0, 0)) by rw [hwb, hT]; exact heap_alloc_new _ _)
      have LT := Lib.hid (show w.heap.size ≤ T by rw [hT]; exact BB_wa.out.size)
      rw [← hT, ← hwb]
      clear hT hwb
      refine HK.out _ _ BB_wb.out ?_
      clear HK K hHeld
      try simp only [Act.put, List.getElem_toArray, List.getElem_cons_zero, List.getElem_cons_succ, List.setIfInBounds_toArray, List.set_cons_zero, List.set_cons_succ]
      intro hHeld
      refine wpAnyH_ready (rs := [10]) (by kernel_rfl) (by simp) ?_
      refine AllReadyH.cons (o := _) rfl (fun K hK => ?_) AllReadyH.nil
      have HK := Lib.hid hK
      clear hK
      rw [if_pos (by rfl)]
      refine wp_store_row _ _ _ rfl T (dV LS) (by rfl) (by rfl) _ (dV nz) GT_wb.out (by rw [dV_size LSL.out]; exact dig_size) (by rw [dV_size LSL.out, dV_size nz_length]) (dV_one _) ?_
      obtain ⟨wf, hw2⟩ : ∃ z, z = wb.setRow T (dV LS) := ⟨_, rfl⟩
      have GF := Lib.hid (show wf.heap[T]? = some (.cells (dV LS) 23 (0, 0)) by rw [hw2]; exact setRow_heap _ _ _ _ _ _ GT_wb.out)
      have BB_wf := Lib.hid (show Below w.heap.size w wf by rw [hw2]; exact below_setRowW BB_wb.out LT.out _)
      rw [← hw2]
      clear hw2
      refine HK.out _ _ BB_wf.out ?_
      clear HK K hHeld
      try simp only [Act.put, List.getElem_toArray, List.getElem_cons_zero, List.getElem_cons_succ, List.setIfInBounds_toArray, List.set_cons_zero, List.set_cons_succ]
      intro hHeld
      refine wpAnyH_done (by kernel_rfl) ?_ _
      clear hHeld
      go_wp2_with fail
      go_meet
      exact ⟨T, rfl, GF.out, LT.out, BB_wf.out⟩
    · have HK := Lib.hid hK
      clear hK
      go_simp
      rw [zdig]
      obtain ⟨T, hT⟩ : ∃ z, z = wd.heap.size := ⟨_, rfl⟩
      obtain ⟨wa, hwa⟩ : ∃ z, z = wd.alloc (.cells (dV nz) 23) := ⟨_, rfl⟩
      have BB_wa := Lib.hid (show Below w.heap.size w wa by rw [hwa]; exact BB_wd.out.alloc BB_wd.out.size _)
      have GT_wa := Lib.hid (show wa.heap[T]? = some (.cells (dV nz) 23 (0, 0)) by rw [hwa, hT]; exact heap_alloc_new _ _)
      have LT := Lib.hid (show w.heap.size ≤ T by rw [hT]; exact BB_wd.out.size)
      rw [← hT, ← hwa]
      clear hT hwa
      refine HK.out _ _ BB_wa.out ?_
      clear HK K hHeld
      try simp only [Act.put, List.getElem_toArray, List.getElem_cons_zero, List.getElem_cons_succ, List.setIfInBounds_toArray, List.set_cons_zero, List.set_cons_succ]
      intro hHeld
      refine wpAnyH_ready (rs := [8]) (by kernel_rfl) (by simp) ?_
      refine AllReadyH.cons (o := _) rfl (fun K hK => ?_) AllReadyH.nil
      have HK := Lib.hid hK
      clear hK
      go_simp
      go_at_call 52
      refine (C8.out wa BB_wa.out).mono ?_
      rintro e wb ⟨rfl, hb⟩
      have BB_wb := Lib.hid (show Below w.heap.size w wb from BB_wa.out.trans (hb.mono BB_wa.out.size))
      have GT_wb := Lib.hid ((hb.block T (lt_of_heap GT_wa.out)).trans GT_wa.out)
      clear hb
      dsimp only
      refine HK.out _ _ BB_wb.out ?_
      clear HK K hHeld
      try simp only [Act.put, List.getElem_toArray, List.getElem_cons_zero, List.getElem_cons_succ, List.setIfInBounds_toArray, List.set_cons_zero, List.set_cons_succ]
      intro hHeld
      refine wpAnyH_ready (rs := [10]) (by kernel_rfl) (by simp) ?_
      refine AllReadyH.cons (o := _) rfl (fun K hK => ?_) AllReadyH.nil
      have HK := Lib.hid hK
      clear hK
      rw [if_pos (by rfl)]
      refine wp_store_row _ _ _ rfl T (dV LS) (by rfl) (by rfl) _ (dV nz) GT_wb.out (by rw [dV_size LSL.out]; exact dig_size) (by rw [dV_size LSL.out, dV_size nz_length]) (dV_one _) ?_
      obtain ⟨wf, hw2⟩ : ∃ z, z = wb.setRow T (dV LS) := ⟨_, rfl⟩
      have GF := Lib.hid (show wf.heap[T]? = some (.cells (dV LS) 23 (0, 0)) by rw [hw2]; exact setRow_heap _ _ _ _ _ _ GT_wb.out)
      have BB_wf := Lib.hid (show Below w.heap.size w wf by rw [hw2]; exact below_setRowW BB_wb.out LT.out _)
      rw [← hw2]
      clear hw2
      refine HK.out _ _ BB_wf.out ?_
      clear HK K hHeld
      try simp only [Act.put, List.getElem_toArray, List.getElem_cons_zero, List.getElem_cons_succ, List.setIfInBounds_toArray, List.set_cons_zero, List.set_cons_succ]
      intro hHeld
      refine wpAnyH_done (by kernel_rfl) ?_ _
      clear hHeld
      go_wp2_with fail
      go_meet
      exact ⟨T, rfl, GF.out, LT.out, BB_wf.out⟩
  case rest =>
  obtain ⟨T, rfl, hT, hTw, hbT⟩ := hcut
  obtain ⟨wA, rfl⟩ : ∃ z, z = wc := ⟨_, rfl⟩
  have GT := Lib.hid hT
  have HTw := Lib.hid hTw
  have BA := Lib.hid hbT
  have GX := Lib.hid ((hbT.block X HLX.out).trans HX0.out)
  have SA := Lib.hid (SP.out.below hbT)
  clear hT hTw hbT C8
  have C10 := Lib.hid (fun w' (hb : Below wA.heap.size wA w') => show Calls Tryz.prog 24 #[.agg (dV LS), .int .i64 h] w' (fun e w'' => e = .returned (.tuple #[.agg (dV RT0), .nilIface]) ∧ Below w'.heap.size w' w'') by rw [HRT.out]; exact Public_z LS LSL.out kk h HK.out.1 HK.out.2.1 N HK.out.2.2 w' ((RO.out.at_ BA.out).at_ hb))
  go_upto_region 2 with fail
  go_cut [4, 5] from 6 (fun v4 v5 wx => ∃ U, v4 = .pointer (some ⟨U, 0, none⟩) ∧ v5 = .nilIface ∧ wx.heap[U]? = some (.cells (dV RT0) 23 (0, 0)) ∧ wA.heap.size ≤ U ∧ Below wA.heap.size wA wx)
  case first =>
    have hX1 := GX.out
    have c33 := cell_of_row wA X 33 _ _ _ hX1
    rw [hV_33 SL.out] at c33
    have C33 := Lib.hid c33
    have lXA := Nat.lt_of_lt_of_le HLX.out BA.out.size
    have LXA := Lib.hid lXA
    have RT := Lib.hid (range_of_row GT.out)
    have LTA := Lib.hid (lt_of_heap GT.out)
    have BB_wd := Lib.hid (show Below wA.heap.size wA wA.drew from (Below.refl _ _).drew)
    obtain ⟨wd, hwd⟩ : ∃ z, z = wA.drew := ⟨_, rfl⟩
    refine wp_region_held_drew (S := fun w' => Below wA.heap.size wA w') (by kernel_rfl) BB_wd.out (fun hHeld => ?_)
    rw [← hwd] at hHeld BB_wd ⊢
    clear hX1 c33 hwd lXA
    refine wpAnyH_take (i := 0) (oi := _) (v := _) rfl (by kernel_rfl) (by kernel_rfl) (by kernel_rfl) (fun _ _ _ h => h) (yieldsIf_load_mid (by rfl) _ _ rfl _ _ rfl (LS.map vB) _ (fun w hw => range_belowH RT.out hw LTA.out) Tryz.underlying23 rfl HIL.out) hHeld ?_
    simp only [Act.put, List.getElem_toArray, List.getElem_cons_zero, List.getElem_cons_succ, List.setIfInBounds_toArray, List.set_cons_zero, List.set_cons_succ]
    refine wpAnyH_take (i := 1) (oi := _) (v := .pointer (some ⟨X, 0, none⟩)) rfl (by kernel_rfl) (by kernel_rfl) (by kernel_rfl) (fun _ _ _ h => h) (Or.inl ⟨by rfl, fun w hw => by go_simp⟩) hHeld ?_
    simp only [Act.put, List.getElem_toArray, List.getElem_cons_zero, List.getElem_cons_succ, List.setIfInBounds_toArray, List.set_cons_zero, List.set_cons_succ]
    refine wpAnyH_take (i := 2) (oi := _) (v := .pointer (some ⟨X, 0, none⟩)) rfl (by kernel_rfl) (by kernel_rfl) (by kernel_rfl) (fun _ _ _ h => h) (Or.inl ⟨by rfl, fun w hw => by go_simp⟩) hHeld ?_
    simp only [Act.put, List.getElem_toArray, List.getElem_cons_zero, List.getElem_cons_succ, List.setIfInBounds_toArray, List.set_cons_zero, List.set_cons_succ]
    refine wpAnyH_take (i := 3) (oi := _) (v := .pointer (some ⟨X, 33, none⟩)) rfl (by kernel_rfl) (by kernel_rfl) (by kernel_rfl) (fun _ _ _ h => h) (Or.inl ⟨by rfl, fun w hw => by go_simp⟩) hHeld ?_
    simp only [Act.put, List.getElem_toArray, List.getElem_cons_zero, List.getElem_cons_succ, List.setIfInBounds_toArray, List.set_cons_zero, List.set_cons_succ]
    refine wpAnyH_take (i := 4) (oi := _) (v := .int .i64 h) rfl (by kernel_rfl) (by kernel_rfl) (by kernel_rfl) (fun _ _ _ h => h) (Or.inl ⟨by rfl, fun w hw => by have hcc := (hw.cell (p := ⟨X, 33, none⟩) LXA.out).trans C33.out; go_simp⟩) hHeld ?_
    simp only [Act.put, List.getElem_toArray, List.getElem_cons_zero, List.getElem_cons_succ, List.setIfInBounds_toArray, List.set_cons_zero, List.set_cons_succ]
    refine wpAnyH_ready (rs := [5, 9]) (by kernel_rfl) (by simp) ?_
    refine AllReadyH.cons (o := _) rfl (fun K hK => ?_) (AllReadyH.cons (o := _) rfl (fun K hK => ?_) AllReadyH.nil)
    · have HK := Lib.hid hK
      clear hK
      go_simp
      go_at_call 24
      refine (C10.out wd BB_wd.out).mono ?_
      rintro e wa ⟨rfl, hb⟩
      have BB_wa := Lib.hid (show Below wA.heap.size wA wa from BB_wd.out.trans (hb.mono BB_wd.out.size))
      clear hb
      dsimp only
      refine HK.out _ _ BB_wa.out ?_
      clear HK K hHeld
      try simp only [Act.put, List.getElem_toArray, List.getElem_cons_zero, List.getElem_cons_succ, List.setIfInBounds_toArray, List.set_cons_zero, List.set_cons_succ]
      intro hHeld
      refine wpAnyH_take (i := 6) (oi := _) (v := .tuple #[.agg (dV RT0), .nilIface]) rfl (by kernel_rfl) (by kernel_rfl) (by kernel_rfl) (fun _ _ _ h => h) (Or.inl ⟨by rfl, fun w hw => by go_simp⟩) hHeld ?_
      simp only [Act.put, List.getElem_toArray, List.getElem_cons_zero, List.getElem_cons_succ, List.setIfInBounds_toArray, List.set_cons_zero, List.set_cons_succ]
      refine wpAnyH_take (i := 7) (oi := _) (v := .agg (dV RT0)) rfl (by kernel_rfl) (by kernel_rfl) (by kernel_rfl) (fun _ _ _ h => h) (Or.inl ⟨by rfl, fun w hw => by go_simp⟩) hHeld ?_
      simp only [Act.put, List.getElem_toArray, List.getElem_cons_zero, List.getElem_cons_succ, List.setIfInBounds_toArray, List.set_cons_zero, List.set_cons_succ]
      refine wpAnyH_take (i := 8) (oi := _) (v := .nilIface) rfl (by kernel_rfl) (by kernel_rfl) (by kernel_rfl) (fun _ _ _ h => h) (Or.inl ⟨by rfl, fun w hw => by go_simp⟩) hHeld ?_
      simp only [Act.put, List.getElem_toArray, List.getElem_cons_zero, List.getElem_cons_succ, List.setIfInBounds_toArray, List.set_cons_zero, List.set_cons_succ]
      refine wpAnyH_ready (rs := [9]) (by kernel_rfl) (by simp) ?_
      refine AllReadyH.cons (o := _) rfl (fun K hK => ?_) AllReadyH.nil
      have HK := Lib.hid hK
      clear hK
      go_simp
      rw [zdig]
      obtain ⟨U, hU⟩ : ∃ z, z = wa.heap.size := ⟨_, rfl⟩
      obtain ⟨wb, hwb⟩ : ∃ z, z = wa.alloc (.cells (dV nz) 23) := ⟨_, rfl⟩
      have BB_wb := Lib.hid (show Below wA.heap.size wA wb by rw [hwb]; exact BB_wa.out.alloc BB_wa.out.size _)
      have GT_wb := Lib.hid (show wb.heap[U]? = some (.cells (dV nz) 23 (0, 0)) by rw [hwb, hU]; exact heap_alloc_new _ _)
      have LT := Lib.hid (show wA.heap.size ≤ U by rw [hU]; exact BB_wa.out.size)
      rw [← hU, ← hwb]
      clear hU hwb
      refine HK.out _ _ BB_wb.out ?_
      clear HK K hHeld
      try simp only [Act.put, List.getElem_toArray, List.getElem_cons_zero, List.getElem_cons_succ, List.setIfInBounds_toArray, List.set_cons_zero, List.set_cons_succ]
      intro hHeld
      refine wpAnyH_ready (rs := [10]) (by kernel_rfl) (by simp) ?_
      refine AllReadyH.cons (o := _) rfl (fun K hK => ?_) AllReadyH.nil
      have HK := Lib.hid hK
      clear hK
      rw [if_pos (by rfl)]
      refine wp_store_row _ _ _ rfl U (dV RT0) (by rfl) (by rfl) _ (dV nz) GT_wb.out (by rw [dV_size RTL.out]; exact dig_size) (by rw [dV_size RTL.out, dV_size nz_length]) (dV_one _) ?_
      obtain ⟨wf, hw2⟩ : ∃ z, z = wb.setRow U (dV RT0) := ⟨_, rfl⟩
      have GF := Lib.hid (show wf.heap[U]? = some (.cells (dV RT0) 23 (0, 0)) by rw [hw2]; exact setRow_heap _ _ _ _ _ _ GT_wb.out)
      have BB_wf := Lib.hid (show Below wA.heap.size wA wf by rw [hw2]; exact below_setRowW BB_wb.out LT.out _)
      rw [← hw2]
      clear hw2
      refine HK.out _ _ BB_wf.out ?_
      clear HK K hHeld
      try simp only [Act.put, List.getElem_toArray, List.getElem_cons_zero, List.getElem_cons_succ, List.setIfInBounds_toArray, List.set_cons_zero, List.set_cons_succ]
      intro hHeld
      refine wpAnyH_take (i := 11) (oi := _) (v := .nilIface) rfl (by kernel_rfl) (by kernel_rfl) (by kernel_rfl) (fun _ _ _ h => h) (Or.inl ⟨by rfl, fun w hw => by go_simp⟩) hHeld ?_
      simp only [Act.put, List.getElem_toArray, List.getElem_cons_zero, List.getElem_cons_succ, List.setIfInBounds_toArray, List.set_cons_zero, List.set_cons_succ]
      refine wpAnyH_done (by kernel_rfl) ?_ _
      clear hHeld
      go_wp2_with fail
      go_meet
      exact ⟨U, rfl, rfl, GF.out, LT.out, BB_wf.out⟩
    · have HK := Lib.hid hK
      clear hK
      go_simp
      rw [zdig]
      obtain ⟨U, hU⟩ : ∃ z, z = wd.heap.size := ⟨_, rfl⟩
      obtain ⟨wa, hwa⟩ : ∃ z, z = wd.alloc (.cells (dV nz) 23) := ⟨_, rfl⟩
      have BB_wa := Lib.hid (show Below wA.heap.size wA wa by rw [hwa]; exact BB_wd.out.alloc BB_wd.out.size _)
      have GT_wa := Lib.hid (show wa.heap[U]? = some (.cells (dV nz) 23 (0, 0)) by rw [hwa, hU]; exact heap_alloc_new _ _)
      have LT := Lib.hid (show wA.heap.size ≤ U by rw [hU]; exact BB_wd.out.size)
      rw [← hU, ← hwa]
      clear hU hwa
      refine HK.out _ _ BB_wa.out ?_
      clear HK K hHeld
      try simp only [Act.put, List.getElem_toArray, List.getElem_cons_zero, List.getElem_cons_succ, List.setIfInBounds_toArray, List.set_cons_zero, List.set_cons_succ]
      intro hHeld
      refine wpAnyH_ready (rs := [5]) (by kernel_rfl) (by simp) ?_
      refine AllReadyH.cons (o := _) rfl (fun K hK => ?_) AllReadyH.nil
      have HK := Lib.hid hK
      clear hK
      go_simp
      go_at_call 24
      refine (C10.out wa BB_wa.out).mono ?_
      rintro e wb ⟨rfl, hb⟩
      have BB_wb := Lib.hid (show Below wA.heap.size wA wb from BB_wa.out.trans (hb.mono BB_wa.out.size))
      have GT_wb := Lib.hid ((hb.block U (lt_of_heap GT_wa.out)).trans GT_wa.out)
      clear hb
      dsimp only
      refine HK.out _ _ BB_wb.out ?_
      clear HK K hHeld
      try simp only [Act.put, List.getElem_toArray, List.getElem_cons_zero, List.getElem_cons_succ, List.setIfInBounds_toArray, List.set_cons_zero, List.set_cons_succ]
      intro hHeld
      refine wpAnyH_take (i := 6) (oi := _) (v := .tuple #[.agg (dV RT0), .nilIface]) rfl (by kernel_rfl) (by kernel_rfl) (by kernel_rfl) (fun _ _ _ h => h) (Or.inl ⟨by rfl, fun w hw => by go_simp⟩) hHeld ?_
      simp only [Act.put, List.getElem_toArray, List.getElem_cons_zero, List.getElem_cons_succ, List.setIfInBounds_toArray, List.set_cons_zero, List.set_cons_succ]
      refine wpAnyH_take (i := 7) (oi := _) (v := .agg (dV RT0)) rfl (by kernel_rfl) (by kernel_rfl) (by kernel_rfl) (fun _ _ _ h => h) (Or.inl ⟨by rfl, fun w hw => by go_simp⟩) hHeld ?_
      simp only [Act.put, List.getElem_toArray, List.getElem_cons_zero, List.getElem_cons_succ, List.setIfInBounds_toArray, List.set_cons_zero, List.set_cons_succ]
      refine wpAnyH_take (i := 8) (oi := _) (v := .nilIface) rfl (by kernel_rfl) (by kernel_rfl) (by kernel_rfl) (fun _ _ _ h => h) (Or.inl ⟨by rfl, fun w hw => by go_simp⟩) hHeld ?_
      simp only [Act.put, List.getElem_toArray, List.getElem_cons_zero, List.getElem_cons_succ, List.setIfInBounds_toArray, List.set_cons_zero, List.set_cons_succ]
      refine wpAnyH_ready (rs := [10]) (by kernel_rfl) (by simp) ?_
      refine AllReadyH.cons (o := _) rfl (fun K hK => ?_) AllReadyH.nil
      have HK := Lib.hid hK
      clear hK
      rw [if_pos (by rfl)]
      refine wp_store_row _ _ _ rfl U (dV RT0) (by rfl) (by rfl) _ (dV nz) GT_wb.out (by rw [dV_size RTL.out]; exact dig_size) (by rw [dV_size RTL.out, dV_size nz_length]) (dV_one _) ?_
      obtain ⟨wf, hw2⟩ : ∃ z, z = wb.setRow U (dV RT0) := ⟨_, rfl⟩
      have GF := Lib.hid (show wf.heap[U]? = some (.cells (dV RT0) 23 (0, 0)) by rw [hw2]; exact setRow_heap _ _ _ _ _ _ GT_wb.out)
      have BB_wf := Lib.hid (show Below wA.heap.size wA wf by rw [hw2]; exact below_setRowW BB_wb.out LT.out _)
      rw [← hw2]
      clear hw2
      refine HK.out _ _ BB_wf.out ?_
      clear HK K hHeld
      try simp only [Act.put, List.getElem_toArray, List.getElem_cons_zero, List.getElem_cons_succ, List.setIfInBounds_toArray, List.set_cons_zero, List.set_cons_succ]
      intro hHeld
      refine wpAnyH_take (i := 11) (oi := _) (v := .nilIface) rfl (by kernel_rfl) (by kernel_rfl) (by kernel_rfl) (fun _ _ _ h => h) (Or.inl ⟨by rfl, fun w hw => by go_simp⟩) hHeld ?_
      simp only [Act.put, List.getElem_toArray, List.getElem_cons_zero, List.getElem_cons_succ, List.setIfInBounds_toArray, List.set_cons_zero, List.set_cons_succ]
      refine wpAnyH_done (by kernel_rfl) ?_ _
      clear hHeld
      go_wp2_with fail
      go_meet
      exact ⟨U, rfl, rfl, GF.out, LT.out, BB_wf.out⟩
  case rest =>
  obtain ⟨U, rfl, rfl, hT, hTw, hbT⟩ := hcut
  obtain ⟨wB, rfl⟩ : ∃ z, z = wc := ⟨_, rfl⟩
  have GU := Lib.hid hT
  have HUw := Lib.hid (Nat.le_trans BA.out.size hTw)
  have BB := Lib.hid (BA.out.trans (hbT.mono BA.out.size))
  have GXB := Lib.hid ((hbT.block X (lt_of_heap GX.out)).trans GX.out)
  have GTB := Lib.hid ((hbT.block T (lt_of_heap GT.out)).trans GT.out)
  have SB := Lib.hid (SA.out.below hbT)
  clear hT hTw hbT C10 GX GT SA
  go_upto_region 5 with fail
  have RU := Lib.hid (range_of_row GU.out)
  have KS : ∀ w' : World, (∀ (b : Nat) (c : Array Value) (ty : TypeId) (fr : Nat × Nat), wB.heap[b]? = some (.cells c ty fr) → ty ≠ 82 → w'.heap[b]? = some (.cells c ty fr)) → (w'.cell? ⟨X, 0, none⟩ = some (.pointer (some ⟨P, 0, none⟩)) ∧ w'.rangeAt U 0 (RT0.map vB)) := fun w' hb => by
    refine ⟨?_, range_of_row (hb U _ _ _ GU.out (by decide))⟩
    rw [cell_of_row w' X 0 _ _ _ (hb X _ _ _ GXB.out (by decide)), hV_0]
  have HKS := Lib.hid KS
  obtain ⟨wd, hwd⟩ : ∃ z, z = wB.drew := ⟨_, rfl⟩
  refine wp_region_held_drew (S := fun w' => w'.cell? ⟨X, 0, none⟩ = some (.pointer (some ⟨P, 0, none⟩)) ∧ w'.rangeAt U 0 (RT0.map vB)) (by kernel_rfl) (by rw [← hwd]; exact KS wd (fun b c ty fr h _ => by rw [hwd]; exact h)) (fun hHeld => ?_)
  rw [← hwd] at hHeld ⊢
  have BD := Lib.hid (show Below wB.heap.size wB wd by rw [hwd]; exact (Below.refl _ _).drew)
  have SD := Lib.hid (SB.out.below BD.out)
  have BWD := Lib.hid (BB.out.trans (BD.out.mono BB.out.size))
  have GXD := Lib.hid ((BD.out.block X (lt_of_heap GXB.out)).trans GXB.out)
  have GTD := Lib.hid ((BD.out.block T (lt_of_heap GTB.out)).trans GTB.out)
  have ROD := Lib.hid (RO.out.at_ BWD.out)
  clear KS hwd
  refine wpAnyH_take (i := 0) (oi := _) (v := .pointer (some ⟨X, 0, none⟩)) rfl (by kernel_rfl) (by kernel_rfl) (by kernel_rfl) (fun _ _ _ h => h) (Or.inl ⟨by rfl, fun w hw => by go_simp⟩) hHeld ?_
  simp only [Act.put, List.getElem_toArray, List.getElem_cons_zero, List.getElem_cons_succ, List.setIfInBounds_toArray, List.set_cons_zero, List.set_cons_succ]
  refine wpAnyH_take (i := 1) (oi := _) (v := .pointer (some ⟨X, 0, none⟩)) rfl (by kernel_rfl) (by kernel_rfl) (by kernel_rfl) (fun _ _ _ h => h) (Or.inl ⟨by rfl, fun w hw => by go_simp⟩) hHeld ?_
  simp only [Act.put, List.getElem_toArray, List.getElem_cons_zero, List.getElem_cons_succ, List.setIfInBounds_toArray, List.set_cons_zero, List.set_cons_succ]
  refine wpAnyH_take (i := 2) (oi := _) (v := .pointer (some ⟨X, 0, none⟩)) rfl (by kernel_rfl) (by kernel_rfl) (by kernel_rfl) (fun _ _ _ h => h) (Or.inl ⟨by rfl, fun w hw => by go_simp⟩) hHeld ?_
  simp only [Act.put, List.getElem_toArray, List.getElem_cons_zero, List.getElem_cons_succ, List.setIfInBounds_toArray, List.set_cons_zero, List.set_cons_succ]
  refine wpAnyH_take (i := 3) (oi := _) (v := .pointer (some ⟨X, 0, none⟩)) rfl (by kernel_rfl) (by kernel_rfl) (by kernel_rfl) (fun _ _ _ h => h) (Or.inl ⟨by rfl, fun w hw => by go_simp⟩) hHeld ?_
  simp only [Act.put, List.getElem_toArray, List.getElem_cons_zero, List.getElem_cons_succ, List.setIfInBounds_toArray, List.set_cons_zero, List.set_cons_succ]
  refine wpAnyH_take (i := 4) (oi := _) (v := .pointer (some ⟨P, 0, none⟩)) rfl (by kernel_rfl) (by kernel_rfl) (by kernel_rfl) (fun _ _ _ h => h) (Or.inl ⟨by rfl, fun w hw => by have hcc := hw.1; go_simp⟩) hHeld ?_
  simp only [Act.put, List.getElem_toArray, List.getElem_cons_zero, List.getElem_cons_succ, List.setIfInBounds_toArray, List.set_cons_zero, List.set_cons_succ]
  refine wpAnyH_take (i := 5) (oi := _) (v := _) rfl (by kernel_rfl) (by kernel_rfl) (by kernel_rfl) (fun _ _ _ h => h) (yieldsIf_load_mid (by rfl) _ _ rfl _ _ rfl (RT0.map vB) _ (fun w hw => hw.2) Tryz.underlying23 rfl HIR.out) hHeld ?_
  simp only [Act.put, List.getElem_toArray, List.getElem_cons_zero, List.getElem_cons_succ, List.setIfInBounds_toArray, List.set_cons_zero, List.set_cons_succ]
  refine wpAnyH_ready (rs := [6]) (by kernel_rfl) (by simp) ?_
  refine AllReadyH.cons (o := _) rfl (fun K hK => ?_) AllReadyH.nil
  have HK := Lib.hid hK
  clear hK
  go_simp
  go_at_call 33
  refine (Sign_ok (hup seed) RT0 (hup_length _) RTL.out P N t hN256 ht wd SD.out ROD.out).mono ?_
  rintro e we ⟨sa, sc, pa, pc, rfl, hsg, hpt, hst, hsv⟩
  have SE := Lib.hid hst
  have SV := Lib.hid hsv
  have RSG := Lib.hid hsg
  have RPT := Lib.hid hpt
  have GXE := Lib.hid (hsv.blk SD.out GXD.out (by decide))
  have GTE := Lib.hid (hsv.blk SD.out GTD.out (by decide))
  have HOE := Lib.hid ((Ho.of_below BWD.out hBw).trans (Ho.of_save hsv SD.out hBP))
  have S2 := Lib.hid (HKS.out we (fun b c ty fr hb h1 => hsv.blk SD.out ((BD.out.block b (lt_of_heap hb)).trans hb) h1))
  clear hsg hpt hst hsv
  dsimp only
  refine HK.out _ _ S2.out ?_
  clear HK K hHeld
  try simp only [Act.put, List.getElem_toArray, List.getElem_cons_zero, List.getElem_cons_succ, List.setIfInBounds_toArray, List.set_cons_zero, List.set_cons_succ]
  intro hHeld
  refine wpAnyH_take (i := 7) (oi := _) (v := .tuple #[.agg #[.int .i64 (t : Int), .slice sa 67 sc, .slice pa (tlong t N) pc], .nilIface]) rfl (by kernel_rfl) (by kernel_rfl) (by kernel_rfl) (fun _ _ _ h => h) (Or.inl ⟨by rfl, fun w hw => by go_simp⟩) hHeld ?_
  simp only [Act.put, List.getElem_toArray, List.getElem_cons_zero, List.getElem_cons_succ, List.setIfInBounds_toArray, List.set_cons_zero, List.set_cons_succ]
  refine wpAnyH_take (i := 8) (oi := _) (v := .agg #[.int .i64 (t : Int), .slice sa 67 sc, .slice pa (tlong t N) pc]) rfl (by kernel_rfl) (by kernel_rfl) (by kernel_rfl) (fun _ _ _ h => h) (Or.inl ⟨by rfl, fun w hw => by go_simp⟩) hHeld ?_
  simp only [Act.put, List.getElem_toArray, List.getElem_cons_zero, List.getElem_cons_succ, List.setIfInBounds_toArray, List.set_cons_zero, List.set_cons_succ]
  refine wpAnyH_take (i := 9) (oi := _) (v := .nilIface) rfl (by kernel_rfl) (by kernel_rfl) (by kernel_rfl) (fun _ _ _ h => h) (Or.inl ⟨by rfl, fun w hw => by go_simp⟩) hHeld ?_
  simp only [Act.put, List.getElem_toArray, List.getElem_cons_zero, List.getElem_cons_succ, List.setIfInBounds_toArray, List.set_cons_zero, List.set_cons_succ]
  refine wpAnyH_take (i := 10) (oi := _) (v := .pointer (some ⟨X, 0, none⟩)) rfl (by kernel_rfl) (by kernel_rfl) (by kernel_rfl) (fun _ _ _ h => h) (Or.inl ⟨by rfl, fun w hw => by go_simp⟩) hHeld ?_
  simp only [Act.put, List.getElem_toArray, List.getElem_cons_zero, List.getElem_cons_succ, List.setIfInBounds_toArray, List.set_cons_zero, List.set_cons_succ]
  refine wpAnyH_take (i := 11) (oi := _) (v := .pointer (some ⟨X, 36, none⟩)) rfl (by kernel_rfl) (by kernel_rfl) (by kernel_rfl) (fun _ _ _ h => h) (Or.inl ⟨by rfl, fun w hw => by go_simp⟩) hHeld ?_
  simp only [Act.put, List.getElem_toArray, List.getElem_cons_zero, List.getElem_cons_succ, List.setIfInBounds_toArray, List.set_cons_zero, List.set_cons_succ]
  refine wpAnyH_ready (rs := [12]) (by kernel_rfl) (by simp) ?_
  refine AllReadyH.cons (o := _) rfl (fun K hK => ?_) AllReadyH.nil
  have HK := Lib.hid hK
  clear hK
  rw [if_pos (by rfl)]
  refine wp_store_mid _ _ _ rfl X 36 #[.int .i64 (t : Int), .slice sa 67 sc, .slice pa (tlong t N) pc] (by rfl) (by rfl) (hV_there SL.out GXE.out) (info_sig _ _ _) (sig_one _ _ _ _ _ _ _) ?_
  obtain ⟨wf, hwf⟩ : ∃ z, z = we.setCells X 36 [.int .i64 (t : Int), .slice sa 67 sc, .slice pa (tlong t N) pc] := ⟨_, rfl⟩
  have hon : Only we wf X := by rw [hwf]; exact Only.setCells3 _ _ _ _ _ _
  have hbf : Below B we wf := by rw [hwf]; exact below_setCells _ _ (Below.refl _ _) hBX
  have GXF := Lib.hid (show wf.heap[X]? = some (.cells (hV (.pointer (some ⟨P, 0, none⟩)) seed h (t : Int) low (.int .i64 (t : Int)) (.slice sa 67 sc) (.slice pa (tlong t N) pc)) 62 (0, 0)) by rw [hwf]; exact hV_put SL.out GXE.out _ _ _)
  have HOF := Lib.hid (HOE.out.trans (Ho.of_only hon hbf GXE.out))
  have SF := Lib.hid (hon.stamp GXE.out (by decide) (by decide) SE.out)
  have RSF := Lib.hid (hon.rd GXE.out (by decide) RSG.out)
  have RPF := Lib.hid (hon.rd GXE.out (by decide) RPT.out)
  have GTF := Lib.hid (hon.blk GXE.out GTE.out (by decide))
  have S3 := Lib.hid (show wf.cell? ⟨X, 0, none⟩ = some (.pointer (some ⟨P, 0, none⟩)) ∧ wf.rangeAt U 0 (RT0.map vB) from ⟨by rw [cell_of_row wf X 0 _ _ _ GXF.out, hV_0], range_of_row (hon.blk GXE.out (SV.out.blk SD.out ((BD.out.block U (lt_of_heap GU.out)).trans GU.out) (by decide)) (by decide))⟩)
  rw [← hwf]
  clear hwf hon hbf
  refine HK.out _ _ S3.out ?_
  clear HK K hHeld
  try simp only [Act.put, List.getElem_toArray, List.getElem_cons_zero, List.getElem_cons_succ, List.setIfInBounds_toArray, List.set_cons_zero, List.set_cons_succ]
  intro hHeld
  refine wpAnyH_take (i := 13) (oi := _) (v := .nilIface) rfl (by kernel_rfl) (by kernel_rfl) (by kernel_rfl) (fun _ _ _ h => h) (Or.inl ⟨by rfl, fun w hw => by go_simp⟩) hHeld ?_
  simp only [Act.put, List.getElem_toArray, List.getElem_cons_zero, List.getElem_cons_succ, List.setIfInBounds_toArray, List.set_cons_zero, List.set_cons_succ]
  refine wpAnyH_done (by kernel_rfl) ?_ _
  clear hHeld HKS RU S2 S3 SB GXB GTB GU SD SV GXD GTD BD GXE GTE HOE SE RSG RPT
  have hX2 := GXF.out
  have c34 := cell_of_row wf X 34 _ _ _ hX2
  rw [hV_34 SL.out] at c34
  have f34 := frozen_of_row _ X 34 _ _ hX2
  have e34 : IntKind.i64.wrap ((t : Int) + 1) = (t : Int) + 1 := IntWalk.i64_in _ (by omega)
  obtain ⟨wg, hwg⟩ : ∃ z, z = wf.setCell ⟨X, 34, none⟩ (.int .i64 ((t : Int) + 1)) := ⟨_, rfl⟩
  have HWG := Lib.hid hwg
  have hon : Only wf wg X := by rw [hwg]; exact Only.setCell _ _ _ _
  have hbf : Below B wf wg := by rw [hwg]; exact (Below.refl _ _).setCell (p := ⟨X, 34, none⟩) hBX _
  have GXG := Lib.hid (show wg.heap[X]? = some (.cells (hV (.pointer (some ⟨P, 0, none⟩)) seed h ((t : Int) + 1) low (.int .i64 (t : Int)) (.slice sa 67 sc) (.slice pa (tlong t N) pc)) 62 (0, 0)) by
    rw [hwg, setCell_rowS hX2, hV_set34 SL.out])
  have HOG := Lib.hid (HOF.out.trans (Ho.of_only hon hbf hX2))
  have SG := Lib.hid (hon.stamp hX2 (by decide) (by decide) SF.out)
  have RSG := Lib.hid (hon.rd hX2 (by decide) RSF.out)
  have RPG := Lib.hid (hon.rd hX2 (by decide) RPF.out)
  have GTG := Lib.hid (hon.blk hX2 GTF.out (by decide))
  clear hwg hon hbf hX2 GXF HOF SF RSF RPF GTF
  go_upto_region 9 with fail
  rw [← HWG.out]
  clear c34 f34 e34 HWG
  have RT := Lib.hid (range_of_row GTG.out)
  have KS : ∀ w' : World, Below wg.heap.size wg w' → (w'.cell? ⟨X, 33, none⟩ = some (.int .i64 h) ∧ w'.rangeAt T 0 (LS.map vB)) := fun w' hb => by
    refine ⟨?_, range_of_row ((hb.block T (lt_of_heap GTG.out)).trans GTG.out)⟩
    rw [cell_of_row w' X 33 _ _ _ ((hb.block X (lt_of_heap GXG.out)).trans GXG.out), hV_33 SL.out]
  have HKS := Lib.hid KS
  obtain ⟨wd, hwd⟩ : ∃ z, z = wg.drew := ⟨_, rfl⟩
  have BD := Lib.hid (show Below wg.heap.size wg wd by rw [hwd]; exact (Below.refl _ _).drew)
  refine wp_region_held_drew (S := fun w' => w'.cell? ⟨X, 33, none⟩ = some (.int .i64 h) ∧ w'.rangeAt T 0 (LS.map vB)) (by kernel_rfl) (by rw [← hwd]; exact KS wd BD.out) (fun hHeld => ?_)
  rw [← hwd] at hHeld ⊢
  have ROD := Lib.hid (HOG.out.rounds hgB RO.out |>.at_ BD.out)
  clear KS hwd
  refine wpAnyH_take (i := 0) (oi := _) (v := .pointer (some ⟨X, 0, none⟩)) rfl (by kernel_rfl) (by kernel_rfl) (by kernel_rfl) (fun _ _ _ h => h) (Or.inl ⟨by rfl, fun w hw => by go_simp⟩) hHeld ?_
  simp only [Act.put, List.getElem_toArray, List.getElem_cons_zero, List.getElem_cons_succ, List.setIfInBounds_toArray, List.set_cons_zero, List.set_cons_succ]
  refine wpAnyH_take (i := 1) (oi := _) (v := _) rfl (by kernel_rfl) (by kernel_rfl) (by kernel_rfl) (fun _ _ _ h => h) (yieldsIf_load_mid (by rfl) _ _ rfl _ _ rfl (LS.map vB) _ (fun w hw => hw.2) Tryz.underlying23 rfl HIL.out) hHeld ?_
  simp only [Act.put, List.getElem_toArray, List.getElem_cons_zero, List.getElem_cons_succ, List.setIfInBounds_toArray, List.set_cons_zero, List.set_cons_succ]
  refine wpAnyH_take (i := 2) (oi := _) (v := .pointer (some ⟨X, 0, none⟩)) rfl (by kernel_rfl) (by kernel_rfl) (by kernel_rfl) (fun _ _ _ h => h) (Or.inl ⟨by rfl, fun w hw => by go_simp⟩) hHeld ?_
  simp only [Act.put, List.getElem_toArray, List.getElem_cons_zero, List.getElem_cons_succ, List.setIfInBounds_toArray, List.set_cons_zero, List.set_cons_succ]
  refine wpAnyH_take (i := 3) (oi := _) (v := .pointer (some ⟨X, 0, none⟩)) rfl (by kernel_rfl) (by kernel_rfl) (by kernel_rfl) (fun _ _ _ h => h) (Or.inl ⟨by rfl, fun w hw => by go_simp⟩) hHeld ?_
  simp only [Act.put, List.getElem_toArray, List.getElem_cons_zero, List.getElem_cons_succ, List.setIfInBounds_toArray, List.set_cons_zero, List.set_cons_succ]
  refine wpAnyH_take (i := 4) (oi := _) (v := .pointer (some ⟨X, 33, none⟩)) rfl (by kernel_rfl) (by kernel_rfl) (by kernel_rfl) (fun _ _ _ h => h) (Or.inl ⟨by rfl, fun w hw => by go_simp⟩) hHeld ?_
  simp only [Act.put, List.getElem_toArray, List.getElem_cons_zero, List.getElem_cons_succ, List.setIfInBounds_toArray, List.set_cons_zero, List.set_cons_succ]
  refine wpAnyH_take (i := 5) (oi := _) (v := .int .i64 h) rfl (by kernel_rfl) (by kernel_rfl) (by kernel_rfl) (fun _ _ _ h => h) (Or.inl ⟨by rfl, fun w hw => by have hcc := hw.1; go_simp⟩) hHeld ?_
  simp only [Act.put, List.getElem_toArray, List.getElem_cons_zero, List.getElem_cons_succ, List.setIfInBounds_toArray, List.set_cons_zero, List.set_cons_succ]
  refine wpAnyH_ready (rs := [6]) (by kernel_rfl) (by simp) ?_
  refine AllReadyH.cons (o := _) rfl (fun K hK => ?_) AllReadyH.nil
  have HK_ := Lib.hid hK
  clear hK
  go_simp
  go_at_call 27
  refine (New_z LS LSL.out kk h HK.out.1 HK.out.2.1 N HK.out.2.2 wd ROD.out).mono ?_
  rintro e we ⟨Q, rfl, hQ, hSQ, hb⟩
  have BE := Lib.hid (BD.out.trans (hb.mono BD.out.size))
  have SQ := Lib.hid hSQ
  have SPE := Lib.hid (SG.out.below BE.out)
  have HQ := Lib.hid (Nat.le_trans BD.out.size hQ)
  have GXE := Lib.hid ((BE.out.block X (lt_of_heap GXG.out)).trans GXG.out)
  have RSE := Lib.hid (RSG.out.below BE.out)
  have RPE := Lib.hid (RPG.out.below BE.out)
  have HOE := Lib.hid (HOG.out.trans (Ho.of_below BE.out (Nat.le_trans hBX (Nat.le_of_lt (lt_of_heap GXG.out)))))
  clear hb hQ hSQ
  dsimp only
  refine HK_.out _ _ (HKS.out we BE.out) ?_
  clear HK_ K hHeld
  try simp only [Act.put, List.getElem_toArray, List.getElem_cons_zero, List.getElem_cons_succ, List.setIfInBounds_toArray, List.set_cons_zero, List.set_cons_succ]
  intro hHeld
  refine wpAnyH_take (i := 7) (oi := _) (v := .tuple #[.pointer (some ⟨Q, 0, none⟩), .nilIface]) rfl (by kernel_rfl) (by kernel_rfl) (by kernel_rfl) (fun _ _ _ h => h) (Or.inl ⟨by rfl, fun w hw => by go_simp⟩) hHeld ?_
  simp only [Act.put, List.getElem_toArray, List.getElem_cons_zero, List.getElem_cons_succ, List.setIfInBounds_toArray, List.set_cons_zero, List.set_cons_succ]
  refine wpAnyH_take (i := 8) (oi := _) (v := .pointer (some ⟨Q, 0, none⟩)) rfl (by kernel_rfl) (by kernel_rfl) (by kernel_rfl) (fun _ _ _ h => h) (Or.inl ⟨by rfl, fun w hw => by go_simp⟩) hHeld ?_
  simp only [Act.put, List.getElem_toArray, List.getElem_cons_zero, List.getElem_cons_succ, List.setIfInBounds_toArray, List.set_cons_zero, List.set_cons_succ]
  refine wpAnyH_take (i := 9) (oi := _) (v := .nilIface) rfl (by kernel_rfl) (by kernel_rfl) (by kernel_rfl) (fun _ _ _ h => h) (Or.inl ⟨by rfl, fun w hw => by go_simp⟩) hHeld ?_
  simp only [Act.put, List.getElem_toArray, List.getElem_cons_zero, List.getElem_cons_succ, List.setIfInBounds_toArray, List.set_cons_zero, List.set_cons_succ]
  refine wpAnyH_take (i := 10) (oi := _) (v := .pointer (some ⟨X, 0, none⟩)) rfl (by kernel_rfl) (by kernel_rfl) (by kernel_rfl) (fun _ _ _ h => h) (Or.inl ⟨by rfl, fun w hw => by go_simp⟩) hHeld ?_
  simp only [Act.put, List.getElem_toArray, List.getElem_cons_zero, List.getElem_cons_succ, List.setIfInBounds_toArray, List.set_cons_zero, List.set_cons_succ]
  refine wpAnyH_take (i := 11) (oi := _) (v := .pointer (some ⟨X, 35, none⟩)) rfl (by kernel_rfl) (by kernel_rfl) (by kernel_rfl) (fun _ _ _ h => h) (Or.inl ⟨by rfl, fun w hw => by go_simp⟩) hHeld ?_
  simp only [Act.put, List.getElem_toArray, List.getElem_cons_zero, List.getElem_cons_succ, List.setIfInBounds_toArray, List.set_cons_zero, List.set_cons_succ]
  refine wpAnyH_ready (rs := [12]) (by kernel_rfl) (by simp) ?_
  refine AllReadyH.cons (o := _) rfl (fun K hK => ?_) AllReadyH.nil
  have HK_ := Lib.hid hK
  clear hK
  have c35 := cell_of_row we X 35 _ _ _ GXE.out
  rw [hV_35 SL.out] at c35
  have f35 := frozen_of_row _ X 35 _ _ GXE.out
  go_simp
  obtain ⟨wf, hwf⟩ : ∃ z, z = we.setCell ⟨X, 35, none⟩ (.pointer (some ⟨Q, 0, none⟩)) := ⟨_, rfl⟩
  have hon : Only we wf X := by rw [hwf]; exact Only.setCell _ _ _ _
  have hbf : Below B we wf := by rw [hwf]; exact (Below.refl _ _).setCell (p := ⟨X, 35, none⟩) hBX _
  have GXF := Lib.hid (show wf.heap[X]? = some (.cells (hV (.pointer (some ⟨P, 0, none⟩)) seed h ((t : Int) + 1) (.pointer (some ⟨Q, 0, none⟩)) (.int .i64 (t : Int)) (.slice sa 67 sc) (.slice pa (tlong t N) pc)) 62 (0, 0)) by rw [hwf, setCell_rowS GXE.out, hV_set35 SL.out])
  have HOF := Lib.hid (HOE.out.trans (Ho.of_only hon hbf GXE.out))
  have SPF := Lib.hid (hon.stamp GXE.out (by decide) (by decide) SPE.out)
  have SQF := Lib.hid (hon.stamp GXE.out (by decide) (by decide) SQ.out)
  have RSF := Lib.hid (hon.rd GXE.out (by decide) RSE.out)
  have RPF := Lib.hid (hon.rd GXE.out (by decide) RPE.out)
  have S3 := Lib.hid (show wf.cell? ⟨X, 33, none⟩ = some (.int .i64 h) ∧ wf.rangeAt T 0 (LS.map vB) from ⟨by rw [cell_of_row wf X 33 _ _ _ GXF.out, hV_33 SL.out], range_of_row (hon.blk GXE.out ((BE.out.block T (lt_of_heap GTG.out)).trans GTG.out) (by decide))⟩)
  rw [← hwf]
  clear hwf hon hbf c35 f35
  refine HK_.out _ _ S3.out ?_
  clear HK_ K hHeld
  try simp only [Act.put, List.getElem_toArray, List.getElem_cons_zero, List.getElem_cons_succ, List.setIfInBounds_toArray, List.set_cons_zero, List.set_cons_succ]
  intro hHeld
  refine wpAnyH_take (i := 13) (oi := _) (v := .nilIface) rfl (by kernel_rfl) (by kernel_rfl) (by kernel_rfl) (fun _ _ _ h => h) (Or.inl ⟨by rfl, fun w hw => by go_simp⟩) hHeld ?_
  simp only [Act.put, List.getElem_toArray, List.getElem_cons_zero, List.getElem_cons_succ, List.setIfInBounds_toArray, List.set_cons_zero, List.set_cons_succ]
  refine wpAnyH_done (by kernel_rfl) ?_ _
  have FIN := Lib.hid (show HyR wf X B seed h N t 0 from ⟨P, Q, _, _, _, by rw [Int.natCast_add]; exact GXF.out, hBX, hBP, Nat.le_trans hBP (Nat.le_trans (Nat.le_of_lt SG.out.lt) HQ.out), (by have := SG.out.lt; have := HQ.out; omega), ht, (by omega), SPF.out, by rw [← HLS.out]; exact SQF.out, ⟨sa, sc, pa, pc, rfl, rfl, rfl, by rw [← HLS.out, ← HRT.out]; exact RSF.out, RPF.out⟩, sig_one _ _ _ _ _ _ _⟩)
  clear hHeld S3 HKS
  go_wp2_with fail
  go_ret
  exact ⟨rfl, HOF.out, FIN.out⟩
end Go.Proofs.YtkioddmhjbaleaaGreatDoor
