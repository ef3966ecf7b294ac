/- Walks: the root of leaves: the program's and the document's. -/
import Derived.Test.YtkioddmhjbaleaaDoorTreeNode
namespace Go.Proofs.YtkioddmhjbaleaaDoor
open Go.RowKit
set_option linter.unusedVariables false
set_option linter.unusedSimpArgs false
set_option maxRecDepth 20000 in
set_option maxHeartbeats 4000000 in
theorem TRootL_calls : ∀ (N : Nat) (ls : List (List UInt8)), ls.length ≤ N → ls.length ≤ 256 → (∀ d ∈ ls, d.length = 32) → ∀ (a : Option Addr) (cap e : Nat), ls.length ≤ cap → cap ≤ 9223372036854775807 → ∀ (w : World), Rd w a e (ls.flatten.map vB) → RoundsAt w →
    Calls Tryd.prog 78 #[.slice a ls.length cap] w fun e w' => e = .returned (.agg (dV (troot ls))) ∧ Below w.heap.size w w' := by
  intro N
  induction N with
  | zero =>
    intro ls hN h256 hd a cap e hc hc2 w hr hro
    obtain rfl : ls = [] := List.length_eq_zero_iff.1 (by omega)
    rw [troot_nil]
    obtain ⟨Z, hZ⟩ : ∃ Z, Z = nz := ⟨_, rfl⟩
    have zl : Z.length = 32 := by rw [hZ]; rfl
    have zlit : (#[.int .u8 0, .int .u8 0, .int .u8 0, .int .u8 0, .int .u8 0, .int .u8 0, .int .u8 0, .int .u8 0, .int .u8 0, .int .u8 0, .int .u8 0, .int .u8 0, .int .u8 0, .int .u8 0, .int .u8 0, .int .u8 0, .int .u8 0, .int .u8 0, .int .u8 0, .int .u8 0, .int .u8 0, .int .u8 0, .int .u8 0, .int .u8 0, .int .u8 0, .int .u8 0, .int .u8 0, .int .u8 0, .int .u8 0, .int .u8 0, .int .u8 0, .int .u8 0] : Array Value) = dV Z := by rw [hZ]; exact zdig
    have ZL := Lib.hid zl
    have ZT := Lib.hid zlit
    have HZ := Lib.hid hZ
    clear zl zlit hZ
    obtain ⟨H, hH⟩ : ∃ H, H = w.heap.size := ⟨_, rfl⟩
    obtain ⟨w0, hw0⟩ : ∃ z, z = w.alloc (.cells (dV Z) 23) := ⟨_, rfl⟩
    have q0 : w0.heap.size = H + 1 := by rw [hw0, hH]; exact World.size_alloc _ _
    have s0 : Below (H) w w0 := by rw [hw0, hH]; exact (Below.refl _ _).alloc (Nat.le_refl _) _
    have t0 : Below (H + 1) w0 w0 := Below.refl _ _
    have bL : Below H w w0 := s0.trans (t0.mono (by omega))
    have g0 : w0.heap[H]? = some (.cells (dV Z) 23 (0, 0)) := by
      have g : w0.heap[H]? = some (.cells (dV Z) 23 (0, 0)) := by rw [hw0, hH]; exact heap_alloc_new _ _
      exact (t0.block _ (by omega)).trans g
    have bW : Below w.heap.size w w0 := by rw [← hH]; exact bL
    have hsz : H < w0.heap.size := by omega
    have HH := Lib.hid hH
    have HW0 := Lib.hid hw0
    have BL := Lib.hid bL
    have BW := Lib.hid bW
    have QL := Lib.hid q0
    have G0 := Lib.hid g0
    clear hH hw0 q0 s0 t0 g0 bL bW
    have RO := Lib.hid hro
    clear hro
    have SC := Sha_calls [] none 0 0 w0 (.inl rfl) (by decide) (RO.out.at_ BW.out) (RO.out.at_ BW.out).lt
    obtain ⟨R, hR⟩ : ∃ R, R = shaOf [] := ⟨_, rfl⟩
    have RL := Lib.hid (show R.length = 32 by rw [hR]; exact shaOf_length _)
    rw [← hR, show ([] : List UInt8).length = 0 from rfl] at SC
    rw [← hR]
    have HSC := Lib.hid SC
    clear SC hR
    go_enter Tryd.func78, Tryd.ntmps78
    go_upto_region 1 with fail
    rw [ZT.out, ← HH.out, ← HW0.out]
    go_wp2_with fail
    refine HSC.out.mono ?_
    rintro e w5 ⟨rfl, hb5⟩
    have G5 := Lib.hid ((hb5.block H hsz).trans G0.out)
    have B5 := Lib.hid (BL.out.trans (hb5.mono (by omega)))
    clear hb5 HSC
    go_wp2_with (refine st_row rfl (.tmp 2) (.tmp 8) rfl H R RL.out (by rfl) (by rfl) (dV Z) (dV_size ZL.out) _ G5.out ?_)
    try simp only [Exit.inBlock, Exit.then]
    refine bodyPost_ret (v := .agg (dV R)) (results_cellW rfl _ _ _ ⟨H, 0, none⟩ _ rfl ?_) rfl ?_
    · exact dig_load RL.out (range_of_row (setRow_heap _ _ _ _ _ _ G5.out))
    · exact ⟨rfl, by rw [← HH.out]; exact below_setRowW B5.out (Nat.le_refl _) _⟩
  | succ N ih =>
    intro ls hN h256 hd a cap e hc hc2 w hr hro
    by_cases h2 : 2 ≤ ls.length
    · obtain ⟨n, hn⟩ : ∃ n, n = ls.length := ⟨_, rfl⟩
      have hst := troot_step h2
      obtain ⟨h, hh⟩ : ∃ h, h = hf ls.length := ⟨_, rfl⟩
      have hlt : h < n := by rw [hh, hn]; exact hf_lt h2
      have hpos : 0 < h := by rw [hh]; exact hf_pos _
      rw [← hh] at hst
      have l1 : (ls.take h).length = h := by rw [List.length_take]; omega
      have l2 : (ls.drop h).length = n - h := by rw [List.length_drop, hn]
      have d1 : ∀ d ∈ ls.take h, d.length = 32 := fun d hx => hd d (List.mem_of_mem_take hx)
      have d2 : ∀ d ∈ ls.drop h, d.length = 32 := fun d hx => hd d (List.mem_of_mem_drop hx)
      have f1 : (ls.take h).flatten.map vB = (ls.flatten.map vB).take (h * 32) := by rw [← List.map_take, flat_take ls hd]
      have f2 : (ls.drop h).flatten.map vB = (ls.flatten.map vB).drop (h * 32) := by rw [← List.map_drop, flat_drop ls hd]
      obtain ⟨B, o, hB, hBx, hBy⟩ := hr.range hd (k := 0) (by omega)
      subst hB
      clear hBx hBy
      have I1 := fun w' (hb : Below w.heap.size w w') => ih (ls.take h) (by omega) (by omega) d1 (some ⟨B, o, none⟩) cap e (by omega) hc2 w' (by rw [f1]; exact (hr.below hb).take _) (hro.at_ hb)
      have I2 := fun w' (hb : Below w.heap.size w w') => ih (ls.drop h) (by omega) (by omega) d2 (some ⟨B, o + h * 32, none⟩) (cap - h) e (by omega) (by omega) w' (by rw [f2]; exact (hr.below hb).drop _) (hro.at_ hb)
      rw [l1] at I1
      rw [l2] at I2
      obtain ⟨X, hX⟩ : ∃ X, X = troot (ls.take h) := ⟨_, rfl⟩
      obtain ⟨Y, hY⟩ : ∃ Y, Y = troot (ls.drop h) := ⟨_, rfl⟩
      have XL := Lib.hid (show X.length = 32 by rw [hX]; exact troot_length _ d1)
      have YL := Lib.hid (show Y.length = 32 by rw [hY]; exact troot_length _ d2)
      rw [← hX] at I1 hst
      rw [← hY] at I2 hst
      obtain ⟨R, hR⟩ : ∃ R, R = troot ls := ⟨_, rfl⟩
      rw [← hR] at hst ⊢
      have RL := Lib.hid (show R.length = 32 by rw [hst]; exact tnode_length _ _)
      have HST := Lib.hid hst
      have HI1 := Lib.hid I1
      have HI2 := Lib.hid I2
      obtain ⟨Z, hZ⟩ : ∃ Z, Z = nz := ⟨_, rfl⟩
      have zl : Z.length = 32 := by rw [hZ]; rfl
      have zlit : (#[.int .u8 0, .int .u8 0, .int .u8 0, .int .u8 0, .int .u8 0, .int .u8 0, .int .u8 0, .int .u8 0, .int .u8 0, .int .u8 0, .int .u8 0, .int .u8 0, .int .u8 0, .int .u8 0, .int .u8 0, .int .u8 0, .int .u8 0, .int .u8 0, .int .u8 0, .int .u8 0, .int .u8 0, .int .u8 0, .int .u8 0, .int .u8 0, .int .u8 0, .int .u8 0, .int .u8 0, .int .u8 0, .int .u8 0, .int .u8 0, .int .u8 0, .int .u8 0] : Array Value) = dV Z := by rw [hZ]; exact zdig
      have ZL := Lib.hid zl
      have ZT := Lib.hid zlit
      have HZ := Lib.hid hZ
      clear zl zlit hZ
      obtain ⟨H, hH⟩ : ∃ H, H = w.heap.size := ⟨_, rfl⟩
      obtain ⟨w0, hw0⟩ : ∃ z, z = w.alloc (.cells (dV Z) 23) := ⟨_, rfl⟩
      have q0 : w0.heap.size = H + 1 := by rw [hw0, hH]; exact World.size_alloc _ _
      have s0 : Below (H) w w0 := by rw [hw0, hH]; exact (Below.refl _ _).alloc (Nat.le_refl _) _
      have t0 : Below (H + 1) w0 w0 := Below.refl _ _
      have bL : Below H w w0 := s0.trans (t0.mono (by omega))
      have g0 : w0.heap[H]? = some (.cells (dV Z) 23 (0, 0)) := by
        have g : w0.heap[H]? = some (.cells (dV Z) 23 (0, 0)) := by rw [hw0, hH]; exact heap_alloc_new _ _
        exact (t0.block _ (by omega)).trans g
      have bW : Below w.heap.size w w0 := by rw [← hH]; exact bL
      have hsz : H < w0.heap.size := by omega
      have HH := Lib.hid hH
      have HW0 := Lib.hid hw0
      have BL := Lib.hid bL
      have BW := Lib.hid bW
      have QL := Lib.hid q0
      have G0 := Lib.hid g0
      clear hH hw0 q0 s0 t0 g0 bL bW
      have HC := Half_calls n (by omega) (by omega) w0
      rw [hn, ← hh, ← hn] at HC
      have HHC := Lib.hid HC
      have i1 : (0 : Int) ≤ (h : Int) := by omega
      have i2 : (h : Int) ≤ (n : Int) := by omega
      have i3 : (h : Int) ≤ (cap : Int) := by omega
      have i4 : ((n : Int) - (h : Int)).toNat = n - h := by omega
      have i5 : ((cap : Int) - (h : Int)).toNat = cap - h := by omega
      have i6 : (n : Int) ≤ (cap : Int) := by omega
      have i7 : ¬ cap = h := by omega
      have i8 : ¬ h = cap := by omega
      have z0 : ((n : Int) == 0) = false := by rw [beq_eq_false_iff_ne]; omega
      have z1 : ((n : Int) == 1) = false := by rw [beq_eq_false_iff_ne]; omega
      rw [← hn]
      have RO := Lib.hid hro
      clear I1 I2 hst HC l1 l2 d1 d2 f1 f2 hX hY hR ih hd hr hro hN hh hn
      go_enter Tryd.func78, Tryd.ntmps78
      go_upto_region 1 with fail
      rw [ZT.out, ← HH.out, ← HW0.out]
      go_wp2_with fail
      refine HHC.out.mono ?_
      rintro e w1 ⟨rfl, rfl⟩
      go_wp2_with fail
      obtain ⟨wD, hwD⟩ : ∃ z, z = w0.drew := ⟨_, rfl⟩
      have BD := Lib.hid (show Below w.heap.size w wD by rw [hwD]; exact BW.out.drew)
      have GD := Lib.hid (show wD.heap[H]? = some (.cells (dV Z) 23 (0, 0)) by rw [hwD]; exact G0.out)
      have BLD := Lib.hid (show Below H w wD by rw [hwD]; exact BL.out.drew)
      have HWD := Lib.hid hwD
      clear hwD
      refine wp_region_any (by kernel_rfl) ?_
      change wpAny _ _ _ _ _ _ _ w0.drew
      rw [← HWD.out]
      refine wpAny_take (i := 0) (oi := _) (v := .slice (some ⟨B, o, none⟩) n cap) rfl (by kernel_rfl) (by kernel_rfl) (by kernel_rfl) (fun _ _ _ h => h) (.inl ⟨by rfl, fun w => by go_simp⟩) ?_
      simp only [Act.put, List.getElem_toArray, List.getElem_cons_zero, List.getElem_cons_succ, List.setIfInBounds_toArray, List.set_cons_zero, List.set_cons_succ]
      refine wpAny_take (i := 1) (oi := _) (v := .int .i64 (h : Int)) rfl (by kernel_rfl) (by kernel_rfl) (by kernel_rfl) (fun _ _ _ h => h) (.inl ⟨by rfl, fun w => by go_simp⟩) ?_
      simp only [Act.put, List.getElem_toArray, List.getElem_cons_zero, List.getElem_cons_succ, List.setIfInBounds_toArray, List.set_cons_zero, List.set_cons_succ]
      refine wpAny_take (i := 2) (oi := _) (v := .slice (some ⟨B, o, none⟩) h cap) rfl (by kernel_rfl) (by kernel_rfl) (by kernel_rfl) (fun _ _ _ h => h) (.inl ⟨by rfl, fun w => by go_simp⟩) ?_
      simp only [Act.put, List.getElem_toArray, List.getElem_cons_zero, List.getElem_cons_succ, List.setIfInBounds_toArray, List.set_cons_zero, List.set_cons_succ]
      refine wpAny_take (i := 4) (oi := _) (v := .slice (some ⟨B, o, none⟩) n cap) rfl (by kernel_rfl) (by kernel_rfl) (by kernel_rfl) (fun _ _ _ h => h) (.inl ⟨by rfl, fun w => by go_simp⟩) ?_
      simp only [Act.put, List.getElem_toArray, List.getElem_cons_zero, List.getElem_cons_succ, List.setIfInBounds_toArray, List.set_cons_zero, List.set_cons_succ]
      refine wpAny_take (i := 5) (oi := _) (v := .int .i64 (h : Int)) rfl (by kernel_rfl) (by kernel_rfl) (by kernel_rfl) (fun _ _ _ h => h) (.inl ⟨by rfl, fun w => by go_simp⟩) ?_
      simp only [Act.put, List.getElem_toArray, List.getElem_cons_zero, List.getElem_cons_succ, List.setIfInBounds_toArray, List.set_cons_zero, List.set_cons_succ]
      refine wpAny_take (i := 6) (oi := _) (v := .slice (some ⟨B, o + h * 32, none⟩) (n - h) (cap - h)) rfl (by kernel_rfl) (by kernel_rfl) (by kernel_rfl) (fun _ _ _ h => h) (.inl ⟨by rfl, fun w => by go_simp⟩) ?_
      simp only [Act.put, List.getElem_toArray, List.getElem_cons_zero, List.getElem_cons_succ, List.setIfInBounds_toArray, List.set_cons_zero, List.set_cons_succ]
      refine wpAny_ready (rs := [3]) (by kernel_rfl) (by simp) ?_
      refine AllReady.cons (o := _) rfl (fun K hK => ?_) AllReady.nil
      have HK := Lib.hid hK
      clear hK
      go_simp
      go_at_call 78
      refine (HI1.out wD BD.out).mono ?_
      rintro e w5 ⟨rfl, hb5⟩
      dsimp only
      have B5 := Lib.hid (BD.out.trans (hb5.mono BD.out.size))
      have BL5 := Lib.hid (BLD.out.trans (hb5.mono (Nat.le_of_lt (lt_of_heap GD.out))))
      have G5 := Lib.hid ((hb5.block H (lt_of_heap GD.out)).trans GD.out)
      clear hb5
      refine HK.out _ _ ?_
      clear HK K
      try simp only [Act.put, List.getElem_toArray, List.getElem_cons_zero, List.getElem_cons_succ, List.setIfInBounds_toArray, List.set_cons_zero, List.set_cons_succ]
      refine wpAny_ready (rs := [7]) (by kernel_rfl) (by simp) ?_
      refine AllReady.cons (o := _) rfl (fun K hK => ?_) AllReady.nil
      have HK := Lib.hid hK
      clear hK
      go_simp
      go_at_call 78
      refine (HI2.out w5 B5.out).mono ?_
      rintro e w6 ⟨rfl, hb6⟩
      dsimp only
      have BX := Lib.hid (B5.out.trans (hb6.mono B5.out.size))
      have BL6 := Lib.hid (BL5.out.trans (hb6.mono (Nat.le_of_lt (lt_of_heap G5.out))))
      have G6 := Lib.hid ((hb6.block H (lt_of_heap G5.out)).trans G5.out)
      have NC := TNode_calls X Y XL.out YL.out w6 (RO.out.at_ BX.out)
      rw [← HST.out] at NC
      have HNC := Lib.hid NC
      clear hb6 NC
      refine HK.out _ _ ?_
      clear HK K
      try simp only [Act.put, List.getElem_toArray, List.getElem_cons_zero, List.getElem_cons_succ, List.setIfInBounds_toArray, List.set_cons_zero, List.set_cons_succ]
      refine wpAny_ready (rs := [8]) (by kernel_rfl) (by simp) ?_
      refine AllReady.cons (o := _) rfl (fun K hK => ?_) AllReady.nil
      have HK := Lib.hid hK
      clear hK
      go_simp
      go_at_call 87
      refine HNC.out.mono ?_
      rintro e w7 ⟨rfl, hb7⟩
      dsimp only
      have BL7 := Lib.hid (BL6.out.trans (hb7.mono (Nat.le_of_lt (lt_of_heap G6.out))))
      have G7 := Lib.hid ((hb7.block H (lt_of_heap G6.out)).trans G6.out)
      clear hb7 HNC
      refine HK.out _ _ ?_
      clear HK K
      try simp only [Act.put, List.getElem_toArray, List.getElem_cons_zero, List.getElem_cons_succ, List.setIfInBounds_toArray, List.set_cons_zero, List.set_cons_succ]
      refine wpAny_ready (rs := [9]) (by kernel_rfl) (by simp) ?_
      refine AllReady.cons (o := _) rfl (fun K hK => ?_) AllReady.nil
      have HK := Lib.hid hK
      clear hK
      rw [if_pos (by rfl)]
      refine wp_store_row _ _ _ rfl H (dV R) (by rfl) (by rfl) _ (dV Z) G7.out (info_dV RL.out) (by rw [dV_size RL.out, dV_size ZL.out]) (dV_one R) ?_
      refine HK.out _ _ ?_
      clear HK K
      try simp only [Act.put, List.getElem_toArray, List.getElem_cons_zero, List.getElem_cons_succ, List.setIfInBounds_toArray, List.set_cons_zero, List.set_cons_succ]
      refine wpAny_done (by kernel_rfl) ?_ _
      go_wp2_with fail
      try simp only [Exit.inBlock, Exit.then]
      refine bodyPost_ret (v := .agg (dV R)) (results_cellW rfl _ _ _ ⟨H, 0, none⟩ _ rfl ?_) rfl ?_
      · exact dig_load RL.out (range_of_row (setRow_heap _ _ _ _ _ _ G7.out))
      · exact ⟨rfl, by rw [← HH.out]; exact below_setRowW BL7.out (Nat.le_refl _) _⟩
    · match ls, hN, h256, hd, h2, hc, hr with
      | [], hN, h256, hd, h2, hc, hr =>
        rw [troot_nil]
        obtain ⟨Z, hZ⟩ : ∃ Z, Z = nz := ⟨_, rfl⟩
        have zl : Z.length = 32 := by rw [hZ]; rfl
        have zlit : (#[.int .u8 0, .int .u8 0, .int .u8 0, .int .u8 0, .int .u8 0, .int .u8 0, .int .u8 0, .int .u8 0, .int .u8 0, .int .u8 0, .int .u8 0, .int .u8 0, .int .u8 0, .int .u8 0, .int .u8 0, .int .u8 0, .int .u8 0, .int .u8 0, .int .u8 0, .int .u8 0, .int .u8 0, .int .u8 0, .int .u8 0, .int .u8 0, .int .u8 0, .int .u8 0, .int .u8 0, .int .u8 0, .int .u8 0, .int .u8 0, .int .u8 0, .int .u8 0] : Array Value) = dV Z := by rw [hZ]; exact zdig
        have ZL := Lib.hid zl
        have ZT := Lib.hid zlit
        have HZ := Lib.hid hZ
        clear zl zlit hZ
        obtain ⟨H, hH⟩ : ∃ H, H = w.heap.size := ⟨_, rfl⟩
        obtain ⟨w0, hw0⟩ : ∃ z, z = w.alloc (.cells (dV Z) 23) := ⟨_, rfl⟩
        have q0 : w0.heap.size = H + 1 := by rw [hw0, hH]; exact World.size_alloc _ _
        have s0 : Below (H) w w0 := by rw [hw0, hH]; exact (Below.refl _ _).alloc (Nat.le_refl _) _
        have t0 : Below (H + 1) w0 w0 := Below.refl _ _
        have bL : Below H w w0 := s0.trans (t0.mono (by omega))
        have g0 : w0.heap[H]? = some (.cells (dV Z) 23 (0, 0)) := by
          have g : w0.heap[H]? = some (.cells (dV Z) 23 (0, 0)) := by rw [hw0, hH]; exact heap_alloc_new _ _
          exact (t0.block _ (by omega)).trans g
        have bW : Below w.heap.size w w0 := by rw [← hH]; exact bL
        have hsz : H < w0.heap.size := by omega
        have HH := Lib.hid hH
        have HW0 := Lib.hid hw0
        have BL := Lib.hid bL
        have BW := Lib.hid bW
        have QL := Lib.hid q0
        have G0 := Lib.hid g0
        clear hH hw0 q0 s0 t0 g0 bL bW
        have RO := Lib.hid hro
        clear hro
        have SC := Sha_calls [] none 0 0 w0 (.inl rfl) (by decide) (RO.out.at_ BW.out) (RO.out.at_ BW.out).lt
        obtain ⟨R, hR⟩ : ∃ R, R = shaOf [] := ⟨_, rfl⟩
        have RL := Lib.hid (show R.length = 32 by rw [hR]; exact shaOf_length _)
        rw [← hR, show ([] : List UInt8).length = 0 from rfl] at SC
        rw [← hR]
        have HSC := Lib.hid SC
        clear SC hR
        go_enter Tryd.func78, Tryd.ntmps78
        go_upto_region 1 with fail
        rw [ZT.out, ← HH.out, ← HW0.out]
        go_wp2_with fail
        refine HSC.out.mono ?_
        rintro e w5 ⟨rfl, hb5⟩
        have G5 := Lib.hid ((hb5.block H hsz).trans G0.out)
        have B5 := Lib.hid (BL.out.trans (hb5.mono (by omega)))
        clear hb5 HSC
        go_wp2_with (refine st_row rfl (.tmp 2) (.tmp 8) rfl H R RL.out (by rfl) (by rfl) (dV Z) (dV_size ZL.out) _ G5.out ?_)
        try simp only [Exit.inBlock, Exit.then]
        refine bodyPost_ret (v := .agg (dV R)) (results_cellW rfl _ _ _ ⟨H, 0, none⟩ _ rfl ?_) rfl ?_
        · exact dig_load RL.out (range_of_row (setRow_heap _ _ _ _ _ _ G5.out))
        · exact ⟨rfl, by rw [← HH.out]; exact below_setRowW B5.out (Nat.le_refl _) _⟩
      | [l], hN, h256, hd, h2, hc, hr =>
        have hl : l.length = 32 := hd l (List.mem_cons_self ..)
        obtain ⟨B, o, hB, hBl, hrg⟩ := hr.range hd (k := 0) (by simp)
        subst hB
        have HRG0 := Lib.hid hrg
        have HL := Lib.hid hl
        rw [troot_one]
        obtain ⟨Z, hZ⟩ : ∃ Z, Z = nz := ⟨_, rfl⟩
        have zl : Z.length = 32 := by rw [hZ]; rfl
        have zlit : (#[.int .u8 0, .int .u8 0, .int .u8 0, .int .u8 0, .int .u8 0, .int .u8 0, .int .u8 0, .int .u8 0, .int .u8 0, .int .u8 0, .int .u8 0, .int .u8 0, .int .u8 0, .int .u8 0, .int .u8 0, .int .u8 0, .int .u8 0, .int .u8 0, .int .u8 0, .int .u8 0, .int .u8 0, .int .u8 0, .int .u8 0, .int .u8 0, .int .u8 0, .int .u8 0, .int .u8 0, .int .u8 0, .int .u8 0, .int .u8 0, .int .u8 0, .int .u8 0] : Array Value) = dV Z := by rw [hZ]; exact zdig
        have ZL := Lib.hid zl
        have ZT := Lib.hid zlit
        have HZ := Lib.hid hZ
        clear zl zlit hZ
        obtain ⟨H, hH⟩ : ∃ H, H = w.heap.size := ⟨_, rfl⟩
        obtain ⟨w0, hw0⟩ : ∃ z, z = w.alloc (.cells (dV Z) 23) := ⟨_, rfl⟩
        have q0 : w0.heap.size = H + 1 := by rw [hw0, hH]; exact World.size_alloc _ _
        have s0 : Below (H) w w0 := by rw [hw0, hH]; exact (Below.refl _ _).alloc (Nat.le_refl _) _
        have t0 : Below (H + 1) w0 w0 := Below.refl _ _
        have bL : Below H w w0 := s0.trans (t0.mono (by omega))
        have g0 : w0.heap[H]? = some (.cells (dV Z) 23 (0, 0)) := by
          have g : w0.heap[H]? = some (.cells (dV Z) 23 (0, 0)) := by rw [hw0, hH]; exact heap_alloc_new _ _
          exact (t0.block _ (by omega)).trans g
        have bW : Below w.heap.size w w0 := by rw [← hH]; exact bL
        have hsz : H < w0.heap.size := by omega
        have HH := Lib.hid hH
        have HW0 := Lib.hid hw0
        have BL := Lib.hid bL
        have BW := Lib.hid bW
        have QL := Lib.hid q0
        have G0 := Lib.hid g0
        clear hH hw0 q0 s0 t0 g0 bL bW
        have HRG := Lib.hid (show w0.rangeAt B (o + 0 * 32) (l.map vB) from fun j v hj => (BW.out.cell (p := ⟨B, o + 0 * 32 + j, none⟩) hBl).trans (HRG0.out j v hj))
        clear hrg hr hd hl hN h2 ih hro hBl
        go_enter Tryd.func78, Tryd.ntmps78
        go_upto_region 1 with fail
        rw [ZT.out, ← HH.out, ← HW0.out]
        go_wp2_with (first
          | ((refine ld_digG rfl (.tmp 12) rfl B (o + 0 * 32) (by first | rfl | simp) l HL.out HRG.out ?_); simp only [Act.put, List.setIfInBounds_toArray, List.set_cons_zero, List.set_cons_succ])
          | (refine st_row rfl (.tmp 2) (.tmp 13) rfl H l HL.out (by rfl) (by rfl) (dV Z) (dV_size ZL.out) _ G0.out ?_))
        try simp only [Exit.inBlock, Exit.then]
        refine bodyPost_ret (v := .agg (dV l)) (results_cellW rfl _ _ _ ⟨H, 0, none⟩ _ rfl ?_) rfl ?_
        · exact dig_load HL.out (range_of_row (setRow_heap _ _ _ _ _ _ G0.out))
        · exact ⟨rfl, by rw [← HH.out]; exact below_setRowW BL.out (Nat.le_refl _) _⟩
      | _ :: _ :: _, _, _, _, h2, _, _ => exact absurd (by simp) h2
set_option maxRecDepth 20000 in
set_option maxHeartbeats 4000000 in
theorem RRoot_calls : ∀ (N : Nat) (ls : List (List UInt8)), ls.length ≤ N → ls.length ≤ 256 → (∀ d ∈ ls, d.length = 32) → ∀ (a : Option Addr) (cap e : Nat), ls.length ≤ cap → cap ≤ 9223372036854775807 → ∀ (w : World), Rd w a e (ls.flatten.map vB) →
    Calls Tryd.prog 17 #[.slice a ls.length cap] w fun e w' => e = .returned (.agg (dV (troot ls))) ∧ Below w.heap.size w w' := by
  intro N
  induction N with
  | zero =>
    intro ls hN h256 hd a cap e hc hc2 w hr
    obtain rfl : ls = [] := List.length_eq_zero_iff.1 (by omega)
    rw [troot_nil]
    obtain ⟨Z, hZ⟩ : ∃ Z, Z = nz := ⟨_, rfl⟩
    have zl : Z.length = 32 := by rw [hZ]; rfl
    have zlit : (#[.int .u8 0, .int .u8 0, .int .u8 0, .int .u8 0, .int .u8 0, .int .u8 0, .int .u8 0, .int .u8 0, .int .u8 0, .int .u8 0, .int .u8 0, .int .u8 0, .int .u8 0, .int .u8 0, .int .u8 0, .int .u8 0, .int .u8 0, .int .u8 0, .int .u8 0, .int .u8 0, .int .u8 0, .int .u8 0, .int .u8 0, .int .u8 0, .int .u8 0, .int .u8 0, .int .u8 0, .int .u8 0, .int .u8 0, .int .u8 0, .int .u8 0, .int .u8 0] : Array Value) = dV Z := by rw [hZ]; exact zdig
    have ZL := Lib.hid zl
    have ZT := Lib.hid zlit
    have HZ := Lib.hid hZ
    clear zl zlit hZ
    obtain ⟨H, hH⟩ : ∃ H, H = w.heap.size := ⟨_, rfl⟩
    obtain ⟨w0, hw0⟩ : ∃ z, z = w.alloc (.cells (dV Z) 23) := ⟨_, rfl⟩
    have q0 : w0.heap.size = H + 1 := by rw [hw0, hH]; exact World.size_alloc _ _
    have s0 : Below (H) w w0 := by rw [hw0, hH]; exact (Below.refl _ _).alloc (Nat.le_refl _) _
    have t0 : Below (H + 1) w0 w0 := Below.refl _ _
    have bL : Below H w w0 := s0.trans (t0.mono (by omega))
    have g0 : w0.heap[H]? = some (.cells (dV Z) 23 (0, 0)) := by
      have g : w0.heap[H]? = some (.cells (dV Z) 23 (0, 0)) := by rw [hw0, hH]; exact heap_alloc_new _ _
      exact (t0.block _ (by omega)).trans g
    have bW : Below w.heap.size w w0 := by rw [← hH]; exact bL
    have hsz : H < w0.heap.size := by omega
    have HH := Lib.hid hH
    have HW0 := Lib.hid hw0
    have BL := Lib.hid bL
    have BW := Lib.hid bW
    have QL := Lib.hid q0
    have G0 := Lib.hid g0
    clear hH hw0 q0 s0 t0 g0 bL bW
    have SC := RSum_calls [] none 0 0 w0 (.inl rfl) (by decide)
    obtain ⟨R, hR⟩ : ∃ R, R = shaOf [] := ⟨_, rfl⟩
    have RL := Lib.hid (show R.length = 32 by rw [hR]; exact shaOf_length _)
    rw [← hR, show ([] : List UInt8).length = 0 from rfl] at SC
    rw [← hR]
    have HSC := Lib.hid SC
    clear SC hR
    go_enter Tryd.func17, Tryd.ntmps17
    go_upto_region 1 with fail
    rw [ZT.out, ← HH.out, ← HW0.out]
    go_wp2_with fail
    refine HSC.out.mono ?_
    rintro e w5 ⟨rfl, hb5⟩
    have G5 := Lib.hid ((hb5.block H hsz).trans G0.out)
    have B5 := Lib.hid (BL.out.trans (hb5.mono (by omega)))
    clear hb5 HSC
    go_wp2_with (refine st_row rfl (.tmp 2) (.tmp 7) rfl H R RL.out (by rfl) (by rfl) (dV Z) (dV_size ZL.out) _ G5.out ?_)
    try simp only [Exit.inBlock, Exit.then]
    refine bodyPost_ret (v := .agg (dV R)) (results_cellW rfl _ _ _ ⟨H, 0, none⟩ _ rfl ?_) rfl ?_
    · exact dig_load RL.out (range_of_row (setRow_heap _ _ _ _ _ _ G5.out))
    · exact ⟨rfl, by rw [← HH.out]; exact below_setRowW B5.out (Nat.le_refl _) _⟩
  | succ N ih =>
    intro ls hN h256 hd a cap e hc hc2 w hr
    by_cases h2 : 2 ≤ ls.length
    · obtain ⟨n, hn⟩ : ∃ n, n = ls.length := ⟨_, rfl⟩
      have hst := troot_step h2
      obtain ⟨h, hh⟩ : ∃ h, h = hf ls.length := ⟨_, rfl⟩
      have hlt : h < n := by rw [hh, hn]; exact hf_lt h2
      have hpos : 0 < h := by rw [hh]; exact hf_pos _
      rw [← hh] at hst
      have l1 : (ls.take h).length = h := by rw [List.length_take]; omega
      have l2 : (ls.drop h).length = n - h := by rw [List.length_drop, hn]
      have d1 : ∀ d ∈ ls.take h, d.length = 32 := fun d hx => hd d (List.mem_of_mem_take hx)
      have d2 : ∀ d ∈ ls.drop h, d.length = 32 := fun d hx => hd d (List.mem_of_mem_drop hx)
      have f1 : (ls.take h).flatten.map vB = (ls.flatten.map vB).take (h * 32) := by rw [← List.map_take, flat_take ls hd]
      have f2 : (ls.drop h).flatten.map vB = (ls.flatten.map vB).drop (h * 32) := by rw [← List.map_drop, flat_drop ls hd]
      obtain ⟨B, o, hB, hBx, hBy⟩ := hr.range hd (k := 0) (by omega)
      subst hB
      clear hBx hBy
      have I1 := fun w' (hb : Below w.heap.size w w') => ih (ls.take h) (by omega) (by omega) d1 (some ⟨B, o, none⟩) cap e (by omega) hc2 w' (by rw [f1]; exact (hr.below hb).take _)
      have I2 := fun w' (hb : Below w.heap.size w w') => ih (ls.drop h) (by omega) (by omega) d2 (some ⟨B, o + h * 32, none⟩) (cap - h) e (by omega) (by omega) w' (by rw [f2]; exact (hr.below hb).drop _)
      rw [l1] at I1
      rw [l2] at I2
      obtain ⟨X, hX⟩ : ∃ X, X = troot (ls.take h) := ⟨_, rfl⟩
      obtain ⟨Y, hY⟩ : ∃ Y, Y = troot (ls.drop h) := ⟨_, rfl⟩
      have XL := Lib.hid (show X.length = 32 by rw [hX]; exact troot_length _ d1)
      have YL := Lib.hid (show Y.length = 32 by rw [hY]; exact troot_length _ d2)
      rw [← hX] at I1 hst
      rw [← hY] at I2 hst
      obtain ⟨R, hR⟩ : ∃ R, R = troot ls := ⟨_, rfl⟩
      rw [← hR] at hst ⊢
      have RL := Lib.hid (show R.length = 32 by rw [hst]; exact tnode_length _ _)
      have HST := Lib.hid hst
      have HI1 := Lib.hid I1
      have HI2 := Lib.hid I2
      obtain ⟨Z, hZ⟩ : ∃ Z, Z = nz := ⟨_, rfl⟩
      have zl : Z.length = 32 := by rw [hZ]; rfl
      have zlit : (#[.int .u8 0, .int .u8 0, .int .u8 0, .int .u8 0, .int .u8 0, .int .u8 0, .int .u8 0, .int .u8 0, .int .u8 0, .int .u8 0, .int .u8 0, .int .u8 0, .int .u8 0, .int .u8 0, .int .u8 0, .int .u8 0, .int .u8 0, .int .u8 0, .int .u8 0, .int .u8 0, .int .u8 0, .int .u8 0, .int .u8 0, .int .u8 0, .int .u8 0, .int .u8 0, .int .u8 0, .int .u8 0, .int .u8 0, .int .u8 0, .int .u8 0, .int .u8 0] : Array Value) = dV Z := by rw [hZ]; exact zdig
      have ZL := Lib.hid zl
      have ZT := Lib.hid zlit
      have HZ := Lib.hid hZ
      clear zl zlit hZ
      obtain ⟨H, hH⟩ : ∃ H, H = w.heap.size := ⟨_, rfl⟩
      obtain ⟨w0, hw0⟩ : ∃ z, z = w.alloc (.cells (dV Z) 23) := ⟨_, rfl⟩
      have q0 : w0.heap.size = H + 1 := by rw [hw0, hH]; exact World.size_alloc _ _
      have s0 : Below (H) w w0 := by rw [hw0, hH]; exact (Below.refl _ _).alloc (Nat.le_refl _) _
      have t0 : Below (H + 1) w0 w0 := Below.refl _ _
      have bL : Below H w w0 := s0.trans (t0.mono (by omega))
      have g0 : w0.heap[H]? = some (.cells (dV Z) 23 (0, 0)) := by
        have g : w0.heap[H]? = some (.cells (dV Z) 23 (0, 0)) := by rw [hw0, hH]; exact heap_alloc_new _ _
        exact (t0.block _ (by omega)).trans g
      have bW : Below w.heap.size w w0 := by rw [← hH]; exact bL
      have hsz : H < w0.heap.size := by omega
      have HH := Lib.hid hH
      have HW0 := Lib.hid hw0
      have BL := Lib.hid bL
      have BW := Lib.hid bW
      have QL := Lib.hid q0
      have G0 := Lib.hid g0
      clear hH hw0 q0 s0 t0 g0 bL bW
      have HC := RHalf_calls n (by omega) (by omega) w0
      rw [hn, ← hh, ← hn] at HC
      have HHC := Lib.hid HC
      have i1 : (0 : Int) ≤ (h : Int) := by omega
      have i2 : (h : Int) ≤ (n : Int) := by omega
      have i3 : (h : Int) ≤ (cap : Int) := by omega
      have i4 : ((n : Int) - (h : Int)).toNat = n - h := by omega
      have i5 : ((cap : Int) - (h : Int)).toNat = cap - h := by omega
      have i6 : (n : Int) ≤ (cap : Int) := by omega
      have i7 : ¬ cap = h := by omega
      have i8 : ¬ h = cap := by omega
      have z0 : ((n : Int) == 0) = false := by rw [beq_eq_false_iff_ne]; omega
      have z1 : ((n : Int) == 1) = false := by rw [beq_eq_false_iff_ne]; omega
      rw [← hn]
      clear I1 I2 hst HC l1 l2 d1 d2 f1 f2 hX hY hR ih hd hr hN hh hn
      go_enter Tryd.func17, Tryd.ntmps17
      go_upto_region 1 with fail
      rw [ZT.out, ← HH.out, ← HW0.out]
      go_wp2_with fail
      refine HHC.out.mono ?_
      rintro e w1 ⟨rfl, rfl⟩
      go_wp2_with fail
      obtain ⟨wD, hwD⟩ : ∃ z, z = w0.drew := ⟨_, rfl⟩
      have BD := Lib.hid (show Below w.heap.size w wD by rw [hwD]; exact BW.out.drew)
      have GD := Lib.hid (show wD.heap[H]? = some (.cells (dV Z) 23 (0, 0)) by rw [hwD]; exact G0.out)
      have BLD := Lib.hid (show Below H w wD by rw [hwD]; exact BL.out.drew)
      have HWD := Lib.hid hwD
      clear hwD
      refine wp_region_any (by kernel_rfl) ?_
      change wpAny _ _ _ _ _ _ _ w0.drew
      rw [← HWD.out]
      refine wpAny_take (i := 0) (oi := _) (v := .slice (some ⟨B, o, none⟩) n cap) rfl (by kernel_rfl) (by kernel_rfl) (by kernel_rfl) (fun _ _ _ h => h) (.inl ⟨by rfl, fun w => by go_simp⟩) ?_
      simp only [Act.put, List.getElem_toArray, List.getElem_cons_zero, List.getElem_cons_succ, List.setIfInBounds_toArray, List.set_cons_zero, List.set_cons_succ]
      refine wpAny_take (i := 1) (oi := _) (v := .int .i64 (h : Int)) rfl (by kernel_rfl) (by kernel_rfl) (by kernel_rfl) (fun _ _ _ h => h) (.inl ⟨by rfl, fun w => by go_simp⟩) ?_
      simp only [Act.put, List.getElem_toArray, List.getElem_cons_zero, List.getElem_cons_succ, List.setIfInBounds_toArray, List.set_cons_zero, List.set_cons_succ]
      refine wpAny_take (i := 2) (oi := _) (v := .slice (some ⟨B, o, none⟩) h cap) rfl (by kernel_rfl) (by kernel_rfl) (by kernel_rfl) (fun _ _ _ h => h) (.inl ⟨by rfl, fun w => by go_simp⟩) ?_
      simp only [Act.put, List.getElem_toArray, List.getElem_cons_zero, List.getElem_cons_succ, List.setIfInBounds_toArray, List.set_cons_zero, List.set_cons_succ]
      refine wpAny_take (i := 4) (oi := _) (v := .slice (some ⟨B, o, none⟩) n cap) rfl (by kernel_rfl) (by kernel_rfl) (by kernel_rfl) (fun _ _ _ h => h) (.inl ⟨by rfl, fun w => by go_simp⟩) ?_
      simp only [Act.put, List.getElem_toArray, List.getElem_cons_zero, List.getElem_cons_succ, List.setIfInBounds_toArray, List.set_cons_zero, List.set_cons_succ]
      refine wpAny_take (i := 5) (oi := _) (v := .int .i64 (h : Int)) rfl (by kernel_rfl) (by kernel_rfl) (by kernel_rfl) (fun _ _ _ h => h) (.inl ⟨by rfl, fun w => by go_simp⟩) ?_
      simp only [Act.put, List.getElem_toArray, List.getElem_cons_zero, List.getElem_cons_succ, List.setIfInBounds_toArray, List.set_cons_zero, List.set_cons_succ]
      refine wpAny_take (i := 6) (oi := _) (v := .slice (some ⟨B, o + h * 32, none⟩) (n - h) (cap - h)) rfl (by kernel_rfl) (by kernel_rfl) (by kernel_rfl) (fun _ _ _ h => h) (.inl ⟨by rfl, fun w => by go_simp⟩) ?_
      simp only [Act.put, List.getElem_toArray, List.getElem_cons_zero, List.getElem_cons_succ, List.setIfInBounds_toArray, List.set_cons_zero, List.set_cons_succ]
      refine wpAny_ready (rs := [3]) (by kernel_rfl) (by simp) ?_
      refine AllReady.cons (o := _) rfl (fun K hK => ?_) AllReady.nil
      have HK := Lib.hid hK
      clear hK
      go_simp
      go_at_call 17
      refine (HI1.out wD BD.out).mono ?_
      rintro e w5 ⟨rfl, hb5⟩
      dsimp only
      have B5 := Lib.hid (BD.out.trans (hb5.mono BD.out.size))
      have BL5 := Lib.hid (BLD.out.trans (hb5.mono (Nat.le_of_lt (lt_of_heap GD.out))))
      have G5 := Lib.hid ((hb5.block H (lt_of_heap GD.out)).trans GD.out)
      clear hb5
      refine HK.out _ _ ?_
      clear HK K
      try simp only [Act.put, List.getElem_toArray, List.getElem_cons_zero, List.getElem_cons_succ, List.setIfInBounds_toArray, List.set_cons_zero, List.set_cons_succ]
      refine wpAny_ready (rs := [7]) (by kernel_rfl) (by simp) ?_
      refine AllReady.cons (o := _) rfl (fun K hK => ?_) AllReady.nil
      have HK := Lib.hid hK
      clear hK
      go_simp
      go_at_call 17
      refine (HI2.out w5 B5.out).mono ?_
      rintro e w6 ⟨rfl, hb6⟩
      dsimp only
      have BX := Lib.hid (B5.out.trans (hb6.mono B5.out.size))
      have BL6 := Lib.hid (BL5.out.trans (hb6.mono (Nat.le_of_lt (lt_of_heap G5.out))))
      have G6 := Lib.hid ((hb6.block H (lt_of_heap G5.out)).trans G5.out)
      have NC := RNode_calls X Y XL.out YL.out w6
      rw [← HST.out] at NC
      have HNC := Lib.hid NC
      clear hb6 NC
      refine HK.out _ _ ?_
      clear HK K
      try simp only [Act.put, List.getElem_toArray, List.getElem_cons_zero, List.getElem_cons_succ, List.setIfInBounds_toArray, List.set_cons_zero, List.set_cons_succ]
      refine wpAny_ready (rs := [8]) (by kernel_rfl) (by simp) ?_
      refine AllReady.cons (o := _) rfl (fun K hK => ?_) AllReady.nil
      have HK := Lib.hid hK
      clear hK
      go_simp
      go_at_call 15
      refine HNC.out.mono ?_
      rintro e w7 ⟨rfl, hb7⟩
      dsimp only
      have BL7 := Lib.hid (BL6.out.trans (hb7.mono (Nat.le_of_lt (lt_of_heap G6.out))))
      have G7 := Lib.hid ((hb7.block H (lt_of_heap G6.out)).trans G6.out)
      clear hb7 HNC
      refine HK.out _ _ ?_
      clear HK K
      try simp only [Act.put, List.getElem_toArray, List.getElem_cons_zero, List.getElem_cons_succ, List.setIfInBounds_toArray, List.set_cons_zero, List.set_cons_succ]
      refine wpAny_ready (rs := [9]) (by kernel_rfl) (by simp) ?_
      refine AllReady.cons (o := _) rfl (fun K hK => ?_) AllReady.nil
      have HK := Lib.hid hK
      clear hK
      rw [if_pos (by rfl)]
      refine wp_store_row _ _ _ rfl H (dV R) (by rfl) (by rfl) _ (dV Z) G7.out (info_dV RL.out) (by rw [dV_size RL.out, dV_size ZL.out]) (dV_one R) ?_
      refine HK.out _ _ ?_
      clear HK K
      try simp only [Act.put, List.getElem_toArray, List.getElem_cons_zero, List.getElem_cons_succ, List.setIfInBounds_toArray, List.set_cons_zero, List.set_cons_succ]
      refine wpAny_done (by kernel_rfl) ?_ _
      go_wp2_with fail
      try simp only [Exit.inBlock, Exit.then]
      refine bodyPost_ret (v := .agg (dV R)) (results_cellW rfl _ _ _ ⟨H, 0, none⟩ _ rfl ?_) rfl ?_
      · exact dig_load RL.out (range_of_row (setRow_heap _ _ _ _ _ _ G7.out))
      · exact ⟨rfl, by rw [← HH.out]; exact below_setRowW BL7.out (Nat.le_refl _) _⟩
    · match ls, hN, h256, hd, h2, hc, hr with
      | [], hN, h256, hd, h2, hc, hr =>
        rw [troot_nil]
        obtain ⟨Z, hZ⟩ : ∃ Z, Z = nz := ⟨_, rfl⟩
        have zl : Z.length = 32 := by rw [hZ]; rfl
        have zlit : (#[.int .u8 0, .int .u8 0, .int .u8 0, .int .u8 0, .int .u8 0, .int .u8 0, .int .u8 0, .int .u8 0, .int .u8 0, .int .u8 0, .int .u8 0, .int .u8 0, .int .u8 0, .int .u8 0, .int .u8 0, .int .u8 0, .int .u8 0, .int .u8 0, .int .u8 0, .int .u8 0, .int .u8 0, .int .u8 0, .int .u8 0, .int .u8 0, .int .u8 0, .int .u8 0, .int .u8 0, .int .u8 0, .int .u8 0, .int .u8 0, .int .u8 0, .int .u8 0] : Array Value) = dV Z := by rw [hZ]; exact zdig
        have ZL := Lib.hid zl
        have ZT := Lib.hid zlit
        have HZ := Lib.hid hZ
        clear zl zlit hZ
        obtain ⟨H, hH⟩ : ∃ H, H = w.heap.size := ⟨_, rfl⟩
        obtain ⟨w0, hw0⟩ : ∃ z, z = w.alloc (.cells (dV Z) 23) := ⟨_, rfl⟩
        have q0 : w0.heap.size = H + 1 := by rw [hw0, hH]; exact World.size_alloc _ _
        have s0 : Below (H) w w0 := by rw [hw0, hH]; exact (Below.refl _ _).alloc (Nat.le_refl _) _
        have t0 : Below (H + 1) w0 w0 := Below.refl _ _
        have bL : Below H w w0 := s0.trans (t0.mono (by omega))
        have g0 : w0.heap[H]? = some (.cells (dV Z) 23 (0, 0)) := by
          have g : w0.heap[H]? = some (.cells (dV Z) 23 (0, 0)) := by rw [hw0, hH]; exact heap_alloc_new _ _
          exact (t0.block _ (by omega)).trans g
        have bW : Below w.heap.size w w0 := by rw [← hH]; exact bL
        have hsz : H < w0.heap.size := by omega
        have HH := Lib.hid hH
        have HW0 := Lib.hid hw0
        have BL := Lib.hid bL
        have BW := Lib.hid bW
        have QL := Lib.hid q0
        have G0 := Lib.hid g0
        clear hH hw0 q0 s0 t0 g0 bL bW
        have SC := RSum_calls [] none 0 0 w0 (.inl rfl) (by decide)
        obtain ⟨R, hR⟩ : ∃ R, R = shaOf [] := ⟨_, rfl⟩
        have RL := Lib.hid (show R.length = 32 by rw [hR]; exact shaOf_length _)
        rw [← hR, show ([] : List UInt8).length = 0 from rfl] at SC
        rw [← hR]
        have HSC := Lib.hid SC
        clear SC hR
        go_enter Tryd.func17, Tryd.ntmps17
        go_upto_region 1 with fail
        rw [ZT.out, ← HH.out, ← HW0.out]
        go_wp2_with fail
        refine HSC.out.mono ?_
        rintro e w5 ⟨rfl, hb5⟩
        have G5 := Lib.hid ((hb5.block H hsz).trans G0.out)
        have B5 := Lib.hid (BL.out.trans (hb5.mono (by omega)))
        clear hb5 HSC
        go_wp2_with (refine st_row rfl (.tmp 2) (.tmp 7) rfl H R RL.out (by rfl) (by rfl) (dV Z) (dV_size ZL.out) _ G5.out ?_)
        try simp only [Exit.inBlock, Exit.then]
        refine bodyPost_ret (v := .agg (dV R)) (results_cellW rfl _ _ _ ⟨H, 0, none⟩ _ rfl ?_) rfl ?_
        · exact dig_load RL.out (range_of_row (setRow_heap _ _ _ _ _ _ G5.out))
        · exact ⟨rfl, by rw [← HH.out]; exact below_setRowW B5.out (Nat.le_refl _) _⟩
      | [l], hN, h256, hd, h2, hc, hr =>
        have hl : l.length = 32 := hd l (List.mem_cons_self ..)
        obtain ⟨B, o, hB, hBl, hrg⟩ := hr.range hd (k := 0) (by simp)
        subst hB
        have HRG0 := Lib.hid hrg
        have HL := Lib.hid hl
        rw [troot_one]
        obtain ⟨Z, hZ⟩ : ∃ Z, Z = nz := ⟨_, rfl⟩
        have zl : Z.length = 32 := by rw [hZ]; rfl
        have zlit : (#[.int .u8 0, .int .u8 0, .int .u8 0, .int .u8 0, .int .u8 0, .int .u8 0, .int .u8 0, .int .u8 0, .int .u8 0, .int .u8 0, .int .u8 0, .int .u8 0, .int .u8 0, .int .u8 0, .int .u8 0, .int .u8 0, .int .u8 0, .int .u8 0, .int .u8 0, .int .u8 0, .int .u8 0, .int .u8 0, .int .u8 0, .int .u8 0, .int .u8 0, .int .u8 0, .int .u8 0, .int .u8 0, .int .u8 0, .int .u8 0, .int .u8 0, .int .u8 0] : Array Value) = dV Z := by rw [hZ]; exact zdig
        have ZL := Lib.hid zl
        have ZT := Lib.hid zlit
        have HZ := Lib.hid hZ
        clear zl zlit hZ
        obtain ⟨H, hH⟩ : ∃ H, H = w.heap.size := ⟨_, rfl⟩
        obtain ⟨w0, hw0⟩ : ∃ z, z = w.alloc (.cells (dV Z) 23) := ⟨_, rfl⟩
        have q0 : w0.heap.size = H + 1 := by rw [hw0, hH]; exact World.size_alloc _ _
        have s0 : Below (H) w w0 := by rw [hw0, hH]; exact (Below.refl _ _).alloc (Nat.le_refl _) _
        have t0 : Below (H + 1) w0 w0 := Below.refl _ _
        have bL : Below H w w0 := s0.trans (t0.mono (by omega))
        have g0 : w0.heap[H]? = some (.cells (dV Z) 23 (0, 0)) := by
          have g : w0.heap[H]? = some (.cells (dV Z) 23 (0, 0)) := by rw [hw0, hH]; exact heap_alloc_new _ _
          exact (t0.block _ (by omega)).trans g
        have bW : Below w.heap.size w w0 := by rw [← hH]; exact bL
        have hsz : H < w0.heap.size := by omega
        have HH := Lib.hid hH
        have HW0 := Lib.hid hw0
        have BL := Lib.hid bL
        have BW := Lib.hid bW
        have QL := Lib.hid q0
        have G0 := Lib.hid g0
        clear hH hw0 q0 s0 t0 g0 bL bW
        have HRG := Lib.hid (show w0.rangeAt B (o + 0 * 32) (l.map vB) from fun j v hj => (BW.out.cell (p := ⟨B, o + 0 * 32 + j, none⟩) hBl).trans (HRG0.out j v hj))
        clear hrg hr hd hl hN h2 ih hBl
        go_enter Tryd.func17, Tryd.ntmps17
        go_upto_region 1 with fail
        rw [ZT.out, ← HH.out, ← HW0.out]
        go_wp2_with (first
          | ((refine ld_digG rfl (.tmp 12) rfl B (o + 0 * 32) (by first | rfl | simp) l HL.out HRG.out ?_); simp only [Act.put, List.setIfInBounds_toArray, List.set_cons_zero, List.set_cons_succ])
          | (refine st_row rfl (.tmp 2) (.tmp 13) rfl H l HL.out (by rfl) (by rfl) (dV Z) (dV_size ZL.out) _ G0.out ?_))
        try simp only [Exit.inBlock, Exit.then]
        refine bodyPost_ret (v := .agg (dV l)) (results_cellW rfl _ _ _ ⟨H, 0, none⟩ _ rfl ?_) rfl ?_
        · exact dig_load HL.out (range_of_row (setRow_heap _ _ _ _ _ _ G0.out))
        · exact ⟨rfl, by rw [← HH.out]; exact below_setRowW BL.out (Nat.le_refl _) _⟩
      | _ :: _ :: _, _, _, _, h2, _, _ => exact absurd (by simp) h2
end Go.Proofs.YtkioddmhjbaleaaDoor
