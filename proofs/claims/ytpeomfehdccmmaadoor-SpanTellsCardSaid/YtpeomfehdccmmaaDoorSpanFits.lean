/- Walk: span.fits. -/
import Derived.Test.YtpeomfehdccmmaaDoorSpanFitA
import Derived.Deep.CutBlock
namespace Go.Proofs.YtpeomfehdccmmaaDoor
open Go.RowKit
set_option linter.unusedVariables false
set_option linter.unusedSimpArgs false
set_option maxRecDepth 20000 in
set_option maxHeartbeats 16000000 in
theorem Fits_none (R : List UInt8) (hR : R.length = 32) (n : Nat) (hn : n ≤ 256) (a b fr : Int) (ha : -9223372036854775808 ≤ a ∧ a ≤ 9223372036854775807) (hb : -9223372036854775808 ≤ b ∧ b ≤ 9223372036854775807) (hfr : -9223372036854775808 ≤ fr ∧ fr ≤ 9223372036854775807) (items : List En) (hw : ∀ e ∈ items, EnW e) (ia : Option Addr) (ic ie : Nat) (hil : items.length ≤ 9223372036854775807) (pss : List (List (List UInt8))) (hpl : pss.length = items.length) (vs : List Value) (pa : Option Addr) (pc pe : Nat) (w : World) (hri : Rd w ia ie (cellsE items)) (hrp : Rd w pa pe vs) (hps : PathsAt w pss vs) (hro : RoundsAt w) (h0 : ¬ 0 < items.length) :
    Calls Tryd.prog 60 #[.agg (dV R), .int .i64 (n : Int), .int .i64 a, .int .i64 b, .agg #[.int .i64 fr, .slice ia items.length ic, .slice pa items.length pc]] w fun e w' => e = .returned (.bool (fitsB R n a b fr items pss)) ∧ Below w.heap.size w w' := by
  obtain ⟨H, hH⟩ : ∃ H, H = w.heap.size := ⟨_, rfl⟩
  obtain ⟨v0, hv0⟩ : ∃ z, z = w.alloc (.cells (dV R) 23) := ⟨_, rfl⟩
  obtain ⟨v1, hv1⟩ : ∃ z, z = v0.alloc (.cells #[.int .i64 fr, .slice ia items.length ic, .slice pa items.length pc] 61) := ⟨_, rfl⟩
  have q0 : v0.heap.size = H + 1 := by rw [hv0, hH]; exact World.size_alloc _ _
  have q1 : v1.heap.size = H + 1 + 1 := by rw [hv1, World.size_alloc, q0]
  have s0 : Below (H) w v0 := by rw [hv0, hH]; exact (Below.refl _ _).alloc (Nat.le_refl _) _
  have s1 : Below (H + 1) v0 v1 := by rw [hv1, ← q0]; exact (Below.refl _ _).alloc (Nat.le_refl _) _
  have t1 : Below (H + 1 + 1) v1 v1 := Below.refl _ _
  have t0 : Below (H + 1) v0 v1 := s1.trans (t1.mono (by omega))
  have bL : Below H w v1 := s0.trans (t0.mono (by omega))
  have g0 : v1.heap[H]? = some (.cells (dV R) 23 (0, 0)) := by
    have g : v0.heap[H]? = some (.cells (dV R) 23 (0, 0)) := by rw [hv0, hH]; exact heap_alloc_new _ _
    exact (t0.block _ (by omega)).trans g
  have g1 : v1.heap[H + 1]? = some (.cells #[.int .i64 fr, .slice ia items.length ic, .slice pa items.length pc] 61 (0, 0)) := by
    have g : v1.heap[H + 1]? = some (.cells #[.int .i64 fr, .slice ia items.length ic, .slice pa items.length pc] 61 (0, 0)) := by rw [hv1, ← q0]; exact heap_alloc_new _ _
    exact (t1.block _ (by omega)).trans g
  have bW : Below w.heap.size w v1 := by rw [← hH]; exact bL
  have hsz : H + 1 < v1.heap.size := by omega
  have HH := Lib.hid hH
  have HW0 := Lib.hid hv0
  have HW1 := Lib.hid hv1
  have BL := Lib.hid bL
  have BW := Lib.hid bW
  have QL := Lib.hid q1
  have G0 := Lib.hid g0
  have G1 := Lib.hid g1
  clear hH hv0 hv1 q0 q1 s0 s1 t0 t1 g0 g1 bL bW
  have RL := Lib.hid hR
  have RO := Lib.hid (hro.at_ BW.out)
  have HWW := Lib.hid hw
  have HL := Lib.hid (show ∀ e ∈ items, e.val.length = 32 from fun e he => (hw e he).1)
  have RI := Lib.hid (hri.below BW.out)
  have RP := Lib.hid (hrp.below BW.out)
  have PS := Lib.hid (hps.below BW.out)
  have PN := Lib.hid hpl
  obtain ⟨c0, c1, c2⟩ := rng_cells G1.out
  have C0 := Lib.hid c0
  have C1 := Lib.hid c1
  have C2 := Lib.hid c2
  have HN := Lib.hid hn
  clear hR hro hw hri hrp hps hpl
  have h00 : items.length = 0 := by omega
  have hi0 : items = [] := List.length_eq_zero_iff.1 h00
  have HFB := Lib.hid (show fitsB R n a b fr items pss = decide (n = 0 ∧ fr = 0 ∧ R = shaOf []) by unfold fitsB; rw [dif_neg h0])
  rw [HFB.out]
  have TC := TRootD_calls [] (by decide) (fun _ h => by cases h) none 0 0 (Nat.le_refl _) (by decide) v1 (.inl rfl) RO.out
  rw [troot_nil, show ([] : List (List UInt8)).length = 0 from rfl] at TC
  obtain ⟨X, hX⟩ : ∃ X, X = shaOf [] := ⟨_, rfl⟩
  have XL := Lib.hid (show X.length = 32 by rw [hX]; exact shaOf_length _)
  rw [← hX] at TC ⊢
  have HTC := Lib.hid TC
  rw [h00] at c1 c2 ⊢
  have HW1b := HW1
  rw [h00] at HW1b
  clear TC hX h0 HW1 G1
  by_cases q1 : n = 0
  · have y1 : ((n : Int) == 0) = true := by rw [beq_iff_eq]; omega
    by_cases q2 : fr = 0
    · have y2 : (fr == 0) = true := by rw [beq_iff_eq]; exact q2
      by_cases q3 : R = X
      · have y3 := Lib.hid (show (R == X) = true by rw [q3]; simp)
        rw [decide_eq_true (show n = 0 ∧ fr = 0 ∧ R = X from ⟨q1, q2, q3⟩)]
        clear q1 q2 q3 h00 hi0
        go_enter Tryd.func60, Tryd.ntmps60
        go_upto_region 1 with fail
        rw [← HH.out, ← HW0.out, ← HW1b.out]
        go_wp2_with fail
        refine HTC.out.mono ?_
        rintro e v2 ⟨rfl, hb2⟩
        have G02 := Lib.hid ((hb2.block H (by omega)).trans G0.out)
        have B2 := Lib.hid (BL.out.trans (hb2.mono (by omega)))
        have c02 := (hb2.cell (p := ⟨H + 1, 0, none⟩) hsz).trans c0
        have hs2 : H + 1 < v2.heap.size := Nat.lt_of_lt_of_le hsz hb2.size
        clear hb2 HTC
        obtain ⟨Y, hY⟩ : ∃ Y, Y = v2.heap.size := ⟨_, rfl⟩
        obtain ⟨v3, hv3⟩ : ∃ z, z = v2.alloc (.cells (dV X) 23) := ⟨_, rfl⟩
        have b23 : Below v2.heap.size v2 v3 := by rw [hv3]; exact (Below.refl _ _).alloc (Nat.le_refl _) _
        have GY := Lib.hid (show v3.heap[Y]? = some (.cells (dV X) 23 (0, 0)) by rw [hv3, hY]; exact heap_alloc_new _ _)
        have G03 := Lib.hid ((b23.block H (by omega)).trans G02.out)
        have B3 := Lib.hid (B2.out.trans (b23.mono (by omega)))
        have c03 := (b23.cell (p := ⟨H + 1, 0, none⟩) hs2).trans c02
        have HY := Lib.hid hY
        have HV3 := Lib.hid hv3
        clear hY hv3 b23
        go_wp2_with (first
          | ((refine st_new rfl (.tmp 12) (.tmp 27) rfl X XL.out (by rfl) _ _ (by rfl) (by rfl) ?_); rw [← HY.out, ← HV3.out])
          | ((refine ld_digG rfl (.tmp 5) rfl (H) 0 (by rfl) R RL.out (range_of_row G03.out) ?_); simp only [Act.put, List.setIfInBounds_toArray, List.set_cons_zero, List.set_cons_succ])
          | ((refine ld_digG rfl (.tmp 12) rfl (Y) 0 (by rfl) X XL.out (range_of_row GY.out) ?_); simp only [Act.put, List.setIfInBounds_toArray, List.set_cons_zero, List.set_cons_succ])
          | ((refine eq_digG rfl (.tmp 37) (.tmp 38) _ rfl R X (by rfl) (by rfl) RL.out XL.out ?_); rw [y3.out]; simp only [Act.put, List.setIfInBounds_toArray, List.set_cons_zero, List.set_cons_succ]))
        go_ret
        exact ⟨rfl, by rw [← HH.out]; exact B3.out⟩
      · have y3 := Lib.hid (show (R == X) = false by rw [beq_eq_false_iff_ne]; exact q3)
        rw [decide_eq_false (show ¬ (n = 0 ∧ fr = 0 ∧ R = X) from fun h => q3 h.2.2)]
        clear q1 q2 q3 h00 hi0
        go_enter Tryd.func60, Tryd.ntmps60
        go_upto_region 1 with fail
        rw [← HH.out, ← HW0.out, ← HW1b.out]
        go_wp2_with fail
        refine HTC.out.mono ?_
        rintro e v2 ⟨rfl, hb2⟩
        have G02 := Lib.hid ((hb2.block H (by omega)).trans G0.out)
        have B2 := Lib.hid (BL.out.trans (hb2.mono (by omega)))
        have c02 := (hb2.cell (p := ⟨H + 1, 0, none⟩) hsz).trans c0
        have hs2 : H + 1 < v2.heap.size := Nat.lt_of_lt_of_le hsz hb2.size
        clear hb2 HTC
        obtain ⟨Y, hY⟩ : ∃ Y, Y = v2.heap.size := ⟨_, rfl⟩
        obtain ⟨v3, hv3⟩ : ∃ z, z = v2.alloc (.cells (dV X) 23) := ⟨_, rfl⟩
        have b23 : Below v2.heap.size v2 v3 := by rw [hv3]; exact (Below.refl _ _).alloc (Nat.le_refl _) _
        have GY := Lib.hid (show v3.heap[Y]? = some (.cells (dV X) 23 (0, 0)) by rw [hv3, hY]; exact heap_alloc_new _ _)
        have G03 := Lib.hid ((b23.block H (by omega)).trans G02.out)
        have B3 := Lib.hid (B2.out.trans (b23.mono (by omega)))
        have c03 := (b23.cell (p := ⟨H + 1, 0, none⟩) hs2).trans c02
        have HY := Lib.hid hY
        have HV3 := Lib.hid hv3
        clear hY hv3 b23
        go_wp2_with (first
          | ((refine st_new rfl (.tmp 12) (.tmp 27) rfl X XL.out (by rfl) _ _ (by rfl) (by rfl) ?_); rw [← HY.out, ← HV3.out])
          | ((refine ld_digG rfl (.tmp 5) rfl (H) 0 (by rfl) R RL.out (range_of_row G03.out) ?_); simp only [Act.put, List.setIfInBounds_toArray, List.set_cons_zero, List.set_cons_succ])
          | ((refine ld_digG rfl (.tmp 12) rfl (Y) 0 (by rfl) X XL.out (range_of_row GY.out) ?_); simp only [Act.put, List.setIfInBounds_toArray, List.set_cons_zero, List.set_cons_succ])
          | ((refine eq_digG rfl (.tmp 37) (.tmp 38) _ rfl R X (by rfl) (by rfl) RL.out XL.out ?_); rw [y3.out]; simp only [Act.put, List.setIfInBounds_toArray, List.set_cons_zero, List.set_cons_succ]))
        go_ret
        exact ⟨rfl, by rw [← HH.out]; exact B3.out⟩
    · have y2 : (fr == 0) = false := by rw [beq_eq_false_iff_ne]; exact q2
      rw [decide_eq_false (show ¬ (n = 0 ∧ fr = 0 ∧ R = X) from fun h => q2 h.2.1)]
      clear q1 q2 h00 hi0
      go_enter Tryd.func60, Tryd.ntmps60
      go_upto_region 1 with fail
      rw [← HH.out, ← HW0.out, ← HW1b.out]
      go_wp2_with fail
      refine HTC.out.mono ?_
      rintro e v2 ⟨rfl, hb2⟩
      have G02 := Lib.hid ((hb2.block H (by omega)).trans G0.out)
      have B2 := Lib.hid (BL.out.trans (hb2.mono (by omega)))
      have c02 := (hb2.cell (p := ⟨H + 1, 0, none⟩) hsz).trans c0
      have hs2 : H + 1 < v2.heap.size := Nat.lt_of_lt_of_le hsz hb2.size
      clear hb2 HTC
      obtain ⟨Y, hY⟩ : ∃ Y, Y = v2.heap.size := ⟨_, rfl⟩
      obtain ⟨v3, hv3⟩ : ∃ z, z = v2.alloc (.cells (dV X) 23) := ⟨_, rfl⟩
      have b23 : Below v2.heap.size v2 v3 := by rw [hv3]; exact (Below.refl _ _).alloc (Nat.le_refl _) _
      have GY := Lib.hid (show v3.heap[Y]? = some (.cells (dV X) 23 (0, 0)) by rw [hv3, hY]; exact heap_alloc_new _ _)
      have G03 := Lib.hid ((b23.block H (by omega)).trans G02.out)
      have B3 := Lib.hid (B2.out.trans (b23.mono (by omega)))
      have c03 := (b23.cell (p := ⟨H + 1, 0, none⟩) hs2).trans c02
      have HY := Lib.hid hY
      have HV3 := Lib.hid hv3
      clear hY hv3 b23
      go_wp2_with (first
        | ((refine st_new rfl (.tmp 12) (.tmp 27) rfl X XL.out (by rfl) _ _ (by rfl) (by rfl) ?_); rw [← HY.out, ← HV3.out]))
      go_ret
      exact ⟨rfl, by rw [← HH.out]; exact B3.out⟩
  · have y1 : ((n : Int) == 0) = false := by rw [beq_eq_false_iff_ne]; omega
    rw [decide_eq_false (show ¬ (n = 0 ∧ fr = 0 ∧ R = X) from fun h => q1 h.1)]
    clear q1 h00 hi0
    go_enter Tryd.func60, Tryd.ntmps60
    go_upto_region 1 with fail
    rw [← HH.out, ← HW0.out, ← HW1b.out]
    go_wp2_with fail
    refine HTC.out.mono ?_
    rintro e v2 ⟨rfl, hb2⟩
    have G02 := Lib.hid ((hb2.block H (by omega)).trans G0.out)
    have B2 := Lib.hid (BL.out.trans (hb2.mono (by omega)))
    have c02 := (hb2.cell (p := ⟨H + 1, 0, none⟩) hsz).trans c0
    have hs2 : H + 1 < v2.heap.size := Nat.lt_of_lt_of_le hsz hb2.size
    clear hb2 HTC
    obtain ⟨Y, hY⟩ : ∃ Y, Y = v2.heap.size := ⟨_, rfl⟩
    obtain ⟨v3, hv3⟩ : ∃ z, z = v2.alloc (.cells (dV X) 23) := ⟨_, rfl⟩
    have b23 : Below v2.heap.size v2 v3 := by rw [hv3]; exact (Below.refl _ _).alloc (Nat.le_refl _) _
    have GY := Lib.hid (show v3.heap[Y]? = some (.cells (dV X) 23 (0, 0)) by rw [hv3, hY]; exact heap_alloc_new _ _)
    have G03 := Lib.hid ((b23.block H (by omega)).trans G02.out)
    have B3 := Lib.hid (B2.out.trans (b23.mono (by omega)))
    have c03 := (b23.cell (p := ⟨H + 1, 0, none⟩) hs2).trans c02
    have HY := Lib.hid hY
    have HV3 := Lib.hid hv3
    clear hY hv3 b23
    go_wp2_with (first
      | ((refine st_new rfl (.tmp 12) (.tmp 27) rfl X XL.out (by rfl) _ _ (by rfl) (by rfl) ?_); rw [← HY.out, ← HV3.out]))
    go_ret
    exact ⟨rfl, by rw [← HH.out]; exact B3.out⟩
set_option maxRecDepth 20000 in
set_option maxHeartbeats 16000000 in
theorem Fits_some (R : List UInt8) (hR : R.length = 32) (n : Nat) (hn : n ≤ 256) (a b fr : Int) (ha : -9223372036854775808 ≤ a ∧ a ≤ 9223372036854775807) (hb : -9223372036854775808 ≤ b ∧ b ≤ 9223372036854775807) (hfr : -9223372036854775808 ≤ fr ∧ fr ≤ 9223372036854775807) (items : List En) (hw : ∀ e ∈ items, EnW e) (ia : Option Addr) (ic ie : Nat) (hil : items.length ≤ 9223372036854775807) (pss : List (List (List UInt8))) (hpl : pss.length = items.length) (vs : List Value) (pa : Option Addr) (pc pe : Nat) (w : World) (hri : Rd w ia ie (cellsE items)) (hrp : Rd w pa pe vs) (hps : PathsAt w pss vs) (hro : RoundsAt w) (h0 : 0 < items.length) :
    Calls Tryd.prog 60 #[.agg (dV R), .int .i64 (n : Int), .int .i64 a, .int .i64 b, .agg #[.int .i64 fr, .slice ia items.length ic, .slice pa items.length pc]] w fun e w' => e = .returned (.bool (fitsB R n a b fr items pss)) ∧ Below w.heap.size w w' := by
  obtain ⟨H, hH⟩ : ∃ H, H = w.heap.size := ⟨_, rfl⟩
  obtain ⟨v0, hv0⟩ : ∃ z, z = w.alloc (.cells (dV R) 23) := ⟨_, rfl⟩
  obtain ⟨v1, hv1⟩ : ∃ z, z = v0.alloc (.cells #[.int .i64 fr, .slice ia items.length ic, .slice pa items.length pc] 61) := ⟨_, rfl⟩
  have q0 : v0.heap.size = H + 1 := by rw [hv0, hH]; exact World.size_alloc _ _
  have q1 : v1.heap.size = H + 1 + 1 := by rw [hv1, World.size_alloc, q0]
  have s0 : Below (H) w v0 := by rw [hv0, hH]; exact (Below.refl _ _).alloc (Nat.le_refl _) _
  have s1 : Below (H + 1) v0 v1 := by rw [hv1, ← q0]; exact (Below.refl _ _).alloc (Nat.le_refl _) _
  have t1 : Below (H + 1 + 1) v1 v1 := Below.refl _ _
  have t0 : Below (H + 1) v0 v1 := s1.trans (t1.mono (by omega))
  have bL : Below H w v1 := s0.trans (t0.mono (by omega))
  have g0 : v1.heap[H]? = some (.cells (dV R) 23 (0, 0)) := by
    have g : v0.heap[H]? = some (.cells (dV R) 23 (0, 0)) := by rw [hv0, hH]; exact heap_alloc_new _ _
    exact (t0.block _ (by omega)).trans g
  have g1 : v1.heap[H + 1]? = some (.cells #[.int .i64 fr, .slice ia items.length ic, .slice pa items.length pc] 61 (0, 0)) := by
    have g : v1.heap[H + 1]? = some (.cells #[.int .i64 fr, .slice ia items.length ic, .slice pa items.length pc] 61 (0, 0)) := by rw [hv1, ← q0]; exact heap_alloc_new _ _
    exact (t1.block _ (by omega)).trans g
  have bW : Below w.heap.size w v1 := by rw [← hH]; exact bL
  have hsz : H + 1 < v1.heap.size := by omega
  have HH := Lib.hid hH
  have HW0 := Lib.hid hv0
  have HW1 := Lib.hid hv1
  have BL := Lib.hid bL
  have BW := Lib.hid bW
  have QL := Lib.hid q1
  have G0 := Lib.hid g0
  have G1 := Lib.hid g1
  clear hH hv0 hv1 q0 q1 s0 s1 t0 t1 g0 g1 bL bW
  have RL := Lib.hid hR
  have RO := Lib.hid (hro.at_ BW.out)
  have HWW := Lib.hid hw
  have HL := Lib.hid (show ∀ e ∈ items, e.val.length = 32 from fun e he => (hw e he).1)
  have RI := Lib.hid (hri.below BW.out)
  have RP := Lib.hid (hrp.below BW.out)
  have PS := Lib.hid (hps.below BW.out)
  have PN := Lib.hid hpl
  obtain ⟨c0, c1, c2⟩ := rng_cells G1.out
  have C0 := Lib.hid c0
  have C1 := Lib.hid c1
  have C2 := Lib.hid c2
  have HN := Lib.hid hn
  clear hR hro hw hri hrp hps hpl
  obtain ⟨F, hF⟩ : ∃ F, F = fitsB R n a b fr items pss := ⟨_, rfl⟩
  have HF := Lib.hid hF
  rw [← hF]
  obtain ⟨pb, po, hpa, hpb, hpcc⟩ := RP.out.cell (k := 0) (by rw [PS.out.1, PN.out]; exact h0)
  subst hpa
  have HPC := Lib.hid hpcc
  obtain ⟨m, hm⟩ : ∃ m : Nat, m = items.length - 1 := ⟨_, rfl⟩
  have hm1 : m < items.length := by omega
  obtain ⟨ib, io, hia, hib, hrg0⟩ := RI.out.ent HL.out h0
  subst hia
  obtain ⟨ib2, io2, hia2, hib2, hrgm⟩ := RI.out.ent HL.out hm1
  obtain ⟨rfl, rfl⟩ : ib = ib2 ∧ io = io2 := by simpa using hia2
  have k0 := range_ekey hrg0
  have km := range_ekey hrgm
  obtain ⟨K0, hK0⟩ : ∃ K0, K0 = items[0].key := ⟨_, rfl⟩
  obtain ⟨KM, hKM⟩ : ∃ KM, KM = items[m].key := ⟨_, rfl⟩
  rw [← hK0, Nat.zero_mul, Nat.add_zero] at k0
  rw [← hKM] at km
  have hfb : fitsB R n a b fr items pss = if (fr ≠ 0 ∧ a ≤ K0) ∨ (fr ≠ (n : Int) - (items.length : Int) ∧ KM ≤ b) then false else fitS R n fr none 0 items pss := by
    unfold fitsB
    rw [dif_pos h0, hK0, hKM]
    simp only [hm]
  rw [hfb] at hF
  have e1 : IntKind.i64.wrap ((items.length : Int) - 1) = (m : Int) := by rw [IntWalk.i64_in _ (by omega)]; omega
  have e2 : IntKind.i64.wrap ((n : Int) - 1) = (n : Int) - 1 := IntWalk.i64_in _ (by omega)
  have e3 : IntKind.i64.wrap ((n : Int) - 1 - (m : Int)) = (n : Int) - 1 - (m : Int) := IntWalk.i64_in _ (by omega)
  have m0 : (0 : Int) ≤ (m : Int) := by omega
  have m1 : (m : Int) < (items.length : Int) := by omega
  have z0 : (0 : Int) < (items.length : Int) := by omega
  have LIB := Lib.hid hib
  have LPB := Lib.hid hpb
  have HS0 := Lib.hid (show fitS R n fr (prevK items 0) 0 (items.drop 0) (pss.drop 0) = fitS R n fr none 0 items pss by rw [prevK_zero, List.drop_zero, List.drop_zero])
  clear hrg0 hrgm hia2 hib2 hK0 hKM hfb hib hpb hpcc
  obtain ⟨ob, hob⟩ : ∃ ob, ob = decide ((fr ≠ 0 ∧ a ≤ K0) ∨ (fr ≠ (n : Int) - (items.length : Int) ∧ KM ≤ b)) := ⟨_, rfl⟩
  have HOB := Lib.hid hob
  have HFV := Lib.hid hF
  have HM := Lib.hid hm
  clear hob hF hm
  go_enter Tryd.func60, Tryd.ntmps60
  go_upto_region 1 with fail
  rw [← HH.out, ← HW0.out, ← HW1.out]
  go_upto_region 5 with fail
  go_cut [4, 71] from 41 to 71 (fun s4 s wx => s4 = .agg #[.int .i64 fr, .slice (some ⟨ib, io, none⟩) items.length ic, .slice (some ⟨pb, po, none⟩) items.length pc] ∧ s = .bool ob ∧ v1 = wx)
  case first =>
    by_cases hc1 : fr = 0
    · have y1 : (fr != 0) = false := by rw [bne_eq_false_iff_eq]; exact hc1
      by_cases hc3 : fr = (n : Int) - 1 - (m : Int)
      · have y3 : (fr != (n : Int) - 1 - (m : Int)) = false := by rw [bne_eq_false_iff_eq]; exact hc3
        have hv : ob = false := by have hm := HM.out; rw [HOB.out]; exact decide_eq_false (by omega)
        subst hv
        have HC1 := Lib.hid hc1
        try have HC3 := Lib.hid hc3
        try clear hc1
        try clear hc2
        try clear hc3
        try clear hc4
        go_wp2_with fail
        go_meet
        exact ⟨by first | rfl | (rw [HC1.out]) | (rw [HC3.out]) | (rw [← HC3.out, HC1.out]) | (rw [← HC3.out]), rfl, rfl⟩
      · have y3 : (fr != (n : Int) - 1 - (m : Int)) = true := by rw [bne_iff_ne]; exact hc3
        by_cases hc4 : KM ≤ b
        · have y4 : decide (KM ≤ b) = true := decide_eq_true hc4
          have hv : ob = true := by have hm := HM.out; rw [HOB.out]; exact decide_eq_true (by omega)
          subst hv
          have HC1 := Lib.hid hc1
          try have HC3 := Lib.hid hc3
          try clear hc1
          try clear hc2
          try clear hc3
          try clear hc4
          go_wp2_with fail
          go_meet
          exact ⟨by first | rfl | (rw [HC1.out]) | (rw [HC3.out]) | (rw [← HC3.out, HC1.out]) | (rw [← HC3.out]), rfl, rfl⟩
        · have y4 : decide (KM ≤ b) = false := decide_eq_false hc4
          have hv : ob = false := by have hm := HM.out; rw [HOB.out]; exact decide_eq_false (by omega)
          subst hv
          have HC1 := Lib.hid hc1
          try have HC3 := Lib.hid hc3
          try clear hc1
          try clear hc2
          try clear hc3
          try clear hc4
          go_wp2_with fail
          go_meet
          exact ⟨by first | rfl | (rw [HC1.out]) | (rw [HC3.out]) | (rw [← HC3.out, HC1.out]) | (rw [← HC3.out]), rfl, rfl⟩
    · have y1 : (fr != 0) = true := by rw [bne_iff_ne]; exact hc1
      by_cases hc2 : a ≤ K0
      · have y2 : decide (a ≤ K0) = true := decide_eq_true hc2
        have hv : ob = true := by have hm := HM.out; rw [HOB.out]; exact decide_eq_true (by omega)
        subst hv
        have HC1 := Lib.hid hc1
        try have HC3 := Lib.hid hc3
        try clear hc1
        try clear hc2
        try clear hc3
        try clear hc4
        go_wp2_with fail
        go_meet
        exact ⟨by first | rfl | (rw [HC1.out]) | (rw [HC3.out]) | (rw [← HC3.out, HC1.out]) | (rw [← HC3.out]), rfl, rfl⟩
      · have y2 : decide (a ≤ K0) = false := decide_eq_false hc2
        by_cases hc3 : fr = (n : Int) - 1 - (m : Int)
        · have y3 : (fr != (n : Int) - 1 - (m : Int)) = false := by rw [bne_eq_false_iff_eq]; exact hc3
          have hv : ob = false := by have hm := HM.out; rw [HOB.out]; exact decide_eq_false (by omega)
          subst hv
          have HC1 := Lib.hid hc1
          try have HC3 := Lib.hid hc3
          try clear hc1
          try clear hc2
          try clear hc3
          try clear hc4
          go_wp2_with fail
          go_meet
          exact ⟨by first | rfl | (rw [HC1.out]) | (rw [HC3.out]) | (rw [← HC3.out, HC1.out]) | (rw [← HC3.out]), rfl, rfl⟩
        · have y3 : (fr != (n : Int) - 1 - (m : Int)) = true := by rw [bne_iff_ne]; exact hc3
          by_cases hc4 : KM ≤ b
          · have y4 : decide (KM ≤ b) = true := decide_eq_true hc4
            have hv : ob = true := by have hm := HM.out; rw [HOB.out]; exact decide_eq_true (by omega)
            subst hv
            have HC1 := Lib.hid hc1
            try have HC3 := Lib.hid hc3
            try clear hc1
            try clear hc2
            try clear hc3
            try clear hc4
            go_wp2_with fail
            go_meet
            exact ⟨by first | rfl | (rw [HC1.out]) | (rw [HC3.out]) | (rw [← HC3.out, HC1.out]) | (rw [← HC3.out]), rfl, rfl⟩
          · have y4 : decide (KM ≤ b) = false := decide_eq_false hc4
            have hv : ob = false := by have hm := HM.out; rw [HOB.out]; exact decide_eq_false (by omega)
            subst hv
            have HC1 := Lib.hid hc1
            try have HC3 := Lib.hid hc3
            try clear hc1
            try clear hc2
            try clear hc3
            try clear hc4
            go_wp2_with fail
            go_meet
            exact ⟨by first | rfl | (rw [HC1.out]) | (rw [HC3.out]) | (rw [← HC3.out, HC1.out]) | (rw [← HC3.out]), rfl, rfl⟩
  case rest =>
  obtain ⟨rfl, rfl, rfl⟩ := hcut
  clear k0 km e3 m0 m1 z0
  by_cases hob : ob = true
  · have hf : F = false := by
      have h1 := HOB.out
      rw [hob] at h1
      rw [HFV.out, if_pos (of_decide_eq_true h1.symm)]
    subst hf
    subst hob
    go_wp2_with fail
    go_ret
    exact ⟨rfl, BW.out⟩
  · have hob2 : ob = false := by simpa using hob
    have hF : F = fitS R n fr none 0 items pss := by
      have h1 := HOB.out
      rw [hob2] at h1
      rw [HFV.out, if_neg (of_decide_eq_false h1.symm)]
    subst hob2
    clear hob HFV HOB HF
    have hm := HM.out
    have HG0 := Lib.hid (HS0.out.trans hF.symm)
    clear hF hm
    try clear hc1
    try clear hc2
    try clear hc3
    try clear hc4
    go_wp2_with fail
    go_loopw [75] (fun iv wr => ∃ k : Nat, k ≤ items.length ∧ iv = .int .i64 (k : Int) ∧ Hid (fitS R n fr (prevK items k) k (items.drop k) (pss.drop k) = F) ∧ Hid (k = 0 ∨ (0 ≤ fr ∧ fr + (k : Int) ≤ (n : Int))) ∧ Hid (Below v1.heap.size v1 wr)) (fun iv _ => items.length - (intOf iv).toNat)
    case atStart => exact ⟨0, Nat.zero_le _, rfl, HG0, Lib.hid (.inl rfl), Lib.hid (Below.refl _ _)⟩
    case round =>
      obtain ⟨k, hk, rfl, HG, HQ, HBL⟩ := hrel
      obtain ⟨wA, rfl⟩ : ∃ z, z = wr := ⟨_, rfl⟩
      by_cases hlt : k < items.length
      · obtain ⟨b, o, hab, hb, hrg⟩ := (RI.out.below HBL.out).ent HL.out hlt
        obtain ⟨rfl, rfl⟩ : ib = b ∧ io = o := by simpa using hab
        have hltp : k < pss.length := by rw [PN.out]; exact hlt
        have hg := HG.out
        rw [List.drop_eq_getElem_cons hlt, List.drop_eq_getElem_cons hltp, fitS_cons] at hg
        have hpk := prevK_succ items k hlt
        obtain ⟨hpd, xa, xc, xe, hvk, hxr⟩ := PS.out.2 k hltp
        obtain ⟨E, hE⟩ : ∃ E, E = items[k] := ⟨_, rfl⟩
        have hEW : EnW E := by rw [hE]; exact HWW.out _ (List.getElem_mem _)
        obtain ⟨ps, hps⟩ : ∃ p, p = pss[k] := ⟨_, rfl⟩
        rw [← hE] at hg hpk hrg
        rw [← hps] at hg hpd hvk hxr
        have hvl : k < vs.length := by rw [PS.out.1]; exact hltp
        have fp0 : v1.cell? ⟨pb, po + k, none⟩ = some (.slice xa ps.length xc) := by
          rw [HPC.out k hvl, ← List.getElem?_eq_getElem hvl]; exact hvk
        have j0 : (0 : Int) ≤ (k : Int) := by omega
        have j1 : (k : Int) < (items.length : Int) := by omega
        have e4 : IntKind.i64.wrap ((k : Int) + 1) = (k : Int) + 1 := IntWalk.i64_in _ (by omega)
        obtain ⟨Y, hY⟩ : ∃ Y, Y = wA.heap.size := ⟨_, rfl⟩
        obtain ⟨wB, hwB⟩ : ∃ z, z = wA.alloc (.cells (eV E.key E.val) 35) := ⟨_, rfl⟩
        have bAB : Below wA.heap.size wA wB := by rw [hwB]; exact (Below.refl _ _).alloc (Nat.le_refl _) _
        have GY := Lib.hid (show wB.heap[Y]? = some (.cells (eV E.key E.val) 35 (0, 0)) by rw [hwB, hY]; exact heap_alloc_new _ _)
        have BB := Lib.hid (HBL.out.trans (bAB.mono HBL.out.size))
        have HY := Lib.hid hY
        have HWB := Lib.hid hwB
        have HEW := Lib.hid hEW
        have HRG := Lib.hid hrg
        have HPK := Lib.hid hpk
        have HPD := Lib.hid hpd
        have HXR := Lib.hid hxr
        have HFP0 := Lib.hid fp0
        clear hpk hE hEW hrg hps hY hwB bAB hb HG hab hltp hpd hxr hvk hvl fp0 c0 c1 c2
        by_cases hko : KeyOk E.key
        · have LC := SLeaf_ok E HEW.out hko wB (RO.out.at_ BB.out)
          obtain ⟨D, hD⟩ : ∃ D, D = itemD E := ⟨_, rfl⟩
          have DL := Lib.hid (show D.length = 32 by rw [hD]; exact itemD_length E)
          rw [← hD] at LC
          have HLC := Lib.hid LC
          have HDD := Lib.hid hD
          have HG2 := Lib.hid hg
          clear LC hD hg
          go_wp2_with (first
            | ((refine ld_entG rfl (.tmp 78) rfl ib (io + k * 33) (by rfl) E HEW.out.1 HRG.out ?_); simp only [Act.put, List.setIfInBounds_toArray, List.set_cons_zero, List.set_cons_succ])
              | ((refine st_entNew rfl (.tmp 15) (.tmp 79) rfl E HEW.out.1 (by rfl) _ _ (by rfl) (by rfl) ?_); rw [← HY.out, ← HWB.out])
              | ((refine ld_entG rfl (.tmp 15) rfl Y 0 (by rfl) E HEW.out.1 (range_ent GY.out) ?_); simp only [Act.put, List.setIfInBounds_toArray, List.set_cons_zero, List.set_cons_succ]))
          refine HLC.out.mono ?_
          rintro e wC ⟨rfl, hbC⟩
          have GYC := Lib.hid ((hbC.block Y (lt_of_heap GY.out)).trans GY.out)
          have BC := Lib.hid (BB.out.trans (hbC.mono BB.out.size))
          obtain ⟨V, hV⟩ : ∃ V, V = wC.heap.size := ⟨_, rfl⟩
          obtain ⟨wD, hwD⟩ : ∃ z, z = wC.alloc (.cells (dV D) 23) := ⟨_, rfl⟩
          have bCD : Below wC.heap.size wC wD := by rw [hwD]; exact (Below.refl _ _).alloc (Nat.le_refl _) _
          have GV := Lib.hid (show wD.heap[V]? = some (.cells (dV D) 23 (0, 0)) by rw [hwD, hV]; exact heap_alloc_new _ _)
          have GYD := Lib.hid ((bCD.block Y (lt_of_heap GYC.out)).trans GYC.out)
          have BD := Lib.hid (BC.out.trans (bCD.mono BC.out.size))
          have GHD := Lib.hid ((BD.out.block H (by omega)).trans G0.out)
          have HV := Lib.hid hV
          have HWD := Lib.hid hwD
          clear hbC hV hwD bCD HLC GY GYC
          have ck : wD.cell? ⟨Y, 0, none⟩ = some (.int .i64 E.key) := eV_key GYD.out
          have d0 := (BD.out.cell (p := ⟨H + 1, 0, none⟩) hsz).trans C0.out
          have d1 := (BD.out.cell (p := ⟨H + 1, 1, none⟩) hsz).trans C1.out
          have d2 := (BD.out.cell (p := ⟨H + 1, 2, none⟩) hsz).trans C2.out
          have HFP := Lib.hid ((BD.out.cell (p := ⟨pb, po + k, none⟩) LPB.out).trans HFP0.out)
          by_cases hk0 : k = 0
          · have zk : decide (0 < k) = false := decide_eq_false (by omega)
            have zk2 : decide ((0 : Int) < (k : Int)) = false := decide_eq_false (by omega)
            have hkb := Lib.hid (show KeyOk E.key ∧ badK (prevK items k) E.key = false from ⟨hko, by rw [hk0]; rfl⟩)
            clear hk0
            by_cases hn0 : fr < 0
            · have x1 : decide (fr < 0) = true := decide_eq_true hn0
              have hg3 := HG2.out
              rw [if_neg (fun h => by have := h.2.2.1; omega)] at hg3
              subst hg3
              clear HG2
              go_wp2_with ((refine st_new rfl (.tmp 16) (.tmp 83) rfl D DL.out (by rfl) _ _ (by rfl) (by rfl) ?_); rw [← HV.out, ← HWD.out])
              go_quiet (fail)
              go_wp2_with fail
              go_ret
              exact ⟨rfl, BW.out.trans ((below_drewN BD.out _).mono BW.out.size)⟩
            · have x1 : decide (fr < 0) = false := decide_eq_false hn0
              by_cases hnn : (n : Int) ≤ fr
              · have x2 : decide ((n : Int) ≤ fr) = true := decide_eq_true hnn
                have hg3 := HG2.out
                rw [if_neg (fun h => by have := h.2.2.2.2.1; omega)] at hg3
                subst hg3
                clear HG2
                go_wp2_with ((refine st_new rfl (.tmp 16) (.tmp 83) rfl D DL.out (by rfl) _ _ (by rfl) (by rfl) ?_); rw [← HV.out, ← HWD.out])
                go_quiet (fail)
                go_wp2_with fail
                go_ret
                exact ⟨rfl, BW.out.trans ((below_drewN BD.out _).mono BW.out.size)⟩
              · have x2 : decide ((n : Int) ≤ fr) = false := decide_eq_false hnn
                have h0q : 0 ≤ fr := by omega
                have h1q : fr < (n : Int) := by omega
                have h2q : fr + (k : Int) ≤ (n : Int) := by
                  rcases HQ.out with h | h
                  · omega
                  · exact h.2
                obtain ⟨q, hq⟩ : ∃ q : Nat, q = fr.toNat + k := ⟨_, rfl⟩
                have eq : IntKind.i64.wrap (fr + (k : Int)) = (q : Int) := by rw [IntWalk.i64_in _ (by omega)]; omega
                obtain ⟨D2, er, hd2, hfc, hend⟩ := Fold_three n HN.out fr k h0q h1q h2q D DL.out ps HPD.out xa xc xe wD (HXR.out.below BD.out) (RO.out.at_ BD.out)
                have hg2 := HG2.out
                rw [← hq] at hfc hend hg2
                have D2L := Lib.hid hd2
                have HEND := Lib.hid hend
                clear HG2 hq
                have HG2 := Lib.hid hg2
                clear hg2 hd2 hend
                go_wp2_with ((refine st_new rfl (.tmp 16) (.tmp 83) rfl D DL.out (by rfl) _ _ (by rfl) (by rfl) ?_); rw [← HV.out, ← HWD.out])
                go_quiet (fail)
                obtain ⟨wN, hwN⟩ : ∃ z, z = wD.drewN nq := ⟨_, rfl⟩
                have bDN : Below wD.heap.size wD wN := by rw [hwN]; exact below_drewN (Below.refl _ _) nq
                have hszN : wN.heap.size = wD.heap.size := by rw [hwN]; rfl
                have HFC := Lib.hid (fun (w' : World) (hb : Below wN.heap.size wN w') => hfc w' (bDN.trans (by rw [← hszN]; exact hb)))
                have GN : wN.heap[V]? = some (.cells (dV D) 23 (0, 0)) := by rw [hwN]; exact GV.out
                have GHN := Lib.hid (show wN.heap[H]? = some (.cells (dV R) 23 (0, 0)) by rw [hwN]; exact GHD.out)
                have lHN : H < wN.heap.size := lt_of_heap GHN.out
                have lH1 : H + 1 < wN.heap.size := by rw [hszN]; exact Nat.lt_of_lt_of_le hsz BD.out.size
                have lpb : pb < wN.heap.size := by rw [hszN]; exact Nat.lt_of_lt_of_le LPB.out BD.out.size
                have f0 : wN.cell? ⟨H + 1, 0, none⟩ = some (.int .i64 fr) := by rw [hwN]; exact d0
                have f2 : wN.cell? ⟨H + 1, 2, none⟩ = some (.slice (some ⟨pb, po, none⟩) items.length pc) := by rw [hwN]; exact d2
                have fp : wN.cell? ⟨pb, po + k, none⟩ = some (.slice xa ps.length xc) := by rw [hwN]; exact HFP.out
                have KP := Lib.hid (show ∀ w', Below wN.heap.size wN w' → (w'.rangeAt V 0 (D.map vB) ∧ w'.cell? ⟨H + 1, 0, none⟩ = some (.int .i64 fr) ∧ w'.cell? ⟨H + 1, 2, none⟩ = some (.slice (some ⟨pb, po, none⟩) items.length pc) ∧ w'.cell? ⟨pb, po + k, none⟩ = some (.slice xa ps.length xc)) from fun w' hb => ⟨range_keep hb (range_of_row GN) (lt_of_heap GN), cell_keep hb f0 lH1, cell_keep hb f2 lH1, cell_keep hb fp lpb⟩)
                have BN := Lib.hid (show Below v1.heap.size v1 wN by rw [hwN]; exact below_drewN BD.out nq)
                rw [← hwN]
                clear hwN bDN hszN hfc GN lH1 lpb f0 f2 fp h2q d0 d1 d2 ck
                have hdinfo : (Tryd.prog.info? 23).map (·.size) = some (D.map vB).length := by rw [List.length_map, DL.out]; exact dig_size
                go_wp2_with fail
                apply region_joinE (S := fun Y w' => w'.heap[Y]? = some (.cells (dV D2) 23 (0, 0)) ∧ Below wN.heap.size wN w')
                case h =>
                  refine wp_region_held_drew (S := fun w' => w'.rangeAt V 0 (D.map vB) ∧ w'.cell? ⟨H + 1, 0, none⟩ = some (.int .i64 fr) ∧ w'.cell? ⟨H + 1, 2, none⟩ = some (.slice (some ⟨pb, po, none⟩) items.length pc) ∧ w'.cell? ⟨pb, po + k, none⟩ = some (.slice xa ps.length xc)) (by kernel_rfl) (KP.out wN.drew ((Below.refl _ _).drew)) (fun hHeld => ?_)
                  obtain ⟨wR, hwR⟩ : ∃ z, z = wN.drew := ⟨_, rfl⟩
                  have BwR := Lib.hid (show Below wN.heap.size wN wR by rw [hwR]; exact (Below.refl _ _).drew)
                  rw [← hwR] at hHeld ⊢
                  clear hwR
                  refine wpAnyH_take (i := 0) (oi := _) (v := _) rfl (by kernel_rfl) (by kernel_rfl) (by kernel_rfl) (by rintro _ _ _ ⟨_, h1, _⟩; cases h1) (yieldsIf_load_mid (by rfl) _ _ rfl _ _ rfl (D.map vB) _ (fun w hw => hw.1) Tryd.underlying23 rfl hdinfo) hHeld ?_
                  simp only [Act.put, List.getElem_toArray, List.getElem_cons_zero, List.getElem_cons_succ, List.setIfInBounds_toArray, List.set_cons_zero, List.set_cons_succ]
                  refine wpAnyH_take (i := 1) (oi := _) (v := .pointer (some ⟨H + 1, 0, none⟩)) rfl (by kernel_rfl) (by kernel_rfl) (by kernel_rfl) (by rintro _ _ _ ⟨_, h1, _⟩; cases h1) (Or.inl ⟨by rfl, fun w hw => by go_simp⟩) hHeld ?_
                  simp only [Act.put, List.getElem_toArray, List.getElem_cons_zero, List.getElem_cons_succ, List.setIfInBounds_toArray, List.set_cons_zero, List.set_cons_succ]
                  refine wpAnyH_take (i := 2) (oi := _) (v := .int .i64 fr) rfl (by kernel_rfl) (by kernel_rfl) (by kernel_rfl) (by rintro _ _ _ ⟨_, h1, _⟩; cases h1) (Or.inl ⟨by rfl, fun w hw => by have hc := hw.2.1; clear hw; go_simp⟩) hHeld ?_
                  simp only [Act.put, List.getElem_toArray, List.getElem_cons_zero, List.getElem_cons_succ, List.setIfInBounds_toArray, List.set_cons_zero, List.set_cons_succ]
                  refine wpAnyH_take (i := 3) (oi := _) (v := .int .i64 (k : Int)) rfl (by kernel_rfl) (by kernel_rfl) (by kernel_rfl) (by rintro _ _ _ ⟨_, h1, _⟩; cases h1) (Or.inl ⟨by rfl, fun w hw => by go_simp⟩) hHeld ?_
                  simp only [Act.put, List.getElem_toArray, List.getElem_cons_zero, List.getElem_cons_succ, List.setIfInBounds_toArray, List.set_cons_zero, List.set_cons_succ]
                  refine wpAnyH_take (i := 4) (oi := _) (v := .int .i64 (q : Int)) rfl (by kernel_rfl) (by kernel_rfl) (by kernel_rfl) (by rintro _ _ _ ⟨_, h1, _⟩; cases h1) (Or.inl ⟨by rfl, fun w hw => by go_simp⟩) hHeld ?_
                  simp only [Act.put, List.getElem_toArray, List.getElem_cons_zero, List.getElem_cons_succ, List.setIfInBounds_toArray, List.set_cons_zero, List.set_cons_succ]
                  refine wpAnyH_take (i := 5) (oi := _) (v := .int .i64 (n : Int)) rfl (by kernel_rfl) (by kernel_rfl) (by kernel_rfl) (by rintro _ _ _ ⟨_, h1, _⟩; cases h1) (Or.inl ⟨by rfl, fun w hw => by go_simp⟩) hHeld ?_
                  simp only [Act.put, List.getElem_toArray, List.getElem_cons_zero, List.getElem_cons_succ, List.setIfInBounds_toArray, List.set_cons_zero, List.set_cons_succ]
                  refine wpAnyH_take (i := 6) (oi := _) (v := .pointer (some ⟨H + 1, 2, none⟩)) rfl (by kernel_rfl) (by kernel_rfl) (by kernel_rfl) (by rintro _ _ _ ⟨_, h1, _⟩; cases h1) (Or.inl ⟨by rfl, fun w hw => by go_simp⟩) hHeld ?_
                  simp only [Act.put, List.getElem_toArray, List.getElem_cons_zero, List.getElem_cons_succ, List.setIfInBounds_toArray, List.set_cons_zero, List.set_cons_succ]
                  refine wpAnyH_take (i := 7) (oi := _) (v := .slice (some ⟨pb, po, none⟩) items.length pc) rfl (by kernel_rfl) (by kernel_rfl) (by kernel_rfl) (by rintro _ _ _ ⟨_, h1, _⟩; cases h1) (Or.inl ⟨by rfl, fun w hw => by have hc := hw.2.2.1; clear hw; go_simp⟩) hHeld ?_
                  simp only [Act.put, List.getElem_toArray, List.getElem_cons_zero, List.getElem_cons_succ, List.setIfInBounds_toArray, List.set_cons_zero, List.set_cons_succ]
                  refine wpAnyH_take (i := 8) (oi := _) (v := .int .i64 (k : Int)) rfl (by kernel_rfl) (by kernel_rfl) (by kernel_rfl) (by rintro _ _ _ ⟨_, h1, _⟩; cases h1) (Or.inl ⟨by rfl, fun w hw => by go_simp⟩) hHeld ?_
                  simp only [Act.put, List.getElem_toArray, List.getElem_cons_zero, List.getElem_cons_succ, List.setIfInBounds_toArray, List.set_cons_zero, List.set_cons_succ]
                  refine wpAnyH_take (i := 9) (oi := _) (v := .pointer (some ⟨pb, po + k, none⟩)) rfl (by kernel_rfl) (by kernel_rfl) (by kernel_rfl) (by rintro _ _ _ ⟨_, h1, _⟩; cases h1) (Or.inl ⟨by rfl, fun w hw => by go_simp⟩) hHeld ?_
                  simp only [Act.put, List.getElem_toArray, List.getElem_cons_zero, List.getElem_cons_succ, List.setIfInBounds_toArray, List.set_cons_zero, List.set_cons_succ]
                  refine wpAnyH_take (i := 10) (oi := _) (v := .slice xa ps.length xc) rfl (by kernel_rfl) (by kernel_rfl) (by kernel_rfl) (by rintro _ _ _ ⟨_, h1, _⟩; cases h1) (Or.inl ⟨by rfl, fun w hw => by have hc := hw.2.2.2; clear hw; go_simp⟩) hHeld ?_
                  simp only [Act.put, List.getElem_toArray, List.getElem_cons_zero, List.getElem_cons_succ, List.setIfInBounds_toArray, List.set_cons_zero, List.set_cons_succ]
                  refine wpAnyH_ready (rs := [11, 15]) (by kernel_rfl) (by simp) ?_
                  refine AllReadyH.cons (o := _) rfl (fun K hK => ?_) (AllReadyH.cons (o := _) rfl (fun K hK => ?_) AllReadyH.nil)
                  · have HK := Lib.hid hK
                    clear hK
                    go_simp
                    go_at_call 82
                    refine (HFC.out wR BwR.out).mono ?_
                    rintro e wK ⟨rfl, hbK⟩
                    dsimp only
                    have BK := Lib.hid (BwR.out.trans (hbK.mono BwR.out.size))
                    have hS : wK.rangeAt V 0 (D.map vB) ∧ wK.cell? ⟨H + 1, 0, none⟩ = some (.int .i64 fr) ∧ wK.cell? ⟨H + 1, 2, none⟩ = some (.slice (some ⟨pb, po, none⟩) items.length pc) ∧ wK.cell? ⟨pb, po + k, none⟩ = some (.slice xa ps.length xc) := KP.out _ BK.out
                    clear hbK hHeld
                    refine HK.out _ _ hS ?_
                    clear HK K
                    try simp only [Act.put, List.getElem_toArray, List.getElem_cons_zero, List.getElem_cons_succ, List.setIfInBounds_toArray, List.set_cons_zero, List.set_cons_succ]
                    intro hHeld
                    refine wpAnyH_take (i := 12) (oi := _) (v := .tuple #[.agg (dV D2), er]) rfl (by kernel_rfl) (by kernel_rfl) (by kernel_rfl) (by rintro _ _ _ ⟨_, h1, _⟩; cases h1) (Or.inl ⟨by rfl, fun w hw => by go_simp⟩) hHeld ?_
                    simp only [Act.put, List.getElem_toArray, List.getElem_cons_zero, List.getElem_cons_succ, List.setIfInBounds_toArray, List.set_cons_zero, List.set_cons_succ]
                    refine wpAnyH_take (i := 13) (oi := _) (v := .agg (dV D2)) rfl (by kernel_rfl) (by kernel_rfl) (by kernel_rfl) (by rintro _ _ _ ⟨_, h1, _⟩; cases h1) (Or.inl ⟨by rfl, fun w hw => by go_simp⟩) hHeld ?_
                    simp only [Act.put, List.getElem_toArray, List.getElem_cons_zero, List.getElem_cons_succ, List.setIfInBounds_toArray, List.set_cons_zero, List.set_cons_succ]
                    refine wpAnyH_take (i := 14) (oi := _) (v := er) rfl (by kernel_rfl) (by kernel_rfl) (by kernel_rfl) (by rintro _ _ _ ⟨_, h1, _⟩; cases h1) (Or.inl ⟨by rfl, fun w hw => by go_simp⟩) hHeld ?_
                    simp only [Act.put, List.getElem_toArray, List.getElem_cons_zero, List.getElem_cons_succ, List.setIfInBounds_toArray, List.set_cons_zero, List.set_cons_succ]
                    refine wpAnyH_ready (rs := [15]) (by kernel_rfl) (by simp) ?_
                    refine AllReadyH.cons (o := _) rfl (fun K hK => ?_) AllReadyH.nil
                    have HK := Lib.hid hK
                    clear hK
                    go_simp
                    obtain ⟨Y, hY⟩ : ∃ Y, Y = wK.heap.size := ⟨_, rfl⟩
                    rw [← hY]
                    obtain ⟨wM, hwM⟩ : ∃ z, z = wK.alloc (.cells #[.int .u8 0, .int .u8 0, .int .u8 0, .int .u8 0, .int .u8 0, .int .u8 0, .int .u8 0, .int .u8 0, .int .u8 0, .int .u8 0, .int .u8 0, .int .u8 0, .int .u8 0, .int .u8 0, .int .u8 0, .int .u8 0, .int .u8 0, .int .u8 0, .int .u8 0, .int .u8 0, .int .u8 0, .int .u8 0, .int .u8 0, .int .u8 0, .int .u8 0, .int .u8 0, .int .u8 0, .int .u8 0, .int .u8 0, .int .u8 0, .int .u8 0, .int .u8 0] 23) := ⟨_, rfl⟩
                    rw [← hwM]
                    have bKM : Below wK.heap.size wK wM := by rw [hwM]; exact (Below.refl _ _).alloc (Nat.le_refl _) _
                    have GM := Lib.hid (show wM.heap[Y]? = some (.cells #[.int .u8 0, .int .u8 0, .int .u8 0, .int .u8 0, .int .u8 0, .int .u8 0, .int .u8 0, .int .u8 0, .int .u8 0, .int .u8 0, .int .u8 0, .int .u8 0, .int .u8 0, .int .u8 0, .int .u8 0, .int .u8 0, .int .u8 0, .int .u8 0, .int .u8 0, .int .u8 0, .int .u8 0, .int .u8 0, .int .u8 0, .int .u8 0, .int .u8 0, .int .u8 0, .int .u8 0, .int .u8 0, .int .u8 0, .int .u8 0, .int .u8 0, .int .u8 0] 23 (0, 0)) by rw [hwM, hY]; exact heap_alloc_new _ _)
                    have BM := Lib.hid (BK.out.trans (bKM.mono BK.out.size))
                    have hYN : wN.heap.size ≤ Y := by rw [hY]; exact BK.out.size
                    have hS : wM.rangeAt V 0 (D.map vB) ∧ wM.cell? ⟨H + 1, 0, none⟩ = some (.int .i64 fr) ∧ wM.cell? ⟨H + 1, 2, none⟩ = some (.slice (some ⟨pb, po, none⟩) items.length pc) ∧ wM.cell? ⟨pb, po + k, none⟩ = some (.slice xa ps.length xc) := KP.out _ BM.out
                    clear hY hwM bKM hHeld
                    refine HK.out _ _ hS ?_
                    clear HK K
                    try simp only [Act.put, List.getElem_toArray, List.getElem_cons_zero, List.getElem_cons_succ, List.setIfInBounds_toArray, List.set_cons_zero, List.set_cons_succ]
                    intro hHeld
                    refine wpAnyH_ready (rs := [16]) (by kernel_rfl) (by simp) ?_
                    refine AllReadyH.cons (o := _) rfl (fun K hK => ?_) AllReadyH.nil
                    have HK := Lib.hid hK
                    clear hK
                    rw [if_pos (by rfl)]
                    refine wp_store_row _ _ _ rfl Y (dV D2) (by rfl) (by rfl) _ #[.int .u8 0, .int .u8 0, .int .u8 0, .int .u8 0, .int .u8 0, .int .u8 0, .int .u8 0, .int .u8 0, .int .u8 0, .int .u8 0, .int .u8 0, .int .u8 0, .int .u8 0, .int .u8 0, .int .u8 0, .int .u8 0, .int .u8 0, .int .u8 0, .int .u8 0, .int .u8 0, .int .u8 0, .int .u8 0, .int .u8 0, .int .u8 0, .int .u8 0, .int .u8 0, .int .u8 0, .int .u8 0, .int .u8 0, .int .u8 0, .int .u8 0, .int .u8 0] GM.out (info_dV D2L.out) (by rw [dV_size D2L.out]; rfl) (dV_one D2) ?_
                    have BS := Lib.hid (below_setRowW BM.out hYN (dV D2))
                    have GS := Lib.hid (setRow_heap _ _ _ (dV D2) _ _ GM.out)
                    have hS : (wM.setRow Y (dV D2)).rangeAt V 0 (D.map vB) ∧ (wM.setRow Y (dV D2)).cell? ⟨H + 1, 0, none⟩ = some (.int .i64 fr) ∧ (wM.setRow Y (dV D2)).cell? ⟨H + 1, 2, none⟩ = some (.slice (some ⟨pb, po, none⟩) items.length pc) ∧ (wM.setRow Y (dV D2)).cell? ⟨pb, po + k, none⟩ = some (.slice xa ps.length xc) := KP.out _ BS.out
                    clear hHeld
                    refine HK.out _ _ hS ?_
                    clear HK K
                    try simp only [Act.put, List.getElem_toArray, List.getElem_cons_zero, List.getElem_cons_succ, List.setIfInBounds_toArray, List.set_cons_zero, List.set_cons_succ]
                    intro hHeld
                    refine wpAnyH_take (i := 17) (oi := _) (v := er) rfl (by kernel_rfl) (by kernel_rfl) (by kernel_rfl) (by rintro _ _ _ ⟨_, h1, _⟩; cases h1) (Or.inl ⟨by rfl, fun w hw => by go_simp⟩) hHeld ?_
                    simp only [Act.put, List.getElem_toArray, List.getElem_cons_zero, List.getElem_cons_succ, List.setIfInBounds_toArray, List.set_cons_zero, List.set_cons_succ]
                    exact wpAnyH_done2 (by kernel_rfl) Y rfl ⟨GS.out, BS.out⟩ _
                  · have HK := Lib.hid hK
                    clear hK
                    go_simp
                    obtain ⟨Y, hY⟩ : ∃ Y, Y = wR.heap.size := ⟨_, rfl⟩
                    rw [← hY]
                    obtain ⟨wT, hwT⟩ : ∃ z, z = wR.alloc (.cells #[.int .u8 0, .int .u8 0, .int .u8 0, .int .u8 0, .int .u8 0, .int .u8 0, .int .u8 0, .int .u8 0, .int .u8 0, .int .u8 0, .int .u8 0, .int .u8 0, .int .u8 0, .int .u8 0, .int .u8 0, .int .u8 0, .int .u8 0, .int .u8 0, .int .u8 0, .int .u8 0, .int .u8 0, .int .u8 0, .int .u8 0, .int .u8 0, .int .u8 0, .int .u8 0, .int .u8 0, .int .u8 0, .int .u8 0, .int .u8 0, .int .u8 0, .int .u8 0] 23) := ⟨_, rfl⟩
                    rw [← hwT]
                    have bRT : Below wR.heap.size wR wT := by rw [hwT]; exact (Below.refl _ _).alloc (Nat.le_refl _) _
                    have GT := Lib.hid (show wT.heap[Y]? = some (.cells #[.int .u8 0, .int .u8 0, .int .u8 0, .int .u8 0, .int .u8 0, .int .u8 0, .int .u8 0, .int .u8 0, .int .u8 0, .int .u8 0, .int .u8 0, .int .u8 0, .int .u8 0, .int .u8 0, .int .u8 0, .int .u8 0, .int .u8 0, .int .u8 0, .int .u8 0, .int .u8 0, .int .u8 0, .int .u8 0, .int .u8 0, .int .u8 0, .int .u8 0, .int .u8 0, .int .u8 0, .int .u8 0, .int .u8 0, .int .u8 0, .int .u8 0, .int .u8 0] 23 (0, 0)) by rw [hwT, hY]; exact heap_alloc_new _ _)
                    have BwT := Lib.hid (BwR.out.trans (bRT.mono BwR.out.size))
                    have hYN : wN.heap.size ≤ Y := by rw [hY]; exact BwR.out.size
                    have hS : wT.rangeAt V 0 (D.map vB) ∧ wT.cell? ⟨H + 1, 0, none⟩ = some (.int .i64 fr) ∧ wT.cell? ⟨H + 1, 2, none⟩ = some (.slice (some ⟨pb, po, none⟩) items.length pc) ∧ wT.cell? ⟨pb, po + k, none⟩ = some (.slice xa ps.length xc) := KP.out _ BwT.out
                    clear hY hwT bRT hHeld
                    refine HK.out _ _ hS ?_
                    clear HK K
                    try simp only [Act.put, List.getElem_toArray, List.getElem_cons_zero, List.getElem_cons_succ, List.setIfInBounds_toArray, List.set_cons_zero, List.set_cons_succ]
                    intro hHeld
                    refine wpAnyH_ready (rs := [11]) (by kernel_rfl) (by simp) ?_
                    refine AllReadyH.cons (o := _) rfl (fun K hK => ?_) AllReadyH.nil
                    have HK := Lib.hid hK
                    clear hK
                    go_simp
                    go_at_call 82
                    refine (HFC.out wT BwT.out).mono ?_
                    rintro e wK ⟨rfl, hbK⟩
                    dsimp only
                    obtain ⟨wM, hwM⟩ : ∃ z, z = wK := ⟨_, rfl⟩
                    rw [← hwM] at hbK ⊢
                    have GM := Lib.hid ((hbK.block Y (lt_of_heap GT.out)).trans GT.out)
                    have BM := Lib.hid (BwT.out.trans (hbK.mono BwT.out.size))
                    have hS : wM.rangeAt V 0 (D.map vB) ∧ wM.cell? ⟨H + 1, 0, none⟩ = some (.int .i64 fr) ∧ wM.cell? ⟨H + 1, 2, none⟩ = some (.slice (some ⟨pb, po, none⟩) items.length pc) ∧ wM.cell? ⟨pb, po + k, none⟩ = some (.slice xa ps.length xc) := KP.out _ BM.out
                    clear hbK hHeld hwM
                    refine HK.out _ _ hS ?_
                    clear HK K
                    try simp only [Act.put, List.getElem_toArray, List.getElem_cons_zero, List.getElem_cons_succ, List.setIfInBounds_toArray, List.set_cons_zero, List.set_cons_succ]
                    intro hHeld
                    refine wpAnyH_take (i := 12) (oi := _) (v := .tuple #[.agg (dV D2), er]) rfl (by kernel_rfl) (by kernel_rfl) (by kernel_rfl) (by rintro _ _ _ ⟨_, h1, _⟩; cases h1) (Or.inl ⟨by rfl, fun w hw => by go_simp⟩) hHeld ?_
                    simp only [Act.put, List.getElem_toArray, List.getElem_cons_zero, List.getElem_cons_succ, List.setIfInBounds_toArray, List.set_cons_zero, List.set_cons_succ]
                    refine wpAnyH_take (i := 13) (oi := _) (v := .agg (dV D2)) rfl (by kernel_rfl) (by kernel_rfl) (by kernel_rfl) (by rintro _ _ _ ⟨_, h1, _⟩; cases h1) (Or.inl ⟨by rfl, fun w hw => by go_simp⟩) hHeld ?_
                    simp only [Act.put, List.getElem_toArray, List.getElem_cons_zero, List.getElem_cons_succ, List.setIfInBounds_toArray, List.set_cons_zero, List.set_cons_succ]
                    refine wpAnyH_take (i := 14) (oi := _) (v := er) rfl (by kernel_rfl) (by kernel_rfl) (by kernel_rfl) (by rintro _ _ _ ⟨_, h1, _⟩; cases h1) (Or.inl ⟨by rfl, fun w hw => by go_simp⟩) hHeld ?_
                    simp only [Act.put, List.getElem_toArray, List.getElem_cons_zero, List.getElem_cons_succ, List.setIfInBounds_toArray, List.set_cons_zero, List.set_cons_succ]
                    refine wpAnyH_ready (rs := [16]) (by kernel_rfl) (by simp) ?_
                    refine AllReadyH.cons (o := _) rfl (fun K hK => ?_) AllReadyH.nil
                    have HK := Lib.hid hK
                    clear hK
                    rw [if_pos (by rfl)]
                    refine wp_store_row _ _ _ rfl Y (dV D2) (by rfl) (by rfl) _ #[.int .u8 0, .int .u8 0, .int .u8 0, .int .u8 0, .int .u8 0, .int .u8 0, .int .u8 0, .int .u8 0, .int .u8 0, .int .u8 0, .int .u8 0, .int .u8 0, .int .u8 0, .int .u8 0, .int .u8 0, .int .u8 0, .int .u8 0, .int .u8 0, .int .u8 0, .int .u8 0, .int .u8 0, .int .u8 0, .int .u8 0, .int .u8 0, .int .u8 0, .int .u8 0, .int .u8 0, .int .u8 0, .int .u8 0, .int .u8 0, .int .u8 0, .int .u8 0] GM.out (info_dV D2L.out) (by rw [dV_size D2L.out]; rfl) (dV_one D2) ?_
                    have BS := Lib.hid (below_setRowW BM.out hYN (dV D2))
                    have GS := Lib.hid (setRow_heap _ _ _ (dV D2) _ _ GM.out)
                    have hS : (wM.setRow Y (dV D2)).rangeAt V 0 (D.map vB) ∧ (wM.setRow Y (dV D2)).cell? ⟨H + 1, 0, none⟩ = some (.int .i64 fr) ∧ (wM.setRow Y (dV D2)).cell? ⟨H + 1, 2, none⟩ = some (.slice (some ⟨pb, po, none⟩) items.length pc) ∧ (wM.setRow Y (dV D2)).cell? ⟨pb, po + k, none⟩ = some (.slice xa ps.length xc) := KP.out _ BS.out
                    clear hHeld
                    refine HK.out _ _ hS ?_
                    clear HK K
                    try simp only [Act.put, List.getElem_toArray, List.getElem_cons_zero, List.getElem_cons_succ, List.setIfInBounds_toArray, List.set_cons_zero, List.set_cons_succ]
                    intro hHeld
                    refine wpAnyH_take (i := 17) (oi := _) (v := er) rfl (by kernel_rfl) (by kernel_rfl) (by kernel_rfl) (by rintro _ _ _ ⟨_, h1, _⟩; cases h1) (Or.inl ⟨by rfl, fun w hw => by go_simp⟩) hHeld ?_
                    simp only [Act.put, List.getElem_toArray, List.getElem_cons_zero, List.getElem_cons_succ, List.setIfInBounds_toArray, List.set_cons_zero, List.set_cons_succ]
                    exact wpAnyH_done2 (by kernel_rfl) Y rfl ⟨GS.out, BS.out⟩ _
                case hQ =>
                  intro Y wF hSF
                  obtain ⟨hgF, hbF⟩ := hSF
                  have GF := Lib.hid hgF
                  have GHF := Lib.hid ((hbF.block H lHN).trans GHN.out)
                  have BF := Lib.hid (BN.out.trans (hbF.mono BN.out.size))
                  clear hgF hbF HFC KP lHN GHN
                  rcases HEND.out with ⟨rfl, e1, e2, e3⟩ | ⟨f, rfl, he⟩
                  · by_cases hR : D2 = R
                    · have hg3 := HG2.out
                      rw [if_pos ⟨hkb.out.1, hkb.out.2, h0q, e1, h1q, e2, by rw [← HDD.out, ← e3]; exact hR⟩, ← HPK.out] at hg3
                      have HG3 := Lib.hid hg3
                      have EQ := Lib.hid (show (D2 == R) = true by rw [hR]; simp)
                      have HQ2 := Lib.hid (show k + 1 = 0 ∨ (0 ≤ fr ∧ fr + ((k + 1 : Nat) : Int) ≤ (n : Int)) from .inr ⟨h0q, by omega⟩)
                      clear hg3 hR e1 e2 e3 h0q h1q hkb HEND HG2
                      go_wp2_with (first
                        | ((refine ld_digG rfl (.tmp 18) rfl (Y) 0 (by rfl) D2 D2L.out (range_of_row GF.out) ?_); simp only [Act.put, List.setIfInBounds_toArray, List.set_cons_zero, List.set_cons_succ])
                        | ((refine ld_digG rfl (.tmp 5) rfl (H) 0 (by rfl) R RL.out (range_of_row GHF.out) ?_); simp only [Act.put, List.setIfInBounds_toArray, List.set_cons_zero, List.set_cons_succ])
                        | ((refine neq_digG rfl (.tmp 132) (.tmp 133) _ rfl D2 R (by rfl) (by rfl) D2L.out RL.out ?_); rw [EQ.out]; simp only [Act.put, List.setIfInBounds_toArray, List.set_cons_zero, List.set_cons_succ]))
                      go_roundw
                      case rel => exact ⟨k + 1, by omega, by go_num, HG3, HQ2, BF⟩
                      case measure => simp [intOf]; omega
                    · have hg3 := HG2.out
                      rw [if_neg (fun h => hR (by rw [e3, HDD.out]; exact h.2.2.2.2.2.2))] at hg3
                      subst hg3
                      have EQ := Lib.hid (show (D2 == R) = false by rw [beq_eq_false_iff_ne]; exact hR)
                      clear hR e1 e2 e3 h0q h1q hkb HEND HG2
                      go_wp2_with (first
                        | ((refine ld_digG rfl (.tmp 18) rfl (Y) 0 (by rfl) D2 D2L.out (range_of_row GF.out) ?_); simp only [Act.put, List.setIfInBounds_toArray, List.set_cons_zero, List.set_cons_succ])
                        | ((refine ld_digG rfl (.tmp 5) rfl (H) 0 (by rfl) R RL.out (range_of_row GHF.out) ?_); simp only [Act.put, List.setIfInBounds_toArray, List.set_cons_zero, List.set_cons_succ])
                        | ((refine neq_digG rfl (.tmp 132) (.tmp 133) _ rfl D2 R (by rfl) (by rfl) D2L.out RL.out ?_); rw [EQ.out]; simp only [Act.put, List.setIfInBounds_toArray, List.set_cons_zero, List.set_cons_succ]))
                      go_ret
                      exact ⟨rfl, BW.out.trans (BF.out.mono BW.out.size)⟩
                  · have hg3 := HG2.out
                    rw [if_neg (fun h => he ⟨h.2.2.2.1, h.2.2.2.2.2.1⟩)] at hg3
                    subst hg3
                    clear he h0q h1q hkb HEND HG2
                    go_wp2_with fail
                    go_ret
                    exact ⟨rfl, BW.out.trans (BF.out.mono BW.out.size)⟩
          · have zk : decide (0 < k) = true := decide_eq_true (by omega)
            have zk2 : decide ((0 : Int) < (k : Int)) = true := decide_eq_true (by omega)
            obtain ⟨m9, hm9⟩ : ∃ m9, k = m9 + 1 := ⟨k - 1, by omega⟩
            have hq9 : m9 < items.length := by omega
            obtain ⟨b9, o9, hab9, hb9, hrg9⟩ := (RI.out.below BD.out).ent HL.out hq9
            obtain ⟨rfl, rfl⟩ : ib = b9 ∧ io = o9 := by simpa using hab9
            have hbk := prevK_succ items m9 hq9
            rw [← hm9] at hbk
            obtain ⟨P, hP⟩ : ∃ P, P = items[m9] := ⟨_, rfl⟩
            rw [← hP] at hrg9 hbk
            have cq := range_ekey hrg9
            have e5 : IntKind.i64.wrap ((k : Int) - 1) = (m9 : Int) := by rw [IntWalk.i64_in _ (by omega)]; omega
            have q0 : (0 : Int) ≤ (m9 : Int) := by omega
            have q1 : (m9 : Int) < (items.length : Int) := by omega
            clear hrg9 hab9 hb9 hP hm9 hk0
            by_cases hle : E.key ≤ P.key
            · have z8 : decide (E.key ≤ P.key) = true := decide_eq_true hle
              have hg3 := HG2.out
              rw [if_neg (fun h => by have := h.2.1; rw [hbk] at this; exact absurd (show decide (E.key ≤ P.key) = false from this) (by rw [z8]; simp))] at hg3
              subst hg3
              clear HG2
              go_wp2_with ((refine st_new rfl (.tmp 16) (.tmp 83) rfl D DL.out (by rfl) _ _ (by rfl) (by rfl) ?_); rw [← HV.out, ← HWD.out])
              go_quiet (fail)
              go_wp2_with fail
              go_ret
              exact ⟨rfl, BW.out.trans ((below_drewN BD.out _).mono BW.out.size)⟩
            · have z8 : decide (E.key ≤ P.key) = false := decide_eq_false hle
              have hkb := Lib.hid (show KeyOk E.key ∧ badK (prevK items k) E.key = false from ⟨hko, by rw [hbk]; exact z8⟩)
              clear hle hbk
              by_cases hn0 : fr < 0
              · have x1 : decide (fr < 0) = true := decide_eq_true hn0
                have hg3 := HG2.out
                rw [if_neg (fun h => by have := h.2.2.1; omega)] at hg3
                subst hg3
                clear HG2
                go_wp2_with ((refine st_new rfl (.tmp 16) (.tmp 83) rfl D DL.out (by rfl) _ _ (by rfl) (by rfl) ?_); rw [← HV.out, ← HWD.out])
                go_quiet (fail)
                go_wp2_with fail
                go_ret
                exact ⟨rfl, BW.out.trans ((below_drewN BD.out _).mono BW.out.size)⟩
              · have x1 : decide (fr < 0) = false := decide_eq_false hn0
                by_cases hnn : (n : Int) ≤ fr
                · have x2 : decide ((n : Int) ≤ fr) = true := decide_eq_true hnn
                  have hg3 := HG2.out
                  rw [if_neg (fun h => by have := h.2.2.2.2.1; omega)] at hg3
                  subst hg3
                  clear HG2
                  go_wp2_with ((refine st_new rfl (.tmp 16) (.tmp 83) rfl D DL.out (by rfl) _ _ (by rfl) (by rfl) ?_); rw [← HV.out, ← HWD.out])
                  go_quiet (fail)
                  go_wp2_with fail
                  go_ret
                  exact ⟨rfl, BW.out.trans ((below_drewN BD.out _).mono BW.out.size)⟩
                · have x2 : decide ((n : Int) ≤ fr) = false := decide_eq_false hnn
                  have h0q : 0 ≤ fr := by omega
                  have h1q : fr < (n : Int) := by omega
                  have h2q : fr + (k : Int) ≤ (n : Int) := by
                    rcases HQ.out with h | h
                    · omega
                    · exact h.2
                  obtain ⟨q, hq⟩ : ∃ q : Nat, q = fr.toNat + k := ⟨_, rfl⟩
                  have eq : IntKind.i64.wrap (fr + (k : Int)) = (q : Int) := by rw [IntWalk.i64_in _ (by omega)]; omega
                  obtain ⟨D2, er, hd2, hfc, hend⟩ := Fold_three n HN.out fr k h0q h1q h2q D DL.out ps HPD.out xa xc xe wD (HXR.out.below BD.out) (RO.out.at_ BD.out)
                  have hg2 := HG2.out
                  rw [← hq] at hfc hend hg2
                  have D2L := Lib.hid hd2
                  have HEND := Lib.hid hend
                  clear HG2 hq
                  have HG2 := Lib.hid hg2
                  clear hg2 hd2 hend
                  go_wp2_with ((refine st_new rfl (.tmp 16) (.tmp 83) rfl D DL.out (by rfl) _ _ (by rfl) (by rfl) ?_); rw [← HV.out, ← HWD.out])
                  go_quiet (fail)
                  obtain ⟨wN, hwN⟩ : ∃ z, z = wD.drewN nq := ⟨_, rfl⟩
                  have bDN : Below wD.heap.size wD wN := by rw [hwN]; exact below_drewN (Below.refl _ _) nq
                  have hszN : wN.heap.size = wD.heap.size := by rw [hwN]; rfl
                  have HFC := Lib.hid (fun (w' : World) (hb : Below wN.heap.size wN w') => hfc w' (bDN.trans (by rw [← hszN]; exact hb)))
                  have GN : wN.heap[V]? = some (.cells (dV D) 23 (0, 0)) := by rw [hwN]; exact GV.out
                  have GHN := Lib.hid (show wN.heap[H]? = some (.cells (dV R) 23 (0, 0)) by rw [hwN]; exact GHD.out)
                  have lHN : H < wN.heap.size := lt_of_heap GHN.out
                  have lH1 : H + 1 < wN.heap.size := by rw [hszN]; exact Nat.lt_of_lt_of_le hsz BD.out.size
                  have lpb : pb < wN.heap.size := by rw [hszN]; exact Nat.lt_of_lt_of_le LPB.out BD.out.size
                  have f0 : wN.cell? ⟨H + 1, 0, none⟩ = some (.int .i64 fr) := by rw [hwN]; exact d0
                  have f2 : wN.cell? ⟨H + 1, 2, none⟩ = some (.slice (some ⟨pb, po, none⟩) items.length pc) := by rw [hwN]; exact d2
                  have fp : wN.cell? ⟨pb, po + k, none⟩ = some (.slice xa ps.length xc) := by rw [hwN]; exact HFP.out
                  have KP := Lib.hid (show ∀ w', Below wN.heap.size wN w' → (w'.rangeAt V 0 (D.map vB) ∧ w'.cell? ⟨H + 1, 0, none⟩ = some (.int .i64 fr) ∧ w'.cell? ⟨H + 1, 2, none⟩ = some (.slice (some ⟨pb, po, none⟩) items.length pc) ∧ w'.cell? ⟨pb, po + k, none⟩ = some (.slice xa ps.length xc)) from fun w' hb => ⟨range_keep hb (range_of_row GN) (lt_of_heap GN), cell_keep hb f0 lH1, cell_keep hb f2 lH1, cell_keep hb fp lpb⟩)
                  have BN := Lib.hid (show Below v1.heap.size v1 wN by rw [hwN]; exact below_drewN BD.out nq)
                  rw [← hwN]
                  clear hwN bDN hszN hfc GN lH1 lpb f0 f2 fp h2q d0 d1 d2 ck
                  have hdinfo : (Tryd.prog.info? 23).map (·.size) = some (D.map vB).length := by rw [List.length_map, DL.out]; exact dig_size
                  go_wp2_with fail
                  apply region_joinE (S := fun Y w' => w'.heap[Y]? = some (.cells (dV D2) 23 (0, 0)) ∧ Below wN.heap.size wN w')
                  case h =>
                    refine wp_region_held_drew (S := fun w' => w'.rangeAt V 0 (D.map vB) ∧ w'.cell? ⟨H + 1, 0, none⟩ = some (.int .i64 fr) ∧ w'.cell? ⟨H + 1, 2, none⟩ = some (.slice (some ⟨pb, po, none⟩) items.length pc) ∧ w'.cell? ⟨pb, po + k, none⟩ = some (.slice xa ps.length xc)) (by kernel_rfl) (KP.out wN.drew ((Below.refl _ _).drew)) (fun hHeld => ?_)
                    obtain ⟨wR, hwR⟩ : ∃ z, z = wN.drew := ⟨_, rfl⟩
                    have BwR := Lib.hid (show Below wN.heap.size wN wR by rw [hwR]; exact (Below.refl _ _).drew)
                    rw [← hwR] at hHeld ⊢
                    clear hwR
                    refine wpAnyH_take (i := 0) (oi := _) (v := _) rfl (by kernel_rfl) (by kernel_rfl) (by kernel_rfl) (by rintro _ _ _ ⟨_, h1, _⟩; cases h1) (yieldsIf_load_mid (by rfl) _ _ rfl _ _ rfl (D.map vB) _ (fun w hw => hw.1) Tryd.underlying23 rfl hdinfo) hHeld ?_
                    simp only [Act.put, List.getElem_toArray, List.getElem_cons_zero, List.getElem_cons_succ, List.setIfInBounds_toArray, List.set_cons_zero, List.set_cons_succ]
                    refine wpAnyH_take (i := 1) (oi := _) (v := .pointer (some ⟨H + 1, 0, none⟩)) rfl (by kernel_rfl) (by kernel_rfl) (by kernel_rfl) (by rintro _ _ _ ⟨_, h1, _⟩; cases h1) (Or.inl ⟨by rfl, fun w hw => by go_simp⟩) hHeld ?_
                    simp only [Act.put, List.getElem_toArray, List.getElem_cons_zero, List.getElem_cons_succ, List.setIfInBounds_toArray, List.set_cons_zero, List.set_cons_succ]
                    refine wpAnyH_take (i := 2) (oi := _) (v := .int .i64 fr) rfl (by kernel_rfl) (by kernel_rfl) (by kernel_rfl) (by rintro _ _ _ ⟨_, h1, _⟩; cases h1) (Or.inl ⟨by rfl, fun w hw => by have hc := hw.2.1; clear hw; go_simp⟩) hHeld ?_
                    simp only [Act.put, List.getElem_toArray, List.getElem_cons_zero, List.getElem_cons_succ, List.setIfInBounds_toArray, List.set_cons_zero, List.set_cons_succ]
                    refine wpAnyH_take (i := 3) (oi := _) (v := .int .i64 (k : Int)) rfl (by kernel_rfl) (by kernel_rfl) (by kernel_rfl) (by rintro _ _ _ ⟨_, h1, _⟩; cases h1) (Or.inl ⟨by rfl, fun w hw => by go_simp⟩) hHeld ?_
                    simp only [Act.put, List.getElem_toArray, List.getElem_cons_zero, List.getElem_cons_succ, List.setIfInBounds_toArray, List.set_cons_zero, List.set_cons_succ]
                    refine wpAnyH_take (i := 4) (oi := _) (v := .int .i64 (q : Int)) rfl (by kernel_rfl) (by kernel_rfl) (by kernel_rfl) (by rintro _ _ _ ⟨_, h1, _⟩; cases h1) (Or.inl ⟨by rfl, fun w hw => by go_simp⟩) hHeld ?_
                    simp only [Act.put, List.getElem_toArray, List.getElem_cons_zero, List.getElem_cons_succ, List.setIfInBounds_toArray, List.set_cons_zero, List.set_cons_succ]
                    refine wpAnyH_take (i := 5) (oi := _) (v := .int .i64 (n : Int)) rfl (by kernel_rfl) (by kernel_rfl) (by kernel_rfl) (by rintro _ _ _ ⟨_, h1, _⟩; cases h1) (Or.inl ⟨by rfl, fun w hw => by go_simp⟩) hHeld ?_
                    simp only [Act.put, List.getElem_toArray, List.getElem_cons_zero, List.getElem_cons_succ, List.setIfInBounds_toArray, List.set_cons_zero, List.set_cons_succ]
                    refine wpAnyH_take (i := 6) (oi := _) (v := .pointer (some ⟨H + 1, 2, none⟩)) rfl (by kernel_rfl) (by kernel_rfl) (by kernel_rfl) (by rintro _ _ _ ⟨_, h1, _⟩; cases h1) (Or.inl ⟨by rfl, fun w hw => by go_simp⟩) hHeld ?_
                    simp only [Act.put, List.getElem_toArray, List.getElem_cons_zero, List.getElem_cons_succ, List.setIfInBounds_toArray, List.set_cons_zero, List.set_cons_succ]
                    refine wpAnyH_take (i := 7) (oi := _) (v := .slice (some ⟨pb, po, none⟩) items.length pc) rfl (by kernel_rfl) (by kernel_rfl) (by kernel_rfl) (by rintro _ _ _ ⟨_, h1, _⟩; cases h1) (Or.inl ⟨by rfl, fun w hw => by have hc := hw.2.2.1; clear hw; go_simp⟩) hHeld ?_
                    simp only [Act.put, List.getElem_toArray, List.getElem_cons_zero, List.getElem_cons_succ, List.setIfInBounds_toArray, List.set_cons_zero, List.set_cons_succ]
                    refine wpAnyH_take (i := 8) (oi := _) (v := .int .i64 (k : Int)) rfl (by kernel_rfl) (by kernel_rfl) (by kernel_rfl) (by rintro _ _ _ ⟨_, h1, _⟩; cases h1) (Or.inl ⟨by rfl, fun w hw => by go_simp⟩) hHeld ?_
                    simp only [Act.put, List.getElem_toArray, List.getElem_cons_zero, List.getElem_cons_succ, List.setIfInBounds_toArray, List.set_cons_zero, List.set_cons_succ]
                    refine wpAnyH_take (i := 9) (oi := _) (v := .pointer (some ⟨pb, po + k, none⟩)) rfl (by kernel_rfl) (by kernel_rfl) (by kernel_rfl) (by rintro _ _ _ ⟨_, h1, _⟩; cases h1) (Or.inl ⟨by rfl, fun w hw => by go_simp⟩) hHeld ?_
                    simp only [Act.put, List.getElem_toArray, List.getElem_cons_zero, List.getElem_cons_succ, List.setIfInBounds_toArray, List.set_cons_zero, List.set_cons_succ]
                    refine wpAnyH_take (i := 10) (oi := _) (v := .slice xa ps.length xc) rfl (by kernel_rfl) (by kernel_rfl) (by kernel_rfl) (by rintro _ _ _ ⟨_, h1, _⟩; cases h1) (Or.inl ⟨by rfl, fun w hw => by have hc := hw.2.2.2; clear hw; go_simp⟩) hHeld ?_
                    simp only [Act.put, List.getElem_toArray, List.getElem_cons_zero, List.getElem_cons_succ, List.setIfInBounds_toArray, List.set_cons_zero, List.set_cons_succ]
                    refine wpAnyH_ready (rs := [11, 15]) (by kernel_rfl) (by simp) ?_
                    refine AllReadyH.cons (o := _) rfl (fun K hK => ?_) (AllReadyH.cons (o := _) rfl (fun K hK => ?_) AllReadyH.nil)
                    · have HK := Lib.hid hK
                      clear hK
                      go_simp
                      go_at_call 82
                      refine (HFC.out wR BwR.out).mono ?_
                      rintro e wK ⟨rfl, hbK⟩
                      dsimp only
                      have BK := Lib.hid (BwR.out.trans (hbK.mono BwR.out.size))
                      have hS : wK.rangeAt V 0 (D.map vB) ∧ wK.cell? ⟨H + 1, 0, none⟩ = some (.int .i64 fr) ∧ wK.cell? ⟨H + 1, 2, none⟩ = some (.slice (some ⟨pb, po, none⟩) items.length pc) ∧ wK.cell? ⟨pb, po + k, none⟩ = some (.slice xa ps.length xc) := KP.out _ BK.out
                      clear hbK hHeld
                      refine HK.out _ _ hS ?_
                      clear HK K
                      try simp only [Act.put, List.getElem_toArray, List.getElem_cons_zero, List.getElem_cons_succ, List.setIfInBounds_toArray, List.set_cons_zero, List.set_cons_succ]
                      intro hHeld
                      refine wpAnyH_take (i := 12) (oi := _) (v := .tuple #[.agg (dV D2), er]) rfl (by kernel_rfl) (by kernel_rfl) (by kernel_rfl) (by rintro _ _ _ ⟨_, h1, _⟩; cases h1) (Or.inl ⟨by rfl, fun w hw => by go_simp⟩) hHeld ?_
                      simp only [Act.put, List.getElem_toArray, List.getElem_cons_zero, List.getElem_cons_succ, List.setIfInBounds_toArray, List.set_cons_zero, List.set_cons_succ]
                      refine wpAnyH_take (i := 13) (oi := _) (v := .agg (dV D2)) rfl (by kernel_rfl) (by kernel_rfl) (by kernel_rfl) (by rintro _ _ _ ⟨_, h1, _⟩; cases h1) (Or.inl ⟨by rfl, fun w hw => by go_simp⟩) hHeld ?_
                      simp only [Act.put, List.getElem_toArray, List.getElem_cons_zero, List.getElem_cons_succ, List.setIfInBounds_toArray, List.set_cons_zero, List.set_cons_succ]
                      refine wpAnyH_take (i := 14) (oi := _) (v := er) rfl (by kernel_rfl) (by kernel_rfl) (by kernel_rfl) (by rintro _ _ _ ⟨_, h1, _⟩; cases h1) (Or.inl ⟨by rfl, fun w hw => by go_simp⟩) hHeld ?_
                      simp only [Act.put, List.getElem_toArray, List.getElem_cons_zero, List.getElem_cons_succ, List.setIfInBounds_toArray, List.set_cons_zero, List.set_cons_succ]
                      refine wpAnyH_ready (rs := [15]) (by kernel_rfl) (by simp) ?_
                      refine AllReadyH.cons (o := _) rfl (fun K hK => ?_) AllReadyH.nil
                      have HK := Lib.hid hK
                      clear hK
                      go_simp
                      obtain ⟨Y, hY⟩ : ∃ Y, Y = wK.heap.size := ⟨_, rfl⟩
                      rw [← hY]
                      obtain ⟨wM, hwM⟩ : ∃ z, z = wK.alloc (.cells #[.int .u8 0, .int .u8 0, .int .u8 0, .int .u8 0, .int .u8 0, .int .u8 0, .int .u8 0, .int .u8 0, .int .u8 0, .int .u8 0, .int .u8 0, .int .u8 0, .int .u8 0, .int .u8 0, .int .u8 0, .int .u8 0, .int .u8 0, .int .u8 0, .int .u8 0, .int .u8 0, .int .u8 0, .int .u8 0, .int .u8 0, .int .u8 0, .int .u8 0, .int .u8 0, .int .u8 0, .int .u8 0, .int .u8 0, .int .u8 0, .int .u8 0, .int .u8 0] 23) := ⟨_, rfl⟩
                      rw [← hwM]
                      have bKM : Below wK.heap.size wK wM := by rw [hwM]; exact (Below.refl _ _).alloc (Nat.le_refl _) _
                      have GM := Lib.hid (show wM.heap[Y]? = some (.cells #[.int .u8 0, .int .u8 0, .int .u8 0, .int .u8 0, .int .u8 0, .int .u8 0, .int .u8 0, .int .u8 0, .int .u8 0, .int .u8 0, .int .u8 0, .int .u8 0, .int .u8 0, .int .u8 0, .int .u8 0, .int .u8 0, .int .u8 0, .int .u8 0, .int .u8 0, .int .u8 0, .int .u8 0, .int .u8 0, .int .u8 0, .int .u8 0, .int .u8 0, .int .u8 0, .int .u8 0, .int .u8 0, .int .u8 0, .int .u8 0, .int .u8 0, .int .u8 0] 23 (0, 0)) by rw [hwM, hY]; exact heap_alloc_new _ _)
                      have BM := Lib.hid (BK.out.trans (bKM.mono BK.out.size))
                      have hYN : wN.heap.size ≤ Y := by rw [hY]; exact BK.out.size
                      have hS : wM.rangeAt V 0 (D.map vB) ∧ wM.cell? ⟨H + 1, 0, none⟩ = some (.int .i64 fr) ∧ wM.cell? ⟨H + 1, 2, none⟩ = some (.slice (some ⟨pb, po, none⟩) items.length pc) ∧ wM.cell? ⟨pb, po + k, none⟩ = some (.slice xa ps.length xc) := KP.out _ BM.out
                      clear hY hwM bKM hHeld
                      refine HK.out _ _ hS ?_
                      clear HK K
                      try simp only [Act.put, List.getElem_toArray, List.getElem_cons_zero, List.getElem_cons_succ, List.setIfInBounds_toArray, List.set_cons_zero, List.set_cons_succ]
                      intro hHeld
                      refine wpAnyH_ready (rs := [16]) (by kernel_rfl) (by simp) ?_
                      refine AllReadyH.cons (o := _) rfl (fun K hK => ?_) AllReadyH.nil
                      have HK := Lib.hid hK
                      clear hK
                      rw [if_pos (by rfl)]
                      refine wp_store_row _ _ _ rfl Y (dV D2) (by rfl) (by rfl) _ #[.int .u8 0, .int .u8 0, .int .u8 0, .int .u8 0, .int .u8 0, .int .u8 0, .int .u8 0, .int .u8 0, .int .u8 0, .int .u8 0, .int .u8 0, .int .u8 0, .int .u8 0, .int .u8 0, .int .u8 0, .int .u8 0, .int .u8 0, .int .u8 0, .int .u8 0, .int .u8 0, .int .u8 0, .int .u8 0, .int .u8 0, .int .u8 0, .int .u8 0, .int .u8 0, .int .u8 0, .int .u8 0, .int .u8 0, .int .u8 0, .int .u8 0, .int .u8 0] GM.out (info_dV D2L.out) (by rw [dV_size D2L.out]; rfl) (dV_one D2) ?_
                      have BS := Lib.hid (below_setRowW BM.out hYN (dV D2))
                      have GS := Lib.hid (setRow_heap _ _ _ (dV D2) _ _ GM.out)
                      have hS : (wM.setRow Y (dV D2)).rangeAt V 0 (D.map vB) ∧ (wM.setRow Y (dV D2)).cell? ⟨H + 1, 0, none⟩ = some (.int .i64 fr) ∧ (wM.setRow Y (dV D2)).cell? ⟨H + 1, 2, none⟩ = some (.slice (some ⟨pb, po, none⟩) items.length pc) ∧ (wM.setRow Y (dV D2)).cell? ⟨pb, po + k, none⟩ = some (.slice xa ps.length xc) := KP.out _ BS.out
                      clear hHeld
                      refine HK.out _ _ hS ?_
                      clear HK K
                      try simp only [Act.put, List.getElem_toArray, List.getElem_cons_zero, List.getElem_cons_succ, List.setIfInBounds_toArray, List.set_cons_zero, List.set_cons_succ]
                      intro hHeld
                      refine wpAnyH_take (i := 17) (oi := _) (v := er) rfl (by kernel_rfl) (by kernel_rfl) (by kernel_rfl) (by rintro _ _ _ ⟨_, h1, _⟩; cases h1) (Or.inl ⟨by rfl, fun w hw => by go_simp⟩) hHeld ?_
                      simp only [Act.put, List.getElem_toArray, List.getElem_cons_zero, List.getElem_cons_succ, List.setIfInBounds_toArray, List.set_cons_zero, List.set_cons_succ]
                      exact wpAnyH_done2 (by kernel_rfl) Y rfl ⟨GS.out, BS.out⟩ _
                    · have HK := Lib.hid hK
                      clear hK
                      go_simp
                      obtain ⟨Y, hY⟩ : ∃ Y, Y = wR.heap.size := ⟨_, rfl⟩
                      rw [← hY]
                      obtain ⟨wT, hwT⟩ : ∃ z, z = wR.alloc (.cells #[.int .u8 0, .int .u8 0, .int .u8 0, .int .u8 0, .int .u8 0, .int .u8 0, .int .u8 0, .int .u8 0, .int .u8 0, .int .u8 0, .int .u8 0, .int .u8 0, .int .u8 0, .int .u8 0, .int .u8 0, .int .u8 0, .int .u8 0, .int .u8 0, .int .u8 0, .int .u8 0, .int .u8 0, .int .u8 0, .int .u8 0, .int .u8 0, .int .u8 0, .int .u8 0, .int .u8 0, .int .u8 0, .int .u8 0, .int .u8 0, .int .u8 0, .int .u8 0] 23) := ⟨_, rfl⟩
                      rw [← hwT]
                      have bRT : Below wR.heap.size wR wT := by rw [hwT]; exact (Below.refl _ _).alloc (Nat.le_refl _) _
                      have GT := Lib.hid (show wT.heap[Y]? = some (.cells #[.int .u8 0, .int .u8 0, .int .u8 0, .int .u8 0, .int .u8 0, .int .u8 0, .int .u8 0, .int .u8 0, .int .u8 0, .int .u8 0, .int .u8 0, .int .u8 0, .int .u8 0, .int .u8 0, .int .u8 0, .int .u8 0, .int .u8 0, .int .u8 0, .int .u8 0, .int .u8 0, .int .u8 0, .int .u8 0, .int .u8 0, .int .u8 0, .int .u8 0, .int .u8 0, .int .u8 0, .int .u8 0, .int .u8 0, .int .u8 0, .int .u8 0, .int .u8 0] 23 (0, 0)) by rw [hwT, hY]; exact heap_alloc_new _ _)
                      have BwT := Lib.hid (BwR.out.trans (bRT.mono BwR.out.size))
                      have hYN : wN.heap.size ≤ Y := by rw [hY]; exact BwR.out.size
                      have hS : wT.rangeAt V 0 (D.map vB) ∧ wT.cell? ⟨H + 1, 0, none⟩ = some (.int .i64 fr) ∧ wT.cell? ⟨H + 1, 2, none⟩ = some (.slice (some ⟨pb, po, none⟩) items.length pc) ∧ wT.cell? ⟨pb, po + k, none⟩ = some (.slice xa ps.length xc) := KP.out _ BwT.out
                      clear hY hwT bRT hHeld
                      refine HK.out _ _ hS ?_
                      clear HK K
                      try simp only [Act.put, List.getElem_toArray, List.getElem_cons_zero, List.getElem_cons_succ, List.setIfInBounds_toArray, List.set_cons_zero, List.set_cons_succ]
                      intro hHeld
                      refine wpAnyH_ready (rs := [11]) (by kernel_rfl) (by simp) ?_
                      refine AllReadyH.cons (o := _) rfl (fun K hK => ?_) AllReadyH.nil
                      have HK := Lib.hid hK
                      clear hK
                      go_simp
                      go_at_call 82
                      refine (HFC.out wT BwT.out).mono ?_
                      rintro e wK ⟨rfl, hbK⟩
                      dsimp only
                      obtain ⟨wM, hwM⟩ : ∃ z, z = wK := ⟨_, rfl⟩
                      rw [← hwM] at hbK ⊢
                      have GM := Lib.hid ((hbK.block Y (lt_of_heap GT.out)).trans GT.out)
                      have BM := Lib.hid (BwT.out.trans (hbK.mono BwT.out.size))
                      have hS : wM.rangeAt V 0 (D.map vB) ∧ wM.cell? ⟨H + 1, 0, none⟩ = some (.int .i64 fr) ∧ wM.cell? ⟨H + 1, 2, none⟩ = some (.slice (some ⟨pb, po, none⟩) items.length pc) ∧ wM.cell? ⟨pb, po + k, none⟩ = some (.slice xa ps.length xc) := KP.out _ BM.out
                      clear hbK hHeld hwM
                      refine HK.out _ _ hS ?_
                      clear HK K
                      try simp only [Act.put, List.getElem_toArray, List.getElem_cons_zero, List.getElem_cons_succ, List.setIfInBounds_toArray, List.set_cons_zero, List.set_cons_succ]
                      intro hHeld
                      refine wpAnyH_take (i := 12) (oi := _) (v := .tuple #[.agg (dV D2), er]) rfl (by kernel_rfl) (by kernel_rfl) (by kernel_rfl) (by rintro _ _ _ ⟨_, h1, _⟩; cases h1) (Or.inl ⟨by rfl, fun w hw => by go_simp⟩) hHeld ?_
                      simp only [Act.put, List.getElem_toArray, List.getElem_cons_zero, List.getElem_cons_succ, List.setIfInBounds_toArray, List.set_cons_zero, List.set_cons_succ]
                      refine wpAnyH_take (i := 13) (oi := _) (v := .agg (dV D2)) rfl (by kernel_rfl) (by kernel_rfl) (by kernel_rfl) (by rintro _ _ _ ⟨_, h1, _⟩; cases h1) (Or.inl ⟨by rfl, fun w hw => by go_simp⟩) hHeld ?_
                      simp only [Act.put, List.getElem_toArray, List.getElem_cons_zero, List.getElem_cons_succ, List.setIfInBounds_toArray, List.set_cons_zero, List.set_cons_succ]
                      refine wpAnyH_take (i := 14) (oi := _) (v := er) rfl (by kernel_rfl) (by kernel_rfl) (by kernel_rfl) (by rintro _ _ _ ⟨_, h1, _⟩; cases h1) (Or.inl ⟨by rfl, fun w hw => by go_simp⟩) hHeld ?_
                      simp only [Act.put, List.getElem_toArray, List.getElem_cons_zero, List.getElem_cons_succ, List.setIfInBounds_toArray, List.set_cons_zero, List.set_cons_succ]
                      refine wpAnyH_ready (rs := [16]) (by kernel_rfl) (by simp) ?_
                      refine AllReadyH.cons (o := _) rfl (fun K hK => ?_) AllReadyH.nil
                      have HK := Lib.hid hK
                      clear hK
                      rw [if_pos (by rfl)]
                      refine wp_store_row _ _ _ rfl Y (dV D2) (by rfl) (by rfl) _ #[.int .u8 0, .int .u8 0, .int .u8 0, .int .u8 0, .int .u8 0, .int .u8 0, .int .u8 0, .int .u8 0, .int .u8 0, .int .u8 0, .int .u8 0, .int .u8 0, .int .u8 0, .int .u8 0, .int .u8 0, .int .u8 0, .int .u8 0, .int .u8 0, .int .u8 0, .int .u8 0, .int .u8 0, .int .u8 0, .int .u8 0, .int .u8 0, .int .u8 0, .int .u8 0, .int .u8 0, .int .u8 0, .int .u8 0, .int .u8 0, .int .u8 0, .int .u8 0] GM.out (info_dV D2L.out) (by rw [dV_size D2L.out]; rfl) (dV_one D2) ?_
                      have BS := Lib.hid (below_setRowW BM.out hYN (dV D2))
                      have GS := Lib.hid (setRow_heap _ _ _ (dV D2) _ _ GM.out)
                      have hS : (wM.setRow Y (dV D2)).rangeAt V 0 (D.map vB) ∧ (wM.setRow Y (dV D2)).cell? ⟨H + 1, 0, none⟩ = some (.int .i64 fr) ∧ (wM.setRow Y (dV D2)).cell? ⟨H + 1, 2, none⟩ = some (.slice (some ⟨pb, po, none⟩) items.length pc) ∧ (wM.setRow Y (dV D2)).cell? ⟨pb, po + k, none⟩ = some (.slice xa ps.length xc) := KP.out _ BS.out
                      clear hHeld
                      refine HK.out _ _ hS ?_
                      clear HK K
                      try simp only [Act.put, List.getElem_toArray, List.getElem_cons_zero, List.getElem_cons_succ, List.setIfInBounds_toArray, List.set_cons_zero, List.set_cons_succ]
                      intro hHeld
                      refine wpAnyH_take (i := 17) (oi := _) (v := er) rfl (by kernel_rfl) (by kernel_rfl) (by kernel_rfl) (by rintro _ _ _ ⟨_, h1, _⟩; cases h1) (Or.inl ⟨by rfl, fun w hw => by go_simp⟩) hHeld ?_
                      simp only [Act.put, List.getElem_toArray, List.getElem_cons_zero, List.getElem_cons_succ, List.setIfInBounds_toArray, List.set_cons_zero, List.set_cons_succ]
                      exact wpAnyH_done2 (by kernel_rfl) Y rfl ⟨GS.out, BS.out⟩ _
                  case hQ =>
                    intro Y wF hSF
                    obtain ⟨hgF, hbF⟩ := hSF
                    have GF := Lib.hid hgF
                    have GHF := Lib.hid ((hbF.block H lHN).trans GHN.out)
                    have BF := Lib.hid (BN.out.trans (hbF.mono BN.out.size))
                    clear hgF hbF HFC KP lHN GHN
                    rcases HEND.out with ⟨rfl, e1, e2, e3⟩ | ⟨f, rfl, he⟩
                    · by_cases hR : D2 = R
                      · have hg3 := HG2.out
                        rw [if_pos ⟨hkb.out.1, hkb.out.2, h0q, e1, h1q, e2, by rw [← HDD.out, ← e3]; exact hR⟩, ← HPK.out] at hg3
                        have HG3 := Lib.hid hg3
                        have EQ := Lib.hid (show (D2 == R) = true by rw [hR]; simp)
                        have HQ2 := Lib.hid (show k + 1 = 0 ∨ (0 ≤ fr ∧ fr + ((k + 1 : Nat) : Int) ≤ (n : Int)) from .inr ⟨h0q, by omega⟩)
                        clear hg3 hR e1 e2 e3 h0q h1q hkb HEND HG2
                        go_wp2_with (first
                          | ((refine ld_digG rfl (.tmp 18) rfl (Y) 0 (by rfl) D2 D2L.out (range_of_row GF.out) ?_); simp only [Act.put, List.setIfInBounds_toArray, List.set_cons_zero, List.set_cons_succ])
                          | ((refine ld_digG rfl (.tmp 5) rfl (H) 0 (by rfl) R RL.out (range_of_row GHF.out) ?_); simp only [Act.put, List.setIfInBounds_toArray, List.set_cons_zero, List.set_cons_succ])
                          | ((refine neq_digG rfl (.tmp 132) (.tmp 133) _ rfl D2 R (by rfl) (by rfl) D2L.out RL.out ?_); rw [EQ.out]; simp only [Act.put, List.setIfInBounds_toArray, List.set_cons_zero, List.set_cons_succ]))
                        go_roundw
                        case rel => exact ⟨k + 1, by omega, by go_num, HG3, HQ2, BF⟩
                        case measure => simp [intOf]; omega
                      · have hg3 := HG2.out
                        rw [if_neg (fun h => hR (by rw [e3, HDD.out]; exact h.2.2.2.2.2.2))] at hg3
                        subst hg3
                        have EQ := Lib.hid (show (D2 == R) = false by rw [beq_eq_false_iff_ne]; exact hR)
                        clear hR e1 e2 e3 h0q h1q hkb HEND HG2
                        go_wp2_with (first
                          | ((refine ld_digG rfl (.tmp 18) rfl (Y) 0 (by rfl) D2 D2L.out (range_of_row GF.out) ?_); simp only [Act.put, List.setIfInBounds_toArray, List.set_cons_zero, List.set_cons_succ])
                          | ((refine ld_digG rfl (.tmp 5) rfl (H) 0 (by rfl) R RL.out (range_of_row GHF.out) ?_); simp only [Act.put, List.setIfInBounds_toArray, List.set_cons_zero, List.set_cons_succ])
                          | ((refine neq_digG rfl (.tmp 132) (.tmp 133) _ rfl D2 R (by rfl) (by rfl) D2L.out RL.out ?_); rw [EQ.out]; simp only [Act.put, List.setIfInBounds_toArray, List.set_cons_zero, List.set_cons_succ]))
                        go_ret
                        exact ⟨rfl, BW.out.trans (BF.out.mono BW.out.size)⟩
                    · have hg3 := HG2.out
                      rw [if_neg (fun h => he ⟨h.2.2.2.1, h.2.2.2.2.2.1⟩)] at hg3
                      subst hg3
                      clear he h0q h1q hkb HEND HG2
                      go_wp2_with fail
                      go_ret
                      exact ⟨rfl, BW.out.trans (BF.out.mono BW.out.size)⟩
        · rw [if_neg (fun h => hko h.1)] at hg
          have LC := SLeaf_bad E HEW.out hko wB
          have HLC := Lib.hid LC
          subst hg
          clear LC hko
          obtain ⟨Z, hZ⟩ : ∃ Z, Z = nz := ⟨_, rfl⟩
          have ZL := Lib.hid (show Z.length = 32 by rw [hZ]; rfl)
          rw [← hZ] at HLC
          clear hZ
          go_wp2_with (first
            | ((refine ld_entG rfl (.tmp 78) rfl ib (io + k * 33) (by rfl) E HEW.out.1 HRG.out ?_); simp only [Act.put, List.setIfInBounds_toArray, List.set_cons_zero, List.set_cons_succ])
              | ((refine st_entNew rfl (.tmp 15) (.tmp 79) rfl E HEW.out.1 (by rfl) _ _ (by rfl) (by rfl) ?_); rw [← HY.out, ← HWB.out])
              | ((refine ld_entG rfl (.tmp 15) rfl Y 0 (by rfl) E HEW.out.1 (range_ent GY.out) ?_); simp only [Act.put, List.setIfInBounds_toArray, List.set_cons_zero, List.set_cons_succ]))
          refine HLC.out.mono ?_
          rintro e wC ⟨rfl, hbC⟩
          have GYC := Lib.hid ((hbC.block Y (lt_of_heap GY.out)).trans GY.out)
          have BC := Lib.hid (BB.out.trans (hbC.mono BB.out.size))
          obtain ⟨V, hV⟩ : ∃ V, V = wC.heap.size := ⟨_, rfl⟩
          obtain ⟨wD, hwD⟩ : ∃ z, z = wC.alloc (.cells (dV Z) 23) := ⟨_, rfl⟩
          have bCD : Below wC.heap.size wC wD := by rw [hwD]; exact (Below.refl _ _).alloc (Nat.le_refl _) _
          have GV := Lib.hid (show wD.heap[V]? = some (.cells (dV Z) 23 (0, 0)) by rw [hwD, hV]; exact heap_alloc_new _ _)
          have GYD := Lib.hid ((bCD.block Y (lt_of_heap GYC.out)).trans GYC.out)
          have BD := Lib.hid (BC.out.trans (bCD.mono BC.out.size))
          have GHD := Lib.hid ((BD.out.block H (by omega)).trans G0.out)
          have HV := Lib.hid hV
          have HWD := Lib.hid hwD
          clear hbC hV hwD bCD HLC GY GYC
          have d0 := (BD.out.cell (p := ⟨H + 1, 0, none⟩) hsz).trans C0.out
          go_wp2_with ((refine st_new rfl (.tmp 16) (.tmp 83) rfl Z ZL.out (by rfl) _ _ (by rfl) (by rfl) ?_); rw [← HV.out, ← HWD.out])
          go_quiet (fail)
          go_wp2_with fail
          go_ret
          exact ⟨rfl, BW.out.trans ((below_drewN BD.out _).mono BW.out.size)⟩
      · obtain rfl : k = items.length := by omega
        have hg := HG.out
        rw [List.drop_of_length_le (Nat.le_refl _), fitS_nil] at hg
        subst hg
        clear HG
        go_wp2_with fail
        go_ret
        exact ⟨rfl, BW.out.trans (HBL.out.mono BW.out.size)⟩
set_option maxRecDepth 20000 in
set_option maxHeartbeats 16000000 in
theorem Fits_calls (R : List UInt8) (hR : R.length = 32) (n : Nat) (hn : n ≤ 256) (a b fr : Int) (ha : -9223372036854775808 ≤ a ∧ a ≤ 9223372036854775807) (hb : -9223372036854775808 ≤ b ∧ b ≤ 9223372036854775807) (hfr : -9223372036854775808 ≤ fr ∧ fr ≤ 9223372036854775807) (items : List En) (hw : ∀ e ∈ items, EnW e) (ia : Option Addr) (ic ie : Nat) (hil : items.length ≤ 9223372036854775807) (pss : List (List (List UInt8))) (hpl : pss.length = items.length) (vs : List Value) (pa : Option Addr) (pc pe : Nat) (w : World) (hri : Rd w ia ie (cellsE items)) (hrp : Rd w pa pe vs) (hps : PathsAt w pss vs) (hro : RoundsAt w) :
    Calls Tryd.prog 60 #[.agg (dV R), .int .i64 (n : Int), .int .i64 a, .int .i64 b, .agg #[.int .i64 fr, .slice ia items.length ic, .slice pa items.length pc]] w fun e w' => e = .returned (.bool (fitsB R n a b fr items pss)) ∧ Below w.heap.size w w' := by
  by_cases h0 : 0 < items.length
  · exact Fits_some R hR n hn a b fr ha hb hfr items hw ia ic ie hil pss hpl vs pa pc pe w hri hrp hps hro h0
  · exact Fits_none R hR n hn a b fr ha hb hfr items hw ia ic ie hil pss hpl vs pa pc pe w hri hrp hps hro h0
end Go.Proofs.YtpeomfehdccmmaaDoor
