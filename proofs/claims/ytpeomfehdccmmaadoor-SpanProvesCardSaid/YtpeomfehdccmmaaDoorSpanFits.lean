/- Walk: span.fits. -/
import Derived.Test.YtpeomfehdccmmaaDoorSpanFitB
import Derived.Test.YtpeomfehdccmmaaDoorSpanFitC
namespace Go.Proofs.YtpeomfehdccmmaaDoor
open Go.RowKit
set_option linter.unusedVariables false
set_option linter.unusedSimpArgs false
set_option maxRecDepth 20000 in
set_option maxHeartbeats 16000000 in
theorem Fits_none (R : List UInt8) (hR : R.length = 32) (n : Nat) (hn : n ≤ 256) (a b fr : Int) (ha : -9223372036854775808 ≤ a ∧ a ≤ 9223372036854775807) (hb : -9223372036854775808 ≤ b ∧ b ≤ 9223372036854775807) (hfr : -9223372036854775808 ≤ fr ∧ fr ≤ 9223372036854775807) (items : List En) (hw : ∀ e ∈ items, EnW e) (ia : Option Addr) (ic ie : Nat) (hil : items.length ≤ 9223372036854775807) (pss : List (List (List UInt8))) (hpl : pss.length = items.length) (vs : List Value) (pa : Option Addr) (pc pe : Nat) (w : World) (hri : Rd w ia ie (cellsE items)) (hrp : Rd w pa pe vs) (hps : PathsAt w pss vs) (hro : RoundsAt w) (h0 : ¬ 0 < items.length) :
    Calls Tryd.prog 60 #[.agg (dV R), .int .i64 (n : Int), .int .i64 a, .int .i64 b, .agg #[.int .i64 fr, .slice ia items.length ic, .slice pa items.length pc]] w fun e w' => e = .returned (.bool (fitsB R n a b fr items pss)) ∧ Below w.heap.size w w' := by
  obtain ⟨H, hH⟩ : ∃ H, H = w.heap.size := ⟨_, rfl⟩
  obtain ⟨v0, hv0⟩ : ∃ z, z = w.alloc (.cells (dV R) 23) := ⟨_, rfl⟩
  obtain ⟨v1, hv1⟩ : ∃ z, z = v0.alloc (.cells #[.int .i64 fr, .slice ia items.length ic, .slice pa items.length pc] 61) := ⟨_, rfl⟩
  have q0 : v0.heap.size = H + 1 := by rw [hv0, hH]; exact World.size_alloc _ _
  have q1 : v1.heap.size = H + 1 + 1 := by rw [hv1, World.size_alloc, q0]
  have s0 : Below (H) w v0 := by rw [hv0, hH]; exact (Below.refl _ _).alloc (Nat.le_refl _) _
  have s1 : Below (H + 1) v0 v1 := by rw [hv1, ← q0]; exact (Below.refl _ _).alloc (Nat.le_refl _) _
  have t1 : Below (H + 1 + 1) v1 v1 := Below.refl _ _
  have t0 : Below (H + 1) v0 v1 := s1.trans (t1.mono (by omega))
  have bL : Below H w v1 := s0.trans (t0.mono (by omega))
  have g0 : v1.heap[H]? = some (.cells (dV R) 23 (0, 0)) := by
    have g : v0.heap[H]? = some (.cells (dV R) 23 (0, 0)) := by rw [hv0, hH]; exact heap_alloc_new _ _
    exact (t0.block _ (by omega)).trans g
  have g1 : v1.heap[H + 1]? = some (.cells #[.int .i64 fr, .slice ia items.length ic, .slice pa items.length pc] 61 (0, 0)) := by
    have g : v1.heap[H + 1]? = some (.cells #[.int .i64 fr, .slice ia items.length ic, .slice pa items.length pc] 61 (0, 0)) := by rw [hv1, ← q0]; exact heap_alloc_new _ _
    exact (t1.block _ (by omega)).trans g
  have bW : Below w.heap.size w v1 := by rw [← hH]; exact bL
  have hsz : H + 1 < v1.heap.size := by omega
  have HH := Lib.hid hH
  have HW0 := Lib.hid hv0
  have HW1 := Lib.hid hv1
  have BL := Lib.hid bL
  have BW := Lib.hid bW
  have QL := Lib.hid q1
  have G0 := Lib.hid g0
  have G1 := Lib.hid g1
  clear hH hv0 hv1 q0 q1 s0 s1 t0 t1 g0 g1 bL bW
  have RL := Lib.hid hR
  have RO := Lib.hid (hro.at_ BW.out)
  have HWW := Lib.hid hw
  have HL := Lib.hid (show ∀ e ∈ items, e.val.length = 32 from fun e he => (hw e he).1)
  have RI := Lib.hid (hri.below BW.out)
  have RP := Lib.hid (hrp.below BW.out)
  have PS := Lib.hid (hps.below BW.out)
  have PN := Lib.hid hpl
  obtain ⟨c0, c1, c2⟩ := rng_cells G1.out
  have C0 := Lib.hid c0
  have C1 := Lib.hid c1
  have C2 := Lib.hid c2
  have HN := Lib.hid hn
  clear hR hro hw hri hrp hps hpl
  have h00 : items.length = 0 := by omega
  have hi0 : items = [] := List.length_eq_zero_iff.1 h00
  have HFB := Lib.hid (show fitsB R n a b fr items pss = decide (n = 0 ∧ fr = 0 ∧ R = shaOf []) by unfold fitsB; rw [dif_neg h0])
  rw [HFB.out]
  have TC := TRootD_calls [] (by decide) (fun _ h => by cases h) none 0 0 (Nat.le_refl _) (by decide) v1 (.inl rfl) RO.out
  rw [troot_nil, show ([] : List (List UInt8)).length = 0 from rfl] at TC
  obtain ⟨X, hX⟩ : ∃ X, X = shaOf [] := ⟨_, rfl⟩
  have XL := Lib.hid (show X.length = 32 by rw [hX]; exact shaOf_length _)
  rw [← hX] at TC ⊢
  have HTC := Lib.hid TC
  rw [h00] at c1 c2 ⊢
  have HW1b := HW1
  rw [h00] at HW1b
  clear TC hX h0 HW1 G1
  by_cases q1 : n = 0
  · have y1 : ((n : Int) == 0) = true := by rw [beq_iff_eq]; omega
    by_cases q2 : fr = 0
    · have y2 : (fr == 0) = true := by rw [beq_iff_eq]; exact q2
      by_cases q3 : R = X
      · have y3 := Lib.hid (show (R == X) = true by rw [q3]; simp)
        rw [decide_eq_true (show n = 0 ∧ fr = 0 ∧ R = X from ⟨q1, q2, q3⟩)]
        clear q1 q2 q3 h00 hi0
        go_enter Tryd.func60, Tryd.ntmps60
        go_upto_region 1 with fail
        rw [← HH.out, ← HW0.out, ← HW1b.out]
        go_wp2_with fail
        refine HTC.out.mono ?_
        rintro e v2 ⟨rfl, hb2⟩
        have G02 := Lib.hid ((hb2.block H (by omega)).trans G0.out)
        have B2 := Lib.hid (BL.out.trans (hb2.mono (by omega)))
        have c02 := (hb2.cell (p := ⟨H + 1, 0, none⟩) hsz).trans c0
        have hs2 : H + 1 < v2.heap.size := Nat.lt_of_lt_of_le hsz hb2.size
        clear hb2 HTC
        obtain ⟨Y, hY⟩ : ∃ Y, Y = v2.heap.size := ⟨_, rfl⟩
        obtain ⟨v3, hv3⟩ : ∃ z, z = v2.alloc (.cells (dV X) 23) := ⟨_, rfl⟩
        have b23 : Below v2.heap.size v2 v3 := by rw [hv3]; exact (Below.refl _ _).alloc (Nat.le_refl _) _
        have GY := Lib.hid (show v3.heap[Y]? = some (.cells (dV X) 23 (0, 0)) by rw [hv3, hY]; exact heap_alloc_new _ _)
        have G03 := Lib.hid ((b23.block H (by omega)).trans G02.out)
        have B3 := Lib.hid (B2.out.trans (b23.mono (by omega)))
        have c03 := (b23.cell (p := ⟨H + 1, 0, none⟩) hs2).trans c02
        have HY := Lib.hid hY
        have HV3 := Lib.hid hv3
        clear hY hv3 b23
        go_wp2_with (first
          | ((refine st_new rfl (.tmp 12) (.tmp 27) rfl X XL.out (by rfl) _ _ (by rfl) (by rfl) ?_); rw [← HY.out, ← HV3.out])
          | ((refine ld_digG rfl (.tmp 5) rfl (H) 0 (by rfl) R RL.out (range_of_row G03.out) ?_); simp only [Act.put, List.setIfInBounds_toArray, List.set_cons_zero, List.set_cons_succ])
          | ((refine ld_digG rfl (.tmp 12) rfl (Y) 0 (by rfl) X XL.out (range_of_row GY.out) ?_); simp only [Act.put, List.setIfInBounds_toArray, List.set_cons_zero, List.set_cons_succ])
          | ((refine eq_digG rfl (.tmp 37) (.tmp 38) _ rfl R X (by rfl) (by rfl) RL.out XL.out ?_); rw [y3.out]; simp only [Act.put, List.setIfInBounds_toArray, List.set_cons_zero, List.set_cons_succ]))
        go_ret
        exact ⟨rfl, by rw [← HH.out]; exact B3.out⟩
      · have y3 := Lib.hid (show (R == X) = false by rw [beq_eq_false_iff_ne]; exact q3)
        rw [decide_eq_false (show ¬ (n = 0 ∧ fr = 0 ∧ R = X) from fun h => q3 h.2.2)]
        clear q1 q2 q3 h00 hi0
        go_enter Tryd.func60, Tryd.ntmps60
        go_upto_region 1 with fail
        rw [← HH.out, ← HW0.out, ← HW1b.out]
        go_wp2_with fail
        refine HTC.out.mono ?_
        rintro e v2 ⟨rfl, hb2⟩
        have G02 := Lib.hid ((hb2.block H (by omega)).trans G0.out)
        have B2 := Lib.hid (BL.out.trans (hb2.mono (by omega)))
        have c02 := (hb2.cell (p := ⟨H + 1, 0, none⟩) hsz).trans c0
        have hs2 : H + 1 < v2.heap.size := Nat.lt_of_lt_of_le hsz hb2.size
        clear hb2 HTC
        obtain ⟨Y, hY⟩ : ∃ Y, Y = v2.heap.size := ⟨_, rfl⟩
        obtain ⟨v3, hv3⟩ : ∃ z, z = v2.alloc (.cells (dV X) 23) := ⟨_, rfl⟩
        have b23 : Below v2.heap.size v2 v3 := by rw [hv3]; exact (Below.refl _ _).alloc (Nat.le_refl _) _
        have GY := Lib.hid (show v3.heap[Y]? = some (.cells (dV X) 23 (0, 0)) by rw [hv3, hY]; exact heap_alloc_new _ _)
        have G03 := Lib.hid ((b23.block H (by omega)).trans G02.out)
        have B3 := Lib.hid (B2.out.trans (b23.mono (by omega)))
        have c03 := (b23.cell (p := ⟨H + 1, 0, none⟩) hs2).trans c02
        have HY := Lib.hid hY
        have HV3 := Lib.hid hv3
        clear hY hv3 b23
        go_wp2_with (first
          | ((refine st_new rfl (.tmp 12) (.tmp 27) rfl X XL.out (by rfl) _ _ (by rfl) (by rfl) ?_); rw [← HY.out, ← HV3.out])
          | ((refine ld_digG rfl (.tmp 5) rfl (H) 0 (by rfl) R RL.out (range_of_row G03.out) ?_); simp only [Act.put, List.setIfInBounds_toArray, List.set_cons_zero, List.set_cons_succ])
          | ((refine ld_digG rfl (.tmp 12) rfl (Y) 0 (by rfl) X XL.out (range_of_row GY.out) ?_); simp only [Act.put, List.setIfInBounds_toArray, List.set_cons_zero, List.set_cons_succ])
          | ((refine eq_digG rfl (.tmp 37) (.tmp 38) _ rfl R X (by rfl) (by rfl) RL.out XL.out ?_); rw [y3.out]; simp only [Act.put, List.setIfInBounds_toArray, List.set_cons_zero, List.set_cons_succ]))
        go_ret
        exact ⟨rfl, by rw [← HH.out]; exact B3.out⟩
    · have y2 : (fr == 0) = false := by rw [beq_eq_false_iff_ne]; exact q2
      rw [decide_eq_false (show ¬ (n = 0 ∧ fr = 0 ∧ R = X) from fun h => q2 h.2.1)]
      clear q1 q2 h00 hi0
      go_enter Tryd.func60, Tryd.ntmps60
      go_upto_region 1 with fail
      rw [← HH.out, ← HW0.out, ← HW1b.out]
      go_wp2_with fail
      refine HTC.out.mono ?_
      rintro e v2 ⟨rfl, hb2⟩
      have G02 := Lib.hid ((hb2.block H (by omega)).trans G0.out)
      have B2 := Lib.hid (BL.out.trans (hb2.mono (by omega)))
      have c02 := (hb2.cell (p := ⟨H + 1, 0, none⟩) hsz).trans c0
      have hs2 : H + 1 < v2.heap.size := Nat.lt_of_lt_of_le hsz hb2.size
      clear hb2 HTC
      obtain ⟨Y, hY⟩ : ∃ Y, Y = v2.heap.size := ⟨_, rfl⟩
      obtain ⟨v3, hv3⟩ : ∃ z, z = v2.alloc (.cells (dV X) 23) := ⟨_, rfl⟩
      have b23 : Below v2.heap.size v2 v3 := by rw [hv3]; exact (Below.refl _ _).alloc (Nat.le_refl _) _
      have GY := Lib.hid (show v3.heap[Y]? = some (.cells (dV X) 23 (0, 0)) by rw [hv3, hY]; exact heap_alloc_new _ _)
      have G03 := Lib.hid ((b23.block H (by omega)).trans G02.out)
      have B3 := Lib.hid (B2.out.trans (b23.mono (by omega)))
      have c03 := (b23.cell (p := ⟨H + 1, 0, none⟩) hs2).trans c02
      have HY := Lib.hid hY
      have HV3 := Lib.hid hv3
      clear hY hv3 b23
      go_wp2_with (first
        | ((refine st_new rfl (.tmp 12) (.tmp 27) rfl X XL.out (by rfl) _ _ (by rfl) (by rfl) ?_); rw [← HY.out, ← HV3.out]))
      go_ret
      exact ⟨rfl, by rw [← HH.out]; exact B3.out⟩
  · have y1 : ((n : Int) == 0) = false := by rw [beq_eq_false_iff_ne]; omega
    rw [decide_eq_false (show ¬ (n = 0 ∧ fr = 0 ∧ R = X) from fun h => q1 h.1)]
    clear q1 h00 hi0
    go_enter Tryd.func60, Tryd.ntmps60
    go_upto_region 1 with fail
    rw [← HH.out, ← HW0.out, ← HW1b.out]
    go_wp2_with fail
    refine HTC.out.mono ?_
    rintro e v2 ⟨rfl, hb2⟩
    have G02 := Lib.hid ((hb2.block H (by omega)).trans G0.out)
    have B2 := Lib.hid (BL.out.trans (hb2.mono (by omega)))
    have c02 := (hb2.cell (p := ⟨H + 1, 0, none⟩) hsz).trans c0
    have hs2 : H + 1 < v2.heap.size := Nat.lt_of_lt_of_le hsz hb2.size
    clear hb2 HTC
    obtain ⟨Y, hY⟩ : ∃ Y, Y = v2.heap.size := ⟨_, rfl⟩
    obtain ⟨v3, hv3⟩ : ∃ z, z = v2.alloc (.cells (dV X) 23) := ⟨_, rfl⟩
    have b23 : Below v2.heap.size v2 v3 := by rw [hv3]; exact (Below.refl _ _).alloc (Nat.le_refl _) _
    have GY := Lib.hid (show v3.heap[Y]? = some (.cells (dV X) 23 (0, 0)) by rw [hv3, hY]; exact heap_alloc_new _ _)
    have G03 := Lib.hid ((b23.block H (by omega)).trans G02.out)
    have B3 := Lib.hid (B2.out.trans (b23.mono (by omega)))
    have c03 := (b23.cell (p := ⟨H + 1, 0, none⟩) hs2).trans c02
    have HY := Lib.hid hY
    have HV3 := Lib.hid hv3
    clear hY hv3 b23
    go_wp2_with (first
      | ((refine st_new rfl (.tmp 12) (.tmp 27) rfl X XL.out (by rfl) _ _ (by rfl) (by rfl) ?_); rw [← HY.out, ← HV3.out]))
    go_ret
    exact ⟨rfl, by rw [← HH.out]; exact B3.out⟩
set_option maxRecDepth 20000 in
set_option maxHeartbeats 16000000 in
theorem Fits_calls (R : List UInt8) (hR : R.length = 32) (n : Nat) (hn : n ≤ 256) (a b fr : Int) (ha : -9223372036854775808 ≤ a ∧ a ≤ 9223372036854775807) (hb : -9223372036854775808 ≤ b ∧ b ≤ 9223372036854775807) (hfr : -9223372036854775808 ≤ fr ∧ fr ≤ 9223372036854775807) (items : List En) (hw : ∀ e ∈ items, EnW e) (ia : Option Addr) (ic ie : Nat) (hil : items.length ≤ 9223372036854775807) (pss : List (List (List UInt8))) (hpl : pss.length = items.length) (vs : List Value) (pa : Option Addr) (pc pe : Nat) (w : World) (hri : Rd w ia ie (cellsE items)) (hrp : Rd w pa pe vs) (hps : PathsAt w pss vs) (hro : RoundsAt w) :
    Calls Tryd.prog 60 #[.agg (dV R), .int .i64 (n : Int), .int .i64 a, .int .i64 b, .agg #[.int .i64 fr, .slice ia items.length ic, .slice pa items.length pc]] w fun e w' => e = .returned (.bool (fitsB R n a b fr items pss)) ∧ Below w.heap.size w w' := by
  by_cases h0 : 0 < items.length
  · by_cases hc1 : fr = 0
    · exact Fits_first R hR n hn a b fr ha hb hfr items hw ia ic ie hil pss hpl vs pa pc pe w hri hrp hps hro h0 hc1
    · exact Fits_other R hR n hn a b fr ha hb hfr items hw ia ic ie hil pss hpl vs pa pc pe w hri hrp hps hro h0 hc1
  · exact Fits_none R hR n hn a b fr ha hb hfr items hw ia ic ie hil pss hpl vs pa pc pe w hri hrp hps hro h0
end Go.Proofs.YtpeomfehdccmmaaDoor
