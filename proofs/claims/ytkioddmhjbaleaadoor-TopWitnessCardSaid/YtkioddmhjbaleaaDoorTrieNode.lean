/- Walks: sha.Of, trie.Node. -/
import Derived.Test.YtkioddmhjbaleaaDoorTrieBase
namespace Go.Proofs.YtkioddmhjbaleaaDoor
open Go.RowKit
set_option linter.unusedVariables false
set_option linter.unusedSimpArgs false
set_option maxRecDepth 20000 in
set_option maxHeartbeats 4000000 in
theorem Node_calls (l r : List UInt8) (hl : l.length = 32) (hr : r.length = 32) (w : World) (hro : RoundsAt w) :
    Calls Tryd.prog 150 #[.agg (dV l), .agg (dV r)] w fun e w' => e = .returned (.agg (dV (nodeD l r))) ∧ Below w.heap.size w w' := by
  obtain ⟨Z, hZ⟩ : ∃ Z, Z = nz := ⟨_, rfl⟩
  have zl : Z.length = 32 := by rw [hZ]; rfl
  have zlit : (#[.int .u8 0, .int .u8 0, .int .u8 0, .int .u8 0, .int .u8 0, .int .u8 0, .int .u8 0, .int .u8 0, .int .u8 0, .int .u8 0, .int .u8 0, .int .u8 0, .int .u8 0, .int .u8 0, .int .u8 0, .int .u8 0, .int .u8 0, .int .u8 0, .int .u8 0, .int .u8 0, .int .u8 0, .int .u8 0, .int .u8 0, .int .u8 0, .int .u8 0, .int .u8 0, .int .u8 0, .int .u8 0, .int .u8 0, .int .u8 0, .int .u8 0, .int .u8 0] : Array Value) = dV Z := by rw [hZ]; exact zdig
  have ZL := Lib.hid zl
  have ZT := Lib.hid zlit
  have HZ := Lib.hid hZ
  clear zl zlit hZ
  obtain ⟨H, hH⟩ : ∃ H, H = w.heap.size := ⟨_, rfl⟩
  obtain ⟨w0, hw0⟩ : ∃ z, z = w.alloc (.cells (dV l) 23) := ⟨_, rfl⟩
  obtain ⟨w1, hw1⟩ : ∃ z, z = w0.alloc (.cells (dV r) 23) := ⟨_, rfl⟩
  obtain ⟨w2, hw2⟩ : ∃ z, z = w1.alloc (.cells (dV Z) 23) := ⟨_, rfl⟩
  obtain ⟨w3, hw3⟩ : ∃ z, z = w2.alloc (.cells (dV Z) 23) := ⟨_, rfl⟩
  have q0 : w0.heap.size = H + 1 := by rw [hw0, hH]; exact World.size_alloc _ _
  have q1 : w1.heap.size = H + 1 + 1 := by rw [hw1, World.size_alloc, q0]
  have q2 : w2.heap.size = H + 1 + 1 + 1 := by rw [hw2, World.size_alloc, q1]
  have q3 : w3.heap.size = H + 1 + 1 + 1 + 1 := by rw [hw3, World.size_alloc, q2]
  have s0 : Below (H) w w0 := by rw [hw0, hH]; exact (Below.refl _ _).alloc (Nat.le_refl _) _
  have s1 : Below (H + 1) w0 w1 := by rw [hw1, ← q0]; exact (Below.refl _ _).alloc (Nat.le_refl _) _
  have s2 : Below (H + 1 + 1) w1 w2 := by rw [hw2, ← q1]; exact (Below.refl _ _).alloc (Nat.le_refl _) _
  have s3 : Below (H + 1 + 1 + 1) w2 w3 := by rw [hw3, ← q2]; exact (Below.refl _ _).alloc (Nat.le_refl _) _
  have t3 : Below (H + 1 + 1 + 1 + 1) w3 w3 := Below.refl _ _
  have t2 : Below (H + 1 + 1 + 1) w2 w3 := s3.trans (t3.mono (by omega))
  have t1 : Below (H + 1 + 1) w1 w3 := s2.trans (t2.mono (by omega))
  have t0 : Below (H + 1) w0 w3 := s1.trans (t1.mono (by omega))
  have bL : Below H w w3 := s0.trans (t0.mono (by omega))
  have g0 : w3.heap[H]? = some (.cells (dV l) 23 (0, 0)) := by
    have g : w0.heap[H]? = some (.cells (dV l) 23 (0, 0)) := by rw [hw0, hH]; exact heap_alloc_new _ _
    exact (t0.block _ (by omega)).trans g
  have g1 : w3.heap[H + 1]? = some (.cells (dV r) 23 (0, 0)) := by
    have g : w1.heap[H + 1]? = some (.cells (dV r) 23 (0, 0)) := by rw [hw1, ← q0]; exact heap_alloc_new _ _
    exact (t1.block _ (by omega)).trans g
  have g2 : w3.heap[H + 1 + 1]? = some (.cells (dV Z) 23 (0, 0)) := by
    have g : w2.heap[H + 1 + 1]? = some (.cells (dV Z) 23 (0, 0)) := by rw [hw2, ← q1]; exact heap_alloc_new _ _
    exact (t2.block _ (by omega)).trans g
  have g3 : w3.heap[H + 1 + 1 + 1]? = some (.cells (dV Z) 23 (0, 0)) := by
    have g : w3.heap[H + 1 + 1 + 1]? = some (.cells (dV Z) 23 (0, 0)) := by rw [hw3, ← q2]; exact heap_alloc_new _ _
    exact (t3.block _ (by omega)).trans g
  have bW : Below w.heap.size w w3 := by rw [← hH]; exact bL
  have hsz : H + 1 + 1 + 1 < w3.heap.size := by omega
  have HH := Lib.hid hH
  have HW0 := Lib.hid hw0
  have HW1 := Lib.hid hw1
  have HW2 := Lib.hid hw2
  have HW3 := Lib.hid hw3
  have BL := Lib.hid bL
  have BW := Lib.hid bW
  have QL := Lib.hid q3
  have G0 := Lib.hid g0
  have G1 := Lib.hid g1
  have G2 := Lib.hid g2
  have G3 := Lib.hid g3
  clear hH hw0 hw1 hw2 hw3 q0 q1 q2 q3 s0 s1 s2 s3 t0 t1 t2 t3 g0 g1 g2 g3 bL bW
  have ro3 : RoundsAt w3 := hro.at_ BW.out
  have RO3 := Lib.hid ro3
  have HL := Lib.hid hl
  have HR := Lib.hid hr
  clear ro3 hro hl hr
  by_cases h12 : l = nz ∧ r = nz
  · have e1 : (l == Z) = true := by rw [HZ.out, h12.1]; rfl
    have e2 : (r == Z) = true := by rw [HZ.out, h12.2]; rfl
    have en : nodeD l r = nz := by unfold nodeD; rw [← HZ.out, e1, e2]; rfl
    have E1 := Lib.hid e1
    have E2 := Lib.hid e2
    have EN := Lib.hid en
    clear e1 e2 h12 en
    rw [EN.out, ← HZ.out]
    go_enter Tryd.func150, Tryd.ntmps150
    go_upto_region 2 with (first | (refine wpl_zero rfl rfl Z HZ.out ?_) | (refine st_new rfl (.tmp 5) (.tmp 6) rfl Z ZL.out (by rfl) _ _ (by rfl) (by simp; rfl) ?_))
    rw [ZT.out, ← HH.out, ← HW0.out, ← HW1.out, ← HW2.out, ← HW3.out]
    go_wp2_with (first
      | ((refine ld_digG rfl (.tmp 2) rfl (H) 0 (by rfl) l HL.out (range_of_row G0.out) ?_); simp only [Act.put, List.setIfInBounds_toArray, List.set_cons_zero, List.set_cons_succ])
      | ((refine ld_digG rfl (.tmp 5) rfl (H + 1 + 1 + 1) 0 (by rfl) Z ZL.out (range_of_row G3.out) ?_); simp only [Act.put, List.setIfInBounds_toArray, List.set_cons_zero, List.set_cons_succ])
      | ((refine eq_digG rfl (.tmp 7) (.tmp 8) _ rfl l Z (by rfl) (by rfl) HL.out ZL.out ?_); rw [E1.out]; simp only [Act.put, List.setIfInBounds_toArray, List.set_cons_zero, List.set_cons_succ])
      | ((refine ld_digG rfl (.tmp 3) rfl (H + 1) 0 (by rfl) r HR.out (range_of_row G1.out) ?_); simp only [Act.put, List.setIfInBounds_toArray, List.set_cons_zero, List.set_cons_succ])
      | ((refine ld_digG rfl (.tmp 5) rfl (H + 1 + 1 + 1) 0 (by rfl) Z ZL.out (range_of_row G3.out) ?_); simp only [Act.put, List.setIfInBounds_toArray, List.set_cons_zero, List.set_cons_succ])
      | ((refine eq_digG rfl (.tmp 11) (.tmp 12) _ rfl r Z (by rfl) (by rfl) HR.out ZL.out ?_); rw [E2.out]; simp only [Act.put, List.setIfInBounds_toArray, List.set_cons_zero, List.set_cons_succ])
      | ((refine ld_digG rfl (.tmp 5) rfl (H + 1 + 1 + 1) 0 (by rfl) Z ZL.out (range_of_row G3.out) ?_); simp only [Act.put, List.setIfInBounds_toArray, List.set_cons_zero, List.set_cons_succ])
      | (refine st_row rfl (.tmp 4) (.tmp 15) rfl (H + 1 + 1) Z ZL.out (by rfl) (by rfl) (dV Z) (dV_size ZL.out) _ G2.out ?_))
    try simp only [Exit.inBlock, Exit.then]
    refine bodyPost_ret (v := .agg (dV Z)) (results_cellW rfl _ _ _ ⟨H + 1 + 1, 0, none⟩ _ rfl ?_) rfl ?_
    · exact dig_load ZL.out (range_of_row (setRow_heap _ _ _ _ _ _ G2.out))
    · exact ⟨rfl, by rw [← HH.out]; exact below_setRowW BL.out (by omega) _⟩
  · have ed : nodeD l r = shaOf (10 :: [l, r].flatten) := by
      unfold nodeD nodeTxt
      rw [if_neg (by simpa using h12)]
      simp
    have nd : ∀ d ∈ [l, r], d.length = 32 := by
      intro d hd
      rcases List.mem_cons.1 hd with rfl | hd
      · exact HL.out
      · rw [List.mem_singleton.1 hd]; exact HR.out
    obtain ⟨w4, hw4⟩ : ∃ z, z = w3.alloc (.cells (dV (l ++ r)) 23) := ⟨_, rfl⟩
    have hb4 : Below w3.heap.size w3 w4 := by rw [hw4]; exact (Below.refl _ _).alloc (Nat.le_refl _) _
    have r4 : Rd w4 (some ⟨w3.heap.size, 0, none⟩) 23 ([l, r].flatten.map vB) := by
      rw [hw4, show [l, r].flatten = l ++ r by simp]; exact Rd.box w3 (l ++ r) _
    have OC := ShaOf_calls 10 [l, r] nd (by simp) _ 2 _ w4 r4 (RO3.out.at_ hb4)
    rw [← ed] at OC
    have ED := Lib.hid (nodeD_length l r)
    have HW4 := Lib.hid hw4
    have B4 := Lib.hid hb4
    have HOC := Lib.hid OC
    have hs4 := hb4.size
    clear ed nd hw4 hb4 r4 OC
    by_cases h1 : l = nz
    · have e1 : (l == Z) = true := by rw [HZ.out, h1]; rfl
      have e2 : (r == Z) = false := by rw [HZ.out, beq_eq_false_iff_ne]; exact fun h => h12 ⟨h1, h⟩
      have E1 := Lib.hid e1
      have E2 := Lib.hid e2
      clear e1 e2 h12 h1
      go_enter Tryd.func150, Tryd.ntmps150
      go_upto_region 2 with (first | (refine wpl_zero rfl rfl Z HZ.out ?_) | (refine st_new rfl (.tmp 5) (.tmp 6) rfl Z ZL.out (by rfl) _ _ (by rfl) (by simp; rfl) ?_))
      rw [ZT.out, ← HH.out, ← HW0.out, ← HW1.out, ← HW2.out, ← HW3.out]
      go_wp2_with (first
        | ((refine ld_digG rfl (.tmp 2) rfl (H) 0 (by rfl) l HL.out (range_of_row G0.out) ?_); simp only [Act.put, List.setIfInBounds_toArray, List.set_cons_zero, List.set_cons_succ])
        | ((refine ld_digG rfl (.tmp 5) rfl (H + 1 + 1 + 1) 0 (by rfl) Z ZL.out (range_of_row G3.out) ?_); simp only [Act.put, List.setIfInBounds_toArray, List.set_cons_zero, List.set_cons_succ])
        | ((refine eq_digG rfl (.tmp 7) (.tmp 8) _ rfl l Z (by rfl) (by rfl) HL.out ZL.out ?_); rw [E1.out]; simp only [Act.put, List.setIfInBounds_toArray, List.set_cons_zero, List.set_cons_succ])
        | ((refine ld_digG rfl (.tmp 3) rfl (H + 1) 0 (by rfl) r HR.out (range_of_row G1.out) ?_); simp only [Act.put, List.setIfInBounds_toArray, List.set_cons_zero, List.set_cons_succ])
        | ((refine ld_digG rfl (.tmp 5) rfl (H + 1 + 1 + 1) 0 (by rfl) Z ZL.out (range_of_row G3.out) ?_); simp only [Act.put, List.setIfInBounds_toArray, List.set_cons_zero, List.set_cons_succ])
        | ((refine eq_digG rfl (.tmp 11) (.tmp 12) _ rfl r Z (by rfl) (by rfl) HR.out ZL.out ?_); rw [E2.out]; simp only [Act.put, List.setIfInBounds_toArray, List.set_cons_zero, List.set_cons_succ])
        | ((refine wpl_build2 31 23 _ 32 32 Tryd.underlying31 info_dig (by omega) (by omega) rfl (.tmp 16) (.tmp 17) rfl (dV l) (dV r) (by rfl) (by rfl) (dV_size HL.out) (dV_size HR.out) ?_); rw [dV_app, ← HW4.out]; simp only [Act.put, List.setIfInBounds_toArray, List.set_cons_zero, List.set_cons_succ])
        | ((refine ld_digG rfl (.tmp 2) rfl (H) 0 (by rfl) l HL.out (range_of_row G0.out) ?_); simp only [Act.put, List.setIfInBounds_toArray, List.set_cons_zero, List.set_cons_succ])
        | ((refine ld_digG rfl (.tmp 3) rfl (H + 1) 0 (by rfl) r HR.out (range_of_row G1.out) ?_); simp only [Act.put, List.setIfInBounds_toArray, List.set_cons_zero, List.set_cons_succ]))
      refine HOC.out.mono ?_
      rintro e w5 ⟨rfl, hb5⟩
      have b35 := B4.out.trans (hb5.mono hs4)
      have G5 := Lib.hid ((b35.block _ (by omega)).trans G2.out)
      have B5 := Lib.hid (BL.out.trans (b35.mono (by omega)))
      clear hb5 b35 HOC
      go_wp2_with (refine st_row rfl (.tmp 4) (.tmp 19) rfl (H + 1 + 1) (nodeD l r) ED.out (by rfl) (by rfl) (dV Z) (dV_size ZL.out) _ G5.out ?_)
      try simp only [Exit.inBlock, Exit.then]
      refine bodyPost_ret (v := .agg (dV (nodeD l r))) (results_cellW rfl _ _ _ ⟨H + 1 + 1, 0, none⟩ _ rfl ?_) rfl ?_
      · exact dig_load ED.out (range_of_row (setRow_heap _ _ _ _ _ _ G5.out))
      · exact ⟨rfl, by rw [← HH.out]; exact below_setRowW B5.out (by omega) _⟩
    · have e1 : (l == Z) = false := by rw [HZ.out, beq_eq_false_iff_ne]; exact h1
      have E1 := Lib.hid e1
      clear e1 h12 h1
      go_enter Tryd.func150, Tryd.ntmps150
      go_upto_region 2 with (first | (refine wpl_zero rfl rfl Z HZ.out ?_) | (refine st_new rfl (.tmp 5) (.tmp 6) rfl Z ZL.out (by rfl) _ _ (by rfl) (by simp; rfl) ?_))
      rw [ZT.out, ← HH.out, ← HW0.out, ← HW1.out, ← HW2.out, ← HW3.out]
      go_wp2_with (first
        | ((refine ld_digG rfl (.tmp 2) rfl (H) 0 (by rfl) l HL.out (range_of_row G0.out) ?_); simp only [Act.put, List.setIfInBounds_toArray, List.set_cons_zero, List.set_cons_succ])
        | ((refine ld_digG rfl (.tmp 5) rfl (H + 1 + 1 + 1) 0 (by rfl) Z ZL.out (range_of_row G3.out) ?_); simp only [Act.put, List.setIfInBounds_toArray, List.set_cons_zero, List.set_cons_succ])
        | ((refine eq_digG rfl (.tmp 7) (.tmp 8) _ rfl l Z (by rfl) (by rfl) HL.out ZL.out ?_); rw [E1.out]; simp only [Act.put, List.setIfInBounds_toArray, List.set_cons_zero, List.set_cons_succ])
        | ((refine wpl_build2 31 23 _ 32 32 Tryd.underlying31 info_dig (by omega) (by omega) rfl (.tmp 16) (.tmp 17) rfl (dV l) (dV r) (by rfl) (by rfl) (dV_size HL.out) (dV_size HR.out) ?_); rw [dV_app, ← HW4.out]; simp only [Act.put, List.setIfInBounds_toArray, List.set_cons_zero, List.set_cons_succ])
        | ((refine ld_digG rfl (.tmp 2) rfl (H) 0 (by rfl) l HL.out (range_of_row G0.out) ?_); simp only [Act.put, List.setIfInBounds_toArray, List.set_cons_zero, List.set_cons_succ])
        | ((refine ld_digG rfl (.tmp 3) rfl (H + 1) 0 (by rfl) r HR.out (range_of_row G1.out) ?_); simp only [Act.put, List.setIfInBounds_toArray, List.set_cons_zero, List.set_cons_succ]))
      refine HOC.out.mono ?_
      rintro e w5 ⟨rfl, hb5⟩
      have b35 := B4.out.trans (hb5.mono hs4)
      have G5 := Lib.hid ((b35.block _ (by omega)).trans G2.out)
      have B5 := Lib.hid (BL.out.trans (b35.mono (by omega)))
      clear hb5 b35 HOC
      go_wp2_with (refine st_row rfl (.tmp 4) (.tmp 19) rfl (H + 1 + 1) (nodeD l r) ED.out (by rfl) (by rfl) (dV Z) (dV_size ZL.out) _ G5.out ?_)
      try simp only [Exit.inBlock, Exit.then]
      refine bodyPost_ret (v := .agg (dV (nodeD l r))) (results_cellW rfl _ _ _ ⟨H + 1 + 1, 0, none⟩ _ rfl ?_) rfl ?_
      · exact dig_load ED.out (range_of_row (setRow_heap _ _ _ _ _ _ G5.out))
      · exact ⟨rfl, by rw [← HH.out]; exact below_setRowW B5.out (by omega) _⟩
end Go.Proofs.YtkioddmhjbaleaaDoor
