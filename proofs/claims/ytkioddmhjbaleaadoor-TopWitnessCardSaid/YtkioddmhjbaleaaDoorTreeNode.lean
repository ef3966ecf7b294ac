/- Walks: the digest of bytes, and of two; the root of leaves: the program's and the document's. -/
import Derived.Test.YtkioddmhjbaleaaDoorTreeLay
import Derived.Test.YtkioddmhjbaleaaDoorDigOf
namespace Go.Proofs.YtkioddmhjbaleaaDoor
open Go.RowKit
set_option linter.unusedVariables false
set_option linter.unusedSimpArgs false

theorem own_text (b : List UInt8) (w : World) : Rd (w.alloc (.cells #[.int .u8 0] 5)) (some ⟨w.heap.size, 0, none⟩) 5 ([(0 : UInt8)].map vB) := Rd.new w _ _
theorem flat_take : ∀ (ls : List (List UInt8)), (∀ d ∈ ls, d.length = 32) → ∀ k, (ls.take k).flatten = ls.flatten.take (k * 32)
  | [], _, k => by simp
  | d :: ls, h, 0 => by simp
  | d :: ls, h, k + 1 => by
    have hd := h d (List.mem_cons_self ..)
    rw [List.take_succ_cons, List.flatten_cons, List.flatten_cons, flat_take ls (fun x hx => h x (List.mem_cons_of_mem _ hx)) k, List.take_append, List.take_of_length_le (l := d) (by omega), hd, show (k + 1) * 32 - 32 = k * 32 by omega]
theorem flat_drop : ∀ (ls : List (List UInt8)), (∀ d ∈ ls, d.length = 32) → ∀ k, (ls.drop k).flatten = ls.flatten.drop (k * 32)
  | [], _, k => by simp
  | d :: ls, h, 0 => by simp
  | d :: ls, h, k + 1 => by
    have hd := h d (List.mem_cons_self ..)
    rw [List.drop_succ_cons, List.flatten_cons, flat_drop ls (fun x hx => h x (List.mem_cons_of_mem _ hx)) k, List.drop_append, List.drop_of_length_le (l := d) (by omega), hd, show (k + 1) * 32 - 32 = k * 32 by omega, List.nil_append]
set_option maxRecDepth 20000 in
set_option maxHeartbeats 2000000 in
theorem TNode_calls (l r : List UInt8) (hl : l.length = 32) (hr : r.length = 32) (w : World) (hro : RoundsAt w) :
    Calls Tryd.prog 87 #[.agg (dV l), .agg (dV r)] w fun e w' => e = .returned (.agg (dV (tnode l r))) ∧ Below w.heap.size w w' := by
  obtain ⟨Z, hZ⟩ : ∃ Z, Z = nz := ⟨_, rfl⟩
  have zl : Z.length = 32 := by rw [hZ]; rfl
  have zlit : (#[.int .u8 0, .int .u8 0, .int .u8 0, .int .u8 0, .int .u8 0, .int .u8 0, .int .u8 0, .int .u8 0, .int .u8 0, .int .u8 0, .int .u8 0, .int .u8 0, .int .u8 0, .int .u8 0, .int .u8 0, .int .u8 0, .int .u8 0, .int .u8 0, .int .u8 0, .int .u8 0, .int .u8 0, .int .u8 0, .int .u8 0, .int .u8 0, .int .u8 0, .int .u8 0, .int .u8 0, .int .u8 0, .int .u8 0, .int .u8 0, .int .u8 0, .int .u8 0] : Array Value) = dV Z := by rw [hZ]; exact zdig
  have ZL := Lib.hid zl
  have ZT := Lib.hid zlit
  have HZ := Lib.hid hZ
  clear zl zlit hZ
  obtain ⟨H, hH⟩ : ∃ H, H = w.heap.size := ⟨_, rfl⟩
  obtain ⟨w0, hw0⟩ : ∃ z, z = w.alloc (.cells (dV l) 23) := ⟨_, rfl⟩
  obtain ⟨w1, hw1⟩ : ∃ z, z = w0.alloc (.cells (dV r) 23) := ⟨_, rfl⟩
  obtain ⟨w2, hw2⟩ : ∃ z, z = w1.alloc (.cells (dV Z) 23) := ⟨_, rfl⟩
  have q0 : w0.heap.size = H + 1 := by rw [hw0, hH]; exact World.size_alloc _ _
  have q1 : w1.heap.size = H + 1 + 1 := by rw [hw1, World.size_alloc, q0]
  have q2 : w2.heap.size = H + 1 + 1 + 1 := by rw [hw2, World.size_alloc, q1]
  have s0 : Below (H) w w0 := by rw [hw0, hH]; exact (Below.refl _ _).alloc (Nat.le_refl _) _
  have s1 : Below (H + 1) w0 w1 := by rw [hw1, ← q0]; exact (Below.refl _ _).alloc (Nat.le_refl _) _
  have s2 : Below (H + 1 + 1) w1 w2 := by rw [hw2, ← q1]; exact (Below.refl _ _).alloc (Nat.le_refl _) _
  have t2 : Below (H + 1 + 1 + 1) w2 w2 := Below.refl _ _
  have t1 : Below (H + 1 + 1) w1 w2 := s2.trans (t2.mono (by omega))
  have t0 : Below (H + 1) w0 w2 := s1.trans (t1.mono (by omega))
  have bL : Below H w w2 := s0.trans (t0.mono (by omega))
  have g0 : w2.heap[H]? = some (.cells (dV l) 23 (0, 0)) := by
    have g : w0.heap[H]? = some (.cells (dV l) 23 (0, 0)) := by rw [hw0, hH]; exact heap_alloc_new _ _
    exact (t0.block _ (by omega)).trans g
  have g1 : w2.heap[H + 1]? = some (.cells (dV r) 23 (0, 0)) := by
    have g : w1.heap[H + 1]? = some (.cells (dV r) 23 (0, 0)) := by rw [hw1, ← q0]; exact heap_alloc_new _ _
    exact (t1.block _ (by omega)).trans g
  have g2 : w2.heap[H + 1 + 1]? = some (.cells (dV Z) 23 (0, 0)) := by
    have g : w2.heap[H + 1 + 1]? = some (.cells (dV Z) 23 (0, 0)) := by rw [hw2, ← q1]; exact heap_alloc_new _ _
    exact (t2.block _ (by omega)).trans g
  have bW : Below w.heap.size w w2 := by rw [← hH]; exact bL
  have hsz : H + 1 + 1 < w2.heap.size := by omega
  have HH := Lib.hid hH
  have HW0 := Lib.hid hw0
  have HW1 := Lib.hid hw1
  have HW2 := Lib.hid hw2
  have BL := Lib.hid bL
  have BW := Lib.hid bW
  have QL := Lib.hid q2
  have G0 := Lib.hid g0
  have G1 := Lib.hid g1
  have G2 := Lib.hid g2
  clear hH hw0 hw1 hw2 q0 q1 q2 s0 s1 s2 t0 t1 t2 g0 g1 g2 bL bW
  have HL := Lib.hid hl
  have HR := Lib.hid hr
  have ed : tnode l r = shaOf (1 :: [l, r].flatten) := by unfold tnode; simp
  have nd : ∀ d ∈ [l, r], d.length = 32 := by
    intro d hd
    rcases List.mem_cons.1 hd with rfl | hd
    · exact HL.out
    · rw [List.mem_singleton.1 hd]; exact HR.out
  have RO := Lib.hid (hro.at_ BW.out)
  obtain ⟨w4, hw4⟩ : ∃ z, z = w2.alloc (.cells (dV (l ++ r)) 23) := ⟨_, rfl⟩
  have hb4 : Below w2.heap.size w2 w4 := by rw [hw4]; exact (Below.refl _ _).alloc (Nat.le_refl _) _
  have r4 : Rd w4 (some ⟨w2.heap.size, 0, none⟩) 23 ([l, r].flatten.map vB) := by
    rw [hw4, show [l, r].flatten = l ++ r by simp]; exact Rd.box w2 (l ++ r) _
  have OC := ShaOf_calls 1 [l, r] nd (by simp) _ 2 _ w4 r4 (RO.out.at_ hb4)
  rw [← ed] at OC
  have ED := Lib.hid (tnode_length l r)
  have HW4 := Lib.hid hw4
  have B4 := Lib.hid hb4
  have HOC := Lib.hid OC
  have hs4 := hb4.size
  clear ed nd hw4 hb4 r4 OC hl hr hro
  go_enter Tryd.func87, Tryd.ntmps87
  go_upto_region 1 with fail
  rw [ZT.out, ← HH.out, ← HW0.out, ← HW1.out, ← HW2.out]
  go_wp2_with (first
    | ((refine ld_digG rfl (.tmp 2) rfl (H) 0 (by rfl) l HL.out (range_of_row G0.out) ?_); simp only [Act.put, List.setIfInBounds_toArray, List.set_cons_zero, List.set_cons_succ])
    | ((refine ld_digG rfl (.tmp 3) rfl (H + 1) 0 (by rfl) r HR.out (range_of_row G1.out) ?_); simp only [Act.put, List.setIfInBounds_toArray, List.set_cons_zero, List.set_cons_succ])
    | ((refine wpl_build2 31 23 _ 32 32 Tryd.underlying31 info_dig (by omega) (by omega) rfl (.tmp 5) (.tmp 6) rfl (dV l) (dV r) (by rfl) (by rfl) (dV_size HL.out) (dV_size HR.out) ?_); rw [dV_app, ← HW4.out]; simp only [Act.put, List.setIfInBounds_toArray, List.set_cons_zero, List.set_cons_succ]))
  refine HOC.out.mono ?_
  rintro e w5 ⟨rfl, hb5⟩
  have b35 := B4.out.trans (hb5.mono hs4)
  have G5 := Lib.hid ((b35.block _ (by omega)).trans G2.out)
  have B5 := Lib.hid (BL.out.trans (b35.mono (by omega)))
  clear hb5 b35 HOC
  go_wp2_with (refine st_row rfl (.tmp 4) (.tmp 8) rfl (H + 1 + 1) (tnode l r) ED.out (by rfl) (by rfl) (dV Z) (dV_size ZL.out) _ G5.out ?_)
  try simp only [Exit.inBlock, Exit.then]
  refine bodyPost_ret (v := .agg (dV (tnode l r))) (results_cellW rfl _ _ _ ⟨H + 1 + 1, 0, none⟩ _ rfl ?_) rfl ?_
  · exact dig_load ED.out (range_of_row (setRow_heap _ _ _ _ _ _ G5.out))
  · exact ⟨rfl, by rw [← HH.out]; exact below_setRowW B5.out (by omega) _⟩
set_option maxRecDepth 20000 in
set_option maxHeartbeats 2000000 in
theorem RNode_calls (l r : List UInt8) (hl : l.length = 32) (hr : r.length = 32) (w : World) :
    Calls Tryd.prog 15 #[.agg (dV l), .agg (dV r)] w fun e w' => e = .returned (.agg (dV (tnode l r))) ∧ Below w.heap.size w w' := by
  obtain ⟨Z, hZ⟩ : ∃ Z, Z = nz := ⟨_, rfl⟩
  have zl : Z.length = 32 := by rw [hZ]; rfl
  have zlit : (#[.int .u8 0, .int .u8 0, .int .u8 0, .int .u8 0, .int .u8 0, .int .u8 0, .int .u8 0, .int .u8 0, .int .u8 0, .int .u8 0, .int .u8 0, .int .u8 0, .int .u8 0, .int .u8 0, .int .u8 0, .int .u8 0, .int .u8 0, .int .u8 0, .int .u8 0, .int .u8 0, .int .u8 0, .int .u8 0, .int .u8 0, .int .u8 0, .int .u8 0, .int .u8 0, .int .u8 0, .int .u8 0, .int .u8 0, .int .u8 0, .int .u8 0, .int .u8 0] : Array Value) = dV Z := by rw [hZ]; exact zdig
  have ZL := Lib.hid zl
  have ZT := Lib.hid zlit
  have HZ := Lib.hid hZ
  clear zl zlit hZ
  obtain ⟨H, hH⟩ : ∃ H, H = w.heap.size := ⟨_, rfl⟩
  obtain ⟨w0, hw0⟩ : ∃ z, z = w.alloc (.cells (dV l) 23) := ⟨_, rfl⟩
  obtain ⟨w1, hw1⟩ : ∃ z, z = w0.alloc (.cells (dV r) 23) := ⟨_, rfl⟩
  obtain ⟨w2, hw2⟩ : ∃ z, z = w1.alloc (.cells (dV Z) 23) := ⟨_, rfl⟩
  have q0 : w0.heap.size = H + 1 := by rw [hw0, hH]; exact World.size_alloc _ _
  have q1 : w1.heap.size = H + 1 + 1 := by rw [hw1, World.size_alloc, q0]
  have q2 : w2.heap.size = H + 1 + 1 + 1 := by rw [hw2, World.size_alloc, q1]
  have s0 : Below (H) w w0 := by rw [hw0, hH]; exact (Below.refl _ _).alloc (Nat.le_refl _) _
  have s1 : Below (H + 1) w0 w1 := by rw [hw1, ← q0]; exact (Below.refl _ _).alloc (Nat.le_refl _) _
  have s2 : Below (H + 1 + 1) w1 w2 := by rw [hw2, ← q1]; exact (Below.refl _ _).alloc (Nat.le_refl _) _
  have t2 : Below (H + 1 + 1 + 1) w2 w2 := Below.refl _ _
  have t1 : Below (H + 1 + 1) w1 w2 := s2.trans (t2.mono (by omega))
  have t0 : Below (H + 1) w0 w2 := s1.trans (t1.mono (by omega))
  have bL : Below H w w2 := s0.trans (t0.mono (by omega))
  have g0 : w2.heap[H]? = some (.cells (dV l) 23 (0, 0)) := by
    have g : w0.heap[H]? = some (.cells (dV l) 23 (0, 0)) := by rw [hw0, hH]; exact heap_alloc_new _ _
    exact (t0.block _ (by omega)).trans g
  have g1 : w2.heap[H + 1]? = some (.cells (dV r) 23 (0, 0)) := by
    have g : w1.heap[H + 1]? = some (.cells (dV r) 23 (0, 0)) := by rw [hw1, ← q0]; exact heap_alloc_new _ _
    exact (t1.block _ (by omega)).trans g
  have g2 : w2.heap[H + 1 + 1]? = some (.cells (dV Z) 23 (0, 0)) := by
    have g : w2.heap[H + 1 + 1]? = some (.cells (dV Z) 23 (0, 0)) := by rw [hw2, ← q1]; exact heap_alloc_new _ _
    exact (t2.block _ (by omega)).trans g
  have bW : Below w.heap.size w w2 := by rw [← hH]; exact bL
  have hsz : H + 1 + 1 < w2.heap.size := by omega
  have HH := Lib.hid hH
  have HW0 := Lib.hid hw0
  have HW1 := Lib.hid hw1
  have HW2 := Lib.hid hw2
  have BL := Lib.hid bL
  have BW := Lib.hid bW
  have QL := Lib.hid q2
  have G0 := Lib.hid g0
  have G1 := Lib.hid g1
  have G2 := Lib.hid g2
  clear hH hw0 hw1 hw2 q0 q1 q2 s0 s1 s2 t0 t1 t2 g0 g1 g2 bL bW
  have HL := Lib.hid hl
  have HR := Lib.hid hr
  have ed : tnode l r = shaOf (1 :: [l, r].flatten) := by unfold tnode; simp
  have nd : ∀ d ∈ [l, r], d.length = 32 := by
    intro d hd
    rcases List.mem_cons.1 hd with rfl | hd
    · exact HL.out
    · rw [List.mem_singleton.1 hd]; exact HR.out
  obtain ⟨w4, hw4⟩ : ∃ z, z = w2.alloc (.cells (dV (l ++ r)) 23) := ⟨_, rfl⟩
  have hb4 : Below w2.heap.size w2 w4 := by rw [hw4]; exact (Below.refl _ _).alloc (Nat.le_refl _) _
  have r4 : Rd w4 (some ⟨w2.heap.size, 0, none⟩) 23 ([l, r].flatten.map vB) := by
    rw [hw4, show [l, r].flatten = l ++ r by simp]; exact Rd.box w2 (l ++ r) _
  have OC := ROf_calls 1 [l, r] nd (by simp) _ 2 _ w4 r4
  rw [← ed] at OC
  have ED := Lib.hid (tnode_length l r)
  have HW4 := Lib.hid hw4
  have B4 := Lib.hid hb4
  have HOC := Lib.hid OC
  have hs4 := hb4.size
  clear ed nd hw4 hb4 r4 OC hl hr
  go_enter Tryd.func15, Tryd.ntmps15
  go_upto_region 1 with fail
  rw [ZT.out, ← HH.out, ← HW0.out, ← HW1.out, ← HW2.out]
  go_wp2_with (first
    | ((refine ld_digG rfl (.tmp 2) rfl (H) 0 (by rfl) l HL.out (range_of_row G0.out) ?_); simp only [Act.put, List.setIfInBounds_toArray, List.set_cons_zero, List.set_cons_succ])
    | ((refine ld_digG rfl (.tmp 3) rfl (H + 1) 0 (by rfl) r HR.out (range_of_row G1.out) ?_); simp only [Act.put, List.setIfInBounds_toArray, List.set_cons_zero, List.set_cons_succ])
    | ((refine wpl_build2 31 23 _ 32 32 Tryd.underlying31 info_dig (by omega) (by omega) rfl (.tmp 5) (.tmp 6) rfl (dV l) (dV r) (by rfl) (by rfl) (dV_size HL.out) (dV_size HR.out) ?_); rw [dV_app, ← HW4.out]; simp only [Act.put, List.setIfInBounds_toArray, List.set_cons_zero, List.set_cons_succ]))
  refine HOC.out.mono ?_
  rintro e w5 ⟨rfl, hb5⟩
  have b35 := B4.out.trans (hb5.mono hs4)
  have G5 := Lib.hid ((b35.block _ (by omega)).trans G2.out)
  have B5 := Lib.hid (BL.out.trans (b35.mono (by omega)))
  clear hb5 b35 HOC
  go_wp2_with (refine st_row rfl (.tmp 4) (.tmp 8) rfl (H + 1 + 1) (tnode l r) ED.out (by rfl) (by rfl) (dV Z) (dV_size ZL.out) _ G5.out ?_)
  try simp only [Exit.inBlock, Exit.then]
  refine bodyPost_ret (v := .agg (dV (tnode l r))) (results_cellW rfl _ _ _ ⟨H + 1 + 1, 0, none⟩ _ rfl ?_) rfl ?_
  · exact dig_load ED.out (range_of_row (setRow_heap _ _ _ _ _ _ G5.out))
  · exact ⟨rfl, by rw [← HH.out]; exact below_setRowW B5.out (by omega) _⟩
end Go.Proofs.YtkioddmhjbaleaaDoor
