/- Walks: the document's HyperUpper and HyperLower. -/
import Derived.Test.YtkioddmhjbaleaaGreatDoorRWots2
import Derived.Test.YtkioddmhjbaleaaGreatDoorHyp4
namespace Go.Proofs.YtkioddmhjbaleaaGreatDoor
open Go.RowKit
set_option linter.unusedVariables false
set_option linter.unusedSimpArgs false
set_option maxRecDepth 20000 in
set_option maxHeartbeats 1000000 in
theorem RHUpper_calls (seed : List UInt8) (hs : seed.length = 32) (w : World) :
    Calls Tryz.prog 5 #[.agg (dV seed)] w fun e w' => e = .returned (.agg (dV (macOf seed [19]))) ∧ Below w.heap.size w w' := by
  have hz : nz.length = 32 := rfl
  have ZL := Lib.hid hz
  clear hz
  have SL := Lib.hid hs
  clear hs
  obtain ⟨S, hS⟩ : ∃ z, z = w.heap.size := ⟨_, rfl⟩
  obtain ⟨w1, hw1⟩ : ∃ z, z = w.alloc (.cells (dV seed) 23) := ⟨_, rfl⟩
  have st1 : Below w.heap.size w w1 := by rw [hw1]; exact (Below.refl _ _).alloc (Nat.le_refl _) _
  have B1 := Lib.hid (show Below w.heap.size w w1 from Below.trans (Below.refl w.heap.size w) (Below.mono st1 (Below.size (Below.refl w.heap.size w))))
  have GS_1 := Lib.hid (show w1.heap[S]? = some (.cells (dV seed) 23 (0, 0)) by rw [hw1, hS]; exact heap_alloc_new _ _)
  have LS_1 := Lib.hid (lt_of_heap GS_1.out)
  have HS := Lib.hid hS
  have Hw1 := Lib.hid hw1
  clear hS hw1 st1
  have SZS := Lib.hid (show S = w.heap.size from HS.out)
  obtain ⟨R, hR⟩ : ∃ z, z = w1.heap.size := ⟨_, rfl⟩
  obtain ⟨w2, hw2⟩ : ∃ z, z = w1.alloc (.cells (dV nz) 23) := ⟨_, rfl⟩
  have st2 : Below w1.heap.size w1 w2 := by rw [hw2]; exact (Below.refl _ _).alloc (Nat.le_refl _) _
  have B2 := Lib.hid (show Below w.heap.size w w2 from Below.trans B1.out (Below.mono st2 (Below.size B1.out)))
  have GS_2 := Lib.hid ((Below.block st2 S LS_1.out).trans GS_1.out)
  have LS_2 := Lib.hid (Nat.lt_of_lt_of_le LS_1.out (Below.size st2))
  have GR_2 := Lib.hid (show w2.heap[R]? = some (.cells (dV nz) 23 (0, 0)) by rw [hw2, hR]; exact heap_alloc_new _ _)
  have LR_2 := Lib.hid (lt_of_heap GR_2.out)
  have HR := Lib.hid hR
  have Hw2 := Lib.hid hw2
  clear hR hw2 st2
  have SZR := Lib.hid (show R = w.heap.size + 1 by rw [HR.out, Hw1.out, World.size_alloc, ← HS.out, SZS.out])
  go_enter Tryz.func5, Tryz.ntmps5
  go_upto_region 1 with fail
  rw [zdig]
  rw [← SZR.out, ← SZS.out, ← Hw1.out, ← Hw2.out]
  obtain ⟨T, hT⟩ : ∃ z, z = w2.heap.size := ⟨_, rfl⟩
  obtain ⟨w3, hw3⟩ : ∃ z, z = w2.alloc (.cells #[.int .u8 19] 5) := ⟨_, rfl⟩
  have st3 : Below w2.heap.size w2 w3 := by rw [hw3]; exact (Below.refl _ _).alloc (Nat.le_refl _) _
  have B3 := Lib.hid (show Below w.heap.size w w3 from Below.trans B2.out (Below.mono st3 (Below.size B2.out)))
  have GS_3 := Lib.hid ((Below.block st3 S LS_2.out).trans GS_2.out)
  have LS_3 := Lib.hid (Nat.lt_of_lt_of_le LS_2.out (Below.size st3))
  have GR_3 := Lib.hid ((Below.block st3 R LR_2.out).trans GR_2.out)
  have LR_3 := Lib.hid (Nat.lt_of_lt_of_le LR_2.out (Below.size st3))
  have GT_3 := Lib.hid (show w3.heap[T]? = some (.cells #[.int .u8 19] 5 (0, 0)) by rw [hw3, hT]; exact heap_alloc_new _ _)
  have LT_3 := Lib.hid (lt_of_heap GT_3.out)
  have HT := Lib.hid hT
  have Hw3 := Lib.hid hw3
  clear hT hw3 st3
  have HM := Lib.hid (RMac_short seed (by rw [SL.out]; decide) (some ⟨S, 0, none⟩) 32 _ [19] (by simp) (by simp) (some ⟨T, 0, none⟩) 1 _ w3 (rd_of_row GS_3.out) (rd_of_row (d := [19]) GT_3.out))
  rw [SL.out] at HM
  go_wp2_with fail
  rw [← HT.out, ← Hw3.out]
  refine (HM.out).mono ?_
  rintro e w4 ⟨rfl, hb4⟩
  have B4 := Lib.hid (show Below w.heap.size w w4 from Below.trans B3.out (Below.mono hb4 (Below.size B3.out)))
  have GS_4 := Lib.hid ((Below.block hb4 S LS_3.out).trans GS_3.out)
  have LS_4 := Lib.hid (Nat.lt_of_lt_of_le LS_3.out (Below.size hb4))
  have GR_4 := Lib.hid ((Below.block hb4 R LR_3.out).trans GR_3.out)
  have LR_4 := Lib.hid (Nat.lt_of_lt_of_le LR_3.out (Below.size hb4))
  have GT_4 := Lib.hid ((Below.block hb4 T LT_3.out).trans GT_3.out)
  have LT_4 := Lib.hid (Nat.lt_of_lt_of_le LT_3.out (Below.size hb4))
  clear HM
  clear hb4
  obtain ⟨w5, hw5⟩ : ∃ z, z = w4.setRow R (dV (macOf seed [19])) := ⟨_, rfl⟩
  have B5 := Lib.hid (show Below w.heap.size w w5 by rw [hw5]; exact below_setRowW B4.out (by rw [HR.out]; exact Below.size B1.out) _)
  have sz5 : w5.heap.size = w4.heap.size := by rw [hw5]; exact setRow_size _ _ _
  have GS_5 := Lib.hid (show w5.heap[S]? = some (.cells (dV seed) 23 (0, 0)) by rw [hw5]; exact (_root_.Go.setRow_other _ _ _ _ (by rw [HR.out]; exact Nat.ne_of_lt LS_1.out)).trans GS_4.out)
  have LS_5 := Lib.hid (show S < w5.heap.size by rw [sz5]; exact LS_4.out)
  have GR_5 := Lib.hid (show w5.heap[R]? = some (.cells (dV (macOf seed [19])) 23 (0, 0)) by rw [hw5]; exact setRow_heap _ _ _ _ _ _ GR_4.out)
  have LR_5 := Lib.hid (show R < w5.heap.size by rw [sz5]; exact LR_4.out)
  have GT_5 := Lib.hid (show w5.heap[T]? = some (.cells #[.int .u8 19] 5 (0, 0)) by rw [hw5]; exact (_root_.Go.setRow_other _ _ _ _ (by rw [HT.out]; exact (Nat.ne_of_lt LR_2.out).symm)).trans GT_4.out)
  have LT_5 := Lib.hid (show T < w5.heap.size by rw [sz5]; exact LT_4.out)
  have Hw5 := Lib.hid hw5
  clear hw5 sz5
  go_wp2_with (first
    | (refine at_st 23 (.tmp 2) (.tmp 5) rfl ?_; (refine st_row rfl (.tmp 2) (.tmp 5) rfl R (macOf seed [19]) (macOf_length _ _) (by rfl) (by rfl) (dV nz) (dV_size ZL.out) _ GR_4.out ?_); rw [← Hw5.out]))
  try simp only [Exit.inBlock, Exit.then]
  refine bodyPost_ret (v := .agg (dV (macOf seed [19]))) (results_cellW rfl _ _ _ ⟨R, 0, none⟩ _ rfl ?_) rfl ?_
  · exact dig_load (macOf_length _ _) (range_of_row GR_5.out)
  · exact ⟨rfl, B5.out⟩
set_option maxRecDepth 20000 in
set_option maxHeartbeats 1000000 in
theorem RHLower_calls (seed : List UInt8) (hs : seed.length = 32) (i : UInt8) (w : World) :
    Calls Tryz.prog 28 #[.agg (dV seed), .int .i64 (i.toNat : Int)] w fun e w' => e = .returned (.agg (dV (macOf seed [18, i]))) ∧ Below w.heap.size w w' := by
  have hz : nz.length = 32 := rfl
  have ZL := Lib.hid hz
  clear hz
  have SL := Lib.hid hs
  clear hs
  have q1 : IntKind.u8.wrap (i.toNat : Int) = (i.toNat : Int) := by have := i.toNat_lt; rw [IntKind.wrap_u8]; omega
  obtain ⟨S, hS⟩ : ∃ z, z = w.heap.size := ⟨_, rfl⟩
  obtain ⟨w1, hw1⟩ : ∃ z, z = w.alloc (.cells (dV seed) 23) := ⟨_, rfl⟩
  have st1 : Below w.heap.size w w1 := by rw [hw1]; exact (Below.refl _ _).alloc (Nat.le_refl _) _
  have B1 := Lib.hid (show Below w.heap.size w w1 from Below.trans (Below.refl w.heap.size w) (Below.mono st1 (Below.size (Below.refl w.heap.size w))))
  have GS_1 := Lib.hid (show w1.heap[S]? = some (.cells (dV seed) 23 (0, 0)) by rw [hw1, hS]; exact heap_alloc_new _ _)
  have LS_1 := Lib.hid (lt_of_heap GS_1.out)
  have HS := Lib.hid hS
  have Hw1 := Lib.hid hw1
  clear hS hw1 st1
  have SZS := Lib.hid (show S = w.heap.size from HS.out)
  obtain ⟨R, hR⟩ : ∃ z, z = w1.heap.size := ⟨_, rfl⟩
  obtain ⟨w2, hw2⟩ : ∃ z, z = w1.alloc (.cells (dV nz) 23) := ⟨_, rfl⟩
  have st2 : Below w1.heap.size w1 w2 := by rw [hw2]; exact (Below.refl _ _).alloc (Nat.le_refl _) _
  have B2 := Lib.hid (show Below w.heap.size w w2 from Below.trans B1.out (Below.mono st2 (Below.size B1.out)))
  have GS_2 := Lib.hid ((Below.block st2 S LS_1.out).trans GS_1.out)
  have LS_2 := Lib.hid (Nat.lt_of_lt_of_le LS_1.out (Below.size st2))
  have GR_2 := Lib.hid (show w2.heap[R]? = some (.cells (dV nz) 23 (0, 0)) by rw [hw2, hR]; exact heap_alloc_new _ _)
  have LR_2 := Lib.hid (lt_of_heap GR_2.out)
  have HR := Lib.hid hR
  have Hw2 := Lib.hid hw2
  clear hR hw2 st2
  have SZR := Lib.hid (show R = w.heap.size + 1 by rw [HR.out, Hw1.out, World.size_alloc, ← HS.out, SZS.out])
  go_enter Tryz.func28, Tryz.ntmps28
  go_upto_region 1 with fail
  rw [zdig]
  rw [← SZR.out, ← SZS.out, ← Hw1.out, ← Hw2.out]
  obtain ⟨T, hT⟩ : ∃ z, z = w2.heap.size := ⟨_, rfl⟩
  obtain ⟨w3, hw3⟩ : ∃ z, z = w2.alloc (.cells #[.int .u8 18, .int .u8 (i.toNat : Int)] 5) := ⟨_, rfl⟩
  have st3 : Below w2.heap.size w2 w3 := by rw [hw3]; exact (Below.refl _ _).alloc (Nat.le_refl _) _
  have B3 := Lib.hid (show Below w.heap.size w w3 from Below.trans B2.out (Below.mono st3 (Below.size B2.out)))
  have GS_3 := Lib.hid ((Below.block st3 S LS_2.out).trans GS_2.out)
  have LS_3 := Lib.hid (Nat.lt_of_lt_of_le LS_2.out (Below.size st3))
  have GR_3 := Lib.hid ((Below.block st3 R LR_2.out).trans GR_2.out)
  have LR_3 := Lib.hid (Nat.lt_of_lt_of_le LR_2.out (Below.size st3))
  have GT_3 := Lib.hid (show w3.heap[T]? = some (.cells #[.int .u8 18, .int .u8 (i.toNat : Int)] 5 (0, 0)) by rw [hw3, hT]; exact heap_alloc_new _ _)
  have LT_3 := Lib.hid (lt_of_heap GT_3.out)
  have HT := Lib.hid hT
  have Hw3 := Lib.hid hw3
  clear hT hw3 st3
  have HM := Lib.hid (RMac_short seed (by rw [SL.out]; decide) (some ⟨S, 0, none⟩) 32 _ [18, i] (by simp) (by simp) (some ⟨T, 0, none⟩) 2 _ w3 (rd_of_row GS_3.out) (rd_of_row (d := [18, i]) GT_3.out))
  rw [SL.out] at HM
  go_wp2_with fail
  rw [← HT.out, ← Hw3.out]
  refine (HM.out).mono ?_
  rintro e w4 ⟨rfl, hb4⟩
  have B4 := Lib.hid (show Below w.heap.size w w4 from Below.trans B3.out (Below.mono hb4 (Below.size B3.out)))
  have GS_4 := Lib.hid ((Below.block hb4 S LS_3.out).trans GS_3.out)
  have LS_4 := Lib.hid (Nat.lt_of_lt_of_le LS_3.out (Below.size hb4))
  have GR_4 := Lib.hid ((Below.block hb4 R LR_3.out).trans GR_3.out)
  have LR_4 := Lib.hid (Nat.lt_of_lt_of_le LR_3.out (Below.size hb4))
  have GT_4 := Lib.hid ((Below.block hb4 T LT_3.out).trans GT_3.out)
  have LT_4 := Lib.hid (Nat.lt_of_lt_of_le LT_3.out (Below.size hb4))
  clear HM
  clear hb4
  obtain ⟨w5, hw5⟩ : ∃ z, z = w4.setRow R (dV (macOf seed [18, i])) := ⟨_, rfl⟩
  have B5 := Lib.hid (show Below w.heap.size w w5 by rw [hw5]; exact below_setRowW B4.out (by rw [HR.out]; exact Below.size B1.out) _)
  have sz5 : w5.heap.size = w4.heap.size := by rw [hw5]; exact setRow_size _ _ _
  have GS_5 := Lib.hid (show w5.heap[S]? = some (.cells (dV seed) 23 (0, 0)) by rw [hw5]; exact (_root_.Go.setRow_other _ _ _ _ (by rw [HR.out]; exact Nat.ne_of_lt LS_1.out)).trans GS_4.out)
  have LS_5 := Lib.hid (show S < w5.heap.size by rw [sz5]; exact LS_4.out)
  have GR_5 := Lib.hid (show w5.heap[R]? = some (.cells (dV (macOf seed [18, i])) 23 (0, 0)) by rw [hw5]; exact setRow_heap _ _ _ _ _ _ GR_4.out)
  have LR_5 := Lib.hid (show R < w5.heap.size by rw [sz5]; exact LR_4.out)
  have GT_5 := Lib.hid (show w5.heap[T]? = some (.cells #[.int .u8 18, .int .u8 (i.toNat : Int)] 5 (0, 0)) by rw [hw5]; exact (_root_.Go.setRow_other _ _ _ _ (by rw [HT.out]; exact (Nat.ne_of_lt LR_2.out).symm)).trans GT_4.out)
  have LT_5 := Lib.hid (show T < w5.heap.size by rw [sz5]; exact LT_4.out)
  have Hw5 := Lib.hid hw5
  clear hw5 sz5
  go_wp2_with (first
    | (refine at_st 23 (.tmp 4) (.tmp 9) rfl ?_; (refine st_row rfl (.tmp 4) (.tmp 9) rfl R (macOf seed [18, i]) (macOf_length _ _) (by rfl) (by rfl) (dV nz) (dV_size ZL.out) _ GR_4.out ?_); rw [← Hw5.out]))
  try simp only [Exit.inBlock, Exit.then]
  refine bodyPost_ret (v := .agg (dV (macOf seed [18, i]))) (results_cellW rfl _ _ _ ⟨R, 0, none⟩ _ rfl ?_) rfl ?_
  · exact dig_load (macOf_length _ _) (range_of_row GR_5.out)
  · exact ⟨rfl, B5.out⟩
theorem RHUp_calls (seed : List UInt8) (hs : seed.length = 32) (w : World) : Calls Tryz.prog 5 #[.agg (dV seed)] w fun e w' => e = .returned (.agg (dV (hup seed))) ∧ Below w.heap.size w w' := RHUpper_calls seed hs w
theorem RHLow_calls (seed : List UInt8) (hs : seed.length = 32) (j : Nat) (hj : j < 256) (w : World) : Calls Tryz.prog 28 #[.agg (dV seed), .int .i64 (j : Int)] w fun e w' => e = .returned (.agg (dV (hlow seed j))) ∧ Below w.heap.size w w' := by
  have := RHLower_calls seed hs (UInt8.ofNat j) w
  rw [ofNat_k j hj] at this
  exact this
theorem RLeavesH (seed : List UInt8) (hs : seed.length = 32) (h : Int) (N : Nat) (hg : High3 h N) (w : World) :
    Calls Tryz.prog 4 #[.agg (dV seed), .int .i64 h] w fun e w' => ∃ a cap, e = .returned (.slice a N cap) ∧ N ≤ cap ∧ cap ≤ 9223372036854775807 ∧ Rd w' a 23 ((leavesK seed N).flatten.map vB) ∧ Below w.heap.size w w' := by
  obtain ⟨k, rfl, hk, rfl⟩ := hg.pow
  refine (RLeavesK_calls seed hs k hk w).mono ?_
  rintro e w' ⟨a, cap, rfl, ho, hb⟩
  have hc := own_cappW ho
  exact ⟨a, cap, rfl, hc.1, hc.2, Rd.of_own ho, hb⟩
theorem RRootH (seed : List UInt8) (n : Nat) (h256 : n ≤ 256) (R : List UInt8) (hR : R = troot (leavesK seed n)) (a : Option Addr) (cap e : Nat) (hc : n ≤ cap) (hc2 : cap ≤ 9223372036854775807) (w : World) (hr : Rd w a e ((leavesK seed n).flatten.map vB)) :
    Calls Tryz.prog 6 #[.slice a n cap] w fun e w' => e = .returned (.agg (dV R)) ∧ Below w.heap.size w w' := by
  have := RRoot_calls n (leavesK seed n) (by rw [leavesK_length]; exact Nat.le_refl _) (by rw [leavesK_length]; exact h256) (leavesK_dig _ _) a cap e (by rw [leavesK_length]; exact hc) hc2 w hr
  rw [leavesK_length, ← hR] at this
  exact this
theorem RPathH (seed : List UInt8) (n i : Nat) (h256 : n ≤ 256) (hi : i < n) (a : Option Addr) (cap e : Nat) (hc : n ≤ cap) (hc2 : cap ≤ 9223372036854775807) (w : World) (hr : Rd w a e ((leavesK seed n).flatten.map vB)) :
    Calls Tryz.prog 30 #[.slice a n cap, .int .i64 (i : Int)] w fun e w' => ∃ a' c', e = .returned (.slice a' (tlong i n) c') ∧ Rd w' a' 23 ((tpath (leavesK seed n) i).flatten.map vB) ∧ Below w.heap.size w w' := by
  have := RPath_calls n (leavesK seed n) i (by rw [leavesK_length]; exact Nat.le_refl _) (by rw [leavesK_length]; exact h256) (by rw [leavesK_length]; exact hi) (leavesK_dig _ _) a cap e (by rw [leavesK_length]; exact hc) hc2 w hr
  rw [leavesK_length] at this
  refine this.mono ?_
  rintro e w' ⟨a', c', rfl, ho, hb⟩
  exact ⟨a', c', rfl, Rd.of_own ho, hb⟩
theorem RWSignedH (seed m : List UInt8) (hs : seed.length = 32) (hm : m.length = 32) (w : World) :
    Calls Tryz.prog 29 #[.agg (dV seed), .agg (dV m)] w fun e w' => ∃ a cap, e = .returned (.slice a 67 cap) ∧ Rd w' a 23 ((wsig seed m).flatten.map vB) ∧ Below w.heap.size w w' := by
  refine (RWSigned_calls seed m hs hm w).mono ?_
  rintro e w' ⟨a', c', rfl, ho, hb⟩
  exact ⟨a', c', rfl, Rd.of_own ho, hb⟩
theorem ld_dbl {ops : Array Oper} {rest : List Oper} {op : Oper} {a : Act} {w : World} {Q : Exit → Act → World → Prop} (hgd : op.guard = none) (x : Operand) (ho : op.op = .load 28 x) (g : Nat) (hx : a.eval x = .pointer (some ⟨g, 0, none⟩)) (b0 b1 b2 b3 b4 b5 : Value) (t : TypeId) (fr : Nat × Nat) (hg : w.heap[g]? = some (.cells #[b0, b1, b2, b3, b4, b5] t fr))
    (h : wpList Tryz.prog ops Q rest (a.put op.dst (.agg #[b0, b1, b2, b3, b4, b5])) w) : wpList Tryz.prog ops Q (op :: rest) a w :=
  wpList_load_row hgd _ x ho g hx t #[b0, b1, b2, b3, b4, b5] fr _ hg Tryz.underlying28 rfl (info_dbl _ _ _ _ _ _) h
section
variable {w : World} {D : Nat} {a b c d e f : Value} {t : TypeId}
theorem dbl_there (o : Nat) (ho : o ≤ 3) (h : w.heap[D]? = some (.cells #[a, b, c, d, e, f] t (0, 0))) : w.there D o 3 := by
  intro j hj
  refine ⟨?_, frozen_of_row _ _ _ _ _ h⟩
  rw [cell_of_row w D (o + j) _ t _ h, Array.getElem?_eq_getElem (by show o + j < 6; omega)]
  rfl
theorem dbl_putlow (h : w.heap[D]? = some (.cells #[a, b, c, d, e, f] t (0, 0))) (x y z : Value) : (w.setCells D 3 [x, y, z]).heap[D]? = some (.cells #[a, b, c, x, y, z] t (0, 0)) := by
  show (((w.setCell ⟨D, 3, none⟩ x).setCell ⟨D, 4, none⟩ y).setCell ⟨D, 5, none⟩ z).heap[D]? = _
  exact setCell_rowS (setCell_rowS (setCell_rowS h x) y) z
theorem dbl_putup (h : w.heap[D]? = some (.cells #[a, b, c, d, e, f] t (0, 0))) (x y z : Value) : (w.setCells D 0 [x, y, z]).heap[D]? = some (.cells #[x, y, z, d, e, f] t (0, 0)) := by
  show (((w.setCell ⟨D, 0, none⟩ x).setCell ⟨D, 1, none⟩ y).setCell ⟨D, 2, none⟩ z).heap[D]? = _
  exact setCell_rowS (setCell_rowS (setCell_rowS h x) y) z
end
end Go.Proofs.YtkioddmhjbaleaaGreatDoor
