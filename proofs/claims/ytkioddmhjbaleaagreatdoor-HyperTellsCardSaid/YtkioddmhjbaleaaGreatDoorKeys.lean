/- Walks: keys of a seed, and steps of a chain. -/
import Derived.Test.YtkioddmhjbaleaaGreatDoorMac
import Derived.Test.YtkioddmhjbaleaaGreatDoorWotsLaw
import Derived.Test.YtkioddmhjbaleaaGreatDoorTreePath
namespace Go.Proofs.YtkioddmhjbaleaaGreatDoor
open Go.RowKit
set_option linter.unusedVariables false
set_option linter.unusedSimpArgs false
theorem at_ld {P : Program} {ops : Array Oper} {rest : List Oper} {op : Oper} {a : Act} {w : World} {Q : Exit → Act → World → Prop} (ty : TypeId) (x : Operand) (ho : op.op = .load ty x) (h : wpList P ops Q (op :: rest) a w) : wpList P ops Q (op :: rest) a w := h
theorem at_st {P : Program} {ops : Array Oper} {rest : List Oper} {op : Oper} {a : Act} {w : World} {Q : Exit → Act → World → Prop} (ty : TypeId) (x y : Operand) (ho : op.op = .store ty x y) (h : wpList P ops Q (op :: rest) a w) : wpList P ops Q (op :: rest) a w := h
theorem at_bin {P : Program} {ops : Array Oper} {rest : List Oper} {op : Oper} {a : Act} {w : World} {Q : Exit → Act → World → Prop} (b : BinOp) (ty : TypeId) (x y : Operand) (t : TypeId) (ho : op.op = .binOp b ty x y t) (h : wpList P ops Q (op :: rest) a w) : wpList P ops Q (op :: rest) a w := h
set_option maxRecDepth 20000 in
set_option maxHeartbeats 1000000 in
theorem Key_calls (seed : List UInt8) (hs : seed.length = 32) (b : List UInt8) (hb0 : 0 < b.length) (hbl : b.length ≤ 1000000000) (ba : Option Addr) (bc be : Nat) (w : World) (hb : Rd w ba be (b.map vB)) (hro : RoundsAt w) :
    Calls Tryz.prog 47 #[.agg (dV seed), .slice ba b.length bc] w fun e w' => e = .returned (.agg (dV (macOf seed b))) ∧ Below w.heap.size w w' := by
  have hz : nz.length = 32 := rfl
  have ZL := Lib.hid hz
  clear hz
  have SL := Lib.hid hs
  have RO := Lib.hid hro
  have RB := Lib.hid hb
  clear hs hro hb
  obtain ⟨S, hS⟩ : ∃ z, z = w.heap.size := ⟨_, rfl⟩
  obtain ⟨w1, hw1⟩ : ∃ z, z = w.alloc (.cells (dV seed) 23) := ⟨_, rfl⟩
  have st1 : Below w.heap.size w w1 := by rw [hw1]; exact (Below.refl _ _).alloc (Nat.le_refl _) _
  have B1 := Lib.hid (show Below w.heap.size w w1 from Below.trans (Below.refl w.heap.size w) (Below.mono st1 (Below.size (Below.refl w.heap.size w))))
  have GS_1 := Lib.hid (show w1.heap[S]? = some (.cells (dV seed) 23 (0, 0)) by rw [hw1, hS]; exact heap_alloc_new _ _)
  have LS_1 := Lib.hid (lt_of_heap GS_1.out)
  have HS := Lib.hid hS
  have Hw1 := Lib.hid hw1
  clear hS hw1 st1
  have SZS := Lib.hid (show S = w.heap.size from HS.out)
  obtain ⟨R, hR⟩ : ∃ z, z = w1.heap.size := ⟨_, rfl⟩
  obtain ⟨w2, hw2⟩ : ∃ z, z = w1.alloc (.cells (dV nz) 23) := ⟨_, rfl⟩
  have st2 : Below w1.heap.size w1 w2 := by rw [hw2]; exact (Below.refl _ _).alloc (Nat.le_refl _) _
  have B2 := Lib.hid (show Below w.heap.size w w2 from Below.trans B1.out (Below.mono st2 (Below.size B1.out)))
  have GS_2 := Lib.hid ((Below.block st2 S LS_1.out).trans GS_1.out)
  have LS_2 := Lib.hid (Nat.lt_of_lt_of_le LS_1.out (Below.size st2))
  have GR_2 := Lib.hid (show w2.heap[R]? = some (.cells (dV nz) 23 (0, 0)) by rw [hw2, hR]; exact heap_alloc_new _ _)
  have LR_2 := Lib.hid (lt_of_heap GR_2.out)
  have HR := Lib.hid hR
  have Hw2 := Lib.hid hw2
  clear hR hw2 st2
  have SZR := Lib.hid (show R = w.heap.size + 1 by rw [HR.out, Hw1.out, World.size_alloc, ← HS.out, SZS.out])
  have RB2 := Lib.hid (RB.out.below B2.out)
  have HM := Lib.hid (Mac_short seed (by rw [SL.out]; decide) (some ⟨S, 0, none⟩) 32 _ b hb0 hbl ba bc be w2 (rd_of_row GS_2.out) RB2.out (RO.out.at_ B2.out))
  rw [SL.out] at HM
  go_enter Tryz.func47, Tryz.ntmps47
  go_upto_region 1 with fail
  rw [zdig]
  rw [← SZR.out, ← SZS.out, ← Hw1.out, ← Hw2.out]
  go_wp2_with fail
  refine (HM.out).mono ?_
  rintro e w3 ⟨rfl, hb3⟩
  have B3 := Lib.hid (show Below w.heap.size w w3 from Below.trans B2.out (Below.mono hb3 (Below.size B2.out)))
  have GS_3 := Lib.hid ((Below.block hb3 S LS_2.out).trans GS_2.out)
  have LS_3 := Lib.hid (Nat.lt_of_lt_of_le LS_2.out (Below.size hb3))
  have GR_3 := Lib.hid ((Below.block hb3 R LR_2.out).trans GR_2.out)
  have LR_3 := Lib.hid (Nat.lt_of_lt_of_le LR_2.out (Below.size hb3))
  clear HM
  clear hb3
  obtain ⟨w4, hw4⟩ : ∃ z, z = w3.setRow R (dV (macOf seed b)) := ⟨_, rfl⟩
  have B4 := Lib.hid (show Below w.heap.size w w4 by rw [hw4]; exact below_setRowW B3.out (by rw [HR.out]; exact Below.size B1.out) _)
  have sz4 : w4.heap.size = w3.heap.size := by rw [hw4]; exact setRow_size _ _ _
  have GS_4 := Lib.hid (show w4.heap[S]? = some (.cells (dV seed) 23 (0, 0)) by rw [hw4]; exact (_root_.Go.setRow_other _ _ _ _ (by rw [HR.out]; exact Nat.ne_of_lt LS_1.out)).trans GS_3.out)
  have LS_4 := Lib.hid (show S < w4.heap.size by rw [sz4]; exact LS_3.out)
  have GR_4 := Lib.hid (show w4.heap[R]? = some (.cells (dV (macOf seed b)) 23 (0, 0)) by rw [hw4]; exact setRow_heap _ _ _ _ _ _ GR_3.out)
  have LR_4 := Lib.hid (show R < w4.heap.size by rw [sz4]; exact LR_3.out)
  have Hw4 := Lib.hid hw4
  clear hw4 sz4
  go_wp2_with (first
    | (refine at_st 23 (.tmp 4) (.tmp 7) rfl ?_; (refine st_row rfl (.tmp 4) (.tmp 7) rfl R (macOf seed b) (macOf_length _ _) (by rfl) (by rfl) (dV nz) (dV_size ZL.out) _ GR_3.out ?_); rw [← Hw4.out]))
  try simp only [Exit.inBlock, Exit.then]
  refine bodyPost_ret (v := .agg (dV (macOf seed b))) (results_cellW rfl _ _ _ ⟨R, 0, none⟩ _ rfl ?_) rfl ?_
  · exact dig_load (macOf_length _ _) (range_of_row GR_4.out)
  · exact ⟨rfl, B4.out⟩
set_option maxRecDepth 20000 in
set_option maxHeartbeats 1000000 in
theorem StampKey_calls (seed : List UInt8) (hs : seed.length = 32) (i : UInt8) (w : World) (hro : RoundsAt w) :
    Calls Tryz.prog 50 #[.agg (dV seed), .int .i64 (i.toNat : Int)] w fun e w' => e = .returned (.agg (dV (macOf seed [11, i]))) ∧ Below w.heap.size w w' := by
  have hz : nz.length = 32 := rfl
  have ZL := Lib.hid hz
  clear hz
  have SL := Lib.hid hs
  have RO := Lib.hid hro
  clear hs hro
  have q1 : IntKind.u8.wrap (i.toNat : Int) = (i.toNat : Int) := by have := i.toNat_lt; rw [IntKind.wrap_u8]; omega
  obtain ⟨S, hS⟩ : ∃ z, z = w.heap.size := ⟨_, rfl⟩
  obtain ⟨w1, hw1⟩ : ∃ z, z = w.alloc (.cells (dV seed) 23) := ⟨_, rfl⟩
  have st1 : Below w.heap.size w w1 := by rw [hw1]; exact (Below.refl _ _).alloc (Nat.le_refl _) _
  have B1 := Lib.hid (show Below w.heap.size w w1 from Below.trans (Below.refl w.heap.size w) (Below.mono st1 (Below.size (Below.refl w.heap.size w))))
  have GS_1 := Lib.hid (show w1.heap[S]? = some (.cells (dV seed) 23 (0, 0)) by rw [hw1, hS]; exact heap_alloc_new _ _)
  have LS_1 := Lib.hid (lt_of_heap GS_1.out)
  have HS := Lib.hid hS
  have Hw1 := Lib.hid hw1
  clear hS hw1 st1
  have SZS := Lib.hid (show S = w.heap.size from HS.out)
  obtain ⟨R, hR⟩ : ∃ z, z = w1.heap.size := ⟨_, rfl⟩
  obtain ⟨w2, hw2⟩ : ∃ z, z = w1.alloc (.cells (dV nz) 23) := ⟨_, rfl⟩
  have st2 : Below w1.heap.size w1 w2 := by rw [hw2]; exact (Below.refl _ _).alloc (Nat.le_refl _) _
  have B2 := Lib.hid (show Below w.heap.size w w2 from Below.trans B1.out (Below.mono st2 (Below.size B1.out)))
  have GS_2 := Lib.hid ((Below.block st2 S LS_1.out).trans GS_1.out)
  have LS_2 := Lib.hid (Nat.lt_of_lt_of_le LS_1.out (Below.size st2))
  have GR_2 := Lib.hid (show w2.heap[R]? = some (.cells (dV nz) 23 (0, 0)) by rw [hw2, hR]; exact heap_alloc_new _ _)
  have LR_2 := Lib.hid (lt_of_heap GR_2.out)
  have HR := Lib.hid hR
  have Hw2 := Lib.hid hw2
  clear hR hw2 st2
  have SZR := Lib.hid (show R = w.heap.size + 1 by rw [HR.out, Hw1.out, World.size_alloc, ← HS.out, SZS.out])
  go_enter Tryz.func50, Tryz.ntmps50
  go_upto_region 1 with fail
  rw [zdig]
  rw [← SZR.out, ← SZS.out, ← Hw1.out, ← Hw2.out]
  obtain ⟨T, hT⟩ : ∃ z, z = w2.heap.size := ⟨_, rfl⟩
  obtain ⟨w3, hw3⟩ : ∃ z, z = w2.alloc (.cells #[.int .u8 11, .int .u8 (i.toNat : Int)] 5) := ⟨_, rfl⟩
  have st3 : Below w2.heap.size w2 w3 := by rw [hw3]; exact (Below.refl _ _).alloc (Nat.le_refl _) _
  have B3 := Lib.hid (show Below w.heap.size w w3 from Below.trans B2.out (Below.mono st3 (Below.size B2.out)))
  have GS_3 := Lib.hid ((Below.block st3 S LS_2.out).trans GS_2.out)
  have LS_3 := Lib.hid (Nat.lt_of_lt_of_le LS_2.out (Below.size st3))
  have GR_3 := Lib.hid ((Below.block st3 R LR_2.out).trans GR_2.out)
  have LR_3 := Lib.hid (Nat.lt_of_lt_of_le LR_2.out (Below.size st3))
  have GT_3 := Lib.hid (show w3.heap[T]? = some (.cells #[.int .u8 11, .int .u8 (i.toNat : Int)] 5 (0, 0)) by rw [hw3, hT]; exact heap_alloc_new _ _)
  have LT_3 := Lib.hid (lt_of_heap GT_3.out)
  have HT := Lib.hid hT
  have Hw3 := Lib.hid hw3
  clear hT hw3 st3
  have HM := Lib.hid (Key_calls seed SL.out [11, i] (by simp) (by simp) (some ⟨T, 0, none⟩) 2 _ w3 (rd_of_row (d := [11, i]) GT_3.out) (RO.out.at_ B3.out))
  go_wp2_with (first
    | (refine at_ld 23 (.tmp 2) rfl ?_; (refine ld_digG rfl (.tmp 2) rfl (S) 0 (by rfl) seed SL.out (range_of_row GS_2.out) ?_); simp only [Act.put, List.setIfInBounds_toArray, List.set_cons_zero, List.set_cons_succ]))
  rw [← HT.out, ← Hw3.out]
  refine (HM.out).mono ?_
  rintro e w4 ⟨rfl, hb4⟩
  have B4 := Lib.hid (show Below w.heap.size w w4 from Below.trans B3.out (Below.mono hb4 (Below.size B3.out)))
  have GS_4 := Lib.hid ((Below.block hb4 S LS_3.out).trans GS_3.out)
  have LS_4 := Lib.hid (Nat.lt_of_lt_of_le LS_3.out (Below.size hb4))
  have GR_4 := Lib.hid ((Below.block hb4 R LR_3.out).trans GR_3.out)
  have LR_4 := Lib.hid (Nat.lt_of_lt_of_le LR_3.out (Below.size hb4))
  have GT_4 := Lib.hid ((Below.block hb4 T LT_3.out).trans GT_3.out)
  have LT_4 := Lib.hid (Nat.lt_of_lt_of_le LT_3.out (Below.size hb4))
  clear HM
  clear hb4
  obtain ⟨w5, hw5⟩ : ∃ z, z = w4.setRow R (dV (macOf seed [11, i])) := ⟨_, rfl⟩
  have B5 := Lib.hid (show Below w.heap.size w w5 by rw [hw5]; exact below_setRowW B4.out (by rw [HR.out]; exact Below.size B1.out) _)
  have sz5 : w5.heap.size = w4.heap.size := by rw [hw5]; exact setRow_size _ _ _
  have GS_5 := Lib.hid (show w5.heap[S]? = some (.cells (dV seed) 23 (0, 0)) by rw [hw5]; exact (_root_.Go.setRow_other _ _ _ _ (by rw [HR.out]; exact Nat.ne_of_lt LS_1.out)).trans GS_4.out)
  have LS_5 := Lib.hid (show S < w5.heap.size by rw [sz5]; exact LS_4.out)
  have GR_5 := Lib.hid (show w5.heap[R]? = some (.cells (dV (macOf seed [11, i])) 23 (0, 0)) by rw [hw5]; exact setRow_heap _ _ _ _ _ _ GR_4.out)
  have LR_5 := Lib.hid (show R < w5.heap.size by rw [sz5]; exact LR_4.out)
  have GT_5 := Lib.hid (show w5.heap[T]? = some (.cells #[.int .u8 11, .int .u8 (i.toNat : Int)] 5 (0, 0)) by rw [hw5]; exact (_root_.Go.setRow_other _ _ _ _ (by rw [HT.out]; exact (Nat.ne_of_lt LR_2.out).symm)).trans GT_4.out)
  have LT_5 := Lib.hid (show T < w5.heap.size by rw [sz5]; exact LT_4.out)
  have Hw5 := Lib.hid hw5
  clear hw5 sz5
  go_wp2_with (first
    | (refine at_st 23 (.tmp 4) (.tmp 9) rfl ?_; (refine st_row rfl (.tmp 4) (.tmp 9) rfl R (macOf seed [11, i]) (macOf_length _ _) (by rfl) (by rfl) (dV nz) (dV_size ZL.out) _ GR_4.out ?_); rw [← Hw5.out]))
  try simp only [Exit.inBlock, Exit.then]
  refine bodyPost_ret (v := .agg (dV (macOf seed [11, i]))) (results_cellW rfl _ _ _ ⟨R, 0, none⟩ _ rfl ?_) rfl ?_
  · exact dig_load (macOf_length _ _) (range_of_row GR_5.out)
  · exact ⟨rfl, B5.out⟩
set_option maxRecDepth 20000 in
set_option maxHeartbeats 1000000 in
theorem SecretC_calls (seed : List UInt8) (hs : seed.length = 32) (i : UInt8) (S : Nat) (w : World) (hg : w.heap[S]? = some (.cells (dV seed) 23 (0, 0))) (hro : RoundsAt w) :
    Calls Tryz.prog 87 #[.int .i64 (i.toNat : Int), .pointer (some ⟨S, 0, none⟩)] w fun e w' => e = .returned (.agg (dV (macOf seed [5, i]))) ∧ Below w.heap.size w w' := by
  have hz : nz.length = 32 := rfl
  have ZL := Lib.hid hz
  clear hz
  have SL := Lib.hid hs
  have RO := Lib.hid hro
  have GS_0 := Lib.hid hg
  have LS_0 := Lib.hid (lt_of_heap hg)
  clear hs hro hg
  have q1 : IntKind.u8.wrap (i.toNat : Int) = (i.toNat : Int) := by have := i.toNat_lt; rw [IntKind.wrap_u8]; omega
  obtain ⟨R, hR⟩ : ∃ z, z = w.heap.size := ⟨_, rfl⟩
  obtain ⟨w1, hw1⟩ : ∃ z, z = w.alloc (.cells (dV nz) 23) := ⟨_, rfl⟩
  have st1 : Below w.heap.size w w1 := by rw [hw1]; exact (Below.refl _ _).alloc (Nat.le_refl _) _
  have B1 := Lib.hid (show Below w.heap.size w w1 from Below.trans (Below.refl w.heap.size w) (Below.mono st1 (Below.size (Below.refl w.heap.size w))))
  have GS_1 := Lib.hid ((Below.block st1 S LS_0.out).trans GS_0.out)
  have LS_1 := Lib.hid (Nat.lt_of_lt_of_le LS_0.out (Below.size st1))
  have GR_1 := Lib.hid (show w1.heap[R]? = some (.cells (dV nz) 23 (0, 0)) by rw [hw1, hR]; exact heap_alloc_new _ _)
  have LR_1 := Lib.hid (lt_of_heap GR_1.out)
  have HR := Lib.hid hR
  have Hw1 := Lib.hid hw1
  clear hR hw1 st1
  have SZR := Lib.hid (show R = w.heap.size from HR.out)
  go_enter Tryz.func87, Tryz.ntmps87
  go_upto_region 1 with fail
  rw [zdig]
  rw [← SZR.out, ← Hw1.out]
  obtain ⟨T, hT⟩ : ∃ z, z = w1.heap.size := ⟨_, rfl⟩
  obtain ⟨w2, hw2⟩ : ∃ z, z = w1.alloc (.cells #[.int .u8 5, .int .u8 (i.toNat : Int)] 5) := ⟨_, rfl⟩
  have st2 : Below w1.heap.size w1 w2 := by rw [hw2]; exact (Below.refl _ _).alloc (Nat.le_refl _) _
  have B2 := Lib.hid (show Below w.heap.size w w2 from Below.trans B1.out (Below.mono st2 (Below.size B1.out)))
  have GS_2 := Lib.hid ((Below.block st2 S LS_1.out).trans GS_1.out)
  have LS_2 := Lib.hid (Nat.lt_of_lt_of_le LS_1.out (Below.size st2))
  have GR_2 := Lib.hid ((Below.block st2 R LR_1.out).trans GR_1.out)
  have LR_2 := Lib.hid (Nat.lt_of_lt_of_le LR_1.out (Below.size st2))
  have GT_2 := Lib.hid (show w2.heap[T]? = some (.cells #[.int .u8 5, .int .u8 (i.toNat : Int)] 5 (0, 0)) by rw [hw2, hT]; exact heap_alloc_new _ _)
  have LT_2 := Lib.hid (lt_of_heap GT_2.out)
  have HT := Lib.hid hT
  have Hw2 := Lib.hid hw2
  clear hT hw2 st2
  have HM := Lib.hid (Key_calls seed SL.out [5, i] (by simp) (by simp) (some ⟨T, 0, none⟩) 2 _ w2 (rd_of_row (d := [5, i]) GT_2.out) (RO.out.at_ B2.out))
  go_wp2_with (first
    | (refine at_ld 23 (.tmp 1) rfl ?_; (refine ld_digG rfl (.tmp 1) rfl (S) 0 (by rfl) seed SL.out (range_of_row GS_1.out) ?_); simp only [Act.put, List.setIfInBounds_toArray, List.set_cons_zero, List.set_cons_succ]))
  rw [← HT.out, ← Hw2.out]
  refine (HM.out).mono ?_
  rintro e w3 ⟨rfl, hb3⟩
  have B3 := Lib.hid (show Below w.heap.size w w3 from Below.trans B2.out (Below.mono hb3 (Below.size B2.out)))
  have GS_3 := Lib.hid ((Below.block hb3 S LS_2.out).trans GS_2.out)
  have LS_3 := Lib.hid (Nat.lt_of_lt_of_le LS_2.out (Below.size hb3))
  have GR_3 := Lib.hid ((Below.block hb3 R LR_2.out).trans GR_2.out)
  have LR_3 := Lib.hid (Nat.lt_of_lt_of_le LR_2.out (Below.size hb3))
  have GT_3 := Lib.hid ((Below.block hb3 T LT_2.out).trans GT_2.out)
  have LT_3 := Lib.hid (Nat.lt_of_lt_of_le LT_2.out (Below.size hb3))
  clear HM
  clear hb3
  obtain ⟨w4, hw4⟩ : ∃ z, z = w3.setRow R (dV (macOf seed [5, i])) := ⟨_, rfl⟩
  have B4 := Lib.hid (show Below w.heap.size w w4 by rw [hw4]; exact below_setRowW B3.out (by rw [HR.out]; exact Nat.le_refl _) _)
  have sz4 : w4.heap.size = w3.heap.size := by rw [hw4]; exact setRow_size _ _ _
  have GS_4 := Lib.hid (show w4.heap[S]? = some (.cells (dV seed) 23 (0, 0)) by rw [hw4]; exact (_root_.Go.setRow_other _ _ _ _ (by rw [HR.out]; exact Nat.ne_of_lt LS_0.out)).trans GS_3.out)
  have LS_4 := Lib.hid (show S < w4.heap.size by rw [sz4]; exact LS_3.out)
  have GR_4 := Lib.hid (show w4.heap[R]? = some (.cells (dV (macOf seed [5, i])) 23 (0, 0)) by rw [hw4]; exact setRow_heap _ _ _ _ _ _ GR_3.out)
  have LR_4 := Lib.hid (show R < w4.heap.size by rw [sz4]; exact LR_3.out)
  have GT_4 := Lib.hid (show w4.heap[T]? = some (.cells #[.int .u8 5, .int .u8 (i.toNat : Int)] 5 (0, 0)) by rw [hw4]; exact (_root_.Go.setRow_other _ _ _ _ (by rw [HT.out]; exact (Nat.ne_of_lt LR_1.out).symm)).trans GT_3.out)
  have LT_4 := Lib.hid (show T < w4.heap.size by rw [sz4]; exact LT_3.out)
  have Hw4 := Lib.hid hw4
  clear hw4 sz4
  go_wp2_with (first
    | (refine at_st 23 (.tmp 3) (.tmp 8) rfl ?_; (refine st_row rfl (.tmp 3) (.tmp 8) rfl R (macOf seed [5, i]) (macOf_length _ _) (by rfl) (by rfl) (dV nz) (dV_size ZL.out) _ GR_3.out ?_); rw [← Hw4.out]))
  try simp only [Exit.inBlock, Exit.then]
  refine bodyPost_ret (v := .agg (dV (macOf seed [5, i]))) (results_cellW rfl _ _ _ ⟨R, 0, none⟩ _ rfl ?_) rfl ?_
  · exact dig_load (macOf_length _ _) (range_of_row GR_4.out)
  · exact ⟨rfl, B4.out⟩
set_option maxRecDepth 20000 in
set_option maxHeartbeats 1000000 in
theorem Step_calls (d : List UInt8) (hd : d.length = 32) (w : World) (hro : RoundsAt w) :
    Calls Tryz.prog 96 #[.agg (dV d)] w fun e w' => e = .returned (.agg (dV (stepD d))) ∧ Below w.heap.size w w' := by
  have hz : nz.length = 32 := rfl
  have ZL := Lib.hid hz
  clear hz
  have SL := Lib.hid hd
  have RO := Lib.hid hro
  clear hd hro
  obtain ⟨S, hS⟩ : ∃ z, z = w.heap.size := ⟨_, rfl⟩
  obtain ⟨w1, hw1⟩ : ∃ z, z = w.alloc (.cells (dV d) 23) := ⟨_, rfl⟩
  have st1 : Below w.heap.size w w1 := by rw [hw1]; exact (Below.refl _ _).alloc (Nat.le_refl _) _
  have B1 := Lib.hid (show Below w.heap.size w w1 from Below.trans (Below.refl w.heap.size w) (Below.mono st1 (Below.size (Below.refl w.heap.size w))))
  have GS_1 := Lib.hid (show w1.heap[S]? = some (.cells (dV d) 23 (0, 0)) by rw [hw1, hS]; exact heap_alloc_new _ _)
  have LS_1 := Lib.hid (lt_of_heap GS_1.out)
  have HS := Lib.hid hS
  have Hw1 := Lib.hid hw1
  clear hS hw1 st1
  have SZS := Lib.hid (show S = w.heap.size from HS.out)
  obtain ⟨R, hR⟩ : ∃ z, z = w1.heap.size := ⟨_, rfl⟩
  obtain ⟨w2, hw2⟩ : ∃ z, z = w1.alloc (.cells (dV nz) 23) := ⟨_, rfl⟩
  have st2 : Below w1.heap.size w1 w2 := by rw [hw2]; exact (Below.refl _ _).alloc (Nat.le_refl _) _
  have B2 := Lib.hid (show Below w.heap.size w w2 from Below.trans B1.out (Below.mono st2 (Below.size B1.out)))
  have GS_2 := Lib.hid ((Below.block st2 S LS_1.out).trans GS_1.out)
  have LS_2 := Lib.hid (Nat.lt_of_lt_of_le LS_1.out (Below.size st2))
  have GR_2 := Lib.hid (show w2.heap[R]? = some (.cells (dV nz) 23 (0, 0)) by rw [hw2, hR]; exact heap_alloc_new _ _)
  have LR_2 := Lib.hid (lt_of_heap GR_2.out)
  have HR := Lib.hid hR
  have Hw2 := Lib.hid hw2
  clear hR hw2 st2
  have SZR := Lib.hid (show R = w.heap.size + 1 by rw [HR.out, Hw1.out, World.size_alloc, ← HS.out, SZS.out])
  go_enter Tryz.func96, Tryz.ntmps96
  go_upto_region 1 with fail
  rw [zdig]
  rw [← SZR.out, ← SZS.out, ← Hw1.out, ← Hw2.out]
  obtain ⟨T, hT⟩ : ∃ z, z = w2.heap.size := ⟨_, rfl⟩
  obtain ⟨w3, hw3⟩ : ∃ z, z = w2.alloc (.cells (dV d) 23) := ⟨_, rfl⟩
  have st3 : Below w2.heap.size w2 w3 := by rw [hw3]; exact (Below.refl _ _).alloc (Nat.le_refl _) _
  have B3 := Lib.hid (show Below w.heap.size w w3 from Below.trans B2.out (Below.mono st3 (Below.size B2.out)))
  have GS_3 := Lib.hid ((Below.block st3 S LS_2.out).trans GS_2.out)
  have LS_3 := Lib.hid (Nat.lt_of_lt_of_le LS_2.out (Below.size st3))
  have GR_3 := Lib.hid ((Below.block st3 R LR_2.out).trans GR_2.out)
  have LR_3 := Lib.hid (Nat.lt_of_lt_of_le LR_2.out (Below.size st3))
  have GT_3 := Lib.hid (show w3.heap[T]? = some (.cells (dV d) 23 (0, 0)) by rw [hw3, hT]; exact heap_alloc_new _ _)
  have LT_3 := Lib.hid (lt_of_heap GT_3.out)
  have HT := Lib.hid hT
  have Hw3 := Lib.hid hw3
  clear hT hw3 st3
  have HM := Lib.hid (ShaOf_calls 8 [d] (fun x hx => by rw [List.mem_singleton.1 hx]; exact SL.out) (by simp) (some ⟨T, 0, none⟩) 1 _ w3 (by rw [show [d].flatten = d by simp]; exact (rd_of_row GT_3.out)) (RO.out.at_ B3.out))
  rw [show shaOf (8 :: [d].flatten) = stepD d by unfold stepD; simp] at HM
  go_wp2_with (first
    | (refine at_ld 23 (.tmp 1) rfl ?_; (refine ld_digG rfl (.tmp 1) rfl (S) 0 (by rfl) d SL.out (range_of_row GS_2.out) ?_); simp only [Act.put, List.setIfInBounds_toArray, List.set_cons_zero, List.set_cons_succ])
    | ((refine wpl_build1t 24 23 _ 32 32 Tryz.underlying24 info_digz2 (by omega) (by omega) rfl (.tmp 3) rfl (dV d) (by rfl) (dV_size SL.out) ?_); rw [← HT.out, ← Hw3.out]; simp only [Act.put, List.setIfInBounds_toArray, List.set_cons_zero, List.set_cons_succ]))
  refine (HM.out).mono ?_
  rintro e w4 ⟨rfl, hb4⟩
  have B4 := Lib.hid (show Below w.heap.size w w4 from Below.trans B3.out (Below.mono hb4 (Below.size B3.out)))
  have GS_4 := Lib.hid ((Below.block hb4 S LS_3.out).trans GS_3.out)
  have LS_4 := Lib.hid (Nat.lt_of_lt_of_le LS_3.out (Below.size hb4))
  have GR_4 := Lib.hid ((Below.block hb4 R LR_3.out).trans GR_3.out)
  have LR_4 := Lib.hid (Nat.lt_of_lt_of_le LR_3.out (Below.size hb4))
  have GT_4 := Lib.hid ((Below.block hb4 T LT_3.out).trans GT_3.out)
  have LT_4 := Lib.hid (Nat.lt_of_lt_of_le LT_3.out (Below.size hb4))
  clear HM
  clear hb4
  obtain ⟨w5, hw5⟩ : ∃ z, z = w4.setRow R (dV (stepD d)) := ⟨_, rfl⟩
  have B5 := Lib.hid (show Below w.heap.size w w5 by rw [hw5]; exact below_setRowW B4.out (by rw [HR.out]; exact Below.size B1.out) _)
  have sz5 : w5.heap.size = w4.heap.size := by rw [hw5]; exact setRow_size _ _ _
  have GS_5 := Lib.hid (show w5.heap[S]? = some (.cells (dV d) 23 (0, 0)) by rw [hw5]; exact (_root_.Go.setRow_other _ _ _ _ (by rw [HR.out]; exact Nat.ne_of_lt LS_1.out)).trans GS_4.out)
  have LS_5 := Lib.hid (show S < w5.heap.size by rw [sz5]; exact LS_4.out)
  have GR_5 := Lib.hid (show w5.heap[R]? = some (.cells (dV (stepD d)) 23 (0, 0)) by rw [hw5]; exact setRow_heap _ _ _ _ _ _ GR_4.out)
  have LR_5 := Lib.hid (show R < w5.heap.size by rw [sz5]; exact LR_4.out)
  have GT_5 := Lib.hid (show w5.heap[T]? = some (.cells (dV d) 23 (0, 0)) by rw [hw5]; exact (_root_.Go.setRow_other _ _ _ _ (by rw [HT.out]; exact (Nat.ne_of_lt LR_2.out).symm)).trans GT_4.out)
  have LT_5 := Lib.hid (show T < w5.heap.size by rw [sz5]; exact LT_4.out)
  have Hw5 := Lib.hid hw5
  clear hw5 sz5
  go_wp2_with (first
    | (refine at_st 23 (.tmp 2) (.tmp 5) rfl ?_; (refine st_row rfl (.tmp 2) (.tmp 5) rfl R (stepD d) (stepD_length _) (by rfl) (by rfl) (dV nz) (dV_size ZL.out) _ GR_4.out ?_); rw [← Hw5.out]))
  try simp only [Exit.inBlock, Exit.then]
  refine bodyPost_ret (v := .agg (dV (stepD d))) (results_cellW rfl _ _ _ ⟨R, 0, none⟩ _ rfl ?_) rfl ?_
  · exact dig_load (stepD_length _) (range_of_row GR_5.out)
  · exact ⟨rfl, B5.out⟩
end Go.Proofs.YtkioddmhjbaleaaGreatDoor
