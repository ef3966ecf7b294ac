/- The seeds of a key of two storeys: plain. No walk is here. -/
import Derived.Test.YtkioddmhjbaleaaGreatDoorWotsLaw
import Derived.Test.YtkioddmhjbaleaaGreatDoorStampNew
import Derived.Test.YtkioddmhjbaleaaGreatDoorStampL
namespace Go.Proofs.YtkioddmhjbaleaaGreatDoor
set_option linter.unusedVariables false
def hup (seed : List UInt8) : List UInt8 := macOf seed [19]
def hlow (seed : List UInt8) (j : Nat) : List UInt8 := macOf seed [18, UInt8.ofNat j]
theorem hup_length (seed : List UInt8) : (hup seed).length = 32 := macOf_length _ _
theorem hlow_length (seed : List UInt8) (j : Nat) : (hlow seed j).length = 32 := macOf_length _ _
end Go.Proofs.YtkioddmhjbaleaaGreatDoor
/- Walks: hyper.upper, lower and high. -/
namespace Go.Proofs.YtkioddmhjbaleaaGreatDoor
open Go.RowKit
set_option linter.unusedVariables false
set_option linter.unusedSimpArgs false
set_option maxRecDepth 20000 in
set_option maxHeartbeats 1000000 in
theorem HUpper_calls (seed : List UInt8) (hs : seed.length = 32) (w : World) (hro : RoundsAt w) :
    Calls Tryz.prog 25 #[.agg (dV seed)] w fun e w' => e = .returned (.agg (dV (macOf seed [19]))) ∧ Below w.heap.size w w' := by
  have hz : nz.length = 32 := rfl
  have ZL := Lib.hid hz
  clear hz
  have SL := Lib.hid hs
  have RO := Lib.hid hro
  clear hs hro
  obtain ⟨S, hS⟩ : ∃ z, z = w.heap.size := ⟨_, rfl⟩
  obtain ⟨w1, hw1⟩ : ∃ z, z = w.alloc (.cells (dV seed) 23) := ⟨_, rfl⟩
  have st1 : Below w.heap.size w w1 := by rw [hw1]; exact (Below.refl _ _).alloc (Nat.le_refl _) _
  have B1 := Lib.hid (show Below w.heap.size w w1 from Below.trans (Below.refl w.heap.size w) (Below.mono st1 (Below.size (Below.refl w.heap.size w))))
  have GS_1 := Lib.hid (show w1.heap[S]? = some (.cells (dV seed) 23 (0, 0)) by rw [hw1, hS]; exact heap_alloc_new _ _)
  have LS_1 := Lib.hid (lt_of_heap GS_1.out)
  have HS := Lib.hid hS
  have Hw1 := Lib.hid hw1
  clear hS hw1 st1
  have SZS := Lib.hid (show S = w.heap.size from HS.out)
  obtain ⟨R, hR⟩ : ∃ z, z = w1.heap.size := ⟨_, rfl⟩
  obtain ⟨w2, hw2⟩ : ∃ z, z = w1.alloc (.cells (dV nz) 23) := ⟨_, rfl⟩
  have st2 : Below w1.heap.size w1 w2 := by rw [hw2]; exact (Below.refl _ _).alloc (Nat.le_refl _) _
  have B2 := Lib.hid (show Below w.heap.size w w2 from Below.trans B1.out (Below.mono st2 (Below.size B1.out)))
  have GS_2 := Lib.hid ((Below.block st2 S LS_1.out).trans GS_1.out)
  have LS_2 := Lib.hid (Nat.lt_of_lt_of_le LS_1.out (Below.size st2))
  have GR_2 := Lib.hid (show w2.heap[R]? = some (.cells (dV nz) 23 (0, 0)) by rw [hw2, hR]; exact heap_alloc_new _ _)
  have LR_2 := Lib.hid (lt_of_heap GR_2.out)
  have HR := Lib.hid hR
  have Hw2 := Lib.hid hw2
  clear hR hw2 st2
  have SZR := Lib.hid (show R = w.heap.size + 1 by rw [HR.out, Hw1.out, World.size_alloc, ← HS.out, SZS.out])
  go_enter Tryz.func25, Tryz.ntmps25
  go_upto_region 1 with fail
  rw [zdig]
  rw [← SZR.out, ← SZS.out, ← Hw1.out, ← Hw2.out]
  obtain ⟨T, hT⟩ : ∃ z, z = w2.heap.size := ⟨_, rfl⟩
  obtain ⟨w3, hw3⟩ : ∃ z, z = w2.alloc (.cells #[.int .u8 19] 5) := ⟨_, rfl⟩
  have st3 : Below w2.heap.size w2 w3 := by rw [hw3]; exact (Below.refl _ _).alloc (Nat.le_refl _) _
  have B3 := Lib.hid (show Below w.heap.size w w3 from Below.trans B2.out (Below.mono st3 (Below.size B2.out)))
  have GS_3 := Lib.hid ((Below.block st3 S LS_2.out).trans GS_2.out)
  have LS_3 := Lib.hid (Nat.lt_of_lt_of_le LS_2.out (Below.size st3))
  have GR_3 := Lib.hid ((Below.block st3 R LR_2.out).trans GR_2.out)
  have LR_3 := Lib.hid (Nat.lt_of_lt_of_le LR_2.out (Below.size st3))
  have GT_3 := Lib.hid (show w3.heap[T]? = some (.cells #[.int .u8 19] 5 (0, 0)) by rw [hw3, hT]; exact heap_alloc_new _ _)
  have LT_3 := Lib.hid (lt_of_heap GT_3.out)
  have HT := Lib.hid hT
  have Hw3 := Lib.hid hw3
  clear hT hw3 st3
  have HM := Lib.hid (Key_calls seed SL.out [19] (by simp) (by simp) (some ⟨T, 0, none⟩) 1 _ w3 (rd_of_row (d := [19]) GT_3.out) (RO.out.at_ B3.out))
  go_wp2_with (first
    | (refine at_ld 23 (.tmp 1) rfl ?_; (refine ld_digG rfl (.tmp 1) rfl (S) 0 (by rfl) seed SL.out (range_of_row GS_2.out) ?_); simp only [Act.put, List.setIfInBounds_toArray, List.set_cons_zero, List.set_cons_succ]))
  rw [← HT.out, ← Hw3.out]
  refine (HM.out).mono ?_
  rintro e w4 ⟨rfl, hb4⟩
  have B4 := Lib.hid (show Below w.heap.size w w4 from Below.trans B3.out (Below.mono hb4 (Below.size B3.out)))
  have GS_4 := Lib.hid ((Below.block hb4 S LS_3.out).trans GS_3.out)
  have LS_4 := Lib.hid (Nat.lt_of_lt_of_le LS_3.out (Below.size hb4))
  have GR_4 := Lib.hid ((Below.block hb4 R LR_3.out).trans GR_3.out)
  have LR_4 := Lib.hid (Nat.lt_of_lt_of_le LR_3.out (Below.size hb4))
  have GT_4 := Lib.hid ((Below.block hb4 T LT_3.out).trans GT_3.out)
  have LT_4 := Lib.hid (Nat.lt_of_lt_of_le LT_3.out (Below.size hb4))
  clear HM
  clear hb4
  obtain ⟨w5, hw5⟩ : ∃ z, z = w4.setRow R (dV (macOf seed [19])) := ⟨_, rfl⟩
  have B5 := Lib.hid (show Below w.heap.size w w5 by rw [hw5]; exact below_setRowW B4.out (by rw [HR.out]; exact Below.size B1.out) _)
  have sz5 : w5.heap.size = w4.heap.size := by rw [hw5]; exact setRow_size _ _ _
  have GS_5 := Lib.hid (show w5.heap[S]? = some (.cells (dV seed) 23 (0, 0)) by rw [hw5]; exact (_root_.Go.setRow_other _ _ _ _ (by rw [HR.out]; exact Nat.ne_of_lt LS_1.out)).trans GS_4.out)
  have LS_5 := Lib.hid (show S < w5.heap.size by rw [sz5]; exact LS_4.out)
  have GR_5 := Lib.hid (show w5.heap[R]? = some (.cells (dV (macOf seed [19])) 23 (0, 0)) by rw [hw5]; exact setRow_heap _ _ _ _ _ _ GR_4.out)
  have LR_5 := Lib.hid (show R < w5.heap.size by rw [sz5]; exact LR_4.out)
  have GT_5 := Lib.hid (show w5.heap[T]? = some (.cells #[.int .u8 19] 5 (0, 0)) by rw [hw5]; exact (_root_.Go.setRow_other _ _ _ _ (by rw [HT.out]; exact (Nat.ne_of_lt LR_2.out).symm)).trans GT_4.out)
  have LT_5 := Lib.hid (show T < w5.heap.size by rw [sz5]; exact LT_4.out)
  have Hw5 := Lib.hid hw5
  clear hw5 sz5
  go_wp2_with (first
    | (refine at_st 23 (.tmp 2) (.tmp 5) rfl ?_; (refine st_row rfl (.tmp 2) (.tmp 5) rfl R (macOf seed [19]) (macOf_length _ _) (by rfl) (by rfl) (dV nz) (dV_size ZL.out) _ GR_4.out ?_); rw [← Hw5.out]))
  try simp only [Exit.inBlock, Exit.then]
  refine bodyPost_ret (v := .agg (dV (macOf seed [19]))) (results_cellW rfl _ _ _ ⟨R, 0, none⟩ _ rfl ?_) rfl ?_
  · exact dig_load (macOf_length _ _) (range_of_row GR_5.out)
  · exact ⟨rfl, B5.out⟩
set_option maxRecDepth 20000 in
set_option maxHeartbeats 1000000 in
theorem HLower_calls (seed : List UInt8) (hs : seed.length = 32) (i : UInt8) (w : World) (hro : RoundsAt w) :
    Calls Tryz.prog 52 #[.agg (dV seed), .int .i64 (i.toNat : Int)] w fun e w' => e = .returned (.agg (dV (macOf seed [18, i]))) ∧ Below w.heap.size w w' := by
  have hz : nz.length = 32 := rfl
  have ZL := Lib.hid hz
  clear hz
  have SL := Lib.hid hs
  have RO := Lib.hid hro
  clear hs hro
  have q1 : IntKind.u8.wrap (i.toNat : Int) = (i.toNat : Int) := by have := i.toNat_lt; rw [IntKind.wrap_u8]; omega
  obtain ⟨S, hS⟩ : ∃ z, z = w.heap.size := ⟨_, rfl⟩
  obtain ⟨w1, hw1⟩ : ∃ z, z = w.alloc (.cells (dV seed) 23) := ⟨_, rfl⟩
  have st1 : Below w.heap.size w w1 := by rw [hw1]; exact (Below.refl _ _).alloc (Nat.le_refl _) _
  have B1 := Lib.hid (show Below w.heap.size w w1 from Below.trans (Below.refl w.heap.size w) (Below.mono st1 (Below.size (Below.refl w.heap.size w))))
  have GS_1 := Lib.hid (show w1.heap[S]? = some (.cells (dV seed) 23 (0, 0)) by rw [hw1, hS]; exact heap_alloc_new _ _)
  have LS_1 := Lib.hid (lt_of_heap GS_1.out)
  have HS := Lib.hid hS
  have Hw1 := Lib.hid hw1
  clear hS hw1 st1
  have SZS := Lib.hid (show S = w.heap.size from HS.out)
  obtain ⟨R, hR⟩ : ∃ z, z = w1.heap.size := ⟨_, rfl⟩
  obtain ⟨w2, hw2⟩ : ∃ z, z = w1.alloc (.cells (dV nz) 23) := ⟨_, rfl⟩
  have st2 : Below w1.heap.size w1 w2 := by rw [hw2]; exact (Below.refl _ _).alloc (Nat.le_refl _) _
  have B2 := Lib.hid (show Below w.heap.size w w2 from Below.trans B1.out (Below.mono st2 (Below.size B1.out)))
  have GS_2 := Lib.hid ((Below.block st2 S LS_1.out).trans GS_1.out)
  have LS_2 := Lib.hid (Nat.lt_of_lt_of_le LS_1.out (Below.size st2))
  have GR_2 := Lib.hid (show w2.heap[R]? = some (.cells (dV nz) 23 (0, 0)) by rw [hw2, hR]; exact heap_alloc_new _ _)
  have LR_2 := Lib.hid (lt_of_heap GR_2.out)
  have HR := Lib.hid hR
  have Hw2 := Lib.hid hw2
  clear hR hw2 st2
  have SZR := Lib.hid (show R = w.heap.size + 1 by rw [HR.out, Hw1.out, World.size_alloc, ← HS.out, SZS.out])
  go_enter Tryz.func52, Tryz.ntmps52
  go_upto_region 1 with fail
  rw [zdig]
  rw [← SZR.out, ← SZS.out, ← Hw1.out, ← Hw2.out]
  obtain ⟨T, hT⟩ : ∃ z, z = w2.heap.size := ⟨_, rfl⟩
  obtain ⟨w3, hw3⟩ : ∃ z, z = w2.alloc (.cells #[.int .u8 18, .int .u8 (i.toNat : Int)] 5) := ⟨_, rfl⟩
  have st3 : Below w2.heap.size w2 w3 := by rw [hw3]; exact (Below.refl _ _).alloc (Nat.le_refl _) _
  have B3 := Lib.hid (show Below w.heap.size w w3 from Below.trans B2.out (Below.mono st3 (Below.size B2.out)))
  have GS_3 := Lib.hid ((Below.block st3 S LS_2.out).trans GS_2.out)
  have LS_3 := Lib.hid (Nat.lt_of_lt_of_le LS_2.out (Below.size st3))
  have GR_3 := Lib.hid ((Below.block st3 R LR_2.out).trans GR_2.out)
  have LR_3 := Lib.hid (Nat.lt_of_lt_of_le LR_2.out (Below.size st3))
  have GT_3 := Lib.hid (show w3.heap[T]? = some (.cells #[.int .u8 18, .int .u8 (i.toNat : Int)] 5 (0, 0)) by rw [hw3, hT]; exact heap_alloc_new _ _)
  have LT_3 := Lib.hid (lt_of_heap GT_3.out)
  have HT := Lib.hid hT
  have Hw3 := Lib.hid hw3
  clear hT hw3 st3
  have HM := Lib.hid (Key_calls seed SL.out [18, i] (by simp) (by simp) (some ⟨T, 0, none⟩) 2 _ w3 (rd_of_row (d := [18, i]) GT_3.out) (RO.out.at_ B3.out))
  go_wp2_with (first
    | (refine at_ld 23 (.tmp 2) rfl ?_; (refine ld_digG rfl (.tmp 2) rfl (S) 0 (by rfl) seed SL.out (range_of_row GS_2.out) ?_); simp only [Act.put, List.setIfInBounds_toArray, List.set_cons_zero, List.set_cons_succ]))
  rw [← HT.out, ← Hw3.out]
  refine (HM.out).mono ?_
  rintro e w4 ⟨rfl, hb4⟩
  have B4 := Lib.hid (show Below w.heap.size w w4 from Below.trans B3.out (Below.mono hb4 (Below.size B3.out)))
  have GS_4 := Lib.hid ((Below.block hb4 S LS_3.out).trans GS_3.out)
  have LS_4 := Lib.hid (Nat.lt_of_lt_of_le LS_3.out (Below.size hb4))
  have GR_4 := Lib.hid ((Below.block hb4 R LR_3.out).trans GR_3.out)
  have LR_4 := Lib.hid (Nat.lt_of_lt_of_le LR_3.out (Below.size hb4))
  have GT_4 := Lib.hid ((Below.block hb4 T LT_3.out).trans GT_3.out)
  have LT_4 := Lib.hid (Nat.lt_of_lt_of_le LT_3.out (Below.size hb4))
  clear HM
  clear hb4
  obtain ⟨w5, hw5⟩ : ∃ z, z = w4.setRow R (dV (macOf seed [18, i])) := ⟨_, rfl⟩
  have B5 := Lib.hid (show Below w.heap.size w w5 by rw [hw5]; exact below_setRowW B4.out (by rw [HR.out]; exact Below.size B1.out) _)
  have sz5 : w5.heap.size = w4.heap.size := by rw [hw5]; exact setRow_size _ _ _
  have GS_5 := Lib.hid (show w5.heap[S]? = some (.cells (dV seed) 23 (0, 0)) by rw [hw5]; exact (_root_.Go.setRow_other _ _ _ _ (by rw [HR.out]; exact Nat.ne_of_lt LS_1.out)).trans GS_4.out)
  have LS_5 := Lib.hid (show S < w5.heap.size by rw [sz5]; exact LS_4.out)
  have GR_5 := Lib.hid (show w5.heap[R]? = some (.cells (dV (macOf seed [18, i])) 23 (0, 0)) by rw [hw5]; exact setRow_heap _ _ _ _ _ _ GR_4.out)
  have LR_5 := Lib.hid (show R < w5.heap.size by rw [sz5]; exact LR_4.out)
  have GT_5 := Lib.hid (show w5.heap[T]? = some (.cells #[.int .u8 18, .int .u8 (i.toNat : Int)] 5 (0, 0)) by rw [hw5]; exact (_root_.Go.setRow_other _ _ _ _ (by rw [HT.out]; exact (Nat.ne_of_lt LR_2.out).symm)).trans GT_4.out)
  have LT_5 := Lib.hid (show T < w5.heap.size by rw [sz5]; exact LT_4.out)
  have Hw5 := Lib.hid hw5
  clear hw5 sz5
  go_wp2_with (first
    | (refine at_st 23 (.tmp 4) (.tmp 9) rfl ?_; (refine st_row rfl (.tmp 4) (.tmp 9) rfl R (macOf seed [18, i]) (macOf_length _ _) (by rfl) (by rfl) (dV nz) (dV_size ZL.out) _ GR_4.out ?_); rw [← Hw5.out]))
  try simp only [Exit.inBlock, Exit.then]
  refine bodyPost_ret (v := .agg (dV (macOf seed [18, i]))) (results_cellW rfl _ _ _ ⟨R, 0, none⟩ _ rfl ?_) rfl ?_
  · exact dig_load (macOf_length _ _) (range_of_row GR_5.out)
  · exact ⟨rfl, B5.out⟩
set_option maxHeartbeats 1000000 in
theorem High_calls (h : Int) (w : World) : Calls Tryz.prog 23 #[.int .i64 h] w fun e w' => e = .returned (.bool (decide (0 ≤ h ∧ h ≤ 2))) ∧ w = w' := by
  go_enter Tryz.func23, Tryz.ntmps23
  by_cases h1 : 0 ≤ h
  · have q1 : decide (0 ≤ h) = true := decide_eq_true h1
    by_cases h2 : h ≤ 2
    · have q2 : decide (h ≤ 2) = true := decide_eq_true h2
      go_wp2_with fail
      go_ret
      exact ⟨by first | rfl | (rw [decide_eq_true (And.intro h1 h2)]; rfl), rfl⟩
    · have q2 : decide (h ≤ 2) = false := decide_eq_false h2
      go_wp2_with fail
      go_ret
      exact ⟨by first | rfl | (rw [decide_eq_false (by omega)]; rfl), rfl⟩
  · have q1 : decide (0 ≤ h) = false := decide_eq_false h1
    go_wp2_with fail
    go_ret
    exact ⟨by first | rfl | (rw [decide_eq_false (by omega)]; rfl), rfl⟩
theorem HUp_calls (seed : List UInt8) (hs : seed.length = 32) (w : World) (hro : RoundsAt w) : Calls Tryz.prog 25 #[.agg (dV seed)] w fun e w' => e = .returned (.agg (dV (hup seed))) ∧ Below w.heap.size w w' := HUpper_calls seed hs w hro
theorem HLow_calls (seed : List UInt8) (hs : seed.length = 32) (j : Nat) (hj : j < 256) (w : World) (hro : RoundsAt w) : Calls Tryz.prog 52 #[.agg (dV seed), .int .i64 (j : Int)] w fun e w' => e = .returned (.agg (dV (hlow seed j))) ∧ Below w.heap.size w w' := by
  have := HLower_calls seed hs (UInt8.ofNat j) w hro
  rw [ofNat_k j hj] at this
  exact this
end Go.Proofs.YtkioddmhjbaleaaGreatDoor
/- The memory of hyper's keys: a Hyper's block, its stamps. -/
namespace Go.Proofs.YtkioddmhjbaleaaGreatDoor
open Go.RowKit
set_option linter.unusedVariables false
set_option linter.unusedSimpArgs false
def hV (p : Value) (seed : List UInt8) (h turn : Int) (low x0 x1 x2 : Value) : Array Value := (p :: (seed.map vB ++ [.int .i64 h, .int .i64 turn, low, x0, x1, x2])).toArray
section
variable {seed : List UInt8} (hs : seed.length = 32) (p : Value) (h turn : Int) (low x0 x1 x2 : Value)
include hs
theorem hV_size : (hV p seed h turn low x0 x1 x2).size = 39 := by simp [hV, hs]
omit hs in
theorem hV_0 : (hV p seed h turn low x0 x1 x2)[0]? = some p := rfl
theorem hV_33 : (hV p seed h turn low x0 x1 x2)[33]? = some (.int .i64 h) := by
  unfold hV; rw [List.getElem?_toArray, List.getElem?_cons_succ, List.getElem?_append_right (by simp [hs])]; simp [hs]
theorem hV_34 : (hV p seed h turn low x0 x1 x2)[34]? = some (.int .i64 turn) := by
  unfold hV; rw [List.getElem?_toArray, List.getElem?_cons_succ, List.getElem?_append_right (by simp [hs])]; simp [hs]
theorem hV_35 : (hV p seed h turn low x0 x1 x2)[35]? = some low := by
  unfold hV; rw [List.getElem?_toArray, List.getElem?_cons_succ, List.getElem?_append_right (by simp [hs])]; simp [hs]
theorem hV_36 : (hV p seed h turn low x0 x1 x2)[36]? = some x0 := by
  unfold hV; rw [List.getElem?_toArray, List.getElem?_cons_succ, List.getElem?_append_right (by simp [hs])]; simp [hs]
theorem hV_37 : (hV p seed h turn low x0 x1 x2)[37]? = some x1 := by
  unfold hV; rw [List.getElem?_toArray, List.getElem?_cons_succ, List.getElem?_append_right (by simp [hs])]; simp [hs]
theorem hV_38 : (hV p seed h turn low x0 x1 x2)[38]? = some x2 := by
  unfold hV; rw [List.getElem?_toArray, List.getElem?_cons_succ, List.getElem?_append_right (by simp [hs])]; simp [hs]
theorem hV_set (i : Nat) (v : Value) (rest' : List Value) (he : [Value.int .i64 h, .int .i64 turn, low, x0, x1, x2].set i v = rest') : (hV p seed h turn low x0 x1 x2).setIfInBounds (33 + i) v = (p :: (seed.map vB ++ rest')).toArray := by
  unfold hV
  apply Array.toList_inj.1
  rw [Array.toList_setIfInBounds]
  show (p :: (seed.map vB ++ _)).set (33 + i) v = p :: (seed.map vB ++ rest')
  rw [show 33 + i = (32 + i) + 1 by omega, List.set_cons_succ, List.set_append_right _ _ (by simp [hs]), List.length_map, hs, Nat.add_sub_cancel_left, he]
theorem hV_set34 (t' : Int) : (hV p seed h turn low x0 x1 x2).setIfInBounds 34 (.int .i64 t') = hV p seed h t' low x0 x1 x2 := hV_set hs p h turn low x0 x1 x2 1 _ _ rfl
theorem hV_set35 (l' : Value) : (hV p seed h turn low x0 x1 x2).setIfInBounds 35 l' = hV p seed h turn l' x0 x1 x2 := hV_set hs p h turn low x0 x1 x2 2 _ _ rfl
theorem hV_set36 (l' : Value) : (hV p seed h turn low x0 x1 x2).setIfInBounds 36 l' = hV p seed h turn low l' x1 x2 := hV_set hs p h turn low x0 x1 x2 3 _ _ rfl
theorem hV_set37 (l' : Value) : (hV p seed h turn low x0 x1 x2).setIfInBounds 37 l' = hV p seed h turn low x0 l' x2 := hV_set hs p h turn low x0 x1 x2 4 _ _ rfl
theorem hV_set38 (l' : Value) : (hV p seed h turn low x0 x1 x2).setIfInBounds 38 l' = hV p seed h turn low x0 x1 l' := hV_set hs p h turn low x0 x1 x2 5 _ _ rfl
variable {p h turn low x0 x1 x2} {w : World} {X : Nat} {t : TypeId} {fr : Nat × Nat}
omit hs in
theorem hV_seed (hg : w.heap[X]? = some (.cells (hV p seed h turn low x0 x1 x2) t fr)) : w.rangeAt X 1 (seed.map vB) := by
  intro j v hj
  rw [cell_of_row w X (1 + j) _ t fr hg]
  unfold hV
  rw [List.getElem?_toArray, show 1 + j = j + 1 by omega, List.getElem?_cons_succ, List.getElem?_append_left (by have := (List.getElem?_eq_some_iff.1 hj).1; exact this)]
  exact hj
theorem hV_key (hg : w.heap[X]? = some (.cells (hV p seed h turn low x0 x1 x2) t fr)) : w.rangeAt X 36 [x0, x1, x2] := by
  intro j v hj
  rw [cell_of_row w X (36 + j) _ t fr hg]
  match j with
  | 0 => rw [hV_36 hs]; simpa using hj
  | 1 => rw [hV_37 hs]; simpa using hj
  | 2 => rw [hV_38 hs]; simpa using hj
  | j + 3 => simp at hj
theorem hV_there (hg : w.heap[X]? = some (.cells (hV p seed h turn low x0 x1 x2) t (0, 0))) : w.there X 36 3 := by
  intro j hj
  refine ⟨?_, frozen_of_row _ _ _ _ _ hg⟩
  rw [cell_of_row w X (36 + j) _ t _ hg, Array.getElem?_eq_getElem (by rw [hV_size hs]; omega)]
  rfl
theorem hV_put (hg : w.heap[X]? = some (.cells (hV p seed h turn low x0 x1 x2) t fr)) (y0 y1 y2 : Value) : (w.setCells X 36 [y0, y1, y2]).heap[X]? = some (.cells (hV p seed h turn low y0 y1 y2) t fr) := by
  show (((w.setCell ⟨X, 36, none⟩ y0).setCell ⟨X, 37, none⟩ y1).setCell ⟨X, 38, none⟩ y2).heap[X]? = _
  have h1 := setCell_rowS hg (i := 36) y0
  rw [hV_set36 hs] at h1
  have h2 := setCell_rowS h1 (i := 37) y1
  rw [hV_set37 hs] at h2
  have h3 := setCell_rowS h2 (i := 38) y2
  rw [hV_set38 hs] at h3
  exact h3
end
theorem Only.trans {a b c : World} {X : Nat} (h : Only a b X) (k : Only b c X) : Only a c X := ⟨k.1.trans h.1, fun b' hb => (k.2 b' hb).trans (h.2 b' hb)⟩
theorem Only.setCells3 (w : World) (X o : Nat) (a b c : Value) : Only w (w.setCells X o [a, b, c]) X := ((Only.setCell w X o a).trans (Only.setCell _ X (o + 1) b)).trans (Only.setCell _ X (o + 2) c)
theorem run_build_hyper32 (P : Nat) (h : Int) (k0 k1 k2 k3 k4 k5 k6 k7 k8 k9 k10 k11 k12 k13 k14 k15 k16 k17 k18 k19 k20 k21 k22 k23 k24 k25 k26 k27 k28 k29 k30 k31 : UInt8) (w : World) : (Instr.build 62 #[(0, .pointer (some ⟨P, 0, none⟩)), (1, .agg (dV [k0, k1, k2, k3, k4, k5, k6, k7, k8, k9, k10, k11, k12, k13, k14, k15, k16, k17, k18, k19, k20, k21, k22, k23, k24, k25, k26, k27, k28, k29, k30, k31])), (2, .int .i64 h)]).run Tryz.prog w = .ok (.agg (hV (.pointer (some ⟨P, 0, none⟩)) [k0, k1, k2, k3, k4, k5, k6, k7, k8, k9, k10, k11, k12, k13, k14, k15, k16, k17, k18, k19, k20, k21, k22, k23, k24, k25, k26, k27, k28, k29, k30, k31] h 0 (.pointer none) (.int .i64 0) (.slice none 0 0) (.slice none 0 0))) w := by kernel_rfl
theorem run_build_hyper (P : Nat) (h : Int) : ∀ (key : List UInt8), key.length = 32 → ∀ w : World, (Instr.build 62 #[(0, .pointer (some ⟨P, 0, none⟩)), (1, .agg (dV key)), (2, .int .i64 h)]).run Tryz.prog w = .ok (.agg (hV (.pointer (some ⟨P, 0, none⟩)) key h 0 (.pointer none) (.int .i64 0) (.slice none 0 0) (.slice none 0 0))) w := by
  intro key hk
  match key, hk with
  | [k0, k1, k2, k3, k4, k5, k6, k7, k8, k9, k10, k11, k12, k13, k14, k15, k16, k17, k18, k19, k20, k21, k22, k23, k24, k25, k26, k27, k28, k29, k30, k31], _ => exact run_build_hyper32 P h k0 k1 k2 k3 k4 k5 k6 k7 k8 k9 k10 k11 k12 k13 k14 k15 k16 k17 k18 k19 k20 k21 k22 k23 k24 k25 k26 k27 k28 k29 k30 k31
theorem bld_hyper {ops : Array Oper} {rest : List Oper} {op : Oper} {a : Act} {w : World} {Q : Exit → Act → World → Prop} (hgd : op.guard = none) (x y z : Operand) (ho : op.op = .build 62 #[(0, x), (1, y), (2, z)]) (P : Nat) (key : List UInt8) (hk : key.length = 32) (h : Int) (hx : a.eval x = .pointer (some ⟨P, 0, none⟩)) (hy : a.eval y = .agg (dV key)) (hz : a.eval z = .int .i64 h)
    (hw : wpList Tryz.prog ops Q rest (a.put op.dst (.agg (hV (.pointer (some ⟨P, 0, none⟩)) key h 0 (.pointer none) (.int .i64 0) (.slice none 0 0) (.slice none 0 0)))) w) : wpList Tryz.prog ops Q (op :: rest) a w := by
  refine wpList_plain hgd fun K hK => ?_
  unfold Oper.wp execOp
  simp only [ho, List.map_toArray, List.map_cons, List.map_nil, hx, hy, hz, Sem.run_bind, run_build_hyper P h key hk w, Result.andThen_ok, Sem.run_pure]
  exact hK _ _ hw
/-- below B nothing has turned; above it stamps and hypers alone -/
def Ho (B : Nat) (w w' : World) : Prop := Below B w w' ∧ ∀ (b : Nat) (c : Array Value) (t : TypeId) (fr : Nat × Nat), w.heap[b]? = some (.cells c t fr) → t ≠ 82 → t ≠ 62 → w'.heap[b]? = some (.cells c t fr)
theorem Ho.refl (B : Nat) (w : World) : Ho B w w := ⟨Below.refl _ _, fun _ _ _ _ h _ _ => h⟩
theorem Ho.trans {B : Nat} {a b c : World} (h : Ho B a b) (k : Ho B b c) : Ho B a c := ⟨h.1.trans k.1, fun b c t fr hb h1 h2 => k.2 b c t fr (h.2 b c t fr hb h1 h2) h1 h2⟩
theorem Ho.size {B : Nat} {a b : World} (h : Ho B a b) : a.heap.size ≤ b.heap.size := h.1.size
theorem Ho.of_below {B : Nat} {w w' : World} (h : Below w.heap.size w w') (hB : B ≤ w.heap.size) : Ho B w w' := ⟨h.mono hB, fun b c t fr hb _ _ => (h.block b (lt_of_heap hb)).trans hb⟩
theorem Ho.of_save {B : Nat} {w w' : World} {P n nx : Nat} {seed : List UInt8} (h : Save w w' P) (hs : StampAt w P seed n nx) (hB : B ≤ P) : Ho B w w' := ⟨h.1.mono hB, fun b c t fr hb h1 _ => h.blk hs hb h1⟩
theorem Ho.of_only {B : Nat} {w w' : World} {X : Nat} (h : Only w w' X) (hb : Below B w w') {c : Array Value} {fr : Nat × Nat} (hX : w.heap[X]? = some (.cells c 62 fr)) : Ho B w w' := ⟨hb, fun b c' t' fr' hb' _ h2 => h.blk hX hb' (Ne.symm h2)⟩
theorem Ho.rd {B : Nat} {w w' : World} (h : Ho B w w') {a : Option Addr} {e : TypeId} {vs : List Value} (hr : Rd w a e vs) (h1 : e ≠ 82) (h2 : e ≠ 62) : Rd w' a e vs := by
  rcases hr with h0 | ⟨b, o, cur, fr', rfl, hc, hi⟩
  · exact .inl h0
  · exact .inr ⟨b, o, cur, fr', rfl, h.2 b _ _ _ hc h1 h2, hi⟩
theorem Ho.rounds {B : Nat} {w w' : World} (h : Ho B w w') (hB : 1 < B) (hr : RoundsAt w) : RoundsAt w' := by
  obtain ⟨t, fr, hr⟩ := hr
  exact ⟨t, fr, (h.1.block _ hB).trans hr⟩
theorem Save.stamp {w w' : World} {P Q n nx m mx : Nat} {s s' : List UInt8} (h : Save w w' P) (hs : StampAt w P s n nx) (hne : Q ≠ P) (hq : StampAt w Q s' m mx) : StampAt w' Q s' m mx := by
  obtain ⟨la, cap, h1, h2, h3, h4, h5⟩ := hq
  exact ⟨la, cap, (h.2.2 Q hne (lt_of_heap h1)).trans h1, h2, h3, h.rdS hs h4, h5⟩
/-- the key of a lower stamp, signed -/
def KeyAt (w : World) (up low : List UInt8) (N t : Nat) (x0 x1 x2 : Value) : Prop := ∃ (sa : Option Addr) (sc : Nat) (pa : Option Addr) (pc : Nat), x0 = .int .i64 (t : Int) ∧ x1 = .slice sa 67 sc ∧ x2 = .slice pa (tlong t N) pc ∧ Rd w sa 23 ((wsig (skey up t) (troot (leavesK low N))).flatten.map vB) ∧ Rd w pa 23 ((tpath (leavesK up N) t).flatten.map vB)
def One3 (x0 x1 x2 : Value) : Prop := (#[x0, x1, x2] : Array Value).all (·.oneCell') = true
/-- t + 1 lower stamps were made; the last of them, at Q, has nx used -/
def LowAt (w : World) (B P : Nat) (seed : List UInt8) (N turn i : Nat) (low x0 x1 x2 : Value) : Prop :=
  (turn = 0 ∧ i = 0 ∧ low = .pointer none) ∨ ∃ t Q nx, turn = t + 1 ∧ t < N ∧ low = .pointer (some ⟨Q, 0, none⟩) ∧ B ≤ Q ∧ Q ≠ P ∧ nx ≤ N ∧ i = t * N + nx ∧ StampAt w Q (hlow seed t) N nx ∧ (nx < N → KeyAt w (hup seed) (hlow seed t) N t x0 x1 x2)
/-- a Hyper at X that has signed i -/
def HyAt (w : World) (X B : Nat) (seed : List UInt8) (h : Int) (N i : Nat) : Prop :=
  ∃ (P turn : Nat) (low x0 x1 x2 : Value), w.heap[X]? = some (.cells (hV (.pointer (some ⟨P, 0, none⟩)) seed h (turn : Int) low x0 x1 x2) 62 (0, 0)) ∧ B ≤ X ∧ B ≤ P ∧ StampAt w P (hup seed) N turn ∧ turn ≤ N ∧ One3 x0 x1 x2 ∧ LowAt w B P seed N turn i low x0 x1 x2
theorem KeyAt.ho {B : Nat} {w w' : World} {up low : List UInt8} {N t : Nat} {x0 x1 x2 : Value} (h : KeyAt w up low N t x0 x1 x2) (hb : Ho B w w') : KeyAt w' up low N t x0 x1 x2 := by
  obtain ⟨sa, sc, pa, pc, h1, h2, h3, h4, h5⟩ := h
  exact ⟨sa, sc, pa, pc, h1, h2, h3, hb.rd h4 (by decide) (by decide), hb.rd h5 (by decide) (by decide)⟩
theorem HyAt.below {w w' : World} {X B : Nat} {seed : List UInt8} {h : Int} {N i : Nat} (hy : HyAt w X B seed h N i) (hb : Below w.heap.size w w') : HyAt w' X B seed h N i := by
  obtain ⟨P, turn, low, x0, x1, x2, h1, h2, h3, h4, h5, h6, h7⟩ := hy
  refine ⟨P, turn, low, x0, x1, x2, (hb.block X (lt_of_heap h1)).trans h1, h2, h3, h4.below hb, h5, h6, ?_⟩
  rcases h7 with h7 | ⟨t, Q, nx, e1, e2, e3, e4, e5, e6, e7, e8, e9⟩
  · exact .inl h7
  · exact .inr ⟨t, Q, nx, e1, e2, e3, e4, e5, e6, e7, e8.below hb, fun hl => (e9 hl).ho (Ho.of_below hb (Nat.le_refl _))⟩
theorem HyAt.lt {w : World} {X B : Nat} {seed : List UInt8} {h : Int} {N i : Nat} (hy : HyAt w X B seed h N i) : X < w.heap.size := by
  obtain ⟨P, turn, low, x0, x1, x2, h1, _⟩ := hy
  exact lt_of_heap h1
/-- the three heights -/
def High3 (h : Int) (N : Nat) : Prop := (h = 0 ∧ N = 1) ∨ (h = 1 ∧ N = 2) ∨ (h = 2 ∧ N = 4)
theorem High3.pow {h : Int} {N : Nat} (g : High3 h N) : ∃ k : Nat, h = (k : Int) ∧ k ≤ 4 ∧ N = 2 ^ k := by
  rcases g with ⟨rfl, rfl⟩ | ⟨rfl, rfl⟩ | ⟨rfl, rfl⟩
  · exact ⟨0, rfl, by omega, rfl⟩
  · exact ⟨1, rfl, by omega, rfl⟩
  · exact ⟨2, rfl, by omega, rfl⟩
theorem High3.bounds {h : Int} {N : Nat} (g : High3 h N) : 0 ≤ h ∧ h ≤ 2 ∧ 1 ≤ N ∧ N ≤ 4 := by rcases g with ⟨rfl, rfl⟩ | ⟨rfl, rfl⟩ | ⟨rfl, rfl⟩ <;> omega
theorem High3.of {h : Int} (h0 : 0 ≤ h) (h2 : h ≤ 2) : ∃ N, High3 h N := by
  rcases (by omega : h = 0 ∨ h = 1 ∨ h = 2) with rfl | rfl | rfl
  · exact ⟨1, .inl ⟨rfl, rfl⟩⟩
  · exact ⟨2, .inr (.inl ⟨rfl, rfl⟩)⟩
  · exact ⟨4, .inr (.inr ⟨rfl, rfl⟩)⟩
end Go.Proofs.YtkioddmhjbaleaaGreatDoor
/- Walks: hyper.Public, New and Left. -/
namespace Go.Proofs.YtkioddmhjbaleaaGreatDoor
open Go.RowKit
set_option linter.unusedVariables false
set_option linter.unusedSimpArgs false
theorem HighB (h : Int) (b : Bool) (hb : decide (0 ≤ h ∧ h ≤ 2) = b) (w : World) : Calls Tryz.prog 23 #[.int .i64 h] w fun e w' => e = .returned (.bool b) ∧ Below w.heap.size w w' :=
  (High_calls h w).mono fun e w' ⟨h1, h2⟩ => ⟨by rw [h1, hb], by rw [← h2]; exact Below.refl _ _⟩
theorem High3.ok {h : Int} {N : Nat} (g : High3 h N) : decide (0 ≤ h ∧ h ≤ 2) = true := decide_eq_true ⟨g.bounds.1, g.bounds.2.1⟩
theorem load_pst {p : Addr} {z : Option Addr} {w : World} (h : w.cell? p = some (.pointer z)) : (loadVar 58 p).run Tryz.prog w = .ok (.pointer z) w := by go_simp
theorem quiet_pst {ops : Array Oper} {C : World → Prop} {Q : Act → Prop} {a : Act} {op : Oper} {rest : List Oper} {x1 : Operand} (ho : op.op = .load 58 x1) (x : Operand) (he_ : x1 = x) (p : Addr) (hx : a.eval x = .pointer (some p)) (z : Option Addr) (hC : ∀ w, C w → w.cell? p = some (.pointer z))
    (h : wpQuiet Tryz.prog ops C Q rest (a.put op.dst (.pointer z))) (hgd : Region.wanted op (yielded ops a.tmps) = true) : wpQuiet Tryz.prog ops C Q (op :: rest) a := by
  cases he_
  exact quiet_cell hgd _ _ ho p hx _ (fun w hw => load_pst (hC w hw)) h
theorem load_i64 {p : Addr} {z : Int} {w : World} (h : w.cell? p = some (.int .i64 z)) : (loadVar 3 p).run Tryz.prog w = .ok (.int .i64 z) w := by go_simp
theorem quiet_int {ops : Array Oper} {C : World → Prop} {Q : Act → Prop} {a : Act} {op : Oper} {rest : List Oper} {x1 : Operand} (ho : op.op = .load 3 x1) (x : Operand) (he_ : x1 = x) (p : Addr) (hx : a.eval x = .pointer (some p)) (z : Int) (hC : ∀ w, C w → w.cell? p = some (.int .i64 z))
    (h : wpQuiet Tryz.prog ops C Q rest (a.put op.dst (.int .i64 z))) (hgd : Region.wanted op (yielded ops a.tmps) = true) : wpQuiet Tryz.prog ops C Q (op :: rest) a := by
  cases he_
  exact quiet_cell hgd _ _ ho p hx _ (fun w hw => load_i64 (hC w hw)) h
set_option maxRecDepth 20000 in
set_option maxHeartbeats 2000000 in
theorem HPublic_ok (seed : List UInt8) (hs : seed.length = 32) (h : Int) (N : Nat) (hg : High3 h N) (w : World) (hro : RoundsAt w) :
    Calls Tryz.prog 7 #[.agg (dV seed), .int .i64 h] w fun e w' => e = .returned (.tuple #[.agg (dV (troot (leavesK (hup seed) N))), .nilIface]) ∧ Below w.heap.size w w' := by
  have hz : nz.length = 32 := rfl
  have ZL := Lib.hid hz
  clear hz
  have SL := Lib.hid hs
  have RO := Lib.hid hro
  have HG := Lib.hid hg
  have TL := Lib.hid (troot_length (leavesK (hup seed) N) (leavesK_dig _ _))
  obtain ⟨k, hk1, hk2, hk3⟩ := hg.pow
  have HK := Lib.hid (And.intro hk1 (And.intro hk2 hk3))
  clear hs hro hg hk1 hk2 hk3
  obtain ⟨S, hS⟩ : ∃ z, z = w.heap.size := ⟨_, rfl⟩
  obtain ⟨w1, hw1⟩ : ∃ z, z = w.alloc (.cells (dV seed) 23) := ⟨_, rfl⟩
  have st1 : Below w.heap.size w w1 := by rw [hw1]; exact (Below.refl _ _).alloc (Nat.le_refl _) _
  have B1 := Lib.hid (show Below w.heap.size w w1 from Below.trans (Below.refl w.heap.size w) (Below.mono st1 (Below.size (Below.refl w.heap.size w))))
  have GS_1 := Lib.hid (show w1.heap[S]? = some (.cells (dV seed) 23 (0, 0)) by rw [hw1, hS]; exact heap_alloc_new _ _)
  have LS_1 := Lib.hid (lt_of_heap GS_1.out)
  have HS := Lib.hid hS
  have Hw1 := Lib.hid hw1
  clear hS hw1 st1
  have SZS := Lib.hid (show S = w.heap.size from HS.out)
  obtain ⟨R, hR⟩ : ∃ z, z = w1.heap.size := ⟨_, rfl⟩
  obtain ⟨w2, hw2⟩ : ∃ z, z = w1.alloc (.cells (dV nz) 23) := ⟨_, rfl⟩
  have st2 : Below w1.heap.size w1 w2 := by rw [hw2]; exact (Below.refl _ _).alloc (Nat.le_refl _) _
  have B2 := Lib.hid (show Below w.heap.size w w2 from Below.trans B1.out (Below.mono st2 (Below.size B1.out)))
  have GS_2 := Lib.hid ((Below.block st2 S LS_1.out).trans GS_1.out)
  have LS_2 := Lib.hid (Nat.lt_of_lt_of_le LS_1.out (Below.size st2))
  have GR_2 := Lib.hid (show w2.heap[R]? = some (.cells (dV nz) 23 (0, 0)) by rw [hw2, hR]; exact heap_alloc_new _ _)
  have LR_2 := Lib.hid (lt_of_heap GR_2.out)
  have HR := Lib.hid hR
  have Hw2 := Lib.hid hw2
  clear hR hw2 st2
  have SZR := Lib.hid (show R = w.heap.size + 1 by rw [HR.out, Hw1.out, World.size_alloc, ← HS.out, SZS.out])
  go_enter Tryz.func7, Tryz.ntmps7
  go_upto_region 1 with fail
  rw [zdig]
  rw [← SZR.out, ← SZS.out, ← Hw1.out, ← Hw2.out]
  go_wp2_with fail
  refine (HighB h true HG.out.ok w2).mono ?_
  rintro e w3 ⟨rfl, hb3⟩
  have B3 := Lib.hid (show Below w.heap.size w w3 from Below.trans B2.out (Below.mono hb3 (Below.size B2.out)))
  have GS_3 := Lib.hid ((Below.block hb3 S LS_2.out).trans GS_2.out)
  have LS_3 := Lib.hid (Nat.lt_of_lt_of_le LS_2.out (Below.size hb3))
  have GR_3 := Lib.hid ((Below.block hb3 R LR_2.out).trans GR_2.out)
  have LR_3 := Lib.hid (Nat.lt_of_lt_of_le LR_2.out (Below.size hb3))
  clear hb3
  go_wp2_with (first
    | (refine at_ld 23 (.tmp 2) rfl ?_; (refine ld_digG rfl (.tmp 2) rfl (S) 0 (by rfl) seed SL.out (range_of_row GS_3.out) ?_); simp only [Act.put, List.setIfInBounds_toArray, List.set_cons_zero, List.set_cons_succ]))
  refine (HUp_calls seed SL.out w3 (RO.out.at_ B3.out)).mono ?_
  rintro e w4 ⟨rfl, hb4⟩
  have B4 := Lib.hid (show Below w.heap.size w w4 from Below.trans B3.out (Below.mono hb4 (Below.size B3.out)))
  have GS_4 := Lib.hid ((Below.block hb4 S LS_3.out).trans GS_3.out)
  have LS_4 := Lib.hid (Nat.lt_of_lt_of_le LS_3.out (Below.size hb4))
  have GR_4 := Lib.hid ((Below.block hb4 R LR_3.out).trans GR_3.out)
  have LR_4 := Lib.hid (Nat.lt_of_lt_of_le LR_3.out (Below.size hb4))
  clear hb4
  go_wp2_with fail
  refine (Public_z (hup seed) (hup_length _) k h HK.out.1 HK.out.2.1 N HK.out.2.2 w4 (RO.out.at_ B4.out)).mono ?_
  rintro e w5 ⟨rfl, hb5⟩
  have B5 := Lib.hid (show Below w.heap.size w w5 from Below.trans B4.out (Below.mono hb5 (Below.size B4.out)))
  have GS_5 := Lib.hid ((Below.block hb5 S LS_4.out).trans GS_4.out)
  have LS_5 := Lib.hid (Nat.lt_of_lt_of_le LS_4.out (Below.size hb5))
  have GR_5 := Lib.hid ((Below.block hb5 R LR_4.out).trans GR_4.out)
  have LR_5 := Lib.hid (Nat.lt_of_lt_of_le LR_4.out (Below.size hb5))
  clear hb5
  obtain ⟨w6, hw6⟩ : ∃ z, z = w5.setRow R (dV (troot (leavesK (hup seed) N))) := ⟨_, rfl⟩
  have B6 := Lib.hid (show Below w.heap.size w w6 by rw [hw6]; exact below_setRowW B5.out (by rw [HR.out]; exact Below.size B1.out) _)
  have sz6 : w6.heap.size = w5.heap.size := by rw [hw6]; exact setRow_size _ _ _
  have GS_6 := Lib.hid (show w6.heap[S]? = some (.cells (dV seed) 23 (0, 0)) by rw [hw6]; exact (_root_.Go.setRow_other _ _ _ _ (by rw [HR.out]; exact Nat.ne_of_lt LS_1.out)).trans GS_5.out)
  have LS_6 := Lib.hid (show S < w6.heap.size by rw [sz6]; exact LS_5.out)
  have GR_6 := Lib.hid (show w6.heap[R]? = some (.cells (dV (troot (leavesK (hup seed) N))) 23 (0, 0)) by rw [hw6]; exact setRow_heap _ _ _ _ _ _ GR_5.out)
  have LR_6 := Lib.hid (show R < w6.heap.size by rw [sz6]; exact LR_5.out)
  have Hw6 := Lib.hid hw6
  clear hw6 sz6
  go_wp2_with (first
    | (refine at_st 23 (.tmp 4) (.tmp 15) rfl ?_; (refine st_row rfl (.tmp 4) (.tmp 15) rfl R (troot (leavesK (hup seed) N)) TL.out (by rfl) (by rfl) (dV nz) (dV_size ZL.out) _ GR_5.out ?_); rw [← Hw6.out]))
  try simp only [Exit.inBlock, Exit.then]
  refine bodyPost_ret (results_cell_tmp rfl _ _ _ ⟨R, 0, none⟩ (.agg (dV (troot (leavesK (hup seed) N)))) rfl ?_) rfl ⟨rfl, B6.out⟩
  exact dig_load TL.out (range_of_row GR_6.out)
set_option maxRecDepth 20000 in
set_option maxHeartbeats 1000000 in
theorem HPublic_bad (seed : List UInt8) (h : Int) (hh : h < 0 ∨ 2 < h) (w : World) :
    Calls Tryz.prog 7 #[.agg (dV seed), .int .i64 h] w fun e w' => e = .returned (.tuple #[.agg (dV nz), .iface 29 (.int .i64 2)]) ∧ Below w.heap.size w w' := by
  obtain ⟨Z, hZ⟩ : ∃ Z, Z = nz := ⟨_, rfl⟩
  have ZL := Lib.hid (show Z.length = 32 by rw [hZ]; rfl)
  have ZT := Lib.hid (show (#[.int .u8 0, .int .u8 0, .int .u8 0, .int .u8 0, .int .u8 0, .int .u8 0, .int .u8 0, .int .u8 0, .int .u8 0, .int .u8 0, .int .u8 0, .int .u8 0, .int .u8 0, .int .u8 0, .int .u8 0, .int .u8 0, .int .u8 0, .int .u8 0, .int .u8 0, .int .u8 0, .int .u8 0, .int .u8 0, .int .u8 0, .int .u8 0, .int .u8 0, .int .u8 0, .int .u8 0, .int .u8 0, .int .u8 0, .int .u8 0, .int .u8 0, .int .u8 0] : Array Value) = dV Z by rw [hZ]; exact zdig)
  have HZ := Lib.hid hZ
  rw [← hZ]
  clear hZ
  obtain ⟨S, hS⟩ : ∃ z, z = w.heap.size := ⟨_, rfl⟩
  obtain ⟨w1, hw1⟩ : ∃ z, z = w.alloc (.cells (dV seed) 23) := ⟨_, rfl⟩
  have st1 : Below w.heap.size w w1 := by rw [hw1]; exact (Below.refl _ _).alloc (Nat.le_refl _) _
  have B1 := Lib.hid (show Below w.heap.size w w1 from Below.trans (Below.refl w.heap.size w) (Below.mono st1 (Below.size (Below.refl w.heap.size w))))
  have GS_1 := Lib.hid (show w1.heap[S]? = some (.cells (dV seed) 23 (0, 0)) by rw [hw1, hS]; exact heap_alloc_new _ _)
  have LS_1 := Lib.hid (lt_of_heap GS_1.out)
  have HS := Lib.hid hS
  have Hw1 := Lib.hid hw1
  clear hS hw1 st1
  have SZS := Lib.hid (show S = w.heap.size from HS.out)
  obtain ⟨R, hR⟩ : ∃ z, z = w1.heap.size := ⟨_, rfl⟩
  obtain ⟨w2, hw2⟩ : ∃ z, z = w1.alloc (.cells (dV Z) 23) := ⟨_, rfl⟩
  have st2 : Below w1.heap.size w1 w2 := by rw [hw2]; exact (Below.refl _ _).alloc (Nat.le_refl _) _
  have B2 := Lib.hid (show Below w.heap.size w w2 from Below.trans B1.out (Below.mono st2 (Below.size B1.out)))
  have GS_2 := Lib.hid ((Below.block st2 S LS_1.out).trans GS_1.out)
  have LS_2 := Lib.hid (Nat.lt_of_lt_of_le LS_1.out (Below.size st2))
  have GR_2 := Lib.hid (show w2.heap[R]? = some (.cells (dV Z) 23 (0, 0)) by rw [hw2, hR]; exact heap_alloc_new _ _)
  have LR_2 := Lib.hid (lt_of_heap GR_2.out)
  have HR := Lib.hid hR
  have Hw2 := Lib.hid hw2
  clear hR hw2 st2
  have SZR := Lib.hid (show R = w.heap.size + 1 by rw [HR.out, Hw1.out, World.size_alloc, ← HS.out, SZS.out])
  go_enter Tryz.func7, Tryz.ntmps7
  go_upto_region 1 with fail
  rw [ZT.out]
  rw [← SZR.out, ← SZS.out, ← Hw1.out, ← Hw2.out]
  go_wp2_with fail
  refine (HighB h false (decide_eq_false (by omega)) w2).mono ?_
  rintro e w3 ⟨rfl, hb3⟩
  have B3 := Lib.hid (show Below w.heap.size w w3 from Below.trans B2.out (Below.mono hb3 (Below.size B2.out)))
  have GS_3 := Lib.hid ((Below.block hb3 S LS_2.out).trans GS_2.out)
  have LS_3 := Lib.hid (Nat.lt_of_lt_of_le LS_2.out (Below.size hb3))
  have GR_3 := Lib.hid ((Below.block hb3 R LR_2.out).trans GR_2.out)
  have LR_3 := Lib.hid (Nat.lt_of_lt_of_le LR_2.out (Below.size hb3))
  clear hb3
  obtain ⟨w4, hw4⟩ : ∃ z, z = w3.setRow R (dV Z) := ⟨_, rfl⟩
  have B4 := Lib.hid (show Below w.heap.size w w4 by rw [hw4]; exact below_setRowW B3.out (by rw [HR.out]; exact Below.size B1.out) _)
  have sz4 : w4.heap.size = w3.heap.size := by rw [hw4]; exact setRow_size _ _ _
  have GS_4 := Lib.hid (show w4.heap[S]? = some (.cells (dV seed) 23 (0, 0)) by rw [hw4]; exact (_root_.Go.setRow_other _ _ _ _ (by rw [HR.out]; exact Nat.ne_of_lt LS_1.out)).trans GS_3.out)
  have LS_4 := Lib.hid (show S < w4.heap.size by rw [sz4]; exact LS_3.out)
  have GR_4 := Lib.hid (show w4.heap[R]? = some (.cells (dV Z) 23 (0, 0)) by rw [hw4]; exact setRow_heap _ _ _ _ _ _ GR_3.out)
  have LR_4 := Lib.hid (show R < w4.heap.size by rw [sz4]; exact LR_3.out)
  have Hw4 := Lib.hid hw4
  clear hw4 sz4
  go_wp2_with (first
    | (refine wpl_zero rfl rfl Z HZ.out ?_)
    | (refine at_st 23 (.tmp 4) (.tmp 9) rfl ?_; (refine st_row rfl (.tmp 4) (.tmp 9) rfl R Z ZL.out (by rfl) (by rfl) (dV Z) (dV_size ZL.out) _ GR_3.out ?_); rw [← Hw4.out]))
  try simp only [Exit.inBlock, Exit.then]
  refine bodyPost_ret (results_cell_tmp rfl _ _ _ ⟨R, 0, none⟩ (.agg (dV Z)) rfl ?_) rfl ⟨rfl, B4.out⟩
  exact dig_load ZL.out (range_of_row GR_4.out)
set_option maxRecDepth 20000 in
set_option maxHeartbeats 1000000 in
theorem HNew_bad (seed : List UInt8) (h : Int) (hh : h < 0 ∨ 2 < h) (w : World) :
    Calls Tryz.prog 9 #[.agg (dV seed), .int .i64 h] w fun e w' => e = .returned (.tuple #[.pointer none, .iface 29 (.int .i64 2)]) ∧ Below w.heap.size w w' := by
  obtain ⟨S, hS⟩ : ∃ z, z = w.heap.size := ⟨_, rfl⟩
  obtain ⟨w1, hw1⟩ : ∃ z, z = w.alloc (.cells (dV seed) 23) := ⟨_, rfl⟩
  have st1 : Below w.heap.size w w1 := by rw [hw1]; exact (Below.refl _ _).alloc (Nat.le_refl _) _
  have B1 := Lib.hid (show Below w.heap.size w w1 from Below.trans (Below.refl w.heap.size w) (Below.mono st1 (Below.size (Below.refl w.heap.size w))))
  have GS_1 := Lib.hid (show w1.heap[S]? = some (.cells (dV seed) 23 (0, 0)) by rw [hw1, hS]; exact heap_alloc_new _ _)
  have LS_1 := Lib.hid (lt_of_heap GS_1.out)
  have HS := Lib.hid hS
  have Hw1 := Lib.hid hw1
  clear hS hw1 st1
  have SZS := Lib.hid (show S = w.heap.size from HS.out)
  go_enter Tryz.func9, Tryz.ntmps9
  go_upto_region 1 with fail
  rw [← SZS.out, ← Hw1.out]
  go_wp2_with fail
  refine (HighB h false (decide_eq_false (by omega)) w1).mono ?_
  rintro e w2 ⟨rfl, hb2⟩
  have B2 := Lib.hid (show Below w.heap.size w w2 from Below.trans B1.out (Below.mono hb2 (Below.size B1.out)))
  have GS_2 := Lib.hid ((Below.block hb2 S LS_1.out).trans GS_1.out)
  have LS_2 := Lib.hid (Nat.lt_of_lt_of_le LS_1.out (Below.size hb2))
  clear hb2
  go_wp2_with fail
  go_ret2
  exact ⟨rfl, B2.out⟩
set_option maxRecDepth 20000 in
set_option maxHeartbeats 2000000 in
theorem HNew_ok (seed : List UInt8) (hs : seed.length = 32) (h : Int) (N : Nat) (hg : High3 h N) (B : Nat) (w : World) (hB : B ≤ w.heap.size) (hro : RoundsAt w) :
    Calls Tryz.prog 9 #[.agg (dV seed), .int .i64 h] w fun e w' => ∃ X, e = .returned (.tuple #[.pointer (some ⟨X, 0, none⟩), .nilIface]) ∧ w.heap.size ≤ X ∧ Below w.heap.size w w' ∧ HyAt w' X B seed h N 0 := by
  have SL := Lib.hid hs
  have RO := Lib.hid hro
  have HG := Lib.hid hg
  have HBw := Lib.hid hB
  obtain ⟨k, hk1, hk2, hk3⟩ := hg.pow
  have HK := Lib.hid (And.intro hk1 (And.intro hk2 hk3))
  clear hs hro hg hk1 hk2 hk3 hB
  obtain ⟨S, hS⟩ : ∃ z, z = w.heap.size := ⟨_, rfl⟩
  obtain ⟨w1, hw1⟩ : ∃ z, z = w.alloc (.cells (dV seed) 23) := ⟨_, rfl⟩
  have st1 : Below w.heap.size w w1 := by rw [hw1]; exact (Below.refl _ _).alloc (Nat.le_refl _) _
  have B1 := Lib.hid (show Below w.heap.size w w1 from Below.trans (Below.refl w.heap.size w) (Below.mono st1 (Below.size (Below.refl w.heap.size w))))
  have GS_1 := Lib.hid (show w1.heap[S]? = some (.cells (dV seed) 23 (0, 0)) by rw [hw1, hS]; exact heap_alloc_new _ _)
  have LS_1 := Lib.hid (lt_of_heap GS_1.out)
  have HS := Lib.hid hS
  have Hw1 := Lib.hid hw1
  clear hS hw1 st1
  have SZS := Lib.hid (show S = w.heap.size from HS.out)
  go_enter Tryz.func9, Tryz.ntmps9
  go_upto_region 1 with fail
  rw [← SZS.out, ← Hw1.out]
  go_wp2_with fail
  refine (HighB h true HG.out.ok w1).mono ?_
  rintro e w2 ⟨rfl, hb2⟩
  have B2 := Lib.hid (show Below w.heap.size w w2 from Below.trans B1.out (Below.mono hb2 (Below.size B1.out)))
  have GS_2 := Lib.hid ((Below.block hb2 S LS_1.out).trans GS_1.out)
  have LS_2 := Lib.hid (Nat.lt_of_lt_of_le LS_1.out (Below.size hb2))
  clear hb2
  go_wp2_with (first
    | (refine at_ld 23 (.tmp 2) rfl ?_; (refine ld_digG rfl (.tmp 2) rfl (S) 0 (by rfl) seed SL.out (range_of_row GS_2.out) ?_); simp only [Act.put, List.setIfInBounds_toArray, List.set_cons_zero, List.set_cons_succ]))
  refine (HUp_calls seed SL.out w2 (RO.out.at_ B2.out)).mono ?_
  rintro e w3 ⟨rfl, hb3⟩
  have B3 := Lib.hid (show Below w.heap.size w w3 from Below.trans B2.out (Below.mono hb3 (Below.size B2.out)))
  have GS_3 := Lib.hid ((Below.block hb3 S LS_2.out).trans GS_2.out)
  have LS_3 := Lib.hid (Nat.lt_of_lt_of_le LS_2.out (Below.size hb3))
  clear hb3
  go_wp2_with fail
  refine (New_z (hup seed) (hup_length _) k h HK.out.1 HK.out.2.1 N HK.out.2.2 w3 (RO.out.at_ B3.out)).mono ?_
  rintro e w4 ⟨P, rfl, hP, hSAP, hb4⟩
  have B4 := Lib.hid (show Below w.heap.size w w4 from Below.trans B3.out (Below.mono hb4 (Below.size B3.out)))
  have GS_4 := Lib.hid ((Below.block hb4 S LS_3.out).trans GS_3.out)
  have LS_4 := Lib.hid (Nat.lt_of_lt_of_le LS_3.out (Below.size hb4))
  have SAP_4 := Lib.hid hSAP
  have HBP := Lib.hid (show w.heap.size ≤ P from Nat.le_trans (Below.size B3.out) hP)
  clear hP hSAP
  clear hb4
  obtain ⟨X, hX⟩ : ∃ z, z = w4.heap.size := ⟨_, rfl⟩
  obtain ⟨w5, hw5⟩ : ∃ z, z = w4.alloc (.cells (hV (.pointer (some ⟨P, 0, none⟩)) seed h 0 (.pointer none) (.int .i64 0) (.slice none 0 0) (.slice none 0 0)) 62) := ⟨_, rfl⟩
  have st5 : Below w4.heap.size w4 w5 := by rw [hw5]; exact (Below.refl _ _).alloc (Nat.le_refl _) _
  have B5 := Lib.hid (show Below w.heap.size w w5 from Below.trans B4.out (Below.mono st5 (Below.size B4.out)))
  have GS_5 := Lib.hid ((Below.block st5 S LS_4.out).trans GS_4.out)
  have LS_5 := Lib.hid (Nat.lt_of_lt_of_le LS_4.out (Below.size st5))
  have SAP_5 := Lib.hid (SAP_4.out.below st5)
  have GX_5 := Lib.hid (show w5.heap[X]? = some (.cells (hV (.pointer (some ⟨P, 0, none⟩)) seed h 0 (.pointer none) (.int .i64 0) (.slice none 0 0) (.slice none 0 0)) 62 (0, 0)) by rw [hw5, hX]; exact heap_alloc_new _ _)
  have LX_5 := Lib.hid (lt_of_heap GX_5.out)
  have HX := Lib.hid hX
  have Hw5 := Lib.hid hw5
  clear hX hw5 st5
  go_wp2_with (first
    | (refine at_ld 23 (.tmp 2) rfl ?_; (refine ld_digG rfl (.tmp 2) rfl (S) 0 (by rfl) seed SL.out (range_of_row GS_4.out) ?_); simp only [Act.put, List.setIfInBounds_toArray, List.set_cons_zero, List.set_cons_succ])
    | (refine bld_hyper rfl (.tmp 19) (.tmp 20) (.tmp 21) rfl P seed SL.out h (by rfl) (by rfl) (by rfl) ?_))
  rw [← HX.out, ← Hw5.out]
  go_ret2
  exact ⟨X, rfl, (by rw [HX.out]; exact Below.size B4.out), B5.out, P, 0, .pointer none, _, _, _, GX_5.out, (by rw [HX.out]; exact Nat.le_trans HBw.out (Below.size B4.out)), Nat.le_trans HBw.out HBP.out, SAP_5.out, Nat.zero_le _, sig_one _ _ _ _ _ _ _, .inl ⟨rfl, rfl, rfl⟩⟩
set_option maxRecDepth 20000 in
set_option maxHeartbeats 2000000 in
theorem HLeft_calls (seed : List UInt8) (hs : seed.length = 32) (h : Int) (N : Nat) (hg : High3 h N) (X B i : Nat) (hi : i ≤ N * N) (w : World) (hy : HyAt w X B seed h N i) :
    Calls Tryz.prog 11 #[.pointer (some ⟨X, 0, none⟩)] w fun e w' => e = .returned (.int .i64 ((N * N - i : Nat) : Int)) ∧ Below w.heap.size w w' := by
  obtain ⟨P, turn, low, x0, x1, x2, hX, hBX, hBP, hSt, htN, h13, hlw⟩ := hy
  have lX := lt_of_heap hX
  have c0 := cell_of_row w X 0 _ _ _ hX
  rw [hV_0] at c0
  have c33 := cell_of_row w X 33 _ _ _ hX
  rw [hV_33 hs] at c33
  have c35 := cell_of_row w X 35 _ _ _ hX
  rw [hV_35 hs] at c35
  have FC0 := Lib.hid (fun w' (h : InB w.heap.size w w') => (Below.cell h (p := ⟨X, 0, none⟩) lX).trans c0)
  have FC33 := Lib.hid (fun w' (h : InB w.heap.size w w') => (Below.cell h (p := ⟨X, 33, none⟩) lX).trans c33)
  have hN := hg.bounds
  obtain ⟨d, hd⟩ : ∃ d, d = N - turn := ⟨_, rfl⟩
  obtain ⟨r, hr⟩ : ∃ r, r = N * N - i := ⟨_, rfl⟩
  have LP : Hid (∀ w', InB w.heap.size w w' → Calls Tryz.prog 31 #[.pointer (some ⟨P, 0, none⟩)] w' fun e w'' => e = .returned (.int .i64 (d : Int)) ∧ InB w.heap.size w w'') := Lib.hid fun w' h => InB.call h (Nat.le_refl _) (by rw [hd]; exact Left_calls (hup seed) (hup_length _) P N turn (by omega) htN w' (hSt.below h))
  have LQ : Hid (∀ Q t nx, StampAt w Q (hlow seed t) N nx → nx ≤ N → ∀ wZ, Below w.heap.size w wZ → Calls Tryz.prog 31 #[.pointer (some ⟨Q, 0, none⟩)] wZ fun e w'' => e = .returned (.int .i64 ((N - nx : Nat) : Int)) ∧ Below wZ.heap.size wZ w'') := Lib.hid fun Q t nx hs hl wZ hb => Left_calls (hlow seed t) (hlow_length _ _) Q N nx (by omega) hl wZ (hs.below hb)
  have HLOW := Lib.hid hlw
  have C35 := Lib.hid (And.intro c35 lX)
  have HNN := Lib.hid htN
  rw [← hr]
  have HR := Lib.hid hr
  have HD := Lib.hid hd
  clear c0 c33 c35 hX hSt hlw hr hd hBX hBP h13 htN
  rcases hg with ⟨rfl, rfl⟩ | ⟨rfl, rfl⟩ | ⟨rfl, rfl⟩
  · have hd4 : d ≤ 1 := by have := HD.out; omega
    have e1 : IntKind.i64.wrap ((d : Int) * 1) = (d : Int) * 1 := IntWalk.i64_in _ (by omega)
    have e1' : IntKind.i64.wrap ((d : Int)) = (d : Int) := IntWalk.i64_in _ (by omega)
    go_enter Tryz.func11, Tryz.ntmps11
    go_upto_region 1 with fail
    have hex := inB_ex w.heap.size w
    refine wp_region_inB w.heap.size (by kernel_rfl) (by kernel_rfl) ?_
    repeat (first
      | (with_reducible refine quiet_pst rfl (.tmp 6) rfl ⟨X, 0, none⟩ (by kernel_rfl) (some ⟨P, 0, none⟩) FC0.out ?_ (by kernel_rfl); simp only [Act.put, List.setIfInBounds_toArray, List.set_cons_zero, List.set_cons_succ])
      | (with_reducible refine quiet_int rfl (.tmp 11) rfl ⟨X, 33, none⟩ (by kernel_rfl) (0) FC33.out ?_ (by kernel_rfl); simp only [Act.put, List.setIfInBounds_toArray, List.set_cons_zero, List.set_cons_succ])
      | go_big_quiet_step ((first | (intro hw'; exact LP.out _ hw') | (intro _; rfl))))
    refine wpQuiet_nil ?_
    intro wZ hwZ
    have BZ := Lib.hid hwZ
    have c35 := (Below.cell hwZ (p := ⟨X, 35, none⟩) C35.out.2).trans C35.out.1
    clear hwZ hex
    rcases HLOW.out with ⟨g1, g2, g3⟩ | ⟨t, Q, nx, g1, g2, g3, g4, g5, g6, g7, g8, g9⟩
    · subst g3
      have HE := Lib.hid (show (d : Int) * 1 = (r : Int) by have := HR.out; have := HD.out; omega)
      clear g1 g2
      go_wp2_with fail
      go_ret
      exact ⟨by rw [← HE.out]; first | rfl | simp, BZ.out⟩
    · subst g3
      obtain ⟨dq, hdq⟩ : ∃ d, d = 1 - nx := ⟨_, rfl⟩
      have CQ := LQ.out Q t nx g8 g6 wZ BZ.out
      rw [← hdq] at CQ
      have HE := Lib.hid (show (d : Int) * 1 + (dq : Int) = (r : Int) by have := HR.out; have := HD.out; have := HNN.out; omega)
      have e2 : IntKind.i64.wrap ((d : Int) * 1 + (dq : Int)) = (d : Int) * 1 + (dq : Int) := IntWalk.i64_in _ (by omega)
      have e2' : IntKind.i64.wrap ((d : Int) + (dq : Int)) = (d : Int) + (dq : Int) := IntWalk.i64_in _ (by omega)
      clear g1 g2 g4 g5 g6 g7 g8 g9 hdq
      go_wp2_with fail
      refine CQ.mono ?_; rintro e w2 ⟨rfl, hb2⟩
      have B2 := Lib.hid (BZ.out.trans (hb2.mono (Below.size BZ.out)))
      clear CQ hb2
      go_wp2_with fail
      go_ret
      exact ⟨by rw [← HE.out]; first | rfl | simp, B2.out⟩
  · have hd4 : d ≤ 2 := by have := HD.out; omega
    have e1 : IntKind.i64.wrap ((d : Int) * 2) = (d : Int) * 2 := IntWalk.i64_in _ (by omega)
    have e1' : IntKind.i64.wrap ((d : Int)) = (d : Int) := IntWalk.i64_in _ (by omega)
    go_enter Tryz.func11, Tryz.ntmps11
    go_upto_region 1 with fail
    have hex := inB_ex w.heap.size w
    refine wp_region_inB w.heap.size (by kernel_rfl) (by kernel_rfl) ?_
    repeat (first
      | (with_reducible refine quiet_pst rfl (.tmp 6) rfl ⟨X, 0, none⟩ (by kernel_rfl) (some ⟨P, 0, none⟩) FC0.out ?_ (by kernel_rfl); simp only [Act.put, List.setIfInBounds_toArray, List.set_cons_zero, List.set_cons_succ])
      | (with_reducible refine quiet_int rfl (.tmp 11) rfl ⟨X, 33, none⟩ (by kernel_rfl) (1) FC33.out ?_ (by kernel_rfl); simp only [Act.put, List.setIfInBounds_toArray, List.set_cons_zero, List.set_cons_succ])
      | go_big_quiet_step ((first | (intro hw'; exact LP.out _ hw') | (intro _; rfl))))
    refine wpQuiet_nil ?_
    intro wZ hwZ
    have BZ := Lib.hid hwZ
    have c35 := (Below.cell hwZ (p := ⟨X, 35, none⟩) C35.out.2).trans C35.out.1
    clear hwZ hex
    rcases HLOW.out with ⟨g1, g2, g3⟩ | ⟨t, Q, nx, g1, g2, g3, g4, g5, g6, g7, g8, g9⟩
    · subst g3
      have HE := Lib.hid (show (d : Int) * 2 = (r : Int) by have := HR.out; have := HD.out; omega)
      clear g1 g2
      go_wp2_with fail
      go_ret
      exact ⟨by rw [← HE.out]; first | rfl | simp, BZ.out⟩
    · subst g3
      obtain ⟨dq, hdq⟩ : ∃ d, d = 2 - nx := ⟨_, rfl⟩
      have CQ := LQ.out Q t nx g8 g6 wZ BZ.out
      rw [← hdq] at CQ
      have HE := Lib.hid (show (d : Int) * 2 + (dq : Int) = (r : Int) by have := HR.out; have := HD.out; have := HNN.out; omega)
      have e2 : IntKind.i64.wrap ((d : Int) * 2 + (dq : Int)) = (d : Int) * 2 + (dq : Int) := IntWalk.i64_in _ (by omega)
      have e2' : IntKind.i64.wrap ((d : Int) + (dq : Int)) = (d : Int) + (dq : Int) := IntWalk.i64_in _ (by omega)
      clear g1 g2 g4 g5 g6 g7 g8 g9 hdq
      go_wp2_with fail
      refine CQ.mono ?_; rintro e w2 ⟨rfl, hb2⟩
      have B2 := Lib.hid (BZ.out.trans (hb2.mono (Below.size BZ.out)))
      clear CQ hb2
      go_wp2_with fail
      go_ret
      exact ⟨by rw [← HE.out]; first | rfl | simp, B2.out⟩
  · have hd4 : d ≤ 4 := by have := HD.out; omega
    have e1 : IntKind.i64.wrap ((d : Int) * 4) = (d : Int) * 4 := IntWalk.i64_in _ (by omega)
    have e1' : IntKind.i64.wrap ((d : Int)) = (d : Int) := IntWalk.i64_in _ (by omega)
    go_enter Tryz.func11, Tryz.ntmps11
    go_upto_region 1 with fail
    have hex := inB_ex w.heap.size w
    refine wp_region_inB w.heap.size (by kernel_rfl) (by kernel_rfl) ?_
    repeat (first
      | (with_reducible refine quiet_pst rfl (.tmp 6) rfl ⟨X, 0, none⟩ (by kernel_rfl) (some ⟨P, 0, none⟩) FC0.out ?_ (by kernel_rfl); simp only [Act.put, List.setIfInBounds_toArray, List.set_cons_zero, List.set_cons_succ])
      | (with_reducible refine quiet_int rfl (.tmp 11) rfl ⟨X, 33, none⟩ (by kernel_rfl) (2) FC33.out ?_ (by kernel_rfl); simp only [Act.put, List.setIfInBounds_toArray, List.set_cons_zero, List.set_cons_succ])
      | go_big_quiet_step ((first | (intro hw'; exact LP.out _ hw') | (intro _; rfl))))
    refine wpQuiet_nil ?_
    intro wZ hwZ
    have BZ := Lib.hid hwZ
    have c35 := (Below.cell hwZ (p := ⟨X, 35, none⟩) C35.out.2).trans C35.out.1
    clear hwZ hex
    rcases HLOW.out with ⟨g1, g2, g3⟩ | ⟨t, Q, nx, g1, g2, g3, g4, g5, g6, g7, g8, g9⟩
    · subst g3
      have HE := Lib.hid (show (d : Int) * 4 = (r : Int) by have := HR.out; have := HD.out; omega)
      clear g1 g2
      go_wp2_with fail
      go_ret
      exact ⟨by rw [← HE.out]; first | rfl | simp, BZ.out⟩
    · subst g3
      obtain ⟨dq, hdq⟩ : ∃ d, d = 4 - nx := ⟨_, rfl⟩
      have CQ := LQ.out Q t nx g8 g6 wZ BZ.out
      rw [← hdq] at CQ
      have HE := Lib.hid (show (d : Int) * 4 + (dq : Int) = (r : Int) by have := HR.out; have := HD.out; have := HNN.out; omega)
      have e2 : IntKind.i64.wrap ((d : Int) * 4 + (dq : Int)) = (d : Int) * 4 + (dq : Int) := IntWalk.i64_in _ (by omega)
      have e2' : IntKind.i64.wrap ((d : Int) + (dq : Int)) = (d : Int) + (dq : Int) := IntWalk.i64_in _ (by omega)
      clear g1 g2 g4 g5 g6 g7 g8 g9 hdq
      go_wp2_with fail
      refine CQ.mono ?_; rintro e w2 ⟨rfl, hb2⟩
      have B2 := Lib.hid (BZ.out.trans (hb2.mono (Below.size BZ.out)))
      clear CQ hb2
      go_wp2_with fail
      go_ret
      exact ⟨by rw [← HE.out]; first | rfl | simp, B2.out⟩
end Go.Proofs.YtkioddmhjbaleaaGreatDoor
