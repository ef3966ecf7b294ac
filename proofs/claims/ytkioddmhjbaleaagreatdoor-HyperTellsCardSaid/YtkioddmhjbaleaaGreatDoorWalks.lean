/- Walks: so many steps of a chain. -/
import Derived.Test.YtkioddmhjbaleaaGreatDoorKeys
namespace Go.Proofs.YtkioddmhjbaleaaGreatDoor
open Go.RowKit
set_option linter.unusedVariables false
set_option linter.unusedSimpArgs false
/-- two blocks of a digest each -/
structure TwoD (w : World) (S R : Nat) (x y : List UInt8) (wr : World) : Prop where
  s : wr.heap[S]? = some (.cells (dV x) 23 (0, 0))
  r : wr.heap[R]? = some (.cells (dV y) 23 (0, 0))
  bel : Below w.heap.size w wr
theorem TwoD.call {w wr w' : World} {S R : Nat} {x y : List UInt8} (h : TwoD w S R x y wr) (hb : Below wr.heap.size wr w') : TwoD w S R x y w' :=
  ⟨(hb.block _ (lt_of_heap h.s)).trans h.s, (hb.block _ (lt_of_heap h.r)).trans h.r, h.bel.trans (hb.mono h.bel.size)⟩
theorem TwoD.setS {w wr : World} {S R : Nat} {x y : List UInt8} (h : TwoD w S R x y wr) (hS : w.heap.size ≤ S) (hne : S ≠ R) (x' : List UInt8) : TwoD w S R x' y (wr.setRow S (dV x')) :=
  ⟨setRow_heap _ _ _ _ _ _ h.s, (_root_.Go.setRow_other _ _ _ _ (fun e => hne e.symm)).trans h.r, below_setRowW h.bel hS _⟩
set_option maxRecDepth 20000 in
set_option maxHeartbeats 1000000 in
theorem CWalk_calls (d : List UInt8) (hd : d.length = 32) (n : Nat) (hn : n ≤ 1000) (w : World) (hro : RoundsAt w) :
    Calls Tryz.prog 91 #[.agg (dV d), .int .i64 (n : Int)] w fun e w' => e = .returned (.agg (dV (walkD d n))) ∧ Below w.heap.size w w' := by
  have hz : nz.length = 32 := rfl
  have ZL := Lib.hid hz
  clear hz
  have SL := Lib.hid hd
  have RO := Lib.hid hro
  clear hd hro
  obtain ⟨S, hS⟩ : ∃ z, z = w.heap.size := ⟨_, rfl⟩
  obtain ⟨w1, hw1⟩ : ∃ z, z = w.alloc (.cells (dV d) 23) := ⟨_, rfl⟩
  have st1 : Below w.heap.size w w1 := by rw [hw1]; exact (Below.refl _ _).alloc (Nat.le_refl _) _
  have B1 := Lib.hid (show Below w.heap.size w w1 from Below.trans (Below.refl w.heap.size w) (Below.mono st1 (Below.size (Below.refl w.heap.size w))))
  have GS_1 := Lib.hid (show w1.heap[S]? = some (.cells (dV d) 23 (0, 0)) by rw [hw1, hS]; exact heap_alloc_new _ _)
  have LS_1 := Lib.hid (lt_of_heap GS_1.out)
  have HS := Lib.hid hS
  have Hw1 := Lib.hid hw1
  clear hS hw1 st1
  have SZS := Lib.hid (show S = w.heap.size from HS.out)
  obtain ⟨R, hR⟩ : ∃ z, z = w1.heap.size := ⟨_, rfl⟩
  obtain ⟨w2, hw2⟩ : ∃ z, z = w1.alloc (.cells (dV nz) 23) := ⟨_, rfl⟩
  have st2 : Below w1.heap.size w1 w2 := by rw [hw2]; exact (Below.refl _ _).alloc (Nat.le_refl _) _
  have B2 := Lib.hid (show Below w.heap.size w w2 from Below.trans B1.out (Below.mono st2 (Below.size B1.out)))
  have GS_2 := Lib.hid ((Below.block st2 S LS_1.out).trans GS_1.out)
  have LS_2 := Lib.hid (Nat.lt_of_lt_of_le LS_1.out (Below.size st2))
  have GR_2 := Lib.hid (show w2.heap[R]? = some (.cells (dV nz) 23 (0, 0)) by rw [hw2, hR]; exact heap_alloc_new _ _)
  have LR_2 := Lib.hid (lt_of_heap GR_2.out)
  have HR := Lib.hid hR
  have Hw2 := Lib.hid hw2
  clear hR hw2 st2
  have SZR := Lib.hid (show R = w.heap.size + 1 by rw [HR.out, Hw1.out, World.size_alloc, ← HS.out, SZS.out])
  have hSw : w.heap.size ≤ S := by rw [SZS.out]; exact Nat.le_refl _
  have hSR : S ≠ R := by rw [SZS.out, SZR.out]; omega
  have T0 := Lib.hid (show TwoD w S R (walkD d 0) nz w2 from ⟨GS_2.out, GR_2.out, B2.out⟩)
  go_enter Tryz.func91, Tryz.ntmps91
  go_upto_region 1 with fail
  rw [zdig]
  rw [← SZR.out, ← SZS.out, ← Hw1.out, ← Hw2.out]
  go_wp2_with fail
  go_loopw [6] (fun q wr => ∃ k : Nat, k ≤ n ∧ q = .int .i64 k ∧ Hid (TwoD w S R (walkD d k) nz wr)) (fun q _ => n - (intOf q).toNat)
  case atStart => exact ⟨0, Nat.zero_le _, rfl, T0⟩
  case round =>
    obtain ⟨k, hk, rfl, HT⟩ := hrel
    obtain ⟨X, hX⟩ : ∃ X, X = walkD d k := ⟨_, rfl⟩
    have XL := Lib.hid (show X.length = 32 by rw [hX]; exact walkD_length SL.out k)
    rw [← hX] at HT
    have HX := Lib.hid hX
    clear hX
    by_cases hlt : k < n
    · have e4 : IntKind.i64.wrap ((k : Int) + 1) = (k : Int) + 1 := IntWalk.i64_in _ (by omega)
      have HM := Lib.hid (Step_calls X XL.out wr (RO.out.at_ HT.out.bel))
      go_wp2_with (first
        | (refine at_ld 23 (.tmp 2) rfl ?_; (refine ld_digG rfl (.tmp 2) rfl (S) 0 (by rfl) X XL.out (range_of_row HT.out.s) ?_); simp only [Act.put, List.setIfInBounds_toArray, List.set_cons_zero, List.set_cons_succ]))
      refine HM.out.mono ?_
      rintro e w9 ⟨rfl, hb9⟩
      have H9 := Lib.hid (HT.out.call hb9)
      clear hb9 HM
      go_wp2_with (first
        | (refine st_row rfl (.tmp 2) (.tmp 9) rfl S (stepD X) (stepD_length X) (by rfl) (by rfl) (dV X) (dV_size XL.out) _ H9.out.s ?_))
      go_roundw
      case rel => exact ⟨k + 1, by omega, by go_num, Lib.hid (by rw [walkD, ← HX.out]; exact H9.out.setS hSw hSR (stepD X))⟩
      case measure => simp [intOf]; omega
    · obtain rfl : k = n := by omega
      have BF := Lib.hid (below_setRowW HT.out.bel (show w.heap.size ≤ R by rw [SZR.out]; omega) (dV X))
      go_wp2_with (first
        | (refine at_ld 23 (.tmp 2) rfl ?_; (refine ld_digG rfl (.tmp 2) rfl (S) 0 (by rfl) X XL.out (range_of_row HT.out.s) ?_); simp only [Act.put, List.setIfInBounds_toArray, List.set_cons_zero, List.set_cons_succ])
        | (refine st_row rfl (.tmp 4) (.tmp 11) rfl R X XL.out (by rfl) (by rfl) (dV nz) (dV_size ZL.out) _ HT.out.r ?_))
      try simp only [Exit.inBlock, Exit.then]
      refine bodyPost_ret (v := .agg (dV X)) (results_cellW rfl _ _ _ ⟨R, 0, none⟩ _ rfl ?_) rfl ?_
      · exact dig_load XL.out (range_of_row (setRow_heap _ _ _ _ _ _ HT.out.r))
      · exact ⟨by rw [HX.out], BF.out⟩
set_option maxRecDepth 20000 in
set_option maxHeartbeats 1000000 in
theorem Walk_calls (d : List UInt8) (hd : d.length = 32) (n : Nat) (hn : n ≤ 1000) (w : World) (hro : RoundsAt w) :
    Calls Tryz.prog 86 #[.agg (dV d), .int .i64 (n : Int)] w fun e w' => e = .returned (.tuple #[.agg (dV (walkD d n)), .nilIface]) ∧ Below w.heap.size w w' := by
  have hz : nz.length = 32 := rfl
  have ZL := Lib.hid hz
  clear hz
  have SL := Lib.hid hd
  have RO := Lib.hid hro
  clear hd hro
  have q1 : decide ((n : Int) < 0) = false := decide_eq_false (by omega)
  have q2 : decide ((1000 : Int) < (n : Int)) = false := decide_eq_false (by omega)
  have q3 : decide (1000 < n) = false := decide_eq_false (by omega)
  obtain ⟨S, hS⟩ : ∃ z, z = w.heap.size := ⟨_, rfl⟩
  obtain ⟨w1, hw1⟩ : ∃ z, z = w.alloc (.cells (dV d) 23) := ⟨_, rfl⟩
  have st1 : Below w.heap.size w w1 := by rw [hw1]; exact (Below.refl _ _).alloc (Nat.le_refl _) _
  have B1 := Lib.hid (show Below w.heap.size w w1 from Below.trans (Below.refl w.heap.size w) (Below.mono st1 (Below.size (Below.refl w.heap.size w))))
  have GS_1 := Lib.hid (show w1.heap[S]? = some (.cells (dV d) 23 (0, 0)) by rw [hw1, hS]; exact heap_alloc_new _ _)
  have LS_1 := Lib.hid (lt_of_heap GS_1.out)
  have HS := Lib.hid hS
  have Hw1 := Lib.hid hw1
  clear hS hw1 st1
  have SZS := Lib.hid (show S = w.heap.size from HS.out)
  obtain ⟨R, hR⟩ : ∃ z, z = w1.heap.size := ⟨_, rfl⟩
  obtain ⟨w2, hw2⟩ : ∃ z, z = w1.alloc (.cells (dV nz) 23) := ⟨_, rfl⟩
  have st2 : Below w1.heap.size w1 w2 := by rw [hw2]; exact (Below.refl _ _).alloc (Nat.le_refl _) _
  have B2 := Lib.hid (show Below w.heap.size w w2 from Below.trans B1.out (Below.mono st2 (Below.size B1.out)))
  have GS_2 := Lib.hid ((Below.block st2 S LS_1.out).trans GS_1.out)
  have LS_2 := Lib.hid (Nat.lt_of_lt_of_le LS_1.out (Below.size st2))
  have GR_2 := Lib.hid (show w2.heap[R]? = some (.cells (dV nz) 23 (0, 0)) by rw [hw2, hR]; exact heap_alloc_new _ _)
  have LR_2 := Lib.hid (lt_of_heap GR_2.out)
  have HR := Lib.hid hR
  have Hw2 := Lib.hid hw2
  clear hR hw2 st2
  have SZR := Lib.hid (show R = w.heap.size + 1 by rw [HR.out, Hw1.out, World.size_alloc, ← HS.out, SZS.out])
  have HM := Lib.hid (CWalk_calls d SL.out n hn w2 (RO.out.at_ B2.out))
  go_enter Tryz.func86, Tryz.ntmps86
  go_upto_region 1 with fail
  rw [zdig]
  rw [← SZR.out, ← SZS.out, ← Hw1.out, ← Hw2.out]
  go_wp2_with (first
    | (refine at_ld 23 (.tmp 2) rfl ?_; (refine ld_digG rfl (.tmp 2) rfl (S) 0 (by rfl) d SL.out (range_of_row GS_2.out) ?_); simp only [Act.put, List.setIfInBounds_toArray, List.set_cons_zero, List.set_cons_succ]))
  refine (HM.out).mono ?_
  rintro e w3 ⟨rfl, hb3⟩
  have B3 := Lib.hid (show Below w.heap.size w w3 from Below.trans B2.out (Below.mono hb3 (Below.size B2.out)))
  have GS_3 := Lib.hid ((Below.block hb3 S LS_2.out).trans GS_2.out)
  have LS_3 := Lib.hid (Nat.lt_of_lt_of_le LS_2.out (Below.size hb3))
  have GR_3 := Lib.hid ((Below.block hb3 R LR_2.out).trans GR_2.out)
  have LR_3 := Lib.hid (Nat.lt_of_lt_of_le LR_2.out (Below.size hb3))
  clear HM
  clear hb3
  obtain ⟨w4, hw4⟩ : ∃ z, z = w3.setRow R (dV (walkD d n)) := ⟨_, rfl⟩
  have B4 := Lib.hid (show Below w.heap.size w w4 by rw [hw4]; exact below_setRowW B3.out (by rw [HR.out]; exact Below.size B1.out) _)
  have sz4 : w4.heap.size = w3.heap.size := by rw [hw4]; exact setRow_size _ _ _
  have GS_4 := Lib.hid (show w4.heap[S]? = some (.cells (dV d) 23 (0, 0)) by rw [hw4]; exact (_root_.Go.setRow_other _ _ _ _ (by rw [HR.out]; exact Nat.ne_of_lt LS_1.out)).trans GS_3.out)
  have LS_4 := Lib.hid (show S < w4.heap.size by rw [sz4]; exact LS_3.out)
  have GR_4 := Lib.hid (show w4.heap[R]? = some (.cells (dV (walkD d n)) 23 (0, 0)) by rw [hw4]; exact setRow_heap _ _ _ _ _ _ GR_3.out)
  have LR_4 := Lib.hid (show R < w4.heap.size by rw [sz4]; exact LR_3.out)
  have Hw4 := Lib.hid hw4
  clear hw4 sz4
  go_wp2_with (first
    | (refine at_st 23 (.tmp 4) (.tmp 16) rfl ?_; (refine st_row rfl (.tmp 4) (.tmp 16) rfl R (walkD d n) (walkD_length SL.out n) (by rfl) (by rfl) (dV nz) (dV_size ZL.out) _ GR_3.out ?_); rw [← Hw4.out]))
  try simp only [Exit.inBlock, Exit.then]
  refine bodyPost_ret (results_cell_tmp rfl _ _ _ ⟨R, 0, none⟩ (.agg (dV (walkD d n))) rfl ?_) rfl ⟨rfl, B4.out⟩
  exact dig_load (walkD_length SL.out n) (range_of_row GR_4.out)
set_option maxRecDepth 20000 in
set_option maxHeartbeats 1000000 in
theorem RWalked_calls (d : List UInt8) (hd : d.length = 32) (n : Nat) (hn : n ≤ 1000) (w : World) :
    Calls Tryz.prog 40 #[.agg (dV d), .int .i64 (n : Int)] w fun e w' => e = .returned (.agg (dV (walkD d n))) ∧ Below w.heap.size w w' := by
  have hz : nz.length = 32 := rfl
  have ZL := Lib.hid hz
  clear hz
  have SL := Lib.hid hd
  clear hd
  obtain ⟨S, hS⟩ : ∃ z, z = w.heap.size := ⟨_, rfl⟩
  obtain ⟨w1, hw1⟩ : ∃ z, z = w.alloc (.cells (dV d) 23) := ⟨_, rfl⟩
  have st1 : Below w.heap.size w w1 := by rw [hw1]; exact (Below.refl _ _).alloc (Nat.le_refl _) _
  have B1 := Lib.hid (show Below w.heap.size w w1 from Below.trans (Below.refl w.heap.size w) (Below.mono st1 (Below.size (Below.refl w.heap.size w))))
  have GS_1 := Lib.hid (show w1.heap[S]? = some (.cells (dV d) 23 (0, 0)) by rw [hw1, hS]; exact heap_alloc_new _ _)
  have LS_1 := Lib.hid (lt_of_heap GS_1.out)
  have HS := Lib.hid hS
  have Hw1 := Lib.hid hw1
  clear hS hw1 st1
  have SZS := Lib.hid (show S = w.heap.size from HS.out)
  obtain ⟨R, hR⟩ : ∃ z, z = w1.heap.size := ⟨_, rfl⟩
  obtain ⟨w2, hw2⟩ : ∃ z, z = w1.alloc (.cells (dV nz) 23) := ⟨_, rfl⟩
  have st2 : Below w1.heap.size w1 w2 := by rw [hw2]; exact (Below.refl _ _).alloc (Nat.le_refl _) _
  have B2 := Lib.hid (show Below w.heap.size w w2 from Below.trans B1.out (Below.mono st2 (Below.size B1.out)))
  have GS_2 := Lib.hid ((Below.block st2 S LS_1.out).trans GS_1.out)
  have LS_2 := Lib.hid (Nat.lt_of_lt_of_le LS_1.out (Below.size st2))
  have GR_2 := Lib.hid (show w2.heap[R]? = some (.cells (dV nz) 23 (0, 0)) by rw [hw2, hR]; exact heap_alloc_new _ _)
  have LR_2 := Lib.hid (lt_of_heap GR_2.out)
  have HR := Lib.hid hR
  have Hw2 := Lib.hid hw2
  clear hR hw2 st2
  have SZR := Lib.hid (show R = w.heap.size + 1 by rw [HR.out, Hw1.out, World.size_alloc, ← HS.out, SZS.out])
  have hSw : w.heap.size ≤ S := by rw [SZS.out]; exact Nat.le_refl _
  have hSR : S ≠ R := by rw [SZS.out, SZR.out]; omega
  have T0 := Lib.hid (show TwoD w S R (walkD d 0) nz w2 from ⟨GS_2.out, GR_2.out, B2.out⟩)
  go_enter Tryz.func40, Tryz.ntmps40
  go_upto_region 1 with fail
  rw [zdig]
  rw [← SZR.out, ← SZS.out, ← Hw1.out, ← Hw2.out]
  go_wp2_with fail
  go_loopw [5] (fun q wr => ∃ k : Nat, k ≤ n ∧ q = .int .i64 k ∧ Hid (TwoD w S R (walkD d k) nz wr)) (fun q _ => n - (intOf q).toNat)
  case atStart => exact ⟨0, Nat.zero_le _, rfl, T0⟩
  case round =>
    obtain ⟨k, hk, rfl, HT⟩ := hrel
    obtain ⟨X, hX⟩ : ∃ X, X = walkD d k := ⟨_, rfl⟩
    have XL := Lib.hid (show X.length = 32 by rw [hX]; exact walkD_length SL.out k)
    rw [← hX] at HT
    have HX := Lib.hid hX
    clear hX
    by_cases hlt : k < n
    · have e4 : IntKind.i64.wrap ((k : Int) + 1) = (k : Int) + 1 := IntWalk.i64_in _ (by omega)
      obtain ⟨T, hT⟩ : ∃ z, z = wr.heap.size := ⟨_, rfl⟩
      obtain ⟨w8, hw8⟩ : ∃ z, z = wr.alloc (.cells (dV X) 23) := ⟨_, rfl⟩
      have hb8 : Below wr.heap.size wr w8 := by rw [hw8]; exact (Below.refl _ _).alloc (Nat.le_refl _) _
      have g8 : w8.heap[T]? = some (.cells (dV X) 23 (0, 0)) := by rw [hw8, hT]; exact heap_alloc_new _ _
      have H8 := Lib.hid (HT.out.call hb8)
      have HM := Lib.hid (ROf_calls 8 [X] (fun x hx => by rw [List.mem_singleton.1 hx]; exact XL.out) (by simp) (some ⟨T, 0, none⟩) 1 _ w8 (by rw [show [X].flatten = X by simp]; exact rd_of_row g8))
      rw [show shaOf (8 :: [X].flatten) = stepD X by unfold stepD; simp] at HM
      have HTT := Lib.hid hT
      have HW8 := Lib.hid hw8
      clear hb8 g8 hT hw8
      go_wp2_with (first
        | (refine at_ld 23 (.tmp 2) rfl ?_; (refine ld_digG rfl (.tmp 2) rfl (S) 0 (by rfl) X XL.out (range_of_row HT.out.s) ?_); simp only [Act.put, List.setIfInBounds_toArray, List.set_cons_zero, List.set_cons_succ])
        | ((refine wpl_build1t 24 23 _ 32 32 Tryz.underlying24 info_digz2 (by omega) (by omega) rfl (.tmp 11) rfl (dV X) (by rfl) (dV_size XL.out) ?_); rw [← HTT.out, ← HW8.out]; simp only [Act.put, List.setIfInBounds_toArray, List.set_cons_zero, List.set_cons_succ]))
      refine HM.out.mono ?_
      rintro e w9 ⟨rfl, hb9⟩
      have H9 := Lib.hid (H8.out.call hb9)
      clear hb9 HM
      go_wp2_with (first
        | (refine st_row rfl (.tmp 2) (.tmp 13) rfl S (stepD X) (stepD_length X) (by rfl) (by rfl) (dV X) (dV_size XL.out) _ H9.out.s ?_))
      go_roundw
      case rel => exact ⟨k + 1, by omega, by go_num, Lib.hid (by rw [walkD, ← HX.out]; exact H9.out.setS hSw hSR (stepD X))⟩
      case measure => simp [intOf]; omega
    · obtain rfl : k = n := by omega
      have BF := Lib.hid (below_setRowW HT.out.bel (show w.heap.size ≤ R by rw [SZR.out]; omega) (dV X))
      go_wp2_with (first
        | (refine at_ld 23 (.tmp 2) rfl ?_; (refine ld_digG rfl (.tmp 2) rfl (S) 0 (by rfl) X XL.out (range_of_row HT.out.s) ?_); simp only [Act.put, List.setIfInBounds_toArray, List.set_cons_zero, List.set_cons_succ])
        | (refine st_row rfl (.tmp 4) (.tmp 14) rfl R X XL.out (by rfl) (by rfl) (dV nz) (dV_size ZL.out) _ HT.out.r ?_))
      try simp only [Exit.inBlock, Exit.then]
      refine bodyPost_ret (v := .agg (dV X)) (results_cellW rfl _ _ _ ⟨R, 0, none⟩ _ rfl ?_) rfl ?_
      · exact dig_load XL.out (range_of_row (setRow_heap _ _ _ _ _ _ HT.out.r))
      · exact ⟨by rw [HX.out], BF.out⟩
end Go.Proofs.YtkioddmhjbaleaaGreatDoor
