/- Walks: stamp.Recover. -/
import Derived.Test.YtkioddmhjbaleaaGreatDoorStamp2
namespace Go.Proofs.YtkioddmhjbaleaaGreatDoor
open Go.RowKit
set_option linter.unusedVariables false
set_option linter.unusedSimpArgs false

theorem cellQ {w : World} {Q : Nat} {a b c : Value} {t : TypeId} {fr : Nat × Nat} (h : w.heap[Q]? = some (.cells #[a, b, c] t fr)) : w.cell? ⟨Q, 0, none⟩ = some a ∧ w.cell? ⟨Q, 1, none⟩ = some b ∧ w.cell? ⟨Q, 2, none⟩ = some c :=
  ⟨by rw [cell_of_row w Q 0 _ t fr h]; rfl, by rw [cell_of_row w Q 1 _ t fr h]; rfl, by rw [cell_of_row w Q 2 _ t fr h]; rfl⟩
set_option maxRecDepth 20000 in
set_option maxHeartbeats 1000000 in
theorem SRecover_bad (m : List UInt8) (hm : m.length = 32) (sig : List (List UInt8)) (h : Int) (hh : h < 0 ∨ 4 < h) (at_ : Int) (sga pa : Option Addr) (sgc pl pc : Nat) (w : World) :
    Calls Tryz.prog 39 #[.agg (dV m), .int .i64 h, .agg #[.int .i64 at_, .slice sga sig.length sgc, .slice pa pl pc]] w fun e w' => e = .returned (.tuple #[.agg (dV nz), .iface 29 (.int .i64 2)]) ∧ Below w.heap.size w w' := by
  obtain ⟨Z, hZ⟩ : ∃ Z, Z = nz := ⟨_, rfl⟩
  have ZL := Lib.hid (show Z.length = 32 by rw [hZ]; rfl)
  have ZT := Lib.hid (show (#[.int .u8 0, .int .u8 0, .int .u8 0, .int .u8 0, .int .u8 0, .int .u8 0, .int .u8 0, .int .u8 0, .int .u8 0, .int .u8 0, .int .u8 0, .int .u8 0, .int .u8 0, .int .u8 0, .int .u8 0, .int .u8 0, .int .u8 0, .int .u8 0, .int .u8 0, .int .u8 0, .int .u8 0, .int .u8 0, .int .u8 0, .int .u8 0, .int .u8 0, .int .u8 0, .int .u8 0, .int .u8 0, .int .u8 0, .int .u8 0, .int .u8 0, .int .u8 0] : Array Value) = dV Z by rw [hZ]; exact zdig)
  have HZ := Lib.hid hZ
  rw [← hZ]
  clear hZ
  clear hm
  obtain ⟨S, hS⟩ : ∃ z, z = w.heap.size := ⟨_, rfl⟩
  obtain ⟨w1, hw1⟩ : ∃ z, z = w.alloc (.cells (dV m) 23) := ⟨_, rfl⟩
  have st1 : Below w.heap.size w w1 := by rw [hw1]; exact (Below.refl _ _).alloc (Nat.le_refl _) _
  have B1 := Lib.hid (show Below w.heap.size w w1 from Below.trans (Below.refl w.heap.size w) (Below.mono st1 (Below.size (Below.refl w.heap.size w))))
  have GS_1 := Lib.hid (show w1.heap[S]? = some (.cells (dV m) 23 (0, 0)) by rw [hw1, hS]; exact heap_alloc_new _ _)
  have LS_1 := Lib.hid (lt_of_heap GS_1.out)
  have HS := Lib.hid hS
  have Hw1 := Lib.hid hw1
  clear hS hw1 st1
  have SZS := Lib.hid (show S = w.heap.size from HS.out)
  obtain ⟨Q, hQ⟩ : ∃ z, z = w1.heap.size := ⟨_, rfl⟩
  obtain ⟨w2, hw2⟩ : ∃ z, z = w1.alloc (.cells #[.int .i64 at_, .slice sga sig.length sgc, .slice pa pl pc] 26) := ⟨_, rfl⟩
  have st2 : Below w1.heap.size w1 w2 := by rw [hw2]; exact (Below.refl _ _).alloc (Nat.le_refl _) _
  have B2 := Lib.hid (show Below w.heap.size w w2 from Below.trans B1.out (Below.mono st2 (Below.size B1.out)))
  have GS_2 := Lib.hid ((Below.block st2 S LS_1.out).trans GS_1.out)
  have LS_2 := Lib.hid (Nat.lt_of_lt_of_le LS_1.out (Below.size st2))
  have GQ_2 := Lib.hid (show w2.heap[Q]? = some (.cells #[.int .i64 at_, .slice sga sig.length sgc, .slice pa pl pc] 26 (0, 0)) by rw [hw2, hQ]; exact heap_alloc_new _ _)
  have LQ_2 := Lib.hid (lt_of_heap GQ_2.out)
  have HQ := Lib.hid hQ
  have Hw2 := Lib.hid hw2
  clear hQ hw2 st2
  have SZQ := Lib.hid (show Q = w.heap.size + 1 by rw [HQ.out, Hw1.out, World.size_alloc, ← HS.out, SZS.out])
  obtain ⟨R, hR⟩ : ∃ z, z = w2.heap.size := ⟨_, rfl⟩
  obtain ⟨w3, hw3⟩ : ∃ z, z = w2.alloc (.cells (dV Z) 23) := ⟨_, rfl⟩
  have st3 : Below w2.heap.size w2 w3 := by rw [hw3]; exact (Below.refl _ _).alloc (Nat.le_refl _) _
  have B3 := Lib.hid (show Below w.heap.size w w3 from Below.trans B2.out (Below.mono st3 (Below.size B2.out)))
  have GS_3 := Lib.hid ((Below.block st3 S LS_2.out).trans GS_2.out)
  have LS_3 := Lib.hid (Nat.lt_of_lt_of_le LS_2.out (Below.size st3))
  have GQ_3 := Lib.hid ((Below.block st3 Q LQ_2.out).trans GQ_2.out)
  have LQ_3 := Lib.hid (Nat.lt_of_lt_of_le LQ_2.out (Below.size st3))
  have GR_3 := Lib.hid (show w3.heap[R]? = some (.cells (dV Z) 23 (0, 0)) by rw [hw3, hR]; exact heap_alloc_new _ _)
  have LR_3 := Lib.hid (lt_of_heap GR_3.out)
  have HR := Lib.hid hR
  have Hw3 := Lib.hid hw3
  clear hR hw3 st3
  have SZR := Lib.hid (show R = w.heap.size + 1 + 1 by rw [HR.out, Hw2.out, World.size_alloc, ← HQ.out, SZQ.out])
  rcases hh with h1 | h1
  · go_enter Tryz.func39, Tryz.ntmps39
    go_upto_region 1 with fail
    rw [ZT.out]
    rw [← SZR.out, ← SZQ.out, ← SZS.out, ← Hw1.out, ← Hw2.out, ← Hw3.out]
    obtain ⟨w4, hw4⟩ : ∃ z, z = w3.setRow R (dV Z) := ⟨_, rfl⟩
    have B4 := Lib.hid (show Below w.heap.size w w4 by rw [hw4]; exact below_setRowW B3.out (by rw [HR.out]; exact Below.size B2.out) _)
    have sz4 : w4.heap.size = w3.heap.size := by rw [hw4]; exact setRow_size _ _ _
    have GS_4 := Lib.hid (show w4.heap[S]? = some (.cells (dV m) 23 (0, 0)) by rw [hw4]; exact (_root_.Go.setRow_other _ _ _ _ (by rw [HR.out]; exact Nat.ne_of_lt LS_2.out)).trans GS_3.out)
    have LS_4 := Lib.hid (show S < w4.heap.size by rw [sz4]; exact LS_3.out)
    have GQ_4 := Lib.hid (show w4.heap[Q]? = some (.cells #[.int .i64 at_, .slice sga sig.length sgc, .slice pa pl pc] 26 (0, 0)) by rw [hw4]; exact (_root_.Go.setRow_other _ _ _ _ (by rw [HR.out]; exact Nat.ne_of_lt LQ_2.out)).trans GQ_3.out)
    have LQ_4 := Lib.hid (show Q < w4.heap.size by rw [sz4]; exact LQ_3.out)
    have GR_4 := Lib.hid (show w4.heap[R]? = some (.cells (dV Z) 23 (0, 0)) by rw [hw4]; exact setRow_heap _ _ _ _ _ _ GR_3.out)
    have LR_4 := Lib.hid (show R < w4.heap.size by rw [sz4]; exact LR_3.out)
    have Hw4 := Lib.hid hw4
    clear hw4 sz4
    go_wp2_with (first
      | (refine wpl_zero rfl rfl Z HZ.out ?_)
      | (refine at_st 23 (.tmp 6) (.tmp 16) rfl ?_; (refine st_row rfl (.tmp 6) (.tmp 16) rfl R Z ZL.out (by rfl) (by rfl) (dV Z) (dV_size ZL.out) _ GR_3.out ?_); rw [← Hw4.out]))
    try simp only [Exit.inBlock, Exit.then]
    refine bodyPost_ret (results_cell_tmp rfl _ _ _ ⟨R, 0, none⟩ (.agg (dV Z)) rfl ?_) rfl ⟨rfl, B4.out⟩
    exact dig_load ZL.out (range_of_row GR_4.out)
  · have h2 : ¬ h < 0 := by omega
    go_enter Tryz.func39, Tryz.ntmps39
    go_upto_region 1 with fail
    rw [ZT.out]
    rw [← SZR.out, ← SZQ.out, ← SZS.out, ← Hw1.out, ← Hw2.out, ← Hw3.out]
    obtain ⟨w4, hw4⟩ : ∃ z, z = w3.setRow R (dV Z) := ⟨_, rfl⟩
    have B4 := Lib.hid (show Below w.heap.size w w4 by rw [hw4]; exact below_setRowW B3.out (by rw [HR.out]; exact Below.size B2.out) _)
    have sz4 : w4.heap.size = w3.heap.size := by rw [hw4]; exact setRow_size _ _ _
    have GS_4 := Lib.hid (show w4.heap[S]? = some (.cells (dV m) 23 (0, 0)) by rw [hw4]; exact (_root_.Go.setRow_other _ _ _ _ (by rw [HR.out]; exact Nat.ne_of_lt LS_2.out)).trans GS_3.out)
    have LS_4 := Lib.hid (show S < w4.heap.size by rw [sz4]; exact LS_3.out)
    have GQ_4 := Lib.hid (show w4.heap[Q]? = some (.cells #[.int .i64 at_, .slice sga sig.length sgc, .slice pa pl pc] 26 (0, 0)) by rw [hw4]; exact (_root_.Go.setRow_other _ _ _ _ (by rw [HR.out]; exact Nat.ne_of_lt LQ_2.out)).trans GQ_3.out)
    have LQ_4 := Lib.hid (show Q < w4.heap.size by rw [sz4]; exact LQ_3.out)
    have GR_4 := Lib.hid (show w4.heap[R]? = some (.cells (dV Z) 23 (0, 0)) by rw [hw4]; exact setRow_heap _ _ _ _ _ _ GR_3.out)
    have LR_4 := Lib.hid (show R < w4.heap.size by rw [sz4]; exact LR_3.out)
    have Hw4 := Lib.hid hw4
    clear hw4 sz4
    go_wp2_with (first
      | (refine wpl_zero rfl rfl Z HZ.out ?_)
      | (refine at_st 23 (.tmp 6) (.tmp 16) rfl ?_; (refine st_row rfl (.tmp 6) (.tmp 16) rfl R Z ZL.out (by rfl) (by rfl) (dV Z) (dV_size ZL.out) _ GR_3.out ?_); rw [← Hw4.out]))
    try simp only [Exit.inBlock, Exit.then]
    refine bodyPost_ret (results_cell_tmp rfl _ _ _ ⟨R, 0, none⟩ (.agg (dV Z)) rfl ?_) rfl ⟨rfl, B4.out⟩
    exact dig_load ZL.out (range_of_row GR_4.out)
set_option maxRecDepth 20000 in
set_option maxHeartbeats 1000000 in
theorem SRecover_len (m : List UInt8) (hm : m.length = 32) (sig : List (List UInt8)) (h67 : sig.length ≠ 67) (h : Nat) (hh : h ≤ 4) (at_ : Int) (sga pa : Option Addr) (sgc pl pc : Nat) (w : World) (hro : RoundsAt w) :
    Calls Tryz.prog 39 #[.agg (dV m), .int .i64 (h : Int), .agg #[.int .i64 at_, .slice sga sig.length sgc, .slice pa pl pc]] w fun e w' => e = .returned (.tuple #[.agg (dV nz), .iface 29 (.int .i64 3)]) ∧ Below w.heap.size w w' := by
  obtain ⟨Z, hZ⟩ : ∃ Z, Z = nz := ⟨_, rfl⟩
  have ZL := Lib.hid (show Z.length = 32 by rw [hZ]; rfl)
  have ZT := Lib.hid (show (#[.int .u8 0, .int .u8 0, .int .u8 0, .int .u8 0, .int .u8 0, .int .u8 0, .int .u8 0, .int .u8 0, .int .u8 0, .int .u8 0, .int .u8 0, .int .u8 0, .int .u8 0, .int .u8 0, .int .u8 0, .int .u8 0, .int .u8 0, .int .u8 0, .int .u8 0, .int .u8 0, .int .u8 0, .int .u8 0, .int .u8 0, .int .u8 0, .int .u8 0, .int .u8 0, .int .u8 0, .int .u8 0, .int .u8 0, .int .u8 0, .int .u8 0, .int .u8 0] : Array Value) = dV Z by rw [hZ]; exact zdig)
  have HZ := Lib.hid hZ
  rw [← hZ]
  clear hZ
  have ML := Lib.hid hm
  have RO := Lib.hid hro
  have H67 := Lib.hid h67
  clear hm hro h67
  have q1 : decide ((h : Int) < 0) = false := decide_eq_false (by omega)
  have q2 : decide ((4 : Int) < (h : Int)) = false := decide_eq_false (by omega)
  have q3 : decide (4 < h) = false := decide_eq_false (by omega)
  obtain ⟨S, hS⟩ : ∃ z, z = w.heap.size := ⟨_, rfl⟩
  obtain ⟨w1, hw1⟩ : ∃ z, z = w.alloc (.cells (dV m) 23) := ⟨_, rfl⟩
  have st1 : Below w.heap.size w w1 := by rw [hw1]; exact (Below.refl _ _).alloc (Nat.le_refl _) _
  have B1 := Lib.hid (show Below w.heap.size w w1 from Below.trans (Below.refl w.heap.size w) (Below.mono st1 (Below.size (Below.refl w.heap.size w))))
  have GS_1 := Lib.hid (show w1.heap[S]? = some (.cells (dV m) 23 (0, 0)) by rw [hw1, hS]; exact heap_alloc_new _ _)
  have LS_1 := Lib.hid (lt_of_heap GS_1.out)
  have HS := Lib.hid hS
  have Hw1 := Lib.hid hw1
  clear hS hw1 st1
  have SZS := Lib.hid (show S = w.heap.size from HS.out)
  obtain ⟨Q, hQ⟩ : ∃ z, z = w1.heap.size := ⟨_, rfl⟩
  obtain ⟨w2, hw2⟩ : ∃ z, z = w1.alloc (.cells #[.int .i64 at_, .slice sga sig.length sgc, .slice pa pl pc] 26) := ⟨_, rfl⟩
  have st2 : Below w1.heap.size w1 w2 := by rw [hw2]; exact (Below.refl _ _).alloc (Nat.le_refl _) _
  have B2 := Lib.hid (show Below w.heap.size w w2 from Below.trans B1.out (Below.mono st2 (Below.size B1.out)))
  have GS_2 := Lib.hid ((Below.block st2 S LS_1.out).trans GS_1.out)
  have LS_2 := Lib.hid (Nat.lt_of_lt_of_le LS_1.out (Below.size st2))
  have GQ_2 := Lib.hid (show w2.heap[Q]? = some (.cells #[.int .i64 at_, .slice sga sig.length sgc, .slice pa pl pc] 26 (0, 0)) by rw [hw2, hQ]; exact heap_alloc_new _ _)
  have LQ_2 := Lib.hid (lt_of_heap GQ_2.out)
  have HQ := Lib.hid hQ
  have Hw2 := Lib.hid hw2
  clear hQ hw2 st2
  have SZQ := Lib.hid (show Q = w.heap.size + 1 by rw [HQ.out, Hw1.out, World.size_alloc, ← HS.out, SZS.out])
  obtain ⟨R, hR⟩ : ∃ z, z = w2.heap.size := ⟨_, rfl⟩
  obtain ⟨w3, hw3⟩ : ∃ z, z = w2.alloc (.cells (dV Z) 23) := ⟨_, rfl⟩
  have st3 : Below w2.heap.size w2 w3 := by rw [hw3]; exact (Below.refl _ _).alloc (Nat.le_refl _) _
  have B3 := Lib.hid (show Below w.heap.size w w3 from Below.trans B2.out (Below.mono st3 (Below.size B2.out)))
  have GS_3 := Lib.hid ((Below.block st3 S LS_2.out).trans GS_2.out)
  have LS_3 := Lib.hid (Nat.lt_of_lt_of_le LS_2.out (Below.size st3))
  have GQ_3 := Lib.hid ((Below.block st3 Q LQ_2.out).trans GQ_2.out)
  have LQ_3 := Lib.hid (Nat.lt_of_lt_of_le LQ_2.out (Below.size st3))
  have GR_3 := Lib.hid (show w3.heap[R]? = some (.cells (dV Z) 23 (0, 0)) by rw [hw3, hR]; exact heap_alloc_new _ _)
  have LR_3 := Lib.hid (lt_of_heap GR_3.out)
  have HR := Lib.hid hR
  have Hw3 := Lib.hid hw3
  clear hR hw3 st3
  have SZR := Lib.hid (show R = w.heap.size + 1 + 1 by rw [HR.out, Hw2.out, World.size_alloc, ← HQ.out, SZQ.out])
  have q5 := (cellQ GQ_3.out).2.1
  have WR := Lib.hid (WRecover_len m ML.out sig H67.out sga sgc w3 (RO.out.at_ B3.out))
  rw [← HZ.out] at WR
  go_enter Tryz.func39, Tryz.ntmps39
  go_upto_region 1 with fail
  rw [ZT.out]
  rw [← SZR.out, ← SZQ.out, ← SZS.out, ← Hw1.out, ← Hw2.out, ← Hw3.out]
  go_wp2_with (first
    | (refine at_ld 23 (.tmp 3) rfl ?_; (refine ld_digG rfl (.tmp 3) rfl (S) 0 (by rfl) m ML.out (range_of_row GS_3.out) ?_); simp only [Act.put, List.setIfInBounds_toArray, List.set_cons_zero, List.set_cons_succ]))
  refine (WR.out).mono ?_
  rintro e w4 ⟨rfl, hb4⟩
  have B4 := Lib.hid (show Below w.heap.size w w4 from Below.trans B3.out (Below.mono hb4 (Below.size B3.out)))
  have GS_4 := Lib.hid ((Below.block hb4 S LS_3.out).trans GS_3.out)
  have LS_4 := Lib.hid (Nat.lt_of_lt_of_le LS_3.out (Below.size hb4))
  have GQ_4 := Lib.hid ((Below.block hb4 Q LQ_3.out).trans GQ_3.out)
  have LQ_4 := Lib.hid (Nat.lt_of_lt_of_le LQ_3.out (Below.size hb4))
  have GR_4 := Lib.hid ((Below.block hb4 R LR_3.out).trans GR_3.out)
  have LR_4 := Lib.hid (Nat.lt_of_lt_of_le LR_3.out (Below.size hb4))
  clear WR q5
  clear hb4
  obtain ⟨L, hL⟩ : ∃ z, z = w4.heap.size := ⟨_, rfl⟩
  obtain ⟨w5, hw5⟩ : ∃ z, z = w4.alloc (.cells (dV Z) 23) := ⟨_, rfl⟩
  have st5 : Below w4.heap.size w4 w5 := by rw [hw5]; exact (Below.refl _ _).alloc (Nat.le_refl _) _
  have B5 := Lib.hid (show Below w.heap.size w w5 from Below.trans B4.out (Below.mono st5 (Below.size B4.out)))
  have GS_5 := Lib.hid ((Below.block st5 S LS_4.out).trans GS_4.out)
  have LS_5 := Lib.hid (Nat.lt_of_lt_of_le LS_4.out (Below.size st5))
  have GQ_5 := Lib.hid ((Below.block st5 Q LQ_4.out).trans GQ_4.out)
  have LQ_5 := Lib.hid (Nat.lt_of_lt_of_le LQ_4.out (Below.size st5))
  have GR_5 := Lib.hid ((Below.block st5 R LR_4.out).trans GR_4.out)
  have LR_5 := Lib.hid (Nat.lt_of_lt_of_le LR_4.out (Below.size st5))
  have GL_5 := Lib.hid (show w5.heap[L]? = some (.cells (dV Z) 23 (0, 0)) by rw [hw5, hL]; exact heap_alloc_new _ _)
  have LL_5 := Lib.hid (lt_of_heap GL_5.out)
  have HL := Lib.hid hL
  have Hw5 := Lib.hid hw5
  clear hL hw5 st5
  obtain ⟨w6, hw6⟩ : ∃ z, z = w5.setRow R (dV Z) := ⟨_, rfl⟩
  have B6 := Lib.hid (show Below w.heap.size w w6 by rw [hw6]; exact below_setRowW B5.out (by rw [HR.out]; exact Below.size B2.out) _)
  have sz6 : w6.heap.size = w5.heap.size := by rw [hw6]; exact setRow_size _ _ _
  have GS_6 := Lib.hid (show w6.heap[S]? = some (.cells (dV m) 23 (0, 0)) by rw [hw6]; exact (_root_.Go.setRow_other _ _ _ _ (by rw [HR.out]; exact Nat.ne_of_lt LS_2.out)).trans GS_5.out)
  have LS_6 := Lib.hid (show S < w6.heap.size by rw [sz6]; exact LS_5.out)
  have GQ_6 := Lib.hid (show w6.heap[Q]? = some (.cells #[.int .i64 at_, .slice sga sig.length sgc, .slice pa pl pc] 26 (0, 0)) by rw [hw6]; exact (_root_.Go.setRow_other _ _ _ _ (by rw [HR.out]; exact Nat.ne_of_lt LQ_2.out)).trans GQ_5.out)
  have LQ_6 := Lib.hid (show Q < w6.heap.size by rw [sz6]; exact LQ_5.out)
  have GR_6 := Lib.hid (show w6.heap[R]? = some (.cells (dV Z) 23 (0, 0)) by rw [hw6]; exact setRow_heap _ _ _ _ _ _ GR_5.out)
  have LR_6 := Lib.hid (show R < w6.heap.size by rw [sz6]; exact LR_5.out)
  have GL_6 := Lib.hid (show w6.heap[L]? = some (.cells (dV Z) 23 (0, 0)) by rw [hw6]; exact (_root_.Go.setRow_other _ _ _ _ (by rw [HL.out]; exact (Nat.ne_of_lt LR_4.out).symm)).trans GL_5.out)
  have LL_6 := Lib.hid (show L < w6.heap.size by rw [sz6]; exact LL_5.out)
  have Hw6 := Lib.hid hw6
  clear hw6 sz6
  go_wp2_with (first
    | (refine at_st 23 (.tmp 8) (.tmp 23) rfl ?_; (refine st_new rfl (.tmp 8) (.tmp 23) rfl Z ZL.out (by rfl) _ _ (by rfl) (by rfl) ?_); rw [← HL.out, ← Hw5.out])
    | (refine wpl_zero rfl rfl Z HZ.out ?_)
    | (refine at_st 23 (.tmp 6) (.tmp 27) rfl ?_; (refine st_row rfl (.tmp 6) (.tmp 27) rfl R Z ZL.out (by rfl) (by rfl) (dV Z) (dV_size ZL.out) _ GR_5.out ?_); rw [← Hw6.out]))
  try simp only [Exit.inBlock, Exit.then]
  refine bodyPost_ret (results_cell_tmp rfl _ _ _ ⟨R, 0, none⟩ (.agg (dV Z)) rfl ?_) rfl ⟨rfl, B6.out⟩
  exact dig_load ZL.out (range_of_row GR_6.out)
set_option maxRecDepth 20000 in
set_option maxHeartbeats 2000000 in
theorem SRecover_fold (m : List UInt8) (hm : m.length = 32) (sig : List (List UInt8)) (h67 : sig.length = 67) (hd : ∀ d ∈ sig, d.length = 32) (h : Nat) (hh : h ≤ 4) (at_ : Int) (sga pa : Option Addr) (sgc pl pc e0 : Nat) (D : List UInt8) (hD : D.length = 32) (ev : Value) (w : World) (hr : Rd w sga e0 (sig.flatten.map vB)) (hro : RoundsAt w)
    (FC : ∀ w', Below w.heap.size w w' → Calls Tryz.prog 56 #[.agg (dV (wkey m sig)), .int .i64 at_, .int .i64 ((2 ^ h : Nat) : Int), .slice pa pl pc] w' fun e w'' => e = .returned (.tuple #[.agg (dV D), ev]) ∧ Below w'.heap.size w' w'') :
    Calls Tryz.prog 39 #[.agg (dV m), .int .i64 (h : Int), .agg #[.int .i64 at_, .slice sga sig.length sgc, .slice pa pl pc]] w fun e w' => e = .returned (.tuple #[.agg (dV D), ev]) ∧ Below w.heap.size w w' := by
  have hz : nz.length = 32 := rfl
  have ZL := Lib.hid hz
  clear hz
  have ML := Lib.hid hm
  have DL := Lib.hid hD
  have RO := Lib.hid hro
  have HSD := Lib.hid hd
  have HRD_0 := Lib.hid hr
  have HFC := Lib.hid FC
  have WL := Lib.hid (wkey_length m sig)
  have HIL := Lib.hid (show (Tryz.prog.info? 23).map (·.size) = some ((wkey m sig).map vB).length by rw [List.length_map, wkey_length]; exact dig_size)
  have q1 : decide ((h : Int) < 0) = false := decide_eq_false (by omega)
  have q2 : decide ((4 : Int) < (h : Int)) = false := decide_eq_false (by omega)
  have q3 : decide (4 < h) = false := decide_eq_false (by omega)
  have e3 : IntKind.i64.wrap ((2 : Int) ^ h) = ((2 ^ h : Nat) : Int) := by
    rw [IntKind.wrap_i64]
    obtain rfl | rfl | rfl | rfl | rfl : h = 0 ∨ h = 1 ∨ h = 2 ∨ h = 3 ∨ h = 4 := by omega
    all_goals rfl
  obtain ⟨n, hn⟩ : ∃ n, n = 2 ^ h := ⟨_, rfl⟩
  rw [← hn] at e3 HFC
  have h0 : (0 : Int) ≤ (h : Int) := by omega
  have S67 := Lib.hid h67
  rw [h67]
  clear hm hD hro hd hr FC hn h67
  obtain ⟨S, hS⟩ : ∃ z, z = w.heap.size := ⟨_, rfl⟩
  obtain ⟨w1, hw1⟩ : ∃ z, z = w.alloc (.cells (dV m) 23) := ⟨_, rfl⟩
  have st1 : Below w.heap.size w w1 := by rw [hw1]; exact (Below.refl _ _).alloc (Nat.le_refl _) _
  have B1 := Lib.hid (show Below w.heap.size w w1 from Below.trans (Below.refl w.heap.size w) (Below.mono st1 (Below.size (Below.refl w.heap.size w))))
  have HRD_1 := Lib.hid (HRD_0.out.below st1)
  have GS_1 := Lib.hid (show w1.heap[S]? = some (.cells (dV m) 23 (0, 0)) by rw [hw1, hS]; exact heap_alloc_new _ _)
  have LS_1 := Lib.hid (lt_of_heap GS_1.out)
  have HS := Lib.hid hS
  have Hw1 := Lib.hid hw1
  clear hS hw1 st1
  have SZS := Lib.hid (show S = w.heap.size from HS.out)
  obtain ⟨Q, hQ⟩ : ∃ z, z = w1.heap.size := ⟨_, rfl⟩
  obtain ⟨w2, hw2⟩ : ∃ z, z = w1.alloc (.cells #[.int .i64 at_, .slice sga 67 sgc, .slice pa pl pc] 26) := ⟨_, rfl⟩
  have st2 : Below w1.heap.size w1 w2 := by rw [hw2]; exact (Below.refl _ _).alloc (Nat.le_refl _) _
  have B2 := Lib.hid (show Below w.heap.size w w2 from Below.trans B1.out (Below.mono st2 (Below.size B1.out)))
  have GS_2 := Lib.hid ((Below.block st2 S LS_1.out).trans GS_1.out)
  have LS_2 := Lib.hid (Nat.lt_of_lt_of_le LS_1.out (Below.size st2))
  have HRD_2 := Lib.hid (HRD_1.out.below st2)
  have GQ_2 := Lib.hid (show w2.heap[Q]? = some (.cells #[.int .i64 at_, .slice sga 67 sgc, .slice pa pl pc] 26 (0, 0)) by rw [hw2, hQ]; exact heap_alloc_new _ _)
  have LQ_2 := Lib.hid (lt_of_heap GQ_2.out)
  have HQ := Lib.hid hQ
  have Hw2 := Lib.hid hw2
  clear hQ hw2 st2
  have SZQ := Lib.hid (show Q = w.heap.size + 1 by rw [HQ.out, Hw1.out, World.size_alloc, ← HS.out, SZS.out])
  obtain ⟨R, hR⟩ : ∃ z, z = w2.heap.size := ⟨_, rfl⟩
  obtain ⟨w3, hw3⟩ : ∃ z, z = w2.alloc (.cells (dV nz) 23) := ⟨_, rfl⟩
  have st3 : Below w2.heap.size w2 w3 := by rw [hw3]; exact (Below.refl _ _).alloc (Nat.le_refl _) _
  have B3 := Lib.hid (show Below w.heap.size w w3 from Below.trans B2.out (Below.mono st3 (Below.size B2.out)))
  have GS_3 := Lib.hid ((Below.block st3 S LS_2.out).trans GS_2.out)
  have LS_3 := Lib.hid (Nat.lt_of_lt_of_le LS_2.out (Below.size st3))
  have GQ_3 := Lib.hid ((Below.block st3 Q LQ_2.out).trans GQ_2.out)
  have LQ_3 := Lib.hid (Nat.lt_of_lt_of_le LQ_2.out (Below.size st3))
  have HRD_3 := Lib.hid (HRD_2.out.below st3)
  have GR_3 := Lib.hid (show w3.heap[R]? = some (.cells (dV nz) 23 (0, 0)) by rw [hw3, hR]; exact heap_alloc_new _ _)
  have LR_3 := Lib.hid (lt_of_heap GR_3.out)
  have HR := Lib.hid hR
  have Hw3 := Lib.hid hw3
  clear hR hw3 st3
  have SZR := Lib.hid (show R = w.heap.size + 1 + 1 by rw [HR.out, Hw2.out, World.size_alloc, ← HQ.out, SZQ.out])
  have q5 := (cellQ GQ_3.out).2.1
  have WR := Lib.hid (WRecover_calls m ML.out sig S67.out HSD.out sga sgc e0 w3 HRD_3.out (RO.out.at_ B3.out))
  rw [S67.out] at WR
  go_enter Tryz.func39, Tryz.ntmps39
  go_upto_region 1 with fail
  rw [zdig]
  rw [← SZR.out, ← SZQ.out, ← SZS.out, ← Hw1.out, ← Hw2.out, ← Hw3.out]
  go_wp2_with (first
    | (refine at_ld 23 (.tmp 3) rfl ?_; (refine ld_digG rfl (.tmp 3) rfl (S) 0 (by rfl) m ML.out (range_of_row GS_3.out) ?_); simp only [Act.put, List.setIfInBounds_toArray, List.set_cons_zero, List.set_cons_succ]))
  refine (WR.out).mono ?_
  rintro e w4 ⟨rfl, hb4⟩
  have B4 := Lib.hid (show Below w.heap.size w w4 from Below.trans B3.out (Below.mono hb4 (Below.size B3.out)))
  have GS_4 := Lib.hid ((Below.block hb4 S LS_3.out).trans GS_3.out)
  have LS_4 := Lib.hid (Nat.lt_of_lt_of_le LS_3.out (Below.size hb4))
  have GQ_4 := Lib.hid ((Below.block hb4 Q LQ_3.out).trans GQ_3.out)
  have LQ_4 := Lib.hid (Nat.lt_of_lt_of_le LQ_3.out (Below.size hb4))
  have GR_4 := Lib.hid ((Below.block hb4 R LR_3.out).trans GR_3.out)
  have LR_4 := Lib.hid (Nat.lt_of_lt_of_le LR_3.out (Below.size hb4))
  have HRD_4 := Lib.hid (HRD_3.out.below hb4)
  clear WR q5
  clear hb4
  obtain ⟨l, hl⟩ : ∃ l, l = wkey m sig := ⟨_, rfl⟩
  rw [← hl] at WL HIL HFC ⊢
  clear hl
  obtain ⟨L, hL⟩ : ∃ z, z = w4.heap.size := ⟨_, rfl⟩
  obtain ⟨w5, hw5⟩ : ∃ z, z = w4.alloc (.cells (dV l) 23) := ⟨_, rfl⟩
  have st5 : Below w4.heap.size w4 w5 := by rw [hw5]; exact (Below.refl _ _).alloc (Nat.le_refl _) _
  have B5 := Lib.hid (show Below w.heap.size w w5 from Below.trans B4.out (Below.mono st5 (Below.size B4.out)))
  have GS_5 := Lib.hid ((Below.block st5 S LS_4.out).trans GS_4.out)
  have LS_5 := Lib.hid (Nat.lt_of_lt_of_le LS_4.out (Below.size st5))
  have GQ_5 := Lib.hid ((Below.block st5 Q LQ_4.out).trans GQ_4.out)
  have LQ_5 := Lib.hid (Nat.lt_of_lt_of_le LQ_4.out (Below.size st5))
  have GR_5 := Lib.hid ((Below.block st5 R LR_4.out).trans GR_4.out)
  have LR_5 := Lib.hid (Nat.lt_of_lt_of_le LR_4.out (Below.size st5))
  have HRD_5 := Lib.hid (HRD_4.out.below st5)
  have GL_5 := Lib.hid (show w5.heap[L]? = some (.cells (dV l) 23 (0, 0)) by rw [hw5, hL]; exact heap_alloc_new _ _)
  have LL_5 := Lib.hid (lt_of_heap GL_5.out)
  have HL := Lib.hid hL
  have Hw5 := Lib.hid hw5
  clear hL hw5 st5
  go_wp2_with (first
    | (refine at_st 23 (.tmp 8) (.tmp 23) rfl ?_; (refine st_new rfl (.tmp 8) (.tmp 23) rfl l WL.out (by rfl) _ _ (by rfl) (by rfl) ?_); rw [← HL.out, ← Hw5.out]))
  obtain ⟨wd, hwd⟩ : ∃ z, z = w5.drew := ⟨_, rfl⟩
  have GQ := Lib.hid (show wd.heap[Q]? = some (.cells #[.int .i64 at_, .slice sga 67 sgc, .slice pa pl pc] 26 (0, 0)) by rw [hwd]; exact GQ_5.out)
  have GLd := Lib.hid (show wd.heap[L]? = some (.cells (dV l) 23 (0, 0)) by rw [hwd]; exact GL_5.out)
  have GRd := Lib.hid (show wd.heap[R]? = some (.cells (dV nz) 23 (0, 0)) by rw [hwd]; exact GR_5.out)
  have BD := Lib.hid (show Below w.heap.size w wd by rw [hwd]; exact B5.out.drew)
  have hLR : L ≠ R := by rw [HL.out]; exact (Nat.ne_of_lt LR_4.out).symm
  have hQR : Q ≠ R := by rw [SZQ.out, SZR.out]; omega
  have hRw : w.heap.size ≤ R := by rw [SZR.out]; omega
  refine wp_region_held_drew (S := fun w' => w'.heap[L]? = some (.cells (dV l) 23 (0, 0)) ∧ w'.heap[Q]? = some (.cells #[.int .i64 at_, .slice sga 67 sgc, .slice pa pl pc] 26 (0, 0))) (by kernel_rfl) (by rw [← hwd]; exact ⟨GLd.out, GQ.out⟩) (fun hHeld => ?_)
  rw [← hwd] at hHeld ⊢
  clear hwd
  refine wpAnyH_take (i := 0) (oi := _) (v := _) rfl (by kernel_rfl) (by kernel_rfl) (by kernel_rfl) (fun _ _ _ h => h) (yieldsIf_load_mid (by rfl) _ _ rfl _ _ rfl (l.map vB) _ (fun w hw => range_of_row hw.1) Tryz.underlying23 rfl HIL.out) hHeld ?_
  simp only [Act.put, List.getElem_toArray, List.getElem_cons_zero, List.getElem_cons_succ, List.setIfInBounds_toArray, List.set_cons_zero, List.set_cons_succ]
  refine wpAnyH_take (i := 1) (oi := _) (v := .pointer (some ⟨Q, 0, none⟩)) rfl (by kernel_rfl) (by kernel_rfl) (by kernel_rfl) (fun _ _ _ h => h) (Or.inl ⟨by rfl, fun w hw => by go_simp⟩) hHeld ?_
  simp only [Act.put, List.getElem_toArray, List.getElem_cons_zero, List.getElem_cons_succ, List.setIfInBounds_toArray, List.set_cons_zero, List.set_cons_succ]
  refine wpAnyH_take (i := 2) (oi := _) (v := .int .i64 at_) rfl (by kernel_rfl) (by kernel_rfl) (by kernel_rfl) (fun _ _ _ h => h) (Or.inl ⟨by rfl, fun w hw => by have hcc := (cellQ hw.2).1; go_simp⟩) hHeld ?_
  simp only [Act.put, List.getElem_toArray, List.getElem_cons_zero, List.getElem_cons_succ, List.setIfInBounds_toArray, List.set_cons_zero, List.set_cons_succ]
  refine wpAnyH_take (i := 3) (oi := _) (v := .int .i64 (h : Int)) rfl (by kernel_rfl) (by kernel_rfl) (by kernel_rfl) (fun _ _ _ h => h) (Or.inl ⟨by rfl, fun w hw => by go_simp⟩) hHeld ?_
  simp only [Act.put, List.getElem_toArray, List.getElem_cons_zero, List.getElem_cons_succ, List.setIfInBounds_toArray, List.set_cons_zero, List.set_cons_succ]
  refine wpAnyH_take (i := 4) (oi := _) (v := .int .i64 (n : Int)) rfl (by kernel_rfl) (by kernel_rfl) (by kernel_rfl) (fun _ _ _ h => h) (Or.inl ⟨by rfl, fun w hw => by go_simp⟩) hHeld ?_
  simp only [Act.put, List.getElem_toArray, List.getElem_cons_zero, List.getElem_cons_succ, List.setIfInBounds_toArray, List.set_cons_zero, List.set_cons_succ]
  refine wpAnyH_take (i := 5) (oi := _) (v := .pointer (some ⟨Q, 2, none⟩)) rfl (by kernel_rfl) (by kernel_rfl) (by kernel_rfl) (fun _ _ _ h => h) (Or.inl ⟨by rfl, fun w hw => by go_simp⟩) hHeld ?_
  simp only [Act.put, List.getElem_toArray, List.getElem_cons_zero, List.getElem_cons_succ, List.setIfInBounds_toArray, List.set_cons_zero, List.set_cons_succ]
  refine wpAnyH_take (i := 6) (oi := _) (v := .slice pa pl pc) rfl (by kernel_rfl) (by kernel_rfl) (by kernel_rfl) (fun _ _ _ h => h) (Or.inl ⟨by rfl, fun w hw => by have hcc := (cellQ hw.2).2.2; go_simp⟩) hHeld ?_
  simp only [Act.put, List.getElem_toArray, List.getElem_cons_zero, List.getElem_cons_succ, List.setIfInBounds_toArray, List.set_cons_zero, List.set_cons_succ]
  refine wpAnyH_ready (rs := [7]) (by kernel_rfl) (by simp) ?_
  refine AllReadyH.cons (o := _) rfl (fun K hK => ?_) AllReadyH.nil
  have HK := Lib.hid hK
  clear hK
  go_simp
  go_at_call 56
  refine (HFC.out wd BD.out).mono ?_
  rintro e w81 ⟨rfl, hb1⟩
  have B1 := Lib.hid hb1
  clear hb1
  dsimp only
  refine HK.out _ _ (show _ ∧ _ from ⟨(B1.out.block L (lt_of_heap GLd.out)).trans GLd.out, (B1.out.block Q (lt_of_heap GQ.out)).trans GQ.out⟩) ?_
  clear HK K hHeld
  try simp only [Act.put, List.getElem_toArray, List.getElem_cons_zero, List.getElem_cons_succ, List.setIfInBounds_toArray, List.set_cons_zero, List.set_cons_succ]
  intro hHeld
  refine wpAnyH_take (i := 8) (oi := _) (v := .agg (dV D)) rfl (by kernel_rfl) (by kernel_rfl) (by kernel_rfl) (fun _ _ _ h => h) (Or.inl ⟨by rfl, fun w hw => by go_simp⟩) hHeld ?_
  simp only [Act.put, List.getElem_toArray, List.getElem_cons_zero, List.getElem_cons_succ, List.setIfInBounds_toArray, List.set_cons_zero, List.set_cons_succ]
  refine wpAnyH_take (i := 9) (oi := _) (v := ev) rfl (by kernel_rfl) (by kernel_rfl) (by kernel_rfl) (fun _ _ _ h => h) (Or.inl ⟨by rfl, fun w hw => by go_simp⟩) hHeld ?_
  simp only [Act.put, List.getElem_toArray, List.getElem_cons_zero, List.getElem_cons_succ, List.setIfInBounds_toArray, List.set_cons_zero, List.set_cons_succ]
  have G1R := Lib.hid ((B1.out.block R (lt_of_heap GRd.out)).trans GRd.out)
  have BF := Lib.hid (below_setRowW (BD.out.trans (B1.out.mono BD.out.size)) hRw (dV D))
  refine wpAnyH_ready (rs := [10]) (by kernel_rfl) (by simp) ?_
  refine AllReadyH.cons (o := _) rfl (fun K hK => ?_) AllReadyH.nil
  have HK := Lib.hid hK
  clear hK
  rw [if_pos (by rfl)]
  refine wp_store_row _ _ _ rfl R (dV D) (by rfl) (by rfl) _ (dV nz) G1R.out (info_dV DL.out) (by rw [dV_size DL.out]; rfl) (dV_one D) ?_
  refine HK.out _ _ (show _ ∧ _ from ⟨(_root_.Go.setRow_other _ _ _ _ hLR).trans ((B1.out.block L (lt_of_heap GLd.out)).trans GLd.out), (_root_.Go.setRow_other _ _ _ _ hQR).trans ((B1.out.block Q (lt_of_heap GQ.out)).trans GQ.out)⟩) ?_
  clear HK K hHeld
  try simp only [Act.put, List.getElem_toArray, List.getElem_cons_zero, List.getElem_cons_succ, List.setIfInBounds_toArray, List.set_cons_zero, List.set_cons_succ]
  intro hHeld
  refine wpAnyH_take (i := 11) (oi := _) (v := ev) rfl (by kernel_rfl) (by kernel_rfl) (by kernel_rfl) (fun _ _ _ h => h) (Or.inl ⟨by rfl, fun w hw => by go_simp⟩) hHeld ?_
  simp only [Act.put, List.getElem_toArray, List.getElem_cons_zero, List.getElem_cons_succ, List.setIfInBounds_toArray, List.set_cons_zero, List.set_cons_succ]
  refine wpAnyH_done (by kernel_rfl) ?_ _
  clear hHeld
  go_wp2_with fail
  try simp only [Exit.inBlock, Exit.then]
  refine bodyPost_ret (results_cell_tmp rfl _ _ _ ⟨R, 0, none⟩ (.agg (dV D)) rfl ?_) rfl ?_
  · exact dig_load DL.out (range_of_row (setRow_heap _ _ _ _ _ _ G1R.out))
  · exact ⟨rfl, BF.out⟩
/-- a signature of its place tells the root -/
theorem SRecover_ok (m : List UInt8) (hm : m.length = 32) (sig : List (List UInt8)) (h67 : sig.length = 67) (hd : ∀ d ∈ sig, d.length = 32) (h : Nat) (hh : h ≤ 4) (i : Nat) (hi : i < 2 ^ h) (sga pa : Option Addr) (sgc pc e0 e1 : Nat) (ps : List (List UInt8)) (hp : ∀ p ∈ ps, p.length = 32) (hpl : ps.length = tlong i (2 ^ h)) (w : World) (hr : Rd w sga e0 (sig.flatten.map vB)) (hrp : Rd w pa e1 (ps.flatten.map vB)) (hro : RoundsAt w) :
    Calls Tryz.prog 39 #[.agg (dV m), .int .i64 (h : Int), .agg #[.int .i64 (i : Int), .slice sga sig.length sgc, .slice pa ps.length pc]] w fun e w' => e = .returned (.tuple #[.agg (dV (tfold (wkey m sig) i (2 ^ h) ps)), .nilIface]) ∧ Below w.heap.size w w' := by
  have h16 : 2 ^ h ≤ 16 := Nat.le_trans (Nat.pow_le_pow_right (by omega) hh) (by decide)
  exact SRecover_fold m hm sig h67 hd h hh (i : Int) sga pa sgc ps.length pc e0 (tfold (wkey m sig) i (2 ^ h) ps) (tfold_length _ _ _ _ (wkey_length m sig)) .nilIface w hr hro (fun w' hb => TFold_calls (wkey m sig) (wkey_length m sig) i (2 ^ h) (Nat.two_pow_pos h) (by omega) hi ps hp hpl pa pc e1 w' (hrp.below hb) (hro.at_ hb))
theorem SRecover_range (m : List UInt8) (hm : m.length = 32) (sig : List (List UInt8)) (h67 : sig.length = 67) (hd : ∀ d ∈ sig, d.length = 32) (h : Nat) (hh : h ≤ 4) (i : Int) (hi1 : -9223372036854775808 ≤ i ∧ i ≤ 9223372036854775807) (hi : i < 0 ∨ ((2 ^ h : Nat) : Int) ≤ i) (sga pa : Option Addr) (sgc pl pc e0 : Nat) (w : World) (hr : Rd w sga e0 (sig.flatten.map vB)) (hro : RoundsAt w) :
    Calls Tryz.prog 39 #[.agg (dV m), .int .i64 (h : Int), .agg #[.int .i64 i, .slice sga sig.length sgc, .slice pa pl pc]] w fun e w' => e = .returned (.tuple #[.agg (dV nz), .iface 29 (.int .i64 2)]) ∧ Below w.heap.size w w' := by
  have h16 : 2 ^ h ≤ 16 := Nat.le_trans (Nat.pow_le_pow_right (by omega) hh) (by decide)
  have hb : (-9223372036854775808 ≤ ((2 ^ h : Nat) : Int) ∧ ((2 ^ h : Nat) : Int) ≤ 9223372036854775807) ∧ ¬ (1 ≤ ((2 ^ h : Nat) : Int) ∧ ((2 ^ h : Nat) : Int) ≤ 256 ∧ 0 ≤ i ∧ i < ((2 ^ h : Nat) : Int)) := by
    generalize (2 ^ h : Nat) = n at *
    omega
  exact SRecover_fold m hm sig h67 hd h hh i sga pa sgc pl pc e0 nz rfl _ w hr hro (fun w' _ => TFold_range (wkey m sig) i _ hb.1 hi1 hb.2 pa pl pc w')
theorem SRecover_path (m : List UInt8) (hm : m.length = 32) (sig : List (List UInt8)) (h67 : sig.length = 67) (hd : ∀ d ∈ sig, d.length = 32) (h : Nat) (hh : h ≤ 4) (i : Nat) (hi : i < 2 ^ h) (sga pa : Option Addr) (sgc pl pc e0 : Nat) (hpl : pl ≠ tlong i (2 ^ h)) (w : World) (hr : Rd w sga e0 (sig.flatten.map vB)) (hro : RoundsAt w) :
    Calls Tryz.prog 39 #[.agg (dV m), .int .i64 (h : Int), .agg #[.int .i64 (i : Int), .slice sga sig.length sgc, .slice pa pl pc]] w fun e w' => e = .returned (.tuple #[.agg (dV nz), .iface 29 (.int .i64 3)]) ∧ Below w.heap.size w w' := by
  have h16 : 2 ^ h ≤ 16 := Nat.le_trans (Nat.pow_le_pow_right (by omega) hh) (by decide)
  exact SRecover_fold m hm sig h67 hd h hh (i : Int) sga pa sgc pl pc e0 nz rfl _ w hr hro (fun w' _ => TFold_len (wkey m sig) i (2 ^ h) (Nat.two_pow_pos h) (by omega) hi pa pl pc hpl w')
end Go.Proofs.YtkioddmhjbaleaaGreatDoor
