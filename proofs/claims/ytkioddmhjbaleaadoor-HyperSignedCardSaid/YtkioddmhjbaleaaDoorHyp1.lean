/- Walks: hyper.Public, New and Left. -/
import Derived.Test.YtkioddmhjbaleaaDoorHypMem
namespace Go.Proofs.YtkioddmhjbaleaaDoor
open Go.RowKit
set_option linter.unusedVariables false
set_option linter.unusedSimpArgs false
theorem HighB (h : Int) (b : Bool) (hb : decide (0 ≤ h ∧ h ≤ 2) = b) (w : World) : Calls Tryd.prog 55 #[.int .i64 h] w fun e w' => e = .returned (.bool b) ∧ Below w.heap.size w w' :=
  (High_calls h w).mono fun e w' ⟨h1, h2⟩ => ⟨by rw [h1, hb], by rw [← h2]; exact Below.refl _ _⟩
theorem High3.ok {h : Int} {N : Nat} (g : High3 h N) : decide (0 ≤ h ∧ h ≤ 2) = true := decide_eq_true ⟨g.bounds.1, g.bounds.2.1⟩
theorem load_pst {p : Addr} {z : Option Addr} {w : World} (h : w.cell? p = some (.pointer z)) : (loadVar 24 p).run Tryd.prog w = .ok (.pointer z) w := by go_simp
theorem quiet_pst {ops : Array Oper} {C : World → Prop} {Q : Act → Prop} {a : Act} {op : Oper} {rest : List Oper} {x1 : Operand} (ho : op.op = .load 24 x1) (x : Operand) (he_ : x1 = x) (p : Addr) (hx : a.eval x = .pointer (some p)) (z : Option Addr) (hC : ∀ w, C w → w.cell? p = some (.pointer z))
    (h : wpQuiet Tryd.prog ops C Q rest (a.put op.dst (.pointer z))) (hgd : Region.wanted op (yielded ops a.tmps) = true) : wpQuiet Tryd.prog ops C Q (op :: rest) a := by
  cases he_
  exact quiet_cell hgd _ _ ho p hx _ (fun w hw => load_pst (hC w hw)) h
theorem load_i64 {p : Addr} {z : Int} {w : World} (h : w.cell? p = some (.int .i64 z)) : (loadVar 3 p).run Tryd.prog w = .ok (.int .i64 z) w := by go_simp
theorem quiet_int {ops : Array Oper} {C : World → Prop} {Q : Act → Prop} {a : Act} {op : Oper} {rest : List Oper} {x1 : Operand} (ho : op.op = .load 3 x1) (x : Operand) (he_ : x1 = x) (p : Addr) (hx : a.eval x = .pointer (some p)) (z : Int) (hC : ∀ w, C w → w.cell? p = some (.int .i64 z))
    (h : wpQuiet Tryd.prog ops C Q rest (a.put op.dst (.int .i64 z))) (hgd : Region.wanted op (yielded ops a.tmps) = true) : wpQuiet Tryd.prog ops C Q (op :: rest) a := by
  cases he_
  exact quiet_cell hgd _ _ ho p hx _ (fun w hw => load_i64 (hC w hw)) h
set_option maxRecDepth 20000 in
set_option maxHeartbeats 2000000 in
theorem HPublic_ok (seed : List UInt8) (hs : seed.length = 32) (h : Int) (N : Nat) (hg : High3 h N) (w : World) (hro : RoundsAt w) :
    Calls Tryd.prog 26 #[.agg (dV seed), .int .i64 h] w fun e w' => e = .returned (.tuple #[.agg (dV (troot (leavesK (hup seed) N))), .nilIface]) ∧ Below w.heap.size w w' := by
  have hz : nz.length = 32 := rfl
  have ZL := Lib.hid hz
  clear hz
  have SL := Lib.hid hs
  have RO := Lib.hid hro
  have HG := Lib.hid hg
  have TL := Lib.hid (troot_length (leavesK (hup seed) N) (leavesK_dig _ _))
  obtain ⟨k, hk1, hk2, hk3⟩ := hg.pow
  have HK := Lib.hid (And.intro hk1 (And.intro hk2 hk3))
  clear hs hro hg hk1 hk2 hk3
  obtain ⟨S, hS⟩ : ∃ z, z = w.heap.size := ⟨_, rfl⟩
  obtain ⟨w1, hw1⟩ : ∃ z, z = w.alloc (.cells (dV seed) 23) := ⟨_, rfl⟩
  have st1 : Below w.heap.size w w1 := by rw [hw1]; exact (Below.refl _ _).alloc (Nat.le_refl _) _
  have B1 := Lib.hid (show Below w.heap.size w w1 from Below.trans (Below.refl w.heap.size w) (Below.mono st1 (Below.size (Below.refl w.heap.size w))))
  have GS_1 := Lib.hid (show w1.heap[S]? = some (.cells (dV seed) 23 (0, 0)) by rw [hw1, hS]; exact heap_alloc_new _ _)
  have LS_1 := Lib.hid (lt_of_heap GS_1.out)
  have HS := Lib.hid hS
  have Hw1 := Lib.hid hw1
  clear hS hw1 st1
  have SZS := Lib.hid (show S = w.heap.size from HS.out)
  obtain ⟨R, hR⟩ : ∃ z, z = w1.heap.size := ⟨_, rfl⟩
  obtain ⟨w2, hw2⟩ : ∃ z, z = w1.alloc (.cells (dV nz) 23) := ⟨_, rfl⟩
  have st2 : Below w1.heap.size w1 w2 := by rw [hw2]; exact (Below.refl _ _).alloc (Nat.le_refl _) _
  have B2 := Lib.hid (show Below w.heap.size w w2 from Below.trans B1.out (Below.mono st2 (Below.size B1.out)))
  have GS_2 := Lib.hid ((Below.block st2 S LS_1.out).trans GS_1.out)
  have LS_2 := Lib.hid (Nat.lt_of_lt_of_le LS_1.out (Below.size st2))
  have GR_2 := Lib.hid (show w2.heap[R]? = some (.cells (dV nz) 23 (0, 0)) by rw [hw2, hR]; exact heap_alloc_new _ _)
  have LR_2 := Lib.hid (lt_of_heap GR_2.out)
  have HR := Lib.hid hR
  have Hw2 := Lib.hid hw2
  clear hR hw2 st2
  have SZR := Lib.hid (show R = w.heap.size + 1 by rw [HR.out, Hw1.out, World.size_alloc, ← HS.out, SZS.out])
  go_enter Tryd.func26, Tryd.ntmps26
  go_upto_region 1 with fail
  rw [zdig]
  rw [← SZR.out, ← SZS.out, ← Hw1.out, ← Hw2.out]
  go_wp2_with fail
  refine (HighB h true HG.out.ok w2).mono ?_
  rintro e w3 ⟨rfl, hb3⟩
  have B3 := Lib.hid (show Below w.heap.size w w3 from Below.trans B2.out (Below.mono hb3 (Below.size B2.out)))
  have GS_3 := Lib.hid ((Below.block hb3 S LS_2.out).trans GS_2.out)
  have LS_3 := Lib.hid (Nat.lt_of_lt_of_le LS_2.out (Below.size hb3))
  have GR_3 := Lib.hid ((Below.block hb3 R LR_2.out).trans GR_2.out)
  have LR_3 := Lib.hid (Nat.lt_of_lt_of_le LR_2.out (Below.size hb3))
  clear hb3
  go_wp2_with (first
    | (refine at_ld 23 (.tmp 2) rfl ?_; (refine ld_digG rfl (.tmp 2) rfl (S) 0 (by rfl) seed SL.out (range_of_row GS_3.out) ?_); simp only [Act.put, List.setIfInBounds_toArray, List.set_cons_zero, List.set_cons_succ]))
  refine (HUp_calls seed SL.out w3 (RO.out.at_ B3.out)).mono ?_
  rintro e w4 ⟨rfl, hb4⟩
  have B4 := Lib.hid (show Below w.heap.size w w4 from Below.trans B3.out (Below.mono hb4 (Below.size B3.out)))
  have GS_4 := Lib.hid ((Below.block hb4 S LS_3.out).trans GS_3.out)
  have LS_4 := Lib.hid (Nat.lt_of_lt_of_le LS_3.out (Below.size hb4))
  have GR_4 := Lib.hid ((Below.block hb4 R LR_3.out).trans GR_3.out)
  have LR_4 := Lib.hid (Nat.lt_of_lt_of_le LR_3.out (Below.size hb4))
  clear hb4
  go_wp2_with fail
  refine (Public_z (hup seed) (hup_length _) k h HK.out.1 HK.out.2.1 N HK.out.2.2 w4 (RO.out.at_ B4.out)).mono ?_
  rintro e w5 ⟨rfl, hb5⟩
  have B5 := Lib.hid (show Below w.heap.size w w5 from Below.trans B4.out (Below.mono hb5 (Below.size B4.out)))
  have GS_5 := Lib.hid ((Below.block hb5 S LS_4.out).trans GS_4.out)
  have LS_5 := Lib.hid (Nat.lt_of_lt_of_le LS_4.out (Below.size hb5))
  have GR_5 := Lib.hid ((Below.block hb5 R LR_4.out).trans GR_4.out)
  have LR_5 := Lib.hid (Nat.lt_of_lt_of_le LR_4.out (Below.size hb5))
  clear hb5
  obtain ⟨w6, hw6⟩ : ∃ z, z = w5.setRow R (dV (troot (leavesK (hup seed) N))) := ⟨_, rfl⟩
  have B6 := Lib.hid (show Below w.heap.size w w6 by rw [hw6]; exact below_setRowW B5.out (by rw [HR.out]; exact Below.size B1.out) _)
  have sz6 : w6.heap.size = w5.heap.size := by rw [hw6]; exact setRow_size _ _ _
  have GS_6 := Lib.hid (show w6.heap[S]? = some (.cells (dV seed) 23 (0, 0)) by rw [hw6]; exact (_root_.Go.setRow_other _ _ _ _ (by rw [HR.out]; exact Nat.ne_of_lt LS_1.out)).trans GS_5.out)
  have LS_6 := Lib.hid (show S < w6.heap.size by rw [sz6]; exact LS_5.out)
  have GR_6 := Lib.hid (show w6.heap[R]? = some (.cells (dV (troot (leavesK (hup seed) N))) 23 (0, 0)) by rw [hw6]; exact setRow_heap _ _ _ _ _ _ GR_5.out)
  have LR_6 := Lib.hid (show R < w6.heap.size by rw [sz6]; exact LR_5.out)
  have Hw6 := Lib.hid hw6
  clear hw6 sz6
  go_wp2_with (first
    | (refine at_st 23 (.tmp 4) (.tmp 15) rfl ?_; (refine st_row rfl (.tmp 4) (.tmp 15) rfl R (troot (leavesK (hup seed) N)) TL.out (by rfl) (by rfl) (dV nz) (dV_size ZL.out) _ GR_5.out ?_); rw [← Hw6.out]))
  try simp only [Exit.inBlock, Exit.then]
  refine bodyPost_ret (results_cell_tmp rfl _ _ _ ⟨R, 0, none⟩ (.agg (dV (troot (leavesK (hup seed) N)))) rfl ?_) rfl ⟨rfl, B6.out⟩
  exact dig_load TL.out (range_of_row GR_6.out)
set_option maxRecDepth 20000 in
set_option maxHeartbeats 1000000 in
theorem HPublic_bad (seed : List UInt8) (h : Int) (hh : h < 0 ∨ 2 < h) (w : World) :
    Calls Tryd.prog 26 #[.agg (dV seed), .int .i64 h] w fun e w' => e = .returned (.tuple #[.agg (dV nz), .iface 41 (.int .i64 2)]) ∧ Below w.heap.size w w' := by
  obtain ⟨Z, hZ⟩ : ∃ Z, Z = nz := ⟨_, rfl⟩
  have ZL := Lib.hid (show Z.length = 32 by rw [hZ]; rfl)
  have ZT := Lib.hid (show (#[.int .u8 0, .int .u8 0, .int .u8 0, .int .u8 0, .int .u8 0, .int .u8 0, .int .u8 0, .int .u8 0, .int .u8 0, .int .u8 0, .int .u8 0, .int .u8 0, .int .u8 0, .int .u8 0, .int .u8 0, .int .u8 0, .int .u8 0, .int .u8 0, .int .u8 0, .int .u8 0, .int .u8 0, .int .u8 0, .int .u8 0, .int .u8 0, .int .u8 0, .int .u8 0, .int .u8 0, .int .u8 0, .int .u8 0, .int .u8 0, .int .u8 0, .int .u8 0] : Array Value) = dV Z by rw [hZ]; exact zdig)
  have HZ := Lib.hid hZ
  rw [← hZ]
  clear hZ
  obtain ⟨S, hS⟩ : ∃ z, z = w.heap.size := ⟨_, rfl⟩
  obtain ⟨w1, hw1⟩ : ∃ z, z = w.alloc (.cells (dV seed) 23) := ⟨_, rfl⟩
  have st1 : Below w.heap.size w w1 := by rw [hw1]; exact (Below.refl _ _).alloc (Nat.le_refl _) _
  have B1 := Lib.hid (show Below w.heap.size w w1 from Below.trans (Below.refl w.heap.size w) (Below.mono st1 (Below.size (Below.refl w.heap.size w))))
  have GS_1 := Lib.hid (show w1.heap[S]? = some (.cells (dV seed) 23 (0, 0)) by rw [hw1, hS]; exact heap_alloc_new _ _)
  have LS_1 := Lib.hid (lt_of_heap GS_1.out)
  have HS := Lib.hid hS
  have Hw1 := Lib.hid hw1
  clear hS hw1 st1
  have SZS := Lib.hid (show S = w.heap.size from HS.out)
  obtain ⟨R, hR⟩ : ∃ z, z = w1.heap.size := ⟨_, rfl⟩
  obtain ⟨w2, hw2⟩ : ∃ z, z = w1.alloc (.cells (dV Z) 23) := ⟨_, rfl⟩
  have st2 : Below w1.heap.size w1 w2 := by rw [hw2]; exact (Below.refl _ _).alloc (Nat.le_refl _) _
  have B2 := Lib.hid (show Below w.heap.size w w2 from Below.trans B1.out (Below.mono st2 (Below.size B1.out)))
  have GS_2 := Lib.hid ((Below.block st2 S LS_1.out).trans GS_1.out)
  have LS_2 := Lib.hid (Nat.lt_of_lt_of_le LS_1.out (Below.size st2))
  have GR_2 := Lib.hid (show w2.heap[R]? = some (.cells (dV Z) 23 (0, 0)) by rw [hw2, hR]; exact heap_alloc_new _ _)
  have LR_2 := Lib.hid (lt_of_heap GR_2.out)
  have HR := Lib.hid hR
  have Hw2 := Lib.hid hw2
  clear hR hw2 st2
  have SZR := Lib.hid (show R = w.heap.size + 1 by rw [HR.out, Hw1.out, World.size_alloc, ← HS.out, SZS.out])
  go_enter Tryd.func26, Tryd.ntmps26
  go_upto_region 1 with fail
  rw [ZT.out]
  rw [← SZR.out, ← SZS.out, ← Hw1.out, ← Hw2.out]
  go_wp2_with fail
  refine (HighB h false (decide_eq_false (by omega)) w2).mono ?_
  rintro e w3 ⟨rfl, hb3⟩
  have B3 := Lib.hid (show Below w.heap.size w w3 from Below.trans B2.out (Below.mono hb3 (Below.size B2.out)))
  have GS_3 := Lib.hid ((Below.block hb3 S LS_2.out).trans GS_2.out)
  have LS_3 := Lib.hid (Nat.lt_of_lt_of_le LS_2.out (Below.size hb3))
  have GR_3 := Lib.hid ((Below.block hb3 R LR_2.out).trans GR_2.out)
  have LR_3 := Lib.hid (Nat.lt_of_lt_of_le LR_2.out (Below.size hb3))
  clear hb3
  obtain ⟨w4, hw4⟩ : ∃ z, z = w3.setRow R (dV Z) := ⟨_, rfl⟩
  have B4 := Lib.hid (show Below w.heap.size w w4 by rw [hw4]; exact below_setRowW B3.out (by rw [HR.out]; exact Below.size B1.out) _)
  have sz4 : w4.heap.size = w3.heap.size := by rw [hw4]; exact setRow_size _ _ _
  have GS_4 := Lib.hid (show w4.heap[S]? = some (.cells (dV seed) 23 (0, 0)) by rw [hw4]; exact (_root_.Go.setRow_other _ _ _ _ (by rw [HR.out]; exact Nat.ne_of_lt LS_1.out)).trans GS_3.out)
  have LS_4 := Lib.hid (show S < w4.heap.size by rw [sz4]; exact LS_3.out)
  have GR_4 := Lib.hid (show w4.heap[R]? = some (.cells (dV Z) 23 (0, 0)) by rw [hw4]; exact setRow_heap _ _ _ _ _ _ GR_3.out)
  have LR_4 := Lib.hid (show R < w4.heap.size by rw [sz4]; exact LR_3.out)
  have Hw4 := Lib.hid hw4
  clear hw4 sz4
  go_wp2_with (first
    | (refine wpl_zero rfl rfl Z HZ.out ?_)
    | (refine at_st 23 (.tmp 4) (.tmp 9) rfl ?_; (refine st_row rfl (.tmp 4) (.tmp 9) rfl R Z ZL.out (by rfl) (by rfl) (dV Z) (dV_size ZL.out) _ GR_3.out ?_); rw [← Hw4.out]))
  try simp only [Exit.inBlock, Exit.then]
  refine bodyPost_ret (results_cell_tmp rfl _ _ _ ⟨R, 0, none⟩ (.agg (dV Z)) rfl ?_) rfl ⟨rfl, B4.out⟩
  exact dig_load ZL.out (range_of_row GR_4.out)
set_option maxRecDepth 20000 in
set_option maxHeartbeats 1000000 in
theorem HNew_bad (seed : List UInt8) (h : Int) (hh : h < 0 ∨ 2 < h) (w : World) :
    Calls Tryd.prog 27 #[.agg (dV seed), .int .i64 h] w fun e w' => e = .returned (.tuple #[.pointer none, .iface 41 (.int .i64 2)]) ∧ Below w.heap.size w w' := by
  obtain ⟨S, hS⟩ : ∃ z, z = w.heap.size := ⟨_, rfl⟩
  obtain ⟨w1, hw1⟩ : ∃ z, z = w.alloc (.cells (dV seed) 23) := ⟨_, rfl⟩
  have st1 : Below w.heap.size w w1 := by rw [hw1]; exact (Below.refl _ _).alloc (Nat.le_refl _) _
  have B1 := Lib.hid (show Below w.heap.size w w1 from Below.trans (Below.refl w.heap.size w) (Below.mono st1 (Below.size (Below.refl w.heap.size w))))
  have GS_1 := Lib.hid (show w1.heap[S]? = some (.cells (dV seed) 23 (0, 0)) by rw [hw1, hS]; exact heap_alloc_new _ _)
  have LS_1 := Lib.hid (lt_of_heap GS_1.out)
  have HS := Lib.hid hS
  have Hw1 := Lib.hid hw1
  clear hS hw1 st1
  have SZS := Lib.hid (show S = w.heap.size from HS.out)
  go_enter Tryd.func27, Tryd.ntmps27
  go_upto_region 1 with fail
  rw [← SZS.out, ← Hw1.out]
  go_wp2_with fail
  refine (HighB h false (decide_eq_false (by omega)) w1).mono ?_
  rintro e w2 ⟨rfl, hb2⟩
  have B2 := Lib.hid (show Below w.heap.size w w2 from Below.trans B1.out (Below.mono hb2 (Below.size B1.out)))
  have GS_2 := Lib.hid ((Below.block hb2 S LS_1.out).trans GS_1.out)
  have LS_2 := Lib.hid (Nat.lt_of_lt_of_le LS_1.out (Below.size hb2))
  clear hb2
  go_wp2_with fail
  go_ret2
  exact ⟨rfl, B2.out⟩
set_option maxRecDepth 20000 in
set_option maxHeartbeats 2000000 in
theorem HNew_ok (seed : List UInt8) (hs : seed.length = 32) (h : Int) (N : Nat) (hg : High3 h N) (B : Nat) (w : World) (hB : B ≤ w.heap.size) (hro : RoundsAt w) :
    Calls Tryd.prog 27 #[.agg (dV seed), .int .i64 h] w fun e w' => ∃ X, e = .returned (.tuple #[.pointer (some ⟨X, 0, none⟩), .nilIface]) ∧ w.heap.size ≤ X ∧ Below w.heap.size w w' ∧ HyAt w' X B seed h N 0 := by
  have SL := Lib.hid hs
  have RO := Lib.hid hro
  have HG := Lib.hid hg
  have HBw := Lib.hid hB
  obtain ⟨k, hk1, hk2, hk3⟩ := hg.pow
  have HK := Lib.hid (And.intro hk1 (And.intro hk2 hk3))
  clear hs hro hg hk1 hk2 hk3 hB
  obtain ⟨S, hS⟩ : ∃ z, z = w.heap.size := ⟨_, rfl⟩
  obtain ⟨w1, hw1⟩ : ∃ z, z = w.alloc (.cells (dV seed) 23) := ⟨_, rfl⟩
  have st1 : Below w.heap.size w w1 := by rw [hw1]; exact (Below.refl _ _).alloc (Nat.le_refl _) _
  have B1 := Lib.hid (show Below w.heap.size w w1 from Below.trans (Below.refl w.heap.size w) (Below.mono st1 (Below.size (Below.refl w.heap.size w))))
  have GS_1 := Lib.hid (show w1.heap[S]? = some (.cells (dV seed) 23 (0, 0)) by rw [hw1, hS]; exact heap_alloc_new _ _)
  have LS_1 := Lib.hid (lt_of_heap GS_1.out)
  have HS := Lib.hid hS
  have Hw1 := Lib.hid hw1
  clear hS hw1 st1
  have SZS := Lib.hid (show S = w.heap.size from HS.out)
  go_enter Tryd.func27, Tryd.ntmps27
  go_upto_region 1 with fail
  rw [← SZS.out, ← Hw1.out]
  go_wp2_with fail
  refine (HighB h true HG.out.ok w1).mono ?_
  rintro e w2 ⟨rfl, hb2⟩
  have B2 := Lib.hid (show Below w.heap.size w w2 from Below.trans B1.out (Below.mono hb2 (Below.size B1.out)))
  have GS_2 := Lib.hid ((Below.block hb2 S LS_1.out).trans GS_1.out)
  have LS_2 := Lib.hid (Nat.lt_of_lt_of_le LS_1.out (Below.size hb2))
  clear hb2
  go_wp2_with (first
    | (refine at_ld 23 (.tmp 2) rfl ?_; (refine ld_digG rfl (.tmp 2) rfl (S) 0 (by rfl) seed SL.out (range_of_row GS_2.out) ?_); simp only [Act.put, List.setIfInBounds_toArray, List.set_cons_zero, List.set_cons_succ]))
  refine (HUp_calls seed SL.out w2 (RO.out.at_ B2.out)).mono ?_
  rintro e w3 ⟨rfl, hb3⟩
  have B3 := Lib.hid (show Below w.heap.size w w3 from Below.trans B2.out (Below.mono hb3 (Below.size B2.out)))
  have GS_3 := Lib.hid ((Below.block hb3 S LS_2.out).trans GS_2.out)
  have LS_3 := Lib.hid (Nat.lt_of_lt_of_le LS_2.out (Below.size hb3))
  clear hb3
  go_wp2_with fail
  refine (New_z (hup seed) (hup_length _) k h HK.out.1 HK.out.2.1 N HK.out.2.2 w3 (RO.out.at_ B3.out)).mono ?_
  rintro e w4 ⟨P, rfl, hP, hSAP, hb4⟩
  have B4 := Lib.hid (show Below w.heap.size w w4 from Below.trans B3.out (Below.mono hb4 (Below.size B3.out)))
  have GS_4 := Lib.hid ((Below.block hb4 S LS_3.out).trans GS_3.out)
  have LS_4 := Lib.hid (Nat.lt_of_lt_of_le LS_3.out (Below.size hb4))
  have SAP_4 := Lib.hid hSAP
  have HBP := Lib.hid (show w.heap.size ≤ P from Nat.le_trans (Below.size B3.out) hP)
  clear hP hSAP
  clear hb4
  obtain ⟨X, hX⟩ : ∃ z, z = w4.heap.size := ⟨_, rfl⟩
  obtain ⟨w5, hw5⟩ : ∃ z, z = w4.alloc (.cells (hV (.pointer (some ⟨P, 0, none⟩)) seed h 0 (.pointer none) (.int .i64 0) (.slice none 0 0) (.slice none 0 0)) 100) := ⟨_, rfl⟩
  have st5 : Below w4.heap.size w4 w5 := by rw [hw5]; exact (Below.refl _ _).alloc (Nat.le_refl _) _
  have B5 := Lib.hid (show Below w.heap.size w w5 from Below.trans B4.out (Below.mono st5 (Below.size B4.out)))
  have GS_5 := Lib.hid ((Below.block st5 S LS_4.out).trans GS_4.out)
  have LS_5 := Lib.hid (Nat.lt_of_lt_of_le LS_4.out (Below.size st5))
  have SAP_5 := Lib.hid (SAP_4.out.below st5)
  have GX_5 := Lib.hid (show w5.heap[X]? = some (.cells (hV (.pointer (some ⟨P, 0, none⟩)) seed h 0 (.pointer none) (.int .i64 0) (.slice none 0 0) (.slice none 0 0)) 100 (0, 0)) by rw [hw5, hX]; exact heap_alloc_new _ _)
  have LX_5 := Lib.hid (lt_of_heap GX_5.out)
  have HX := Lib.hid hX
  have Hw5 := Lib.hid hw5
  clear hX hw5 st5
  go_wp2_with (first
    | (refine at_ld 23 (.tmp 2) rfl ?_; (refine ld_digG rfl (.tmp 2) rfl (S) 0 (by rfl) seed SL.out (range_of_row GS_4.out) ?_); simp only [Act.put, List.setIfInBounds_toArray, List.set_cons_zero, List.set_cons_succ])
    | (refine bld_hyper rfl (.tmp 19) (.tmp 20) (.tmp 21) rfl P seed SL.out h (by rfl) (by rfl) (by rfl) ?_))
  rw [← HX.out, ← Hw5.out]
  go_ret2
  exact ⟨X, rfl, (by rw [HX.out]; exact Below.size B4.out), B5.out, P, 0, .pointer none, _, _, _, GX_5.out, (by rw [HX.out]; exact Nat.le_trans HBw.out (Below.size B4.out)), Nat.le_trans HBw.out HBP.out, SAP_5.out, Nat.zero_le _, sig_one _ _ _ _ _ _ _, .inl ⟨rfl, rfl, rfl⟩⟩
set_option maxRecDepth 20000 in
set_option maxHeartbeats 2000000 in
theorem HLeft_calls (seed : List UInt8) (hs : seed.length = 32) (h : Int) (N : Nat) (hg : High3 h N) (X B i : Nat) (hi : i ≤ N * N) (w : World) (hy : HyAt w X B seed h N i) :
    Calls Tryd.prog 29 #[.pointer (some ⟨X, 0, none⟩)] w fun e w' => e = .returned (.int .i64 ((N * N - i : Nat) : Int)) ∧ Below w.heap.size w w' := by
  obtain ⟨P, turn, low, x0, x1, x2, hX, hBX, hBP, hSt, htN, h13, hlw⟩ := hy
  have lX := lt_of_heap hX
  have c0 := cell_of_row w X 0 _ _ _ hX
  rw [hV_0] at c0
  have c33 := cell_of_row w X 33 _ _ _ hX
  rw [hV_33 hs] at c33
  have c35 := cell_of_row w X 35 _ _ _ hX
  rw [hV_35 hs] at c35
  have FC0 := Lib.hid (fun w' (h : InB w.heap.size w w') => (Below.cell h (p := ⟨X, 0, none⟩) lX).trans c0)
  have FC33 := Lib.hid (fun w' (h : InB w.heap.size w w') => (Below.cell h (p := ⟨X, 33, none⟩) lX).trans c33)
  have hN := hg.bounds
  obtain ⟨d, hd⟩ : ∃ d, d = N - turn := ⟨_, rfl⟩
  obtain ⟨r, hr⟩ : ∃ r, r = N * N - i := ⟨_, rfl⟩
  have LP : Hid (∀ w', InB w.heap.size w w' → Calls Tryd.prog 21 #[.pointer (some ⟨P, 0, none⟩)] w' fun e w'' => e = .returned (.int .i64 (d : Int)) ∧ InB w.heap.size w w'') := Lib.hid fun w' h => InB.call h (Nat.le_refl _) (by rw [hd]; exact Left_calls (hup seed) (hup_length _) P N turn (by omega) htN w' (hSt.below h))
  have LQ : Hid (∀ Q t nx, StampAt w Q (hlow seed t) N nx → nx ≤ N → ∀ wZ, Below w.heap.size w wZ → Calls Tryd.prog 21 #[.pointer (some ⟨Q, 0, none⟩)] wZ fun e w'' => e = .returned (.int .i64 ((N - nx : Nat) : Int)) ∧ Below wZ.heap.size wZ w'') := Lib.hid fun Q t nx hs hl wZ hb => Left_calls (hlow seed t) (hlow_length _ _) Q N nx (by omega) hl wZ (hs.below hb)
  have HLOW := Lib.hid hlw
  have C35 := Lib.hid (And.intro c35 lX)
  have HNN := Lib.hid htN
  rw [← hr]
  have HR := Lib.hid hr
  have HD := Lib.hid hd
  clear c0 c33 c35 hX hSt hlw hr hd hBX hBP h13 htN
  rcases hg with ⟨rfl, rfl⟩ | ⟨rfl, rfl⟩ | ⟨rfl, rfl⟩
  · have hd4 : d ≤ 1 := by have := HD.out; omega
    have e1 : IntKind.i64.wrap ((d : Int) * 1) = (d : Int) * 1 := IntWalk.i64_in _ (by omega)
    have e1' : IntKind.i64.wrap ((d : Int)) = (d : Int) := IntWalk.i64_in _ (by omega)
    go_enter Tryd.func29, Tryd.ntmps29
    go_upto_region 1 with fail
    have hex := inB_ex w.heap.size w
    refine wp_region_inB w.heap.size (by kernel_rfl) (by kernel_rfl) ?_
    repeat (first
      | (with_reducible refine quiet_pst rfl (.tmp 6) rfl ⟨X, 0, none⟩ (by kernel_rfl) (some ⟨P, 0, none⟩) FC0.out ?_ (by kernel_rfl); simp only [Act.put, List.setIfInBounds_toArray, List.set_cons_zero, List.set_cons_succ])
      | (with_reducible refine quiet_int rfl (.tmp 11) rfl ⟨X, 33, none⟩ (by kernel_rfl) (0) FC33.out ?_ (by kernel_rfl); simp only [Act.put, List.setIfInBounds_toArray, List.set_cons_zero, List.set_cons_succ])
      | go_big_quiet_step ((first | (intro hw'; exact LP.out _ hw') | (intro _; rfl))))
    refine wpQuiet_nil ?_
    intro wZ hwZ
    have BZ := Lib.hid hwZ
    have c35 := (Below.cell hwZ (p := ⟨X, 35, none⟩) C35.out.2).trans C35.out.1
    clear hwZ hex
    rcases HLOW.out with ⟨g1, g2, g3⟩ | ⟨t, Q, nx, g1, g2, g3, g4, g5, g6, g7, g8, g9⟩
    · subst g3
      have HE := Lib.hid (show (d : Int) * 1 = (r : Int) by have := HR.out; have := HD.out; omega)
      clear g1 g2
      go_wp2_with fail
      go_ret
      exact ⟨by rw [← HE.out]; first | rfl | simp, BZ.out⟩
    · subst g3
      obtain ⟨dq, hdq⟩ : ∃ d, d = 1 - nx := ⟨_, rfl⟩
      have CQ := LQ.out Q t nx g8 g6 wZ BZ.out
      rw [← hdq] at CQ
      have HE := Lib.hid (show (d : Int) * 1 + (dq : Int) = (r : Int) by have := HR.out; have := HD.out; have := HNN.out; omega)
      have e2 : IntKind.i64.wrap ((d : Int) * 1 + (dq : Int)) = (d : Int) * 1 + (dq : Int) := IntWalk.i64_in _ (by omega)
      have e2' : IntKind.i64.wrap ((d : Int) + (dq : Int)) = (d : Int) + (dq : Int) := IntWalk.i64_in _ (by omega)
      clear g1 g2 g4 g5 g6 g7 g8 g9 hdq
      go_wp2_with fail
      refine CQ.mono ?_; rintro e w2 ⟨rfl, hb2⟩
      have B2 := Lib.hid (BZ.out.trans (hb2.mono (Below.size BZ.out)))
      clear CQ hb2
      go_wp2_with fail
      go_ret
      exact ⟨by rw [← HE.out]; first | rfl | simp, B2.out⟩
  · have hd4 : d ≤ 2 := by have := HD.out; omega
    have e1 : IntKind.i64.wrap ((d : Int) * 2) = (d : Int) * 2 := IntWalk.i64_in _ (by omega)
    have e1' : IntKind.i64.wrap ((d : Int)) = (d : Int) := IntWalk.i64_in _ (by omega)
    go_enter Tryd.func29, Tryd.ntmps29
    go_upto_region 1 with fail
    have hex := inB_ex w.heap.size w
    refine wp_region_inB w.heap.size (by kernel_rfl) (by kernel_rfl) ?_
    repeat (first
      | (with_reducible refine quiet_pst rfl (.tmp 6) rfl ⟨X, 0, none⟩ (by kernel_rfl) (some ⟨P, 0, none⟩) FC0.out ?_ (by kernel_rfl); simp only [Act.put, List.setIfInBounds_toArray, List.set_cons_zero, List.set_cons_succ])
      | (with_reducible refine quiet_int rfl (.tmp 11) rfl ⟨X, 33, none⟩ (by kernel_rfl) (1) FC33.out ?_ (by kernel_rfl); simp only [Act.put, List.setIfInBounds_toArray, List.set_cons_zero, List.set_cons_succ])
      | go_big_quiet_step ((first | (intro hw'; exact LP.out _ hw') | (intro _; rfl))))
    refine wpQuiet_nil ?_
    intro wZ hwZ
    have BZ := Lib.hid hwZ
    have c35 := (Below.cell hwZ (p := ⟨X, 35, none⟩) C35.out.2).trans C35.out.1
    clear hwZ hex
    rcases HLOW.out with ⟨g1, g2, g3⟩ | ⟨t, Q, nx, g1, g2, g3, g4, g5, g6, g7, g8, g9⟩
    · subst g3
      have HE := Lib.hid (show (d : Int) * 2 = (r : Int) by have := HR.out; have := HD.out; omega)
      clear g1 g2
      go_wp2_with fail
      go_ret
      exact ⟨by rw [← HE.out]; first | rfl | simp, BZ.out⟩
    · subst g3
      obtain ⟨dq, hdq⟩ : ∃ d, d = 2 - nx := ⟨_, rfl⟩
      have CQ := LQ.out Q t nx g8 g6 wZ BZ.out
      rw [← hdq] at CQ
      have HE := Lib.hid (show (d : Int) * 2 + (dq : Int) = (r : Int) by have := HR.out; have := HD.out; have := HNN.out; omega)
      have e2 : IntKind.i64.wrap ((d : Int) * 2 + (dq : Int)) = (d : Int) * 2 + (dq : Int) := IntWalk.i64_in _ (by omega)
      have e2' : IntKind.i64.wrap ((d : Int) + (dq : Int)) = (d : Int) + (dq : Int) := IntWalk.i64_in _ (by omega)
      clear g1 g2 g4 g5 g6 g7 g8 g9 hdq
      go_wp2_with fail
      refine CQ.mono ?_; rintro e w2 ⟨rfl, hb2⟩
      have B2 := Lib.hid (BZ.out.trans (hb2.mono (Below.size BZ.out)))
      clear CQ hb2
      go_wp2_with fail
      go_ret
      exact ⟨by rw [← HE.out]; first | rfl | simp, B2.out⟩
  · have hd4 : d ≤ 4 := by have := HD.out; omega
    have e1 : IntKind.i64.wrap ((d : Int) * 4) = (d : Int) * 4 := IntWalk.i64_in _ (by omega)
    have e1' : IntKind.i64.wrap ((d : Int)) = (d : Int) := IntWalk.i64_in _ (by omega)
    go_enter Tryd.func29, Tryd.ntmps29
    go_upto_region 1 with fail
    have hex := inB_ex w.heap.size w
    refine wp_region_inB w.heap.size (by kernel_rfl) (by kernel_rfl) ?_
    repeat (first
      | (with_reducible refine quiet_pst rfl (.tmp 6) rfl ⟨X, 0, none⟩ (by kernel_rfl) (some ⟨P, 0, none⟩) FC0.out ?_ (by kernel_rfl); simp only [Act.put, List.setIfInBounds_toArray, List.set_cons_zero, List.set_cons_succ])
      | (with_reducible refine quiet_int rfl (.tmp 11) rfl ⟨X, 33, none⟩ (by kernel_rfl) (2) FC33.out ?_ (by kernel_rfl); simp only [Act.put, List.setIfInBounds_toArray, List.set_cons_zero, List.set_cons_succ])
      | go_big_quiet_step ((first | (intro hw'; exact LP.out _ hw') | (intro _; rfl))))
    refine wpQuiet_nil ?_
    intro wZ hwZ
    have BZ := Lib.hid hwZ
    have c35 := (Below.cell hwZ (p := ⟨X, 35, none⟩) C35.out.2).trans C35.out.1
    clear hwZ hex
    rcases HLOW.out with ⟨g1, g2, g3⟩ | ⟨t, Q, nx, g1, g2, g3, g4, g5, g6, g7, g8, g9⟩
    · subst g3
      have HE := Lib.hid (show (d : Int) * 4 = (r : Int) by have := HR.out; have := HD.out; omega)
      clear g1 g2
      go_wp2_with fail
      go_ret
      exact ⟨by rw [← HE.out]; first | rfl | simp, BZ.out⟩
    · subst g3
      obtain ⟨dq, hdq⟩ : ∃ d, d = 4 - nx := ⟨_, rfl⟩
      have CQ := LQ.out Q t nx g8 g6 wZ BZ.out
      rw [← hdq] at CQ
      have HE := Lib.hid (show (d : Int) * 4 + (dq : Int) = (r : Int) by have := HR.out; have := HD.out; have := HNN.out; omega)
      have e2 : IntKind.i64.wrap ((d : Int) * 4 + (dq : Int)) = (d : Int) * 4 + (dq : Int) := IntWalk.i64_in _ (by omega)
      have e2' : IntKind.i64.wrap ((d : Int) + (dq : Int)) = (d : Int) + (dq : Int) := IntWalk.i64_in _ (by omega)
      clear g1 g2 g4 g5 g6 g7 g8 g9 hdq
      go_wp2_with fail
      refine CQ.mono ?_; rintro e w2 ⟨rfl, hb2⟩
      have B2 := Lib.hid (BZ.out.trans (hb2.mono (Below.size BZ.out)))
      clear CQ hb2
      go_wp2_with fail
      go_ret
      exact ⟨by rw [← HE.out]; first | rfl | simp, B2.out⟩
end Go.Proofs.YtkioddmhjbaleaaDoor
