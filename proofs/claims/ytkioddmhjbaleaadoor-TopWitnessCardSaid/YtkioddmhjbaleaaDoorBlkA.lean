/- Walks: bits.RotateLeft32 at a place that is known, and sha.turned. -/
import Derived.Test.YtkioddmhjbaleaaDoorChecked
import Derived.Test.YtkioddmhjbaleaaDoorShaBase
import Derived.BigQuiet
import Derived.WalkSmall
import Derived.Deep.WholeRow
import Derived.StillTailTactics
namespace Go.Proofs.YtkioddmhjbaleaaDoor
open Go.RowKit
set_option linter.unusedVariables false
set_option linter.unusedSimpArgs false
theorem rot_place : ∀ n : Fin 32, 0 < n.val → bits .and .u64 (IntKind.u64.wrap (-(n.val : Int))) 31 = ((32 - n.val : Nat) : Int) := by decide +kernel
theorem Rot_calls (x : UInt32) (n : Nat) (h0 : 0 < n) (h : n < 32) (w : World) : Calls Tryd.prog 151 #[.int .u32 x.toNat, .int .i64 (-(n : Int))] w fun e w' => e = .returned (.int .u32 (rot x n).toNat) ∧ w = w' := by
  have he := rot_place ⟨n, h⟩ h0
  dsimp only at he
  obtain ⟨m, hm⟩ : ∃ m, m = 32 - n := ⟨_, rfl⟩
  rw [← hm] at he
  have hm0 : 0 < m := by omega
  have hm1 : m < 32 := by omega
  have m0 : (0 : Int) ≤ (m : Int) := by omega
  have m1 : (m : Int) ≤ 32 := by omega
  have n0 : (0 : Int) ≤ (n : Int) := by omega
  have n1 : (n : Int) ≤ 32 := by omega
  have hs : IntKind.u64.wrap (32 - (m : Int)) = (n : Int) := by rw [IntKind.wrap_u64]; omega
  have hs2 : (32 : Int) - (m : Int) = (n : Int) := by omega
  have RS := r_shl x m
  have RR := r_shr x n
  have RO := r_or (shl x m) (shr x n)
  have hfin : ou (shl x m) (shr x n) = rot x n := by rw [hm]; rfl
  have HF := Lib.hid hfin
  clear hfin hm
  go_enter Tryd.func151, Tryd.ntmps151
  go_wp2_with fail
  go_ret
  exact ⟨by rw [← HF.out]; rfl, rfl⟩
theorem turned_calls (x : UInt32) (a b c : Nat) (a0 : 0 < a) (a1 : a < 32) (b0 : 0 < b) (b1 : b < 32) (c0 : 0 < c) (c1 : c < 32) (w : World) :
    Calls Tryd.prog 152 #[.int .u32 x.toNat, .int .i64 a, .int .i64 b, .int .i64 c] w fun e w' => e = .returned (.int .u32 (turn3 x a b c).toNat) ∧ w = w' := by
  have RA := Rot_calls x a a0 a1
  have RB := Rot_calls x b b0 b1
  have RC := Rot_calls x c c0 c1
  have X1 := r_xor (rot x a) (rot x b)
  have X2 := r_xor (xr (rot x a) (rot x b)) (rot x c)
  have na : IntKind.i64.wrap (-(a : Int)) = -(a : Int) := IntWalk.i64_in _ (by omega)
  have nb : IntKind.i64.wrap (-(b : Int)) = -(b : Int) := IntWalk.i64_in _ (by omega)
  have nc : IntKind.i64.wrap (-(c : Int)) = -(c : Int) := IntWalk.i64_in _ (by omega)
  go_enter Tryd.func152, Tryd.ntmps152
  go_wp2_with fail
  refine (RA _).mono ?_; rintro e w' ⟨rfl, rfl⟩
  go_wp2_with fail
  refine (RB _).mono ?_; rintro e w' ⟨rfl, rfl⟩
  go_wp2_with fail
  refine (RC _).mono ?_; rintro e w' ⟨rfl, rfl⟩
  go_wp2_with fail
  go_ret
  exact ⟨rfl, rfl⟩
end Go.Proofs.YtkioddmhjbaleaaDoor
/- The state of eight words as a value: loads, stores, one word of a row. It says nothing of what the program does. -/
namespace Go.Proofs.YtkioddmhjbaleaaDoor
open Go.RowKit
set_option linter.unusedVariables false
theorem info_st (l : List UInt32) (h : l.length = 8) : (Tryd.prog.info? 203).map (·.size) = some (rW l).size := by rw [rW_size, h]; kernel_rfl
theorem info_64 (l : List UInt32) (h : l.length = 64) : (Tryd.prog.info? 233).map (·.size) = some (rW l).size := by rw [rW_size, h]; kernel_rfl
theorem rangeW {w : World} {B : Nat} {l : List UInt32} {t : TypeId} {fr : Nat × Nat} (h : w.heap[B]? = some (.cells (rW l) t fr)) : w.rangeAt B 0 (l.map vW) := by
  intro j v hj
  rw [Nat.zero_add, cell_of_row w B j _ t fr h]
  unfold rW
  simpa using hj
theorem run_index_st {l : List UInt32} (h : l.length = 8) {k : Nat} (hk : k < 8) (w : World) : (Instr.index 203 (.agg (rW l)) (.int .i64 (k : Int))).run Tryd.prog w = .ok (.int .u32 (g l k).toNat) w := by
  have hs : ∀ w, (sizeOf 201).run Tryd.prog w = .ok 1 w := fun w => by kernel_rfl
  have ha : ∀ w, (isAgg 201).run Tryd.prog w = .ok false w := fun w => by kernel_rfl
  have hg := rW_get l k (by omega)
  simp [Instr.index, asIntOf, run_underlying Tryd.underlying203, go_sem, hk, hs, ha, part, hg]
theorem run_index_64 {l : List UInt32} (h : l.length = 64) {k : Nat} (hk : k < 64) (w : World) : (Instr.index 233 (.agg (rW l)) (.int .i64 (k : Int))).run Tryd.prog w = .ok (.int .u32 (g l k).toNat) w := by
  have hs : ∀ w, (sizeOf 201).run Tryd.prog w = .ok 1 w := fun w => by kernel_rfl
  have ha : ∀ w, (isAgg 201).run Tryd.prog w = .ok false w := fun w => by kernel_rfl
  have hg := rW_get l k (by omega)
  simp [Instr.index, asIntOf, run_underlying Tryd.underlying233, go_sem, hk, hs, ha, part, hg]
section
variable {ops : Array Oper} {rest : List Oper} {op : Oper} {a : Act} {w : World} {Q : Exit → Act → World → Prop}
theorem ld_st (hgd : op.guard = none) (x : Operand) (ho : op.op = .load 203 x) (b o : Nat) (hx : a.eval x = .pointer (some ⟨b, o, none⟩)) (l : List UInt32) (hl : l.length = 8) (hc : w.rangeAt b o (l.map vW))
    (h : wpList Tryd.prog ops Q rest (a.put op.dst (.agg (rW l))) w) : wpList Tryd.prog ops Q (op :: rest) a w :=
  wpList_load_mid hgd _ x ho b o hx (l.map vW) _ hc Tryd.underlying203 rfl (by have := info_st l hl; rw [rW_size] at this; rw [List.length_map]; exact this) h
theorem ld_64 (hgd : op.guard = none) (x : Operand) (ho : op.op = .load 233 x) (b o : Nat) (hx : a.eval x = .pointer (some ⟨b, o, none⟩)) (l : List UInt32) (hl : l.length = 64) (hc : w.rangeAt b o (l.map vW))
    (h : wpList Tryd.prog ops Q rest (a.put op.dst (.agg (rW l))) w) : wpList Tryd.prog ops Q (op :: rest) a w :=
  wpList_load_mid hgd _ x ho b o hx (l.map vW) _ hc Tryd.underlying233 rfl (by have := info_64 l hl; rw [rW_size] at this; rw [List.length_map]; exact this) h
theorem st_st (hgd : op.guard = none) (x y : Operand) (ho : op.op = .store 203 x y) (B : Nat) (l : List UInt32) (hl : l.length = 8) (hx : a.eval x = .pointer (some ⟨B, 0, none⟩)) (hy : a.eval y = .agg (rW l)) (old : Array Value) (hold : old.size = 8) (t : TypeId) (hg : w.heap[B]? = some (.cells old t (0, 0)))
    (h : wpList Tryd.prog ops Q rest (a.put op.dst undef) (w.setRow B (rW l))) : wpList Tryd.prog ops Q (op :: rest) a w :=
  wpList_store_row hgd _ x y ho B (rW l) hx hy t old hg (info_st l hl) (by rw [rW_size, hl, hold]) (rW_one l) h
theorem st_stNew (hgd : op.guard = none) (x y : Operand) (ho : op.op = .store 203 x y) (l : List UInt32) (hl : l.length = 8) (hy : a.eval y = .agg (rW l)) (Z : Array Value) (t : TypeId) (hZ : Z.size = 8) (hx : a.eval x = .pointer (some ⟨w.heap.size, 0, none⟩))
    (h : wpList Tryd.prog ops Q rest (a.put op.dst undef) (w.alloc (.cells (rW l) t))) : wpList Tryd.prog ops Q (op :: rest) a (w.alloc (.cells Z t)) :=
  st_st hgd x y ho w.heap.size l hl hx hy Z hZ t (heap_alloc_new w _) (by rw [World.setRow_alloc_new]; exact h)
end
theorem st_load {l : List UInt32} (hl : l.length = 8) {w : World} {b o : Nat} (hr : w.rangeAt b o (l.map vW)) : (loadVar 203 ⟨b, o, none⟩).run Tryd.prog w = .ok (.agg (rW l)) w :=
  run_loadVar_mid w b o _ (l.map vW) _ hr Tryd.underlying203 rfl (by have := info_st l hl; rw [rW_size] at this; rw [List.length_map]; exact this)
end Go.Proofs.YtkioddmhjbaleaaDoor
/- Walk: a block of 64 bytes taken into the state. -/
namespace Go.Proofs.YtkioddmhjbaleaaDoor
open Go.RowKit
set_option linter.unusedVariables false
set_option linter.unusedSimpArgs false
/-- what is added in each round, where it lies -/
def RoundsAt (w : World) : Prop := ∃ t fr, w.heap[1]? = some (.cells (rW rk64) t fr)
theorem z8 : (#[.int .u32 0, .int .u32 0, .int .u32 0, .int .u32 0, .int .u32 0, .int .u32 0, .int .u32 0, .int .u32 0] : Array Value) = rW (List.replicate 8 0) := by kernel_rfl
theorem z64 : (#[.int .u32 0, .int .u32 0, .int .u32 0, .int .u32 0, .int .u32 0, .int .u32 0, .int .u32 0, .int .u32 0, .int .u32 0, .int .u32 0, .int .u32 0, .int .u32 0, .int .u32 0, .int .u32 0, .int .u32 0, .int .u32 0, .int .u32 0, .int .u32 0, .int .u32 0, .int .u32 0, .int .u32 0, .int .u32 0, .int .u32 0, .int .u32 0, .int .u32 0, .int .u32 0, .int .u32 0, .int .u32 0, .int .u32 0, .int .u32 0, .int .u32 0, .int .u32 0, .int .u32 0, .int .u32 0, .int .u32 0, .int .u32 0, .int .u32 0, .int .u32 0, .int .u32 0, .int .u32 0, .int .u32 0, .int .u32 0, .int .u32 0, .int .u32 0, .int .u32 0, .int .u32 0, .int .u32 0, .int .u32 0, .int .u32 0, .int .u32 0, .int .u32 0, .int .u32 0, .int .u32 0, .int .u32 0, .int .u32 0, .int .u32 0, .int .u32 0, .int .u32 0, .int .u32 0, .int .u32 0, .int .u32 0, .int .u32 0, .int .u32 0, .int .u32 0] : Array Value) = rW (List.replicate 64 0) := by kernel_rfl

set_option maxRecDepth 100000 in
set_option maxHeartbeats 8000000 in
theorem Block_calls (s : List UInt32) (hs : s.length = 8) (b : List UInt8) (hb64 : 64 ≤ b.length) (a : Option Addr) (cap e : Nat) (w : World) (hr : Rd w a e (b.map vB)) (hl : b.length ≤ 9223372036854775807) (hro : RoundsAt w) (hgs : 1 < w.heap.size) :
    Calls Tryd.prog 134 #[.agg (rW s), .slice a b.length cap] w fun e w' => e = .returned (.agg (rW (blk s b))) ∧ Below w.heap.size w w' := by
  obtain ⟨H, hH⟩ : ∃ H, H = w.heap.size := ⟨_, rfl⟩
  obtain ⟨w3, hw3⟩ : ∃ w3, w3 = (((w.alloc (.cells (rW s) 203)).alloc (.cells (rW (List.replicate 8 0)) 203)).alloc (.cells (rW (List.replicate 64 0)) 233)) := ⟨_, rfl⟩
  have q1 : (w.alloc (.cells (rW s) 203)).heap.size = H + 1 := by rw [hH]; exact World.size_alloc _ _
  have q2 : ((w.alloc (.cells (rW s) 203)).alloc (.cells (rW (List.replicate 8 0)) 203)).heap.size = H + 2 := by rw [World.size_alloc, q1]
  have q3 : w3.heap.size = H + 3 := by rw [hw3, World.size_alloc, q2]
  have b1 : Below H w (w.alloc (.cells (rW s) 203)) := (Below.refl _ _).alloc (by omega) _
  have b2 : Below H w ((w.alloc (.cells (rW s) 203)).alloc (.cells (rW (List.replicate 8 0)) 203)) := b1.alloc (by omega) _
  have b3 : Below H w w3 := by rw [hw3]; exact b2.alloc (by omega) _
  have f1 : w3.heap[H]? = some (.cells (rW s) 203 (0, 0)) := by
    rw [hw3]
    refine (Below.heap_alloc _ _ _ (by omega)).trans ((Below.heap_alloc _ _ _ (by omega)).trans ?_)
    rw [hH]; exact heap_alloc_new w _
  have f2 : w3.heap[H + 1]? = some (.cells (rW (List.replicate 8 0)) 203 (0, 0)) := by
    rw [hw3]
    refine (Below.heap_alloc _ _ _ (by omega)).trans ?_
    rw [← q1]; exact heap_alloc_new _ _
  have f3 : w3.heap[H + 2]? = some (.cells (rW (List.replicate 64 0)) 233 (0, 0)) := by
    rw [hw3, ← q2]; exact heap_alloc_new _ _
  have F1 := Lib.hid f1
  have F2 := Lib.hid f2
  have F3 := Lib.hid f3
  have B3 := Lib.hid b3
  have HW3 := Lib.hid hw3
  have HH := Lib.hid hH
  have HS := Lib.hid hs
  have Q3 := Lib.hid q3
  have HRO := Lib.hid hro
  clear b1 b2 b3 f1 f2 f3 q1 q2 q3 hw3 hs hro
  go_enter Tryd.func134, Tryd.ntmps134
  go_wp2_with fail
  rw [z8, z64, ← HW3.out, ← HH.out]
  clear hH
  obtain ⟨P, hP⟩ : ∃ P, P = H + 1 + 1 := ⟨_, rfl⟩
  obtain ⟨R, hR⟩ : ∃ R, R = H + 1 := ⟨_, rfl⟩
  rw [← hP, ← hR]
  have F2 : Hid (w3.heap[R]? = some (.cells (rW (List.replicate 8 0)) 203 (0, 0))) := Lib.hid (by rw [hR]; exact F2.out)
  have F3 : Hid (w3.heap[P]? = some (.cells (rW (List.replicate 64 0)) 233 (0, 0))) := Lib.hid (by rw [hP]; exact F3.out)
  have hHR : H < R := by omega
  have hRP : R < P := by omega
  have HP := Lib.hid hP
  have HR := Lib.hid hR
  clear hP hR
  go_loopw [20] (fun i wr => ∃ (k : Nat) (l : List UInt32), k ≤ 16 ∧ i = .int .i64 k ∧ l.length = 64 ∧ (∀ i, i < k → g l i = wOf b i) ∧ wr.heap[P]? = some (.cells (rW l) 233 (0, 0)) ∧ Below P w3 wr) (fun i _ => 16 - (intOf i).toNat)
  case atStart => exact ⟨0, List.replicate 64 0, Nat.zero_le _, rfl, rfl, fun i hi => by omega, F3.out, Below.refl _ _⟩
  case round =>
    obtain ⟨k, l, hk, rfl, hll, hlw, hhw, hbl⟩ := hrel
    by_cases hlt : k < 16
    · have hrw : Rd wr a e (b.map vB) := hr.below (by rw [← HH.out]; exact B3.out.trans (hbl.mono (by omega)))
      obtain ⟨ba, oa, hBa, _, hca⟩ := hrw.bytes (k := 4 * k) (by omega)
      obtain rfl := hBa
      have c0 := hca (4 * k) (by omega)
      have c1 := hca (4 * k + 1) (by omega)
      have c2 := hca (4 * k + 2) (by omega)
      have c3 := hca (4 * k + 3) (by omega)
      obtain ⟨y0, hy0⟩ : ∃ y, y = b[4 * k]'(by omega) := ⟨_, rfl⟩
      obtain ⟨y1, hy1⟩ : ∃ y, y = b[4 * k + 1]'(by omega) := ⟨_, rfl⟩
      obtain ⟨y2, hy2⟩ : ∃ y, y = b[4 * k + 2]'(by omega) := ⟨_, rfl⟩
      obtain ⟨y3, hy3⟩ : ∃ y, y = b[4 * k + 3]'(by omega) := ⟨_, rfl⟩
      rw [← hy0] at c0
      rw [← hy1] at c1
      rw [← hy2] at c2
      rw [← hy3] at c3
      have hword : wOf b k = ou (ou (ou (shl (wb y0) 24) (shl (wb y1) 16)) (shl (wb y2) 8)) (wb y3) := by
        rw [wOf_first b k hlt, hy0, hy1, hy2, hy3]
        unfold word
        simp only [List.getD_eq_getElem?_getD, List.getElem?_eq_getElem (show 4 * k < b.length by omega), List.getElem?_eq_getElem (show 4 * k + 1 < b.length by omega), List.getElem?_eq_getElem (show 4 * k + 2 < b.length by omega), List.getElem?_eq_getElem (show 4 * k + 3 < b.length by omega), Option.getD_some]
      have cw := cellW hhw k (by omega)
      have cf := frozenW hhw k
      have HW := Lib.hid hword
      have HLW := Lib.hid hlw
      have HLL := Lib.hid hll
      have HHW := Lib.hid hhw
      have HBL := Lib.hid hbl
      have k0 : (0 : Int) ≤ (k : Int) := by omega
      have k1 : (k : Int) < 16 := by omega
      have k64 : k < 64 := by omega
      have l1 : 4 * k < b.length := by omega
      have l2 : 4 * k + 1 < b.length := by omega
      have l3 : 4 * k + 2 < b.length := by omega
      have l4 : 4 * k + 3 < b.length := by omega
      have m0 : IntKind.i64.wrap (4 * (k : Int)) = 4 * (k : Int) := IntWalk.i64_in _ (by omega)
      have p0 : (0 : Int) ≤ 4 * (k : Int) := by omega
      have q0 : 4 * (k : Int) < (b.length : Int) := by omega
      have t0 : (4 * (k : Int)).toNat = 4 * k := by omega
      have m1 : IntKind.i64.wrap (4 * (k : Int) + 1) = 4 * (k : Int) + 1 := IntWalk.i64_in _ (by omega)
      have p1 : (0 : Int) ≤ 4 * (k : Int) + 1 := by omega
      have q1 : 4 * (k : Int) + 1 < (b.length : Int) := by omega
      have t1 : (4 * (k : Int) + 1).toNat = 4 * k + 1 := by omega
      have m2 : IntKind.i64.wrap (4 * (k : Int) + 2) = 4 * (k : Int) + 2 := IntWalk.i64_in _ (by omega)
      have p2 : (0 : Int) ≤ 4 * (k : Int) + 2 := by omega
      have q2 : 4 * (k : Int) + 2 < (b.length : Int) := by omega
      have t2 : (4 * (k : Int) + 2).toNat = 4 * k + 2 := by omega
      have m3 : IntKind.i64.wrap (4 * (k : Int) + 3) = 4 * (k : Int) + 3 := IntWalk.i64_in _ (by omega)
      have p3 : (0 : Int) ≤ 4 * (k : Int) + 3 := by omega
      have q3 : 4 * (k : Int) + 3 < (b.length : Int) := by omega
      have t3 : (4 * (k : Int) + 3).toNat = 4 * k + 3 := by omega
      have v0 : IntKind.u32.wrap (y0.toNat : Int) = ((wb y0).toNat : Int) := by rw [wb_toNat]; exact IntWalk.u32_in _ (by have := y0.toNat_lt; omega)
      have x0 : IntKind.u32.wrap (((wb y0).toNat : Int) * 16777216) = ((shl (wb y0) 24).toNat : Int) := r_shl (wb y0) 24
      have v1 : IntKind.u32.wrap (y1.toNat : Int) = ((wb y1).toNat : Int) := by rw [wb_toNat]; exact IntWalk.u32_in _ (by have := y1.toNat_lt; omega)
      have x1 : IntKind.u32.wrap (((wb y1).toNat : Int) * 65536) = ((shl (wb y1) 16).toNat : Int) := r_shl (wb y1) 16
      have v2 : IntKind.u32.wrap (y2.toNat : Int) = ((wb y2).toNat : Int) := by rw [wb_toNat]; exact IntWalk.u32_in _ (by have := y2.toNat_lt; omega)
      have x2 : IntKind.u32.wrap (((wb y2).toNat : Int) * 256) = ((shl (wb y2) 8).toNat : Int) := r_shl (wb y2) 8
      have v3 : IntKind.u32.wrap (y3.toNat : Int) = ((wb y3).toNat : Int) := by rw [wb_toNat]; exact IntWalk.u32_in _ (by have := y3.toNat_lt; omega)
      have o1 := r_or (shl (wb y0) 24) (shl (wb y1) 16)
      have o2 := r_or (ou (shl (wb y0) 24) (shl (wb y1) 16)) (shl (wb y2) 8)
      have o3 := r_or (ou (ou (shl (wb y0) 24) (shl (wb y1) 16)) (shl (wb y2) 8)) (wb y3)
      rw [← hword] at o3
      have k64i : (k : Int) < 64 := by omega
      clear hword hlw hll hhw hbl hrw hca hr hy0 hy1 hy2 hy3
      go_wp2_with fail
      refine wp_region_still_tail 35 (by kernel_rfl) (by kernel_rfl) ?_
      simp only [List.take_succ_cons, List.take_zero, List.drop_succ_cons, List.drop_zero]
      repeat still_step
      refine wpStill_nil ?_
      change wpList _ _ _ _ _ wr.drew
      clear o1 o2 o3 x0 x1 x2 v0 v1 v2 v3 m0 m1 m2 m3 p0 p1 p2 p3 q0 q1 q2 q3 t0 t1 t2 t3 c0 c1 c2 c3
      go_wp2_with fail
      go_roundw
      case rel => exact ⟨k + 1, l.set k (wOf b k), by omega, by go_num, by rw [List.length_set]; exact HLL.out, fun i hi => by rw [g_set _ _ _ _ (by rw [HLL.out]; omega)]; split; (rename_i h; rw [h]); exact HLW.out i (by omega), setW (w := wr.drew) HHW.out k _, (HBL.out.drew).setCell (Nat.le_refl _) _⟩
      case measure => simp [intOf] <;> omega
    · obtain rfl : k = 16 := by omega
      rw [show (((16 : Nat) : Int)) = (16 : Int) from rfl]
      clear hlt hk
      have HHW := Lib.hid hhw
      have HLW := Lib.hid hlw
      have HLL := Lib.hid hll
      have HBL := Lib.hid hbl
      clear hhw hlw hll hbl
      go_wp2_with fail
      go_loopw [7] (fun i wr => ∃ (k : Nat) (l : List UInt32), 16 ≤ k ∧ k ≤ 64 ∧ i = .int .i64 k ∧ l.length = 64 ∧ (∀ i, i < k → g l i = wOf b i) ∧ wr.heap[P]? = some (.cells (rW l) 233 (0, 0)) ∧ Below P w3 wr) (fun i _ => 64 - (intOf i).toNat)
      case atStart => exact ⟨16, l, by omega, by omega, rfl, HLL.out, HLW.out, HHW.out, HBL.out⟩
      case round =>
        clear HHW HLW HLL HBL
        obtain ⟨k, l, hk16, hk, rfl, hll, hlw, hhw, hbl⟩ := hrel
        by_cases hlt : k < 64
        · have hword := wOf_next b k hk16 hlt
          have d15 := cellW hhw (k - 15) (by omega)
          rw [hlw (k - 15) (by omega)] at d15
          obtain ⟨X15, hX15⟩ : ∃ x, x = wOf b (k - 15) := ⟨_, rfl⟩
          rw [← hX15] at d15 hword
          have m15 : IntKind.i64.wrap ((k : Int) - 15) = (k : Int) - 15 := IntWalk.i64_in _ (by omega)
          have p15 : (0 : Int) ≤ (k : Int) - 15 := by omega
          have p_15 : (15 : Int) ≤ (k : Int) := by omega
          have q15 : (k : Int) - 15 < 64 := by omega
          have t15 : ((k : Int) - 15).toNat = k - 15 := by omega
          have d2 := cellW hhw (k - 2) (by omega)
          rw [hlw (k - 2) (by omega)] at d2
          obtain ⟨X2, hX2⟩ : ∃ x, x = wOf b (k - 2) := ⟨_, rfl⟩
          rw [← hX2] at d2 hword
          have m2 : IntKind.i64.wrap ((k : Int) - 2) = (k : Int) - 2 := IntWalk.i64_in _ (by omega)
          have p2 : (0 : Int) ≤ (k : Int) - 2 := by omega
          have p_2 : (2 : Int) ≤ (k : Int) := by omega
          have q2 : (k : Int) - 2 < 64 := by omega
          have t2 : ((k : Int) - 2).toNat = k - 2 := by omega
          have d7 := cellW hhw (k - 7) (by omega)
          rw [hlw (k - 7) (by omega)] at d7
          obtain ⟨X7, hX7⟩ : ∃ x, x = wOf b (k - 7) := ⟨_, rfl⟩
          rw [← hX7] at d7 hword
          have m7 : IntKind.i64.wrap ((k : Int) - 7) = (k : Int) - 7 := IntWalk.i64_in _ (by omega)
          have p7 : (0 : Int) ≤ (k : Int) - 7 := by omega
          have p_7 : (7 : Int) ≤ (k : Int) := by omega
          have q7 : (k : Int) - 7 < 64 := by omega
          have t7 : ((k : Int) - 7).toNat = k - 7 := by omega
          have d16 := cellW hhw (k - 16) (by omega)
          rw [hlw (k - 16) (by omega)] at d16
          obtain ⟨X16, hX16⟩ : ∃ x, x = wOf b (k - 16) := ⟨_, rfl⟩
          rw [← hX16] at d16 hword
          have m16 : IntKind.i64.wrap ((k : Int) - 16) = (k : Int) - 16 := IntWalk.i64_in _ (by omega)
          have p16 : (0 : Int) ≤ (k : Int) - 16 := by omega
          have p_16 : (16 : Int) ≤ (k : Int) := by omega
          have q16 : (k : Int) - 16 < 64 := by omega
          have t16 : ((k : Int) - 16).toNat = k - 16 := by omega
          have cw := cellW hhw k (by omega)
          have cf := frozenW hhw k
          have R7 : ∀ w, Calls Tryd.prog 151 #[.int .u32 X15.toNat, .int .i64 (-7)] w fun e w' => e = .returned (.int .u32 (rot X15 7).toNat) ∧ w = w' := Rot_calls X15 7 (by omega) (by omega)
          have R18 : ∀ w, Calls Tryd.prog 151 #[.int .u32 X15.toNat, .int .i64 (-18)] w fun e w' => e = .returned (.int .u32 (rot X15 18).toNat) ∧ w = w' := Rot_calls X15 18 (by omega) (by omega)
          have R17 : ∀ w, Calls Tryd.prog 151 #[.int .u32 X2.toNat, .int .i64 (-17)] w fun e w' => e = .returned (.int .u32 (rot X2 17).toNat) ∧ w = w' := Rot_calls X2 17 (by omega) (by omega)
          have R19 : ∀ w, Calls Tryd.prog 151 #[.int .u32 X2.toNat, .int .i64 (-19)] w fun e w' => e = .returned (.int .u32 (rot X2 19).toNat) ∧ w = w' := Rot_calls X2 19 (by omega) (by omega)
          have o1 := r_xor (rot X15 7) (rot X15 18)
          have o2 : (X15.toNat : Int) / 8 = ((shr X15 3).toNat : Int) := r_shr X15 3
          have o3 : bits .xor .u32 ((xr (rot X15 7) (rot X15 18)).toNat : Int) ((shr X15 3).toNat : Int) = ((s0 X15).toNat : Int) := r_xor _ _
          have o4 := r_xor (rot X2 17) (rot X2 19)
          have o5 : (X2.toNat : Int) / 1024 = ((shr X2 10).toNat : Int) := r_shr X2 10
          have o6 : bits .xor .u32 ((xr (rot X2 17) (rot X2 19)).toNat : Int) ((shr X2 10).toNat : Int) = ((s1 X2).toNat : Int) := r_xor _ _
          have a1 := r_add (s1 X2) X7
          have a2 := r_add (ad (s1 X2) X7) (s0 X15)
          have a3 := r_add (ad (ad (s1 X2) X7) (s0 X15)) X16
          rw [← hword] at a3
          have HW := Lib.hid hword
          have HLW := Lib.hid hlw
          have HLL := Lib.hid hll
          have HHW := Lib.hid hhw
          have HBL := Lib.hid hbl
          have k0 : (0 : Int) ≤ (k : Int) := by omega
          have k64i : (k : Int) < 64 := by omega
          clear hword hlw hll hhw hbl hX15 hX2 hX7 hX16
          go_wp2_with fail
          go_quiet (fail)
          obtain ⟨wq, hwq⟩ : ∃ wq, wq = wr.drewN nq := ⟨_, rfl⟩
          have e7 : wq.cell? ⟨P, k - 7, none⟩ = some (.int .u32 X7.toNat) := by rw [hwq]; exact d7
          have e16 : wq.cell? ⟨P, k - 16, none⟩ = some (.int .u32 X16.toNat) := by rw [hwq]; exact d16
          have ew : wq.cell? ⟨P, k, none⟩ = some (.int .u32 (g l k).toNat) := by rw [hwq]; exact cw
          have ef : wq.frozen? ⟨P, k, none⟩ = false := by rw [hwq]; exact cf
          have HHQ := Lib.hid (show wq.heap[P]? = some (.cells (rW l) 233 (0, 0)) by rw [hwq]; exact HHW.out)
          have HBQ := Lib.hid (show Below P w3 wq by rw [hwq]; exact below_drewN HBL.out nq)
          rw [← hwq]
          clear hwq HHW HBL d15 d2 d7 d16 cw cf
          go_wp2_with fail
          refine (R7 _).mono ?_; rintro e w' ⟨rfl, rfl⟩
          go_wp2_with fail
          refine (R18 _).mono ?_; rintro e w' ⟨rfl, rfl⟩
          go_wp2_with fail
          refine (R17 _).mono ?_; rintro e w' ⟨rfl, rfl⟩
          go_wp2_with fail
          refine (R19 _).mono ?_; rintro e w' ⟨rfl, rfl⟩
          clear R7 R18 R17 R19
          go_wp2_with fail
          refine wp_region_still_tail 15 (by kernel_rfl) (by kernel_rfl) ?_
          simp only [List.take_succ_cons, List.take_zero, List.drop_succ_cons, List.drop_zero]
          repeat still_step
          refine wpStill_nil ?_
          change wpList _ _ _ _ _ wq.drew
          clear o1 o2 o3 o4 o5 o6 a1 a2 a3 m15 m2 m7 m16 p15 p2 p7 p16 p_15 p_2 p_7 p_16 q15 q2 q7 q16 t15 t2 t7 t16 e7 e16
          go_wp2_with fail
          go_roundw
          case rel => exact ⟨k + 1, l.set k (wOf b k), by omega, by omega, by go_num, by rw [List.length_set]; exact HLL.out, fun i hi => by rw [g_set _ _ _ _ (by rw [HLL.out]; omega)]; split; (rename_i h; rw [h]); exact HLW.out i (by omega), setW (w := wq.drew) HHQ.out k _, HBQ.out.drew.setCell (Nat.le_refl _) _⟩
          case measure => simp [intOf] <;> omega
        · obtain rfl : k = 64 := by omega
          rw [show (((64 : Nat) : Int)) = (64 : Int) from rfl]
          clear hlt hk hk16
          obtain ⟨V, hV⟩ : ∃ V, V = wr.heap.size := ⟨_, rfl⟩
          obtain ⟨w5, hw5⟩ : ∃ w5, w5 = wr.alloc (.cells (rW s) 203) := ⟨_, rfl⟩
          have hPV : P < V := by rw [hV]; exact lt_of_heap hhw
          have hg5 : w5.heap[V]? = some (.cells (rW s) 203 (0, 0)) := by rw [hw5, hV]; exact heap_alloc_new _ _
          have hb5 : Below V wr w5 := by rw [hw5, hV]; exact (Below.refl _ _).alloc (Nat.le_refl _) _
          have hb35 : Below P w3 w5 := hbl.trans (hb5.mono (by omega))
          have hhw5 : w5.heap[P]? = some (.cells (rW l) 233 (0, 0)) := (hb5.block P hPV).trans hhw
          have hsw : wr.heap[H]? = some (.cells (rW s) 203 (0, 0)) := (hbl.block H (by omega)).trans F1.out
          obtain ⟨trd, frd, hrd⟩ := HRO.out
          have hrd5 : wr.heap[1]? = some (.cells (rW rk64) trd frd) := (hbl.block _ (by rw [HH.out] at hHR; omega)).trans ((B3.out.block _ (by rw [HH.out]; exact hgs)).trans hrd)
          have HSW := Lib.hid hsw
          have HRD := Lib.hid hrd5
          have HG5 := Lib.hid hg5
          have HB5 := Lib.hid hb5
          have HB35 := Lib.hid hb35
          have HH5 := Lib.hid hhw5
          have HLW := Lib.hid hlw
          have HLL := Lib.hid hll
          have HW5 := Lib.hid hw5
          have HV := Lib.hid hV
          have hrk : rk64.length = 64 := by rfl
          have HRK := Lib.hid hrk
          have IX := fun (k : Nat) (hk : k < 64) (w : World) => run_index_64 hrk hk w
          clear hg5 hb5 hb35 hhw5 hsw hrd hrd5 hlw hll hhw hbl hw5 hrk hV
          go_wp2_with (first
            | (refine ld_st rfl (.tmp 2) rfl H 0 (by rfl) s HS.out (rangeW HSW.out) ?_)
            | (refine st_stNew rfl (.tmp 12) (.tmp 102) rfl s HS.out (by rfl) _ _ (by rfl) (by rfl) ?_; rw [← HW5.out])
            | (refine ld_64 rfl (.global 1) rfl 1 0 (by rfl) rk64 HRK.out (rangeW (show w5.heap[1]? = _ from (HB5.out.block _ (by rw [HH.out] at hHR; omega)).trans HRD.out)) ?_))
          rw [← HV.out]
          go_loopw [104] (fun i wr => ∃ k : Nat, k ≤ 64 ∧ i = .int .i64 k ∧ wr.heap[V]? = some (.cells (rW (rnds s l k)) 203 (0, 0)) ∧ Below V w5 wr) (fun i _ => 64 - (intOf i).toNat)
          case atStart => exact ⟨0, by omega, rfl, HG5.out, Below.refl _ _⟩
          case round =>
            obtain ⟨k, hk, rfl, hvv, hbl⟩ := hrel
            by_cases hlt : k < 64
            · have hvl : (rnds s l k).length = 8 := rnds_length s l HS.out k
              have hnx : rnds s l (k + 1) = rnd (rnds s l k) (g rk64 k) (g l k) := rfl
              obtain ⟨v, hv⟩ : ∃ v, v = rnds s l k := ⟨_, rfl⟩
              rw [← hv] at hvv hvl hnx
              have HVwr := Lib.hid hvv
              have HBwr := Lib.hid hbl
              have HPwr := Lib.hid ((hbl.block P hPV).trans HH5.out)
              have Hvl := Lib.hid hvl
              have HNX := Lib.hid hnx
              have ix := IX k hlt
              have T1 : ∀ w, Calls Tryd.prog 152 #[.int .u32 (g v 4).toNat, .int .i64 6, .int .i64 11, .int .i64 25] w fun e w' => e = .returned (.int .u32 (turn3 (g v 4) 6 11 25).toNat) ∧ w = w' := turned_calls (g v 4) 6 11 25 (by omega) (by omega) (by omega) (by omega) (by omega) (by omega)
              have T2 : ∀ w, Calls Tryd.prog 152 #[.int .u32 (g v 0).toNat, .int .i64 2, .int .i64 13, .int .i64 22] w fun e w' => e = .returned (.int .u32 (turn3 (g v 0) 2 13 22).toNat) ∧ w = w' := turned_calls (g v 0) 2 13 22 (by omega) (by omega) (by omega) (by omega) (by omega) (by omega)
              have o1 := r_add (g v 7) (turn3 (g v 4) 6 11 25)
              have o2 := r_and (g v 4) (g v 5)
              have o3 := r_com (g v 4)
              have o4 := r_and (nt (g v 4)) (g v 6)
              have o5 := r_xor (an (g v 4) (g v 5)) (an (nt (g v 4)) (g v 6))
              have o6 := r_add (ad (g v 7) (turn3 (g v 4) 6 11 25)) (xr (an (g v 4) (g v 5)) (an (nt (g v 4)) (g v 6)))
              have o7 := r_add (ad (ad (g v 7) (turn3 (g v 4) 6 11 25)) (xr (an (g v 4) (g v 5)) (an (nt (g v 4)) (g v 6)))) (g rk64 k)
              have o8 : IntKind.u32.wrap (((ad (ad (ad (g v 7) (turn3 (g v 4) 6 11 25)) (xr (an (g v 4) (g v 5)) (an (nt (g v 4)) (g v 6)))) (g rk64 k)).toNat : Int) + ((g l k).toNat : Int)) = ((pOf v (g rk64 k) (g l k)).toNat : Int) := r_add _ _
              have o9 := r_and (g v 0) (g v 1)
              have o10 := r_and (g v 0) (g v 2)
              have o11 := r_xor (an (g v 0) (g v 1)) (an (g v 0) (g v 2))
              have o12 := r_and (g v 1) (g v 2)
              have o13 := r_xor (xr (an (g v 0) (g v 1)) (an (g v 0) (g v 2))) (an (g v 1) (g v 2))
              have o14 : IntKind.u32.wrap (((turn3 (g v 0) 2 13 22).toNat : Int) + ((xr (xr (an (g v 0) (g v 1)) (an (g v 0) (g v 2))) (an (g v 1) (g v 2))).toNat : Int)) = ((qOf v).toNat : Int) := r_add _ _
              have o15 := r_add (pOf v (g rk64 k) (g l k)) (qOf v)
              have o16 := r_add (g v 3) (pOf v (g rk64 k) (g l k))
              have k0 : (0 : Int) ≤ (k : Int) := by omega
              have k64i : (k : Int) < 64 := by omega
              clear hvv hbl hvl hv hnx
              have c0 := cellW HVwr.out 0 (by rw [Hvl.out]; omega)
              have c1 := cellW HVwr.out 1 (by rw [Hvl.out]; omega)
              have c2 := cellW HVwr.out 2 (by rw [Hvl.out]; omega)
              have c3 := cellW HVwr.out 3 (by rw [Hvl.out]; omega)
              have c4 := cellW HVwr.out 4 (by rw [Hvl.out]; omega)
              have c5 := cellW HVwr.out 5 (by rw [Hvl.out]; omega)
              have c6 := cellW HVwr.out 6 (by rw [Hvl.out]; omega)
              have c7 := cellW HVwr.out 7 (by rw [Hvl.out]; omega)
              have cp := cellW HPwr.out k (by rw [HLL.out]; omega)
              go_wp2_with fail
              go_quiet (fail)
              obtain ⟨wa, hwa⟩ : ∃ x, x = wr.drewN nq := ⟨_, rfl⟩
              have HVwa := Lib.hid (show wa.heap[V]? = some (.cells (rW v) 203 (0, 0)) by rw [hwa]; exact HVwr.out)
              have HPwa := Lib.hid (show wa.heap[P]? = some (.cells (rW l) 233 (0, 0)) by rw [hwa]; exact HPwr.out)
              have HBwa := Lib.hid (show Below V w5 wa by rw [hwa]; exact below_drewN HBwr.out _)
              rw [← hwa]
              clear hwa cp c0 c1 c2 c3 c4 c5 c6 c7
              have c0 := cellW HVwa.out 0 (by rw [Hvl.out]; omega)
              have c1 := cellW HVwa.out 1 (by rw [Hvl.out]; omega)
              have c2 := cellW HVwa.out 2 (by rw [Hvl.out]; omega)
              have c3 := cellW HVwa.out 3 (by rw [Hvl.out]; omega)
              have c4 := cellW HVwa.out 4 (by rw [Hvl.out]; omega)
              have c5 := cellW HVwa.out 5 (by rw [Hvl.out]; omega)
              have c6 := cellW HVwa.out 6 (by rw [Hvl.out]; omega)
              have c7 := cellW HVwa.out 7 (by rw [Hvl.out]; omega)
              have cp := cellW HPwa.out k (by rw [HLL.out]; omega)
              go_wp2_with fail
              go_quiet (exact Calls.quiet_of_same ((T1 _).mono fun e w' h => ⟨h.1, h.2.symm⟩))
              obtain ⟨wb2, hwb2⟩ : ∃ x, x = wa.drewN nq := ⟨_, rfl⟩
              have HVwb2 := Lib.hid (show wb2.heap[V]? = some (.cells (rW v) 203 (0, 0)) by rw [hwb2]; exact HVwa.out)
              have HPwb2 := Lib.hid (show wb2.heap[P]? = some (.cells (rW l) 233 (0, 0)) by rw [hwb2]; exact HPwa.out)
              have HBwb2 := Lib.hid (show Below V w5 wb2 by rw [hwb2]; exact below_drewN HBwa.out _)
              rw [← hwb2]
              clear hwb2 cp c0 c1 c2 c3 c4 c5 c6 c7
              have c0 := cellW HVwb2.out 0 (by rw [Hvl.out]; omega)
              have c1 := cellW HVwb2.out 1 (by rw [Hvl.out]; omega)
              have c2 := cellW HVwb2.out 2 (by rw [Hvl.out]; omega)
              have c3 := cellW HVwb2.out 3 (by rw [Hvl.out]; omega)
              have c4 := cellW HVwb2.out 4 (by rw [Hvl.out]; omega)
              have c5 := cellW HVwb2.out 5 (by rw [Hvl.out]; omega)
              have c6 := cellW HVwb2.out 6 (by rw [Hvl.out]; omega)
              have c7 := cellW HVwb2.out 7 (by rw [Hvl.out]; omega)
              have cp := cellW HPwb2.out k (by rw [HLL.out]; omega)
              clear T1 o1 o2 o3 o4 o5 o6 o7 o8
              go_wp2_with fail
              go_quiet (exact Calls.quiet_of_same ((T2 _).mono fun e w' h => ⟨h.1, h.2.symm⟩))
              obtain ⟨wc2, hwc2⟩ : ∃ x, x = wb2.drewN nq := ⟨_, rfl⟩
              have HVwc2 := Lib.hid (show wc2.heap[V]? = some (.cells (rW v) 203 (0, 0)) by rw [hwc2]; exact HVwb2.out)
              have HPwc2 := Lib.hid (show wc2.heap[P]? = some (.cells (rW l) 233 (0, 0)) by rw [hwc2]; exact HPwb2.out)
              have HBwc2 := Lib.hid (show Below V w5 wc2 by rw [hwc2]; exact below_drewN HBwb2.out _)
              rw [← hwc2]
              clear hwc2 cp c0 c1 c2 c3 c4 c5 c6 c7
              have c0 := cellW HVwc2.out 0 (by rw [Hvl.out]; omega)
              have c1 := cellW HVwc2.out 1 (by rw [Hvl.out]; omega)
              have c2 := cellW HVwc2.out 2 (by rw [Hvl.out]; omega)
              have c3 := cellW HVwc2.out 3 (by rw [Hvl.out]; omega)
              have c4 := cellW HVwc2.out 4 (by rw [Hvl.out]; omega)
              have c5 := cellW HVwc2.out 5 (by rw [Hvl.out]; omega)
              have c6 := cellW HVwc2.out 6 (by rw [Hvl.out]; omega)
              have c7 := cellW HVwc2.out 7 (by rw [Hvl.out]; omega)
              have cp := cellW HPwc2.out k (by rw [HLL.out]; omega)
              clear T2 o9 o10 o11 o12 o13 o14 cp
              go_wp2_with (refine st_st rfl (.tmp 12) (.tmp 169) rfl V (rnd v (g rk64 k) (g l k)) rfl (by rfl) (by rfl) (rW v) (by rw [rW_size]; exact Hvl.out) _ HVwc2.out ?_)
              go_roundw
              case rel => exact ⟨k + 1, by omega, by go_num, by rw [HNX.out]; exact setRow_heap _ _ _ _ _ _ HVwc2.out, below_setRowW HBwc2.out (Nat.le_refl _) _⟩
              case measure => simp [intOf] <;> omega
            · obtain rfl : k = 64 := by omega
              rw [show (((64 : Nat) : Int)) = (64 : Int) from rfl]
              have hvl : (rnds s l 64).length = 8 := rnds_length s l HS.out 64
              have hblk : blk s b = sumW (rnds s l 64) s := by
                unfold blk
                rw [rnds_congr s (sched (words b) 48) l 64 (fun i hi => (HLW.out i hi).symm)]
              obtain ⟨v, hv⟩ : ∃ v, v = rnds s l 64 := ⟨_, rfl⟩
              rw [← hv] at hvv hvl hblk
              have HVV := Lib.hid hvv
              have HBV := Lib.hid hbl
              have Hvl := Lib.hid hvl
              have HBK := Lib.hid hblk
              clear hvv hbl hvl hblk hv IX hlt hk
              go_wp2_with fail
              go_loopw [171] (fun i wr => ∃ (k : Nat) (l4 : List UInt32), k ≤ 8 ∧ i = .int .i64 k ∧ l4.length = 8 ∧ (∀ i, i < k → g l4 i = ad (g v i) (g s i)) ∧ (∀ i, k ≤ i → g l4 i = g v i) ∧ wr.heap[V]? = some (.cells (rW l4) 203 (0, 0)) ∧ Below V w5 wr) (fun i _ => 8 - (intOf i).toNat)
              case atStart => exact ⟨0, v, by omega, rfl, Hvl.out, fun i hi => by omega, fun i hi => rfl, HVV.out, HBV.out⟩
              case round =>
                clear HVV HBV
                obtain ⟨k, l4, hk, rfl, h48, hlo, hhi, hvv, hbl⟩ := hrel
                by_cases hlt : k < 8
                · have c0 := cellW hvv k (by omega)
                  rw [hhi k (Nat.le_refl _)] at c0
                  have cf := frozenW hvv k
                  have cs := cellW ((hbl.block H (by omega)).trans ((HB5.out.block H (by omega)).trans HSW.out)) k (by rw [HS.out]; omega)
                  have o1 := r_add (g v k) (g s k)
                  have k0 : (0 : Int) ≤ (k : Int) := by omega
                  have k8 : (k : Int) < 8 := by omega
                  have HVV := Lib.hid hvv
                  have HBV := Lib.hid hbl
                  have HLO := Lib.hid hlo
                  have HHI := Lib.hid hhi
                  have H48 := Lib.hid h48
                  clear hvv hbl hlo hhi h48
                  go_wp2_with fail
                  refine wp_region_still_tail 8 (by kernel_rfl) (by kernel_rfl) ?_
                  simp only [List.take_succ_cons, List.take_zero, List.drop_succ_cons, List.drop_zero]
                  repeat still_step
                  refine wpStill_nil ?_
                  change wpList _ _ _ _ _ wr.drew
                  clear o1 cs
                  go_wp2_with fail
                  go_roundw
                  case rel => exact ⟨k + 1, l4.set k (ad (g v k) (g s k)), by omega, by go_num, by rw [List.length_set]; exact H48.out, fun i hi => by rw [g_set _ _ _ _ (by rw [H48.out]; omega)]; split; (rename_i h; rw [h]); exact HLO.out i (by omega), fun i hi => by rw [g_set _ _ _ _ (by rw [H48.out]; omega), if_neg (by omega)]; exact HHI.out i (by omega), setW (w := wr.drew) HVV.out k _, HBV.out.drew.setCell (Nat.le_refl _) _⟩
                  case measure => simp [intOf] <;> omega
                · obtain rfl : k = 8 := by omega
                  have hl4 : l4 = blk s b := by
                    rw [HBK.out]
                    refine list8 _ _ h48 (sumW_length _ _) (fun i hi => ?_)
                    rw [hlo i hi]
                    unfold sumW
                    simp only [g]
                    rw [List.getD_eq_getElem?_getD (l := List.map _ _), List.getElem?_map, List.getElem?_range hi]
                    rfl
                  subst hl4
                  have hrr : wr.heap[R]? = some (.cells (rW (List.replicate 8 0)) 203 (0, 0)) := (hbl.block R (by omega)).trans ((HB35.out.block R (by omega)).trans F2.out)
                  have HRR := Lib.hid hrr
                  have HVV := Lib.hid hvv
                  have HBV := Lib.hid hbl
                  clear hrr hvv hbl hlo hhi h48
                  go_wp2_with (first
                    | (refine ld_st rfl (.tmp 12) rfl V 0 (by rfl) (blk s b) (blk_length _ _) (rangeW HVV.out) ?_)
                    | (refine st_st rfl (.tmp 4) (.tmp 183) rfl R (blk s b) (blk_length _ _) (by rfl) (by rfl) (rW (List.replicate 8 0)) (by rfl) _ HRR.out ?_))
                  try simp only [Exit.inBlock, Exit.then]
                  refine bodyPost_ret (v := .agg (rW (blk s b))) (results_cellW rfl _ _ _ ⟨R, 0, none⟩ _ rfl ?_) rfl ?_
                  · exact st_load (blk_length _ _) (rangeW (setRow_heap _ _ _ _ _ _ HRR.out))
                  · exact ⟨rfl, by rw [← HH.out]; exact below_setRowW (B3.out.trans ((HB35.out.mono (by omega)).trans (HBV.out.mono (by omega)))) (by omega) _⟩
end Go.Proofs.YtkioddmhjbaleaaDoor
/- Walks: sha.begin, sha.New: a Hasher that has taken nothing. -/
namespace Go.Proofs.YtkioddmhjbaleaaDoor
open Go.RowKit
set_option linter.unusedVariables false
set_option linter.unusedSimpArgs false
/-- a Hasher's cells -/
def hL (s : List UInt32) (rest : Value) (n : Int) : List Value := s.map vW ++ [rest, .int .i64 n]
def hW (s : List UInt32) (rest : Value) (n : Int) : Array Value := (hL s rest n).toArray
set_option maxRecDepth 20000 in
theorem Begin_calls (w : World) : Calls Tryd.prog 133 #[] w fun e w' => e = .returned (.agg (rW h0)) ∧ Below w.heap.size w w' := by
  have hg := heap_alloc_new w (.cells (rW h0) 203)
  have hb : Below w.heap.size w (w.alloc (.cells (rW h0) 203)) := (Below.refl _ _).alloc (Nat.le_refl _) _
  have HG := Lib.hid hg
  have HB := Lib.hid hb
  clear hg hb
  go_enter Tryd.func133, Tryd.ntmps133
  go_wp2_with (refine st_stNew rfl (.tmp 0) (.tmp 1) rfl h0 rfl (by rfl) _ _ (by rfl) (by rfl) ?_)
  try simp only [Exit.inBlock, Exit.then]
  refine bodyPost_ret (v := .agg (rW h0)) (results_cellW rfl _ _ _ ⟨w.heap.size, 0, none⟩ _ rfl ?_) rfl ?_
  · exact st_load rfl (rangeW HG.out)
  · exact ⟨rfl, HB.out⟩
theorem hfold : Array.foldl (fun cs (x : Value × Nat) => cs.setIfInBounds x.snd x.fst) #[.int .u32 0, .int .u32 0, .int .u32 0, .int .u32 0, .int .u32 0, .int .u32 0, .int .u32 0, .int .u32 0, .slice none 0 0, .int .i64 0] (rW h0).zipIdx 0 (rW h0).size = hW h0 (.slice none 0 0) 0 := by kernel_rfl
def NewPost (w : World) (e : Ending) (w' : World) : Prop :=
  ∃ G, e = .returned (.pointer (some ⟨G, 0, none⟩)) ∧ w.heap.size ≤ G ∧ w'.heap[G]? = some (.cells (hW h0 (.slice none 0 0) 0) 206 (0, 0)) ∧ Below w.heap.size w w'
theorem New_calls (w : World) : Calls Tryd.prog 106 #[] w (NewPost w) := by
  have BC := Begin_calls w
  have BH := hfold
  go_enter Tryd.func106, Tryd.ntmps106
  go_wp2_with fail
  refine BC.mono ?_; rintro e w1 ⟨rfl, hb⟩
  have hg := heap_alloc_new w1 (.cells (hW h0 (.slice none 0 0) 0) 206)
  have HG := Lib.hid hg
  have HB := Lib.hid hb
  clear BC hg hb
  go_wp2_with fail
  go_ret
  exact ⟨w1.heap.size, rfl, HB.out.size, HG.out, HB.out.alloc HB.out.size _⟩
end Go.Proofs.YtkioddmhjbaleaaDoor
