/- The state of eight words as a value: loads, stores, one word of a row. It says nothing of what the program does. -/
import Derived.Test.YtpeomfehdccmmaaDoorChecked
import Derived.Test.YtpeomfehdccmmaaDoorWords
import Derived.Deep.WholeRow
namespace Go.Proofs.YtpeomfehdccmmaaDoor
open Go.RowKit
set_option linter.unusedVariables false
theorem info_st (l : List UInt32) (h : l.length = 8) : (Tryd.prog.info? 130).map (·.size) = some (rW l).size := by rw [rW_size, h]; kernel_rfl
theorem info_64 (l : List UInt32) (h : l.length = 64) : (Tryd.prog.info? 158).map (·.size) = some (rW l).size := by rw [rW_size, h]; kernel_rfl
theorem rangeW {w : World} {B : Nat} {l : List UInt32} {t : TypeId} {fr : Nat × Nat} (h : w.heap[B]? = some (.cells (rW l) t fr)) : w.rangeAt B 0 (l.map vW) := by
  intro j v hj
  rw [Nat.zero_add, cell_of_row w B j _ t fr h]
  unfold rW
  simpa using hj
theorem run_index_st {l : List UInt32} (h : l.length = 8) {k : Nat} (hk : k < 8) (w : World) : (Instr.index 130 (.agg (rW l)) (.int .i64 (k : Int))).run Tryd.prog w = .ok (.int .u32 (g l k).toNat) w := by
  have hs : ∀ w, (sizeOf 128).run Tryd.prog w = .ok 1 w := fun w => by kernel_rfl
  have ha : ∀ w, (isAgg 128).run Tryd.prog w = .ok false w := fun w => by kernel_rfl
  have hg := rW_get l k (by omega)
  simp [Instr.index, asIntOf, run_underlying Tryd.underlying130, go_sem, hk, hs, ha, part, hg]
theorem run_index_64 {l : List UInt32} (h : l.length = 64) {k : Nat} (hk : k < 64) (w : World) : (Instr.index 158 (.agg (rW l)) (.int .i64 (k : Int))).run Tryd.prog w = .ok (.int .u32 (g l k).toNat) w := by
  have hs : ∀ w, (sizeOf 128).run Tryd.prog w = .ok 1 w := fun w => by kernel_rfl
  have ha : ∀ w, (isAgg 128).run Tryd.prog w = .ok false w := fun w => by kernel_rfl
  have hg := rW_get l k (by omega)
  simp [Instr.index, asIntOf, run_underlying Tryd.underlying158, go_sem, hk, hs, ha, part, hg]
section
variable {ops : Array Oper} {rest : List Oper} {op : Oper} {a : Act} {w : World} {Q : Exit → Act → World → Prop}
theorem ld_st (hgd : op.guard = none) (x : Operand) (ho : op.op = .load 130 x) (b o : Nat) (hx : a.eval x = .pointer (some ⟨b, o, none⟩)) (l : List UInt32) (hl : l.length = 8) (hc : w.rangeAt b o (l.map vW))
    (h : wpList Tryd.prog ops Q rest (a.put op.dst (.agg (rW l))) w) : wpList Tryd.prog ops Q (op :: rest) a w :=
  wpList_load_mid hgd _ x ho b o hx (l.map vW) _ hc Tryd.underlying130 rfl (by have := info_st l hl; rw [rW_size] at this; rw [List.length_map]; exact this) h
theorem ld_64 (hgd : op.guard = none) (x : Operand) (ho : op.op = .load 158 x) (b o : Nat) (hx : a.eval x = .pointer (some ⟨b, o, none⟩)) (l : List UInt32) (hl : l.length = 64) (hc : w.rangeAt b o (l.map vW))
    (h : wpList Tryd.prog ops Q rest (a.put op.dst (.agg (rW l))) w) : wpList Tryd.prog ops Q (op :: rest) a w :=
  wpList_load_mid hgd _ x ho b o hx (l.map vW) _ hc Tryd.underlying158 rfl (by have := info_64 l hl; rw [rW_size] at this; rw [List.length_map]; exact this) h
theorem st_st (hgd : op.guard = none) (x y : Operand) (ho : op.op = .store 130 x y) (B : Nat) (l : List UInt32) (hl : l.length = 8) (hx : a.eval x = .pointer (some ⟨B, 0, none⟩)) (hy : a.eval y = .agg (rW l)) (old : Array Value) (hold : old.size = 8) (t : TypeId) (hg : w.heap[B]? = some (.cells old t (0, 0)))
    (h : wpList Tryd.prog ops Q rest (a.put op.dst undef) (w.setRow B (rW l))) : wpList Tryd.prog ops Q (op :: rest) a w :=
  wpList_store_row hgd _ x y ho B (rW l) hx hy t old hg (info_st l hl) (by rw [rW_size, hl, hold]) (rW_one l) h
theorem st_stNew (hgd : op.guard = none) (x y : Operand) (ho : op.op = .store 130 x y) (l : List UInt32) (hl : l.length = 8) (hy : a.eval y = .agg (rW l)) (Z : Array Value) (t : TypeId) (hZ : Z.size = 8) (hx : a.eval x = .pointer (some ⟨w.heap.size, 0, none⟩))
    (h : wpList Tryd.prog ops Q rest (a.put op.dst undef) (w.alloc (.cells (rW l) t))) : wpList Tryd.prog ops Q (op :: rest) a (w.alloc (.cells Z t)) :=
  st_st hgd x y ho w.heap.size l hl hx hy Z hZ t (heap_alloc_new w _) (by rw [World.setRow_alloc_new]; exact h)
end
theorem st_load {l : List UInt32} (hl : l.length = 8) {w : World} {b o : Nat} (hr : w.rangeAt b o (l.map vW)) : (loadVar 130 ⟨b, o, none⟩).run Tryd.prog w = .ok (.agg (rW l)) w :=
  run_loadVar_mid w b o _ (l.map vW) _ hr Tryd.underlying130 rfl (by have := info_st l hl; rw [rW_size] at this; rw [List.length_map]; exact this)
end Go.Proofs.YtpeomfehdccmmaaDoor
