/- Digests loaded and held against each other behind a guard. It says nothing of what the program does. -/
import Derived.Test.YtpeomfehdccmmaaDoorQuiet
namespace Go.Proofs.YtpeomfehdccmmaaDoor
open Go.RowKit
set_option linter.unusedVariables false
section
variable {ops : Array Oper} {rest : List Oper} {op : Oper} {a : Act} {w : World} {Q : Exit → Act → World → Prop}
theorem eq_digG (hgd : Region.wanted op (yielded ops a.tmps) = true) (x y : Operand) (t : TypeId) (ho : op.op = .binOp .eql 23 x y t) (d e : List UInt8) (hx : a.eval x = .agg (dV d)) (hy : a.eval y = .agg (dV e)) (hd : d.length = 32) (he : e.length = 32)
    (h : wpList Tryd.prog ops Q rest (a.put op.dst (.bool (d == e))) w) : wpList Tryd.prog ops Q (op :: rest) a w := by
  unfold wpList
  rw [if_pos hgd]
  refine .inl ?_
  unfold Oper.wp execOp
  have g : (eqGuard .eql 23 x y (.agg (dV d)) (.agg (dV e))).run Tryd.prog w = .ok () w := by simp [go_sem]
  have b : (binOp .eql 23 (.agg (dV d)) (.agg (dV e))).run Tryd.prog w = .ok (.bool (d == e)) w := by
    show (Op.equalIn 10000 23 (.agg (dV d)) (.agg (dV e)) >>= fun b => pure (Value.bool b)).run _ _ = _
    rw [Sem.run_bind, dig_eq hd he w]; rfl
  simp only [ho, hx, hy, Sem.run_bind, g, b, Result.andThen_ok]
  exact h
theorem neq_digG (hgd : Region.wanted op (yielded ops a.tmps) = true) (x y : Operand) (t : TypeId) (ho : op.op = .binOp .neq 23 x y t) (d e : List UInt8) (hx : a.eval x = .agg (dV d)) (hy : a.eval y = .agg (dV e)) (hd : d.length = 32) (he : e.length = 32)
    (h : wpList Tryd.prog ops Q rest (a.put op.dst (.bool (!(d == e)))) w) : wpList Tryd.prog ops Q (op :: rest) a w := by
  unfold wpList
  rw [if_pos hgd]
  refine .inl ?_
  unfold Oper.wp execOp
  have g : (eqGuard .neq 23 x y (.agg (dV d)) (.agg (dV e))).run Tryd.prog w = .ok () w := by simp [go_sem]
  simp only [ho, hx, hy, Sem.run_bind, g, run_dig_neq hd he w, Result.andThen_ok]
  exact h
theorem ld_digG (hgd : Region.wanted op (yielded ops a.tmps) = true) (x : Operand) (ho : op.op = .load 23 x) (b o : Nat) (hx : a.eval x = .pointer (some ⟨b, o, none⟩)) (d : List UInt8) (hl : d.length = 32) (hc : w.rangeAt b o (d.map vB))
    (h : wpList Tryd.prog ops Q rest (a.put op.dst (.agg (dV d))) w) : wpList Tryd.prog ops Q (op :: rest) a w := by
  unfold wpList
  rw [if_pos hgd]
  exact .inl (wp_load_mid _ x ho b o hx (d.map vB) _ hc Tryd.underlying23 rfl (by rw [List.length_map, hl]; exact dig_size) h)
end
end Go.Proofs.YtpeomfehdccmmaaDoor
