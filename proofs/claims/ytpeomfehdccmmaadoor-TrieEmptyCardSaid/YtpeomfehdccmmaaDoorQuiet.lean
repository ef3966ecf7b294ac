/- A value of many cells is loaded in a region that draws its order and only reads. It says nothing of the program. -/
import Derived.Test.YtpeomfehdccmmaaDoorArr
import Derived.BigQuiet
import Derived.Deep.MidRow
import Derived.Laws.Cover1
import Derived.Lib.Strings
namespace Go.Proofs.YtpeomfehdccmmaaDoor
open Go.RowKit
theorem results_cell {fn : Func} {k : Nat} {t : TypeId} (h : fn.results = #[.cell k t]) (tmps : Array Value) (P : Program) (w : World) (p : Addr) (v : Value) (hp : tmps.getD k undef = .pointer (some p)) (hl : (loadVar t p).run P w = .ok v w) : (results fn tmps).run P w = .ok v w := by
  have hp2 : tmps[k]?.getD undef = .pointer (some p) := by simpa using hp
  simp [results, h, hp2, asAddr, hl]
section
variable {P : Program} {ops : Array Oper} {C : World → Prop} {Q : Act → Prop} {a : Act} {op : Oper} {rest : List Oper}
theorem quiet_mid (hgd : Region.wanted op (yielded ops a.tmps) = true) (ty : TypeId) (x : Operand) (ho : op.op = .load ty x) (b o : Nat) (hx : a.eval x = .pointer (some ⟨b, o, none⟩)) (cs : List Value) (d : TypeDesc) (hC : ∀ w, C w → w.rangeAt b o cs)
    (hu : P.underlying ty = some d) (hd : d.isRow = true) (hi : (P.info? ty).map (·.size) = some cs.length) (h : wpQuiet P ops C Q rest (a.put op.dst (.agg cs.toArray))) : wpQuiet P ops C Q (op :: rest) a :=
  BigFrame.wpQuiet_want hgd fun K hK => ⟨.agg cs.toArray, fun w hw => by
    unfold Oper.quietAt execOp
    simp only [ho, hx, Instr.loadAt, Instr.sureAddr, Sem.run_bind, Sem.run_pure, Result.andThen_ok, run_loadVar_mid w b o ty cs d (hC w hw) hu hd hi]
    exact ⟨rfl, rfl⟩, hK _ h⟩
theorem quiet_dig (hgd : Region.wanted op (yielded ops a.tmps) = true) (x : Operand) (ho : op.op = .load 23 x) (b o : Nat) (hx : a.eval x = .pointer (some ⟨b, o, none⟩)) (d : List UInt8) (hl : d.length = 32) (hC : ∀ w, C w → w.rangeAt b o (d.map vB))
    (h : wpQuiet Tryd.prog ops C Q rest (a.put op.dst (.agg (dV d)))) : wpQuiet Tryd.prog ops C Q (op :: rest) a :=
  quiet_mid hgd _ x ho b o hx (d.map vB) _ hC Tryd.underlying23 rfl (by rw [List.length_map, hl]; exact dig_size) h
theorem quiet_dig_eq (hgd : Region.wanted op (yielded ops a.tmps) = true) (x y : Operand) (t : TypeId) (ho : op.op = .binOp .eql 23 x y t) (d e : List UInt8) (hx : a.eval x = .agg (dV d)) (hy : a.eval y = .agg (dV e)) (hd : d.length = 32) (he : e.length = 32)
    (h : wpQuiet Tryd.prog ops C Q rest (a.put op.dst (.bool (d == e)))) : wpQuiet Tryd.prog ops C Q (op :: rest) a :=
  BigFrame.wpQuiet_want hgd fun K hK => ⟨.bool (d == e), fun w hw => by
    unfold Oper.quietAt execOp
    have DE := dig_eq hd he w
    simp only [ho, hx, hy]
    simp [go_sem, DE], hK _ h⟩
theorem run_dig_neq {d e : List UInt8} (hd : d.length = 32) (he : e.length = 32) (w : World) : (binOp .neq 23 (.agg (dV d)) (.agg (dV e))).run Tryd.prog w = .ok (.bool (!(d == e))) w := by
  show (Op.equalIn 10000 23 (.agg (dV d)) (.agg (dV e)) >>= fun b => pure (Value.bool (!b))).run _ _ = _
  rw [Sem.run_bind, dig_eq hd he w]; rfl
theorem quiet_dig_neq (hgd : Region.wanted op (yielded ops a.tmps) = true) (x y : Operand) (t : TypeId) (ho : op.op = .binOp .neq 23 x y t) (d e : List UInt8) (hx : a.eval x = .agg (dV d)) (hy : a.eval y = .agg (dV e)) (hd : d.length = 32) (he : e.length = 32)
    (h : wpQuiet Tryd.prog ops C Q rest (a.put op.dst (.bool (!(d == e))))) : wpQuiet Tryd.prog ops C Q (op :: rest) a :=
  BigFrame.wpQuiet_want hgd fun K hK => ⟨.bool (!(d == e)), fun w hw => by
    unfold Oper.quietAt execOp
    have g : (eqGuard .neq 23 x y (.agg (dV d)) (.agg (dV e))).run Tryd.prog w = .ok () w := by simp [go_sem]
    simp only [ho, hx, hy, Sem.run_bind, g, run_dig_neq hd he w, Result.andThen_ok]
    exact ⟨rfl, rfl⟩, hK _ h⟩
theorem quiet_sleq (hgd : Region.wanted op (yielded ops a.tmps) = true) (x y : Operand) (t : TypeId) (ho : op.op = .binOp .leq 9 x y t) (d e : ByteArray) (hx : a.eval x = .string d) (hy : a.eval y = .string e)
    (h : wpQuiet Tryd.prog ops C Q rest (a.put op.dst (.bool (Op.bytesLess d.data.toList e.data.toList || d.data.toList == e.data.toList)))) : wpQuiet Tryd.prog ops C Q (op :: rest) a :=
  BigFrame.wpQuiet_want hgd fun K hK => ⟨.bool (Op.bytesLess d.data.toList e.data.toList || d.data.toList == e.data.toList), fun w hw => by
    unfold Oper.quietAt execOp
    simp only [ho, hx, hy]
    simp [go_sem, ← Lib.toList_data], hK _ h⟩
end
end Go.Proofs.YtpeomfehdccmmaaDoor
