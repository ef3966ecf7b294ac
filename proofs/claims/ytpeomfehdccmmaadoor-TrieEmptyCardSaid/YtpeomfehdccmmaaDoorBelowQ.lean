/- A region that draws its order, whose operations read what lies below, and whose calls leave that as it was: one walk of the order of the text. It says nothing of the program. -/
import Derived.Test.YtpeomfehdccmmaaDoorQuiet
import Derived.Below
import Derived.WalkSmall
namespace Go.Proofs.YtpeomfehdccmmaaDoor
open Go.RowKit
set_option linter.unusedVariables false
/-- all below B is as it was in w -/
def InB (B : Nat) (w w' : World) : Prop := Below B w w'
theorem inB_ex (B : Nat) (w : World) : ∃ x, InB B w x := ⟨w, Below.refl _ _⟩
section
variable {P : Program} {B : Nat} {w : World}
theorem wp_region_inB {id : Nat} {Q : Exit → Act → World → Prop} {a : Act} {l : List Oper} (B : Nat) (hm : P.follows .mixedOrders = true) (hB : Region.lexB .any l.toArray = true)
    (h : wpQuiet P l.toArray (InB B w) (fun a' => ∀ w', InB B w w' → Q .normal a' w') l a) : (Code.region id l.toArray true).wp P Q a w :=
  wp_region_quiet (C := InB B w) hm hB (show Below B w w.drew from (Below.refl B w).drew) (by simpa using h)
theorem InB.call {w' : World} {f : FuncId} {args : Array Value} {v : Value} (hC : InB B w w') (hB : B ≤ w.heap.size) (h : Calls P f args w' fun e w'' => e = .returned v ∧ Below w'.heap.size w' w'') : Calls P f args w' fun e w'' => e = .returned v ∧ InB B w w'' :=
  h.mono fun _ _ ⟨he, hb⟩ => ⟨he, Below.trans hC (hb.mono (Nat.le_trans hB (Below.size hC)))⟩
theorem InB.calm {w' : World} {f : FuncId} {args : Array Value} {v : Value} (hC : InB B w w') (h : Calls P f args w' fun e w'' => e = .returned v ∧ w' = w'') : Calls P f args w' fun e w'' => e = .returned v ∧ InB B w w'' :=
  h.mono fun _ _ ⟨he, hb⟩ => ⟨he, by rw [← hb]; exact hC⟩
theorem InB.drawn {w' : World} {f : FuncId} {args : Array Value} {v : Value} (hC : InB B w w') (h : Calls P f args w' fun e w'' => e = .returned v ∧ ∃ n, w'' = w'.drewN n) : Calls P f args w' fun e w'' => e = .returned v ∧ InB B w w'' :=
  h.mono fun _ _ ⟨he, n, hb⟩ => ⟨he, by rw [hb]; exact below_drewN hC n⟩
variable {ops : Array Oper} {C : World → Prop} {Q : Act → Prop} {a : Act} {op : Oper} {rest : List Oper}
/-- an operation that reads no memory -/
theorem quiet_pure (hgd : Region.wanted op (yielded ops a.tmps) = true) (v : Value) (hv : ∀ w, (execOp a.eval op).run P w = .ok (.value v) w) (h : wpQuiet P ops C Q rest (a.put op.dst v)) : wpQuiet P ops C Q (op :: rest) a :=
  BigFrame.wpQuiet_want hgd fun K hK => ⟨v, fun w hw => by
    unfold Oper.quietAt
    rw [hv w]
    exact ⟨rfl, rfl⟩, hK _ h⟩
/-- a call of a function that is known -/
theorem quiet_call (hgd : Region.wanted op (yielded ops a.tmps) = true) (v : Value) (f : FuncId) (vs : Array Value) (he : ∀ w, (execOp a.eval op).run P w = .ok (.enter f vs) w) (hc : ∀ w', C w' → Calls P f vs w' fun e w'' => e = .returned v ∧ C w'')
    (h : wpQuiet P ops C Q rest (a.put op.dst v)) : wpQuiet P ops C Q (op :: rest) a :=
  BigFrame.wpQuiet_want hgd fun K hK => ⟨v, fun w hw => by
    unfold Oper.quietAt
    rw [he w]
    exact ⟨rfl, hc w hw⟩, hK _ h⟩
/-- a load of one cell -/
theorem quiet_cell (hgd : Region.wanted op (yielded ops a.tmps) = true) (ty : TypeId) (x : Operand) (ho : op.op = .load ty x) (p : Addr) (hx : a.eval x = .pointer (some p)) (v : Value) (hC : ∀ w, C w → (loadVar ty p).run P w = .ok v w)
    (h : wpQuiet P ops C Q rest (a.put op.dst v)) : wpQuiet P ops C Q (op :: rest) a :=
  BigFrame.wpQuiet_want hgd fun K hK => ⟨v, fun w hw => by
    unfold Oper.quietAt execOp
    simp only [ho, hx, Instr.loadAt, Instr.sureAddr, Sem.run_bind, Sem.run_pure, Result.andThen_ok, hC w hw]
    exact ⟨rfl, rfl⟩, hK _ h⟩
end
theorem InB.range {B : Nat} {w w' : World} (hC : InB B w w') {b o : Nat} (hb : b < B) {cs : List Value} (h : w.rangeAt b o cs) : w'.rangeAt b o cs :=
  fun j v hj => (Below.cell hC (p := ⟨b, o + j, none⟩) hb).trans (h j v hj)
end Go.Proofs.YtpeomfehdccmmaaDoor
