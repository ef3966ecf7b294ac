/- A call of a function, as a step of a region that draws its order. It says nothing of the program. -/
import Derived.Test.YtalbmcidlalicaaDoorMem3
import Derived.Deep.RegionLaw
namespace Go.Proofs.YtalbmcidlalicaaDoor
open Go.RowKit
section
variable {P : Program} {w : World} {ops : Array Oper} {o : Oper} {a : Act} {K : Act → World → Prop} {Q : Exit → Act → World → Prop} {E : Prop}
theorem stepCall2 (f : FuncId) {fn : Func} (hf : P.funcs[f]? = some fn) (hn : (fn.name == "runtime.NumGoroutine") = false) (hb : fn.body.isNone = false) (x y : Operand) (tys : Array TypeId) (hgd : o.guard = none) (ho : o.op = .call { callee := .value (.func f), args := #[x, y], argTypes := tys }) (u v : Value) (hx : a.eval x = u) (hy : a.eval y = v) {Post : Value → World → Prop}
    (hc : Calls P f #[u, v] w fun e w' => ∃ r, e = .returned r ∧ Post r w') (h : ∀ r w', Post r w' → K (a.put o.dst r) w') :
    if Region.wanted o (yielded ops a.tmps) = true then Oper.wp P o a w K Q else E := by
  have hw : Region.wanted o (yielded ops a.tmps) = true := by simp [Region.wanted, hgd]
  rw [if_pos hw]
  unfold Oper.wp execOp
  have e1 : a.eval (.func f) = .func (.func f) #[] #[] := rfl
  have e2 : Sem.run P program w = .ok P w := rfl
  simp only [ho, resolve, e1, hx, hy, List.map_toArray, List.map_cons, List.map_nil, Deferred.ofValue, Sem.run_bind, Sem.run_pure, Result.andThen_ok, invoke, callFunc, Array.append_empty, e2, hf, hn, hb, Bool.false_eq_true, if_false, Oper.upon_enter, Array.empty_append]
  refine hc.mono ?_
  rintro e w' ⟨r, rfl, hp⟩
  exact h r w' hp
end
end Go.Proofs.YtalbmcidlalicaaDoor
