/- How a signature comes in: a number and two lists of digests. It says nothing of what the program does. -/
import Derived.Test.YtkioddmhjbaleaaDoorOpenA
import Derived.Deep.Strs
namespace Go.Proofs.YtkioddmhjbaleaaDoor
open Go.RowKit Go.ChangeShapes Go.WideShapes Go.ChangeAt
set_option linter.unusedVariables false
section
variable {H : Type} {enc : TypeId × Value → H} {P : Program} {w : World} {spare : Nat → Bool} {held : Bool}
theorem trod_digsS {t e q : TypeId} {fuel k : Nat} {cs : List Value} {x : DataW H × List MemPlace} (ht : P.underlying t = some (.slice e)) (he : P.underlying e = some (.array k q)) (hq : P.underlying q = some (.int .u8)) (hce : P.cellsOf e = k) (hcq : P.cellsOf q = 1)
    (h : DataW.trod enc P w 0 spare held fuel t cs = some x) : ∃ (ds : List (List UInt8)) (a : Option Addr) (cap e' : Nat), cs = [.slice a ds.length cap] ∧ ds.length ≤ cap ∧ cap ≤ 9223372036854775807 ∧ (∀ d ∈ ds, d.length = k) ∧ Rd w a e' (ds.flatten.map vB) := by
  obtain ⟨a, len, cap, rfl, hl, hm, F, n, hF, e', hr⟩ := trod_list ht h
  obtain ⟨D, hD⟩ := Deep.choose_lt (α := List UInt8) (n := len) (p := fun i b => b.length = k ∧ F i = b.map vB) (fun i hi => by
    obtain ⟨y, hy⟩ := (hF i hi).2
    exact trod_digest he hq hce hcq hy)
  refine ⟨(List.range len).map D, a, cap, e', by simp, by simpa using hl, by simp only [maxLen] at hm; omega, ?_, ?_⟩
  · intro x hx
    obtain ⟨i, hi, rfl⟩ := List.mem_map.1 hx
    exact (hD i (List.mem_range.1 hi)).1
  · rw [← flatMap_flat F D len (fun i hi => (hD i hi).2)]; exact hr
theorem open_sig {r : Reach} {b0 : Nat} {t td q : TypeId} {f0 f1 f2 : Field} {v : Value} {d : DataW H} {ps : List MemPlace} (ht : P.underlying t = some (.struct #[f0, f1, f2])) (h0 : P.underlying f0.type = some (.int .i64)) (h1 : P.underlying f1.type = some (.slice td)) (h2 : P.underlying f2.type = some (.slice td))
    (hd : P.underlying td = some (.array 32 q)) (hq : P.underlying q = some (.int .u8))
    (hc : P.cellsOf t = 3) (c0 : P.cellsOf f0.type = 1) (c1 : P.cellsOf f1.type = 1) (c2 : P.cellsOf f2.type = 1) (cd : P.cellsOf td = 32) (cq : P.cellsOf q = 1)
    (o0 : f0.offset = 0) (o1 : f1.offset = 1) (o2 : f2.offset = 2)
    (hval : Value.okWide P w r b0 t v) (h : DataW.Trod enc P w 0 spare held t v d ps) : ∃ (fr : Int) (gs : List (List UInt8)) (ga : Option Addr) (gc ge : Nat) (ss : List (List UInt8)) (pa : Option Addr) (pc pe : Nat), v = .agg #[.int .i64 fr, .slice ga gs.length gc, .slice pa ss.length pc] ∧ (-9223372036854775808 ≤ fr ∧ fr ≤ 9223372036854775807) ∧
      gs.length ≤ gc ∧ gc ≤ 9223372036854775807 ∧ (∀ d ∈ gs, d.length = 32) ∧ Rd w ga ge (gs.flatten.map vB) ∧ ss.length ≤ pc ∧ pc ≤ 9223372036854775807 ∧ (∀ d ∈ ss, d.length = 32) ∧ Rd w pa pe (ss.flatten.map vB) := by
  obtain ⟨cs, rfl, _⟩ := okWide_struct ht hval
  obtain ⟨fuel, hf⟩ := h
  obtain ⟨y0, y1, y2, m, _, hl, x0, x1, x2⟩ := Deep.trod_struct3 ht hf
  rw [hc] at hl
  rw [o0, c0] at x0
  rw [o1, c1] at x1
  rw [o2, c2] at x2
  obtain ⟨cl, hcl⟩ : ∃ l, l = cs.toList := ⟨_, rfl⟩
  have hcells : (Value.agg cs).cells = cs := rfl
  have hcl2 : (Value.agg cs).cells.toList = cl := by rw [hcells, hcl]
  simp only [hcl2] at hl x0 x1 x2
  match cl, hl with
  | [v0, v1, v2], _ =>
    simp only [List.drop_zero, List.take_succ_cons, List.take_zero, List.drop_succ_cons] at x0 x1 x2
    obtain ⟨fr, e0, _, hw⟩ := DataW.trod_int h0 x0
    obtain ⟨gs, ga, gc, ge, e1, l1, l2, l3, l4⟩ := trod_digsS h1 hd hq cd cq x1
    obtain ⟨ss, pa, pc, pe, e2, m1, m2, m3, m4⟩ := trod_digsS h2 hd hq cd cq x2
    simp only [List.cons.injEq, and_true] at e0 e1 e2
    refine ⟨fr, gs, ga, gc, ge, ss, pa, pc, pe, ?_, bounds_i64 hw, l1, l2, l3, l4, m1, m2, m3, m4⟩
    congr 1
    apply Array.toList_inj.1
    rw [← hcl, e0, e1, e2]
end
end Go.Proofs.YtkioddmhjbaleaaDoor
