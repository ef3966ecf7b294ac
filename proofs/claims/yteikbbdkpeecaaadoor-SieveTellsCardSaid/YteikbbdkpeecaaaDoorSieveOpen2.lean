/- How a sieve of bounded length comes in. It says nothing of the program. -/
import Derived.Test.YteikbbdkpeecaaaDoorOpenA
namespace Go.Proofs.YteikbbdkpeecaaaDoor
open Go.RowKit Go.ChangeShapes Go.WideShapes Go.ChangeAt
set_option linter.unusedVariables false
section
variable {H : Type} {enc : TypeId × Value → H} {P : Program} {w : World} {spare : Nat → Bool} {held : Bool}
theorem open_sieve2 {r : Reach} {b0 : Nat} {t u : TypeId} {f0 f1 : Field} {v : Value} {d : DataW H} {ps : List MemPlace} (ht : P.underlying t = some (.struct #[f0, f1])) (h0 : P.underlying f0.type = some (.slice u)) (h1 : P.underlying f1.type = some (.int .i64)) (hu : P.underlying u = some (.int .u8))
    (hc : P.cellsOf t = 2) (c0 : P.cellsOf f0.type = 1) (c1 : P.cellsOf f1.type = 1) (cu : P.cellsOf u = 1) (o0 : f0.offset = 0) (o1 : f1.offset = 1) (bu : P.bytesOf u = 1) {B : Nat} (hB : ∀ m ∈ d.weights P t, m ≤ B)
    (hval : Value.okWide P w r b0 t v) (h : DataW.Trod enc P w 0 spare held t v d ps) : ∃ (xs : List UInt8) (a : Option Addr) (cap e' : Nat) (k : Int), v = .agg #[.slice a xs.length cap, .int .i64 k] ∧ xs.length ≤ 9223372036854775807 ∧ (-9223372036854775808 ≤ k ∧ k ≤ 9223372036854775807) ∧ Rd w a e' (xs.map vB) ∧ xs.length ≤ B := by
  obtain ⟨cs, rfl, _⟩ := okWide_struct ht hval
  obtain ⟨fuel, hf⟩ := h
  obtain ⟨y0, y1, m, hy, hl, g0, g1⟩ := trod_struct2 ht hf
  rw [hc] at hl
  obtain ⟨cl, hcl⟩ : ∃ l, l = cs.toList := ⟨_, rfl⟩
  have hcells : (Value.agg cs).cells = cs := rfl
  rw [o0, c0] at g0
  rw [o1, c1] at g1
  have hcl2 : (Value.agg cs).cells.toList = cl := by rw [hcells, hcl]
  simp only [hcl2] at hl g0 g1
  match cl, hl with
  | [v0, v1], _ =>
    simp only [List.drop_zero, List.take_succ_cons, List.take_zero, List.drop_succ_cons] at g0 g1
    obtain ⟨xs, a, cap, e1, e2, e3, e', hr⟩ := trod_bytes h0 hu cu g0
    obtain ⟨z, e4, _, hw⟩ := DataW.trod_int h1 g1
    rw [e1] at g0
    have hz := wLen h0 g0 (B := B) (fun k hk => hB k (by rw [show d = DataW.agg [y0.1, y1.1] from congrArg Prod.fst hy]; simp only [DataW.weights, ht, DataW.weightsEach, List.map_cons, List.map_nil, List.mem_append]; exact .inl hk))
    rw [bu, Nat.mul_one] at hz
    simp only [List.cons.injEq, and_true] at e1 e4
    refine ⟨xs, a, cap, e', z, ?_, by simp only [maxLen] at e3; omega, bounds_i64 hw, hr, hz⟩
    congr 1
    apply Array.toList_inj.1
    rw [← hcl, e1, e4]
end
end Go.Proofs.YteikbbdkpeecaaaDoor
