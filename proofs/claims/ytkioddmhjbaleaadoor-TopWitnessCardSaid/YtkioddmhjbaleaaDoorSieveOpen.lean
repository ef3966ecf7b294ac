/- How a sieve, and rows of bytes of bounded length, come in. It says nothing of the program. -/
import Derived.Test.YtkioddmhjbaleaaDoorOpenA
namespace Go.Proofs.YtkioddmhjbaleaaDoor
open Go.RowKit Go.ChangeShapes Go.WideShapes Go.ChangeAt
set_option linter.unusedVariables false
section
variable {H : Type} {enc : TypeId × Value → H} {P : Program} {w : World} {spare : Nat → Bool} {held : Bool}
theorem open_sieve {r : Reach} {b0 : Nat} {t u : TypeId} {f0 f1 : Field} {v : Value} {d : DataW H} {ps : List MemPlace} (ht : P.underlying t = some (.struct #[f0, f1])) (h0 : P.underlying f0.type = some (.slice u)) (h1 : P.underlying f1.type = some (.int .i64)) (hu : P.underlying u = some (.int .u8))
    (hc : P.cellsOf t = 2) (c0 : P.cellsOf f0.type = 1) (c1 : P.cellsOf f1.type = 1) (cu : P.cellsOf u = 1) (o0 : f0.offset = 0) (o1 : f1.offset = 1)
    (hval : Value.okWide P w r b0 t v) (h : DataW.Trod enc P w 0 spare held t v d ps) : ∃ (xs : List UInt8) (a : Option Addr) (cap e' : Nat) (k : Int), v = .agg #[.slice a xs.length cap, .int .i64 k] ∧ xs.length ≤ 9223372036854775807 ∧ (-9223372036854775808 ≤ k ∧ k ≤ 9223372036854775807) ∧ Rd w a e' (xs.map vB) := by
  obtain ⟨cs, rfl, _⟩ := okWide_struct ht hval
  obtain ⟨fuel, hf⟩ := h
  obtain ⟨y0, y1, m, hy, hl, g0, g1⟩ := trod_struct2 ht hf
  rw [hc] at hl
  obtain ⟨cl, hcl⟩ : ∃ l, l = cs.toList := ⟨_, rfl⟩
  have hcells : (Value.agg cs).cells = cs := rfl
  rw [o0, c0] at g0
  rw [o1, c1] at g1
  have hcl2 : (Value.agg cs).cells.toList = cl := by rw [hcells, hcl]
  simp only [hcl2] at hl g0 g1
  match cl, hl with
  | [v0, v1], _ =>
    simp only [List.drop_zero, List.take_succ_cons, List.take_zero, List.drop_succ_cons] at g0 g1
    obtain ⟨xs, a, cap, e1, e2, e3, e', hr⟩ := trod_bytes h0 hu cu g0
    obtain ⟨z, e4, _, hw⟩ := DataW.trod_int h1 g1
    simp only [List.cons.injEq, and_true] at e1 e4
    refine ⟨xs, a, cap, e', z, ?_, by simp only [maxLen] at e3; omega, bounds_i64 hw, hr⟩
    congr 1
    apply Array.toList_inj.1
    rw [← hcl, e1, e4]
theorem open_rows2 {r : Reach} {b0 : Nat} {t e q : TypeId} {v : Value} {d : DataW H} {ps : List MemPlace} (ht : P.underlying t = some (.slice e)) (he : P.underlying e = some (.slice q)) (hq : P.underlying q = some (.int .u8)) (hce : P.cellsOf e = 1) (hcq : P.cellsOf q = 1) (bq : P.bytesOf q = 1) {B : Nat} (hB : ∀ m ∈ d.weights P t, m ≤ B)
    (hval : Value.okWide P w r b0 t v) (h : DataW.Trod enc P w 0 spare held t v d ps) : ∃ (rows : List (List UInt8)) (a : Option Addr) (cap e' : Nat) (vs : List Value), v = .slice a rows.length cap ∧ rows.length ≤ 9223372036854775807 ∧ Rd w a e' vs ∧ AreB (fun _ _ => True) w rows vs ∧ ∀ i, (h : i < rows.length) → rows[i].length ≤ B := by
  obtain ⟨a, len, cap, rfl⟩ := okWide_slice ht hval
  obtain ⟨fuel, hf⟩ := h
  obtain ⟨a', len', cap', hcs, hl, hm, F, n, hF, e', hr⟩ := trod_list2 ht hf
  simp [Value.cells] at hcs
  obtain ⟨rfl, rfl, rfl⟩ := hcs
  obtain ⟨S, hS⟩ := Deep.choose_lt (α := List UInt8 × Value) (n := len) (p := fun i b => F i = [b.2] ∧ IsB (fun _ _ => True) w b.1 b.2 ∧ b.1.length ≤ B) (fun i hi => by
    obtain ⟨y, hy, es, sp, hxe, hye⟩ := (hF i hi).2
    obtain ⟨xs, a1, c1, h2, h3, h4, e1, h5⟩ := trod_bytes he hq hcq hy
    rw [h2] at hy
    have hz := wLen he hy (wElem ht hxe hye hB)
    rw [bq, Nat.mul_one] at hz
    exact ⟨(xs, .slice a1 xs.length c1), h2, ⟨a1, c1, e1, rfl, h5, fun _ _ _ => trivial, by simp only [maxLen] at h4; show xs.length ≤ _; omega⟩, hz⟩)
  have hfl : (List.range len).flatMap F = (List.range len).map fun i => (S i).2 := by
    rw [flatMap_one F len (fun i hi => by rw [(hF i hi).1, hce])]
    exact List.map_congr_left fun i hi => by rw [(hS i (List.mem_range.1 hi)).1]; rfl
  rw [hfl] at hr
  refine ⟨(List.range len).map fun i => (S i).1, a, cap, e', _, by simp, by simp only [maxLen] at hm; simp; omega, hr, ⟨by simp, fun i hi k1 => ?_⟩, fun i hi => ?_⟩
  · have hi' : i < len := by simpa using hi
    simp only [List.getElem_map, List.getElem_range]
    exact (hS i hi').2.1
  · have hi' : i < len := by simpa using hi
    simp only [List.getElem_map, List.getElem_range]
    exact (hS i hi').2.2
end
end Go.Proofs.YtkioddmhjbaleaaDoor
