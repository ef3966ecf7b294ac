/- How a range of a list's entries with their paths comes in. It says nothing of what the program does. -/
import Derived.Test.YtpeomfehdccmmaaDoorSpanFitA
import Derived.Deep.Strs
namespace Go.Proofs.YtpeomfehdccmmaaDoor
open Go.RowKit Go.ChangeShapes Go.WideShapes Go.ChangeAt
set_option linter.unusedVariables false
/-- the capacities of paths, each in a slice of its own -/
def CapsAt (pss : List (List (List UInt8))) (vs : List Value) : Prop := ∀ i, (h : i < pss.length) → ∀ a l c, vs[i]? = some (.slice a l c) → pss[i].length ≤ c ∧ c ≤ 9223372036854775807
section
variable {H : Type} {enc : TypeId × Value → H} {P : Program} {w : World} {spare : Nat → Bool} {held : Bool}
theorem trod_digs {t e q : TypeId} {fuel k : Nat} {cs : List Value} {x : DataW H × List MemPlace} (ht : P.underlying t = some (.slice e)) (he : P.underlying e = some (.array k q)) (hq : P.underlying q = some (.int .u8)) (hce : P.cellsOf e = k) (hcq : P.cellsOf q = 1)
    (h : DataW.trod enc P w 0 spare held fuel t cs = some x) : ∃ (ds : List (List UInt8)) (a : Option Addr) (cap e' : Nat), cs = [.slice a ds.length cap] ∧ ds.length ≤ cap ∧ cap ≤ 9223372036854775807 ∧ (∀ d ∈ ds, d.length = k) ∧ Rd w a e' (ds.flatten.map vB) := by
  obtain ⟨a, len, cap, rfl, hl, hm, F, n, hF, e', hr⟩ := trod_list ht h
  obtain ⟨D, hD⟩ := Deep.choose_lt (α := List UInt8) (n := len) (p := fun i b => b.length = k ∧ F i = b.map vB) (fun i hi => by
    obtain ⟨y, hy⟩ := (hF i hi).2
    exact trod_digest he hq hce hcq hy)
  refine ⟨(List.range len).map D, a, cap, e', by simp, by simpa using hl, by simp only [maxLen] at hm; omega, ?_, ?_⟩
  · intro x hx
    obtain ⟨i, hi, rfl⟩ := List.mem_map.1 hx
    exact (hD i (List.mem_range.1 hi)).1
  · rw [← flatMap_flat F D len (fun i hi => (hD i hi).2)]; exact hr
theorem trod_ents {T t u : TypeId} {f0 f1 : Field} {fuel : Nat} {cs : List Value} {x : DataW H × List MemPlace} (hT : P.underlying T = some (.slice t)) (ht : P.underlying t = some (.struct #[f0, f1])) (h0 : P.underlying f0.type = some (.int .i64)) (h1 : P.underlying f1.type = some (.array 32 u)) (hu : P.underlying u = some (.int .u8))
    (hc : P.cellsOf t = 33) (c0 : P.cellsOf f0.type = 1) (c1 : P.cellsOf f1.type = 32) (cu : P.cellsOf u = 1) (o0 : f0.offset = 0) (o1 : f1.offset = 1)
    (h : DataW.trod enc P w 0 spare held fuel T cs = some x) : ∃ (es : List En) (a : Option Addr) (cap e' : Nat), cs = [.slice a es.length cap] ∧ es.length ≤ cap ∧ cap ≤ 9223372036854775807 ∧ (∀ e ∈ es, EnW e) ∧ Rd w a e' (cellsE es) := by
  obtain ⟨a, len, cap, rfl, hl, hm, F, n, hF, e', hr⟩ := trod_list hT h
  obtain ⟨D, hD⟩ := Deep.choose_lt (α := En) (n := len) (p := fun i c => EnW c ∧ F i = eL c) (fun i hi => by
    obtain ⟨y, hy⟩ := (hF i hi).2
    exact trod_ent ht h0 h1 hu hc c0 c1 cu o0 o1 hy)
  refine ⟨(List.range len).map D, a, cap, e', by simp, by simpa using hl, by simp only [maxLen] at hm; omega, ?_, ?_⟩
  · intro x hx
    obtain ⟨i, hi, rfl⟩ := List.mem_map.1 hx
    exact (hD i (List.mem_range.1 hi)).1
  · rw [← flatMap_ents F D len (fun i hi => (hD i hi).2)]; exact hr
theorem trod_paths {t e d q : TypeId} {fuel : Nat} {cs : List Value} {x : DataW H × List MemPlace} (ht : P.underlying t = some (.slice e)) (he : P.underlying e = some (.slice d)) (hd : P.underlying d = some (.array 32 q)) (hq : P.underlying q = some (.int .u8)) (hce : P.cellsOf e = 1) (hcd : P.cellsOf d = 32) (hcq : P.cellsOf q = 1)
    (h : DataW.trod enc P w 0 spare held fuel t cs = some x) : ∃ (pss : List (List (List UInt8))) (a : Option Addr) (cap e' : Nat) (vs : List Value), cs = [.slice a pss.length cap] ∧ pss.length ≤ cap ∧ cap ≤ 9223372036854775807 ∧ Rd w a e' vs ∧ PathsAt w pss vs ∧ CapsAt pss vs := by
  obtain ⟨a, len, cap, rfl, hl, hm, F, n, hF, e', hr⟩ := trod_list ht h
  obtain ⟨S, hS⟩ := Deep.choose_lt (α := List (List UInt8) × Value) (n := len) (p := fun i b => F i = [b.2] ∧ (∀ d ∈ b.1, d.length = 32) ∧ ∃ a c e, b.2 = .slice a b.1.length c ∧ b.1.length ≤ c ∧ c ≤ 9223372036854775807 ∧ Rd w a e (b.1.flatten.map vB)) (fun i hi => by
    obtain ⟨y, hy⟩ := (hF i hi).2
    obtain ⟨ds, a1, c1, e1, h1, h2, h3, h4, h5⟩ := trod_digs he hd hq hcd hcq hy
    exact ⟨(ds, .slice a1 ds.length c1), h1, h4, a1, c1, e1, rfl, h2, h3, h5⟩)
  have hfl : (List.range len).flatMap F = (List.range len).map fun i => (S i).2 := by
    rw [flatMap_one F len (fun i hi => by rw [(hF i hi).1, hce])]
    exact List.map_congr_left fun i hi => by rw [(hS i (List.mem_range.1 hi)).1]; rfl
  rw [hfl] at hr
  refine ⟨(List.range len).map fun i => (S i).1, a, cap, e', _, by simp, by simpa using hl, by simp only [maxLen] at hm; omega, hr, ⟨by simp, fun i hi => ?_⟩, fun i hi a2 l2 c2 h2 => ?_⟩
  · have hi' : i < len := by simpa using hi
    simp only [List.getElem_map, List.getElem_range]
    obtain ⟨h1, h2, a1, c1, e1, h3, h4, h5, h6⟩ := hS i hi'
    refine ⟨h2, a1, c1, e1, ?_, h6⟩
    rw [List.getElem?_map, List.getElem?_range hi', Option.map_some, h3]
  · have hi' : i < len := by simpa using hi
    simp only [List.getElem_map, List.getElem_range]
    obtain ⟨h1, h3, a1, c1, e1, h4, h5, h6, h7⟩ := hS i hi'
    rw [List.getElem?_map, List.getElem?_range hi', Option.map_some, h4, Option.some.injEq, Value.slice.injEq] at h2
    obtain ⟨rfl, rfl, rfl⟩ := h2
    exact ⟨h5, h6⟩
theorem open_range {r : Reach} {b0 : Nat} {t te tp td q : TypeId} {f0 f1 f2 g0 g1 : Field} {v : Value} {d : DataW H} {ps : List MemPlace} (ht : P.underlying t = some (.struct #[f0, f1, f2])) (h0 : P.underlying f0.type = some (.int .i64)) (h1 : P.underlying f1.type = some (.slice te)) (h2 : P.underlying f2.type = some (.slice tp))
    (he : P.underlying te = some (.struct #[g0, g1])) (k0 : P.underlying g0.type = some (.int .i64)) (k1 : P.underlying g1.type = some (.array 32 q)) (hq : P.underlying q = some (.int .u8)) (hp : P.underlying tp = some (.slice td)) (hd : P.underlying td = some (.array 32 q))
    (hc : P.cellsOf t = 3) (c0 : P.cellsOf f0.type = 1) (c1 : P.cellsOf f1.type = 1) (c2 : P.cellsOf f2.type = 1) (ce : P.cellsOf te = 33) (cg0 : P.cellsOf g0.type = 1) (cg1 : P.cellsOf g1.type = 32) (cp : P.cellsOf tp = 1) (cd : P.cellsOf td = 32) (cq : P.cellsOf q = 1)
    (o0 : f0.offset = 0) (o1 : f1.offset = 1) (o2 : f2.offset = 2) (p0 : g0.offset = 0) (p1 : g1.offset = 1)
    (hval : Value.okWide P w r b0 t v) (h : DataW.Trod enc P w 0 spare held t v d ps) : ∃ (fr : Int) (es : List En) (ia : Option Addr) (ic ie : Nat) (pss : List (List (List UInt8))) (pa : Option Addr) (pc pe : Nat) (vs : List Value), v = .agg #[.int .i64 fr, .slice ia es.length ic, .slice pa pss.length pc] ∧ (-9223372036854775808 ≤ fr ∧ fr ≤ 9223372036854775807) ∧
      es.length ≤ ic ∧ ic ≤ 9223372036854775807 ∧ (∀ e ∈ es, EnW e) ∧ Rd w ia ie (cellsE es) ∧ pss.length ≤ pc ∧ pc ≤ 9223372036854775807 ∧ Rd w pa pe vs ∧ PathsAt w pss vs ∧ CapsAt pss vs := by
  obtain ⟨cs, rfl, _⟩ := okWide_struct ht hval
  obtain ⟨fuel, hf⟩ := h
  obtain ⟨y0, y1, y2, m, _, hl, x0, x1, x2⟩ := Deep.trod_struct3 ht hf
  rw [hc] at hl
  rw [o0, c0] at x0
  rw [o1, c1] at x1
  rw [o2, c2] at x2
  obtain ⟨cl, hcl⟩ : ∃ l, l = cs.toList := ⟨_, rfl⟩
  have hcells : (Value.agg cs).cells = cs := rfl
  have hcl2 : (Value.agg cs).cells.toList = cl := by rw [hcells, hcl]
  simp only [hcl2] at hl x0 x1 x2
  match cl, hl with
  | [v0, v1, v2], _ =>
    simp only [List.drop_zero, List.take_succ_cons, List.take_zero, List.drop_succ_cons] at x0 x1 x2
    obtain ⟨fr, e0, _, hw⟩ := DataW.trod_int h0 x0
    obtain ⟨es, ia, ic, ie, e1, l1, l2, l3, l4⟩ := trod_ents h1 he k0 k1 hq ce cg0 cg1 cq p0 p1 x1
    obtain ⟨pss, pa, pc, pe, vs, e2, m1, m2, m3, m4, m5⟩ := trod_paths h2 hp hd hq cp cd cq x2
    simp only [List.cons.injEq, and_true] at e0 e1 e2
    refine ⟨fr, es, ia, ic, ie, pss, pa, pc, pe, vs, ?_, bounds_i64 hw, l1, l2, l3, l4, m1, m2, m3, m4, m5⟩
    congr 1
    apply Array.toList_inj.1
    rw [← hcl, e0, e1, e2]
end
end Go.Proofs.YtpeomfehdccmmaaDoor
