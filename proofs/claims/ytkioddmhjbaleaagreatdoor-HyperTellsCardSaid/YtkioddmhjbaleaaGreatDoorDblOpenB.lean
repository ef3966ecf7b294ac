/- How a signature comes in: a number and two lists of digests. It says nothing of what the program does. -/
import Derived.Test.YtkioddmhjbaleaaGreatDoorOpenA
import Derived.Deep.Strs
namespace Go.Proofs.YtkioddmhjbaleaaGreatDoor
open Go.RowKit Go.ChangeShapes Go.WideShapes Go.ChangeAt
set_option linter.unusedVariables false
section
variable {H : Type} {enc : TypeId × Value → H} {P : Program} {w : World} {spare : Nat → Bool} {held : Bool}
theorem trod_digsS {t e q : TypeId} {fuel k : Nat} {cs : List Value} {x : DataW H × List MemPlace} (ht : P.underlying t = some (.slice e)) (he : P.underlying e = some (.array k q)) (hq : P.underlying q = some (.int .u8)) (hce : P.cellsOf e = k) (hcq : P.cellsOf q = 1)
    (h : DataW.trod enc P w 0 spare held fuel t cs = some x) : ∃ (ds : List (List UInt8)) (a : Option Addr) (cap e' : Nat), cs = [.slice a ds.length cap] ∧ ds.length ≤ cap ∧ cap ≤ 9223372036854775807 ∧ (∀ d ∈ ds, d.length = k) ∧ Rd w a e' (ds.flatten.map vB) := by
  obtain ⟨a, len, cap, rfl, hl, hm, F, n, hF, e', hr⟩ := trod_list ht h
  obtain ⟨D, hD⟩ := Deep.choose_lt (α := List UInt8) (n := len) (p := fun i b => b.length = k ∧ F i = b.map vB) (fun i hi => by
    obtain ⟨y, hy⟩ := (hF i hi).2
    exact trod_digest he hq hce hcq hy)
  refine ⟨(List.range len).map D, a, cap, e', by simp, by simpa using hl, by simp only [maxLen] at hm; omega, ?_, ?_⟩
  · intro x hx
    obtain ⟨i, hi, rfl⟩ := List.mem_map.1 hx
    exact (hD i (List.mem_range.1 hi)).1
  · rw [← flatMap_flat F D len (fun i hi => (hD i hi).2)]; exact hr
theorem open_sig {r : Reach} {b0 : Nat} {t td q : TypeId} {f0 f1 f2 : Field} {v : Value} {d : DataW H} {ps : List MemPlace} (ht : P.underlying t = some (.struct #[f0, f1, f2])) (h0 : P.underlying f0.type = some (.int .i64)) (h1 : P.underlying f1.type = some (.slice td)) (h2 : P.underlying f2.type = some (.slice td))
    (hd : P.underlying td = some (.array 32 q)) (hq : P.underlying q = some (.int .u8))
    (hc : P.cellsOf t = 3) (c0 : P.cellsOf f0.type = 1) (c1 : P.cellsOf f1.type = 1) (c2 : P.cellsOf f2.type = 1) (cd : P.cellsOf td = 32) (cq : P.cellsOf q = 1)
    (o0 : f0.offset = 0) (o1 : f1.offset = 1) (o2 : f2.offset = 2)
    (hval : Value.okWide P w r b0 t v) (h : DataW.Trod enc P w 0 spare held t v d ps) : ∃ (fr : Int) (gs : List (List UInt8)) (ga : Option Addr) (gc ge : Nat) (ss : List (List UInt8)) (pa : Option Addr) (pc pe : Nat), v = .agg #[.int .i64 fr, .slice ga gs.length gc, .slice pa ss.length pc] ∧ (-9223372036854775808 ≤ fr ∧ fr ≤ 9223372036854775807) ∧
      gs.length ≤ gc ∧ gc ≤ 9223372036854775807 ∧ (∀ d ∈ gs, d.length = 32) ∧ Rd w ga ge (gs.flatten.map vB) ∧ ss.length ≤ pc ∧ pc ≤ 9223372036854775807 ∧ (∀ d ∈ ss, d.length = 32) ∧ Rd w pa pe (ss.flatten.map vB) := by
  obtain ⟨cs, rfl, _⟩ := okWide_struct ht hval
  obtain ⟨fuel, hf⟩ := h
  obtain ⟨y0, y1, y2, m, _, hl, x0, x1, x2⟩ := Deep.trod_struct3 ht hf
  rw [hc] at hl
  rw [o0, c0] at x0
  rw [o1, c1] at x1
  rw [o2, c2] at x2
  obtain ⟨cl, hcl⟩ : ∃ l, l = cs.toList := ⟨_, rfl⟩
  have hcells : (Value.agg cs).cells = cs := rfl
  have hcl2 : (Value.agg cs).cells.toList = cl := by rw [hcells, hcl]
  simp only [hcl2] at hl x0 x1 x2
  match cl, hl with
  | [v0, v1, v2], _ =>
    simp only [List.drop_zero, List.take_succ_cons, List.take_zero, List.drop_succ_cons] at x0 x1 x2
    obtain ⟨fr, e0, _, hw⟩ := DataW.trod_int h0 x0
    obtain ⟨gs, ga, gc, ge, e1, l1, l2, l3, l4⟩ := trod_digsS h1 hd hq cd cq x1
    obtain ⟨ss, pa, pc, pe, e2, m1, m2, m3, m4⟩ := trod_digsS h2 hd hq cd cq x2
    simp only [List.cons.injEq, and_true] at e0 e1 e2
    refine ⟨fr, gs, ga, gc, ge, ss, pa, pc, pe, ?_, bounds_i64 hw, l1, l2, l3, l4, m1, m2, m3, m4⟩
    congr 1
    apply Array.toList_inj.1
    rw [← hcl, e0, e1, e2]
end
end Go.Proofs.YtkioddmhjbaleaaGreatDoor
/- How a signature of two storeys comes in. It says nothing of what the program does. -/
namespace Go.Proofs.YtkioddmhjbaleaaGreatDoor
open Go.RowKit Go.ChangeShapes Go.WideShapes Go.ChangeAt
set_option linter.unusedVariables false
section
variable {H : Type} {enc : TypeId × Value → H} {P : Program} {w : World} {spare : Nat → Bool} {held : Bool}
def SigIs (w : World) (cs : List Value) (fr : Int) (gs : List (List UInt8)) (ga : Option Addr) (gc ge : Nat) (ss : List (List UInt8)) (pa : Option Addr) (pc pe : Nat) : Prop :=
  cs = [.int .i64 fr, .slice ga gs.length gc, .slice pa ss.length pc] ∧ (-9223372036854775808 ≤ fr ∧ fr ≤ 9223372036854775807) ∧
      gs.length ≤ gc ∧ gc ≤ 9223372036854775807 ∧ (∀ d ∈ gs, d.length = 32) ∧ Rd w ga ge (gs.flatten.map vB) ∧ ss.length ≤ pc ∧ pc ≤ 9223372036854775807 ∧ (∀ d ∈ ss, d.length = 32) ∧ Rd w pa pe (ss.flatten.map vB)
theorem trod_sigS {t td q : TypeId} {f0 f1 f2 : Field} {fuel : Nat} {cs : List Value} {x : DataW H × List MemPlace} (ht : P.underlying t = some (.struct #[f0, f1, f2])) (h0 : P.underlying f0.type = some (.int .i64)) (h1 : P.underlying f1.type = some (.slice td)) (h2 : P.underlying f2.type = some (.slice td))
    (hd : P.underlying td = some (.array 32 q)) (hq : P.underlying q = some (.int .u8))
    (hc : P.cellsOf t = 3) (c0 : P.cellsOf f0.type = 1) (c1 : P.cellsOf f1.type = 1) (c2 : P.cellsOf f2.type = 1) (cd : P.cellsOf td = 32) (cq : P.cellsOf q = 1)
    (o0 : f0.offset = 0) (o1 : f1.offset = 1) (o2 : f2.offset = 2)
    (hf : DataW.trod enc P w 0 spare held fuel t cs = some x) : ∃ fr gs ga gc ge ss pa pc pe, SigIs w cs fr gs ga gc ge ss pa pc pe := by
  obtain ⟨y0, y1, y2, m, _, hl, x0, x1, x2⟩ := Deep.trod_struct3 ht hf
  rw [hc] at hl
  rw [o0, c0] at x0
  rw [o1, c1] at x1
  rw [o2, c2] at x2
  match cs, hl with
  | [v0, v1, v2], _ =>
    simp only [List.drop_zero, List.take_succ_cons, List.take_zero, List.drop_succ_cons] at x0 x1 x2
    obtain ⟨fr, e0, _, hw⟩ := DataW.trod_int h0 x0
    obtain ⟨gs, ga, gc, ge, e1, l1, l2, l3, l4⟩ := trod_digsS h1 hd hq cd cq x1
    obtain ⟨ss, pa, pc, pe, e2, m1, m2, m3, m4⟩ := trod_digsS h2 hd hq cd cq x2
    simp only [List.cons.injEq, and_true] at e0 e1 e2
    exact ⟨fr, gs, ga, gc, ge, ss, pa, pc, pe, by rw [e0, e1, e2], bounds_i64 hw, l1, l2, l3, l4, m1, m2, m3, m4⟩
theorem open_dbl {r : Reach} {b0 : Nat} {tt t td q : TypeId} {g0 g1 f0 f1 f2 : Field} {v : Value} {d : DataW H} {ps : List MemPlace} (hT : P.underlying tt = some (.struct #[g0, g1])) (hg0 : g0.type = t) (hg1 : g1.type = t) (ht : P.underlying t = some (.struct #[f0, f1, f2])) (h0 : P.underlying f0.type = some (.int .i64)) (h1 : P.underlying f1.type = some (.slice td)) (h2 : P.underlying f2.type = some (.slice td))
    (hd : P.underlying td = some (.array 32 q)) (hq : P.underlying q = some (.int .u8))
    (hcT : P.cellsOf tt = 6) (hc : P.cellsOf t = 3) (c0 : P.cellsOf f0.type = 1) (c1 : P.cellsOf f1.type = 1) (c2 : P.cellsOf f2.type = 1) (cd : P.cellsOf td = 32) (cq : P.cellsOf q = 1)
    (p0 : g0.offset = 0) (p1 : g1.offset = 3) (o0 : f0.offset = 0) (o1 : f1.offset = 1) (o2 : f2.offset = 2)
    (hval : Value.okWide P w r b0 tt v) (h : DataW.Trod enc P w 0 spare held tt v d ps) : ∃ (fu : Int) (us : List (List UInt8)) (ua : Option Addr) (uc ue : Nat) (vs : List (List UInt8)) (va : Option Addr) (vc ve : Nat) (fl : Int) (ss : List (List UInt8)) (sa : Option Addr) (sc se : Nat) (qs : List (List UInt8)) (pa : Option Addr) (pc pe : Nat),
      v = .agg #[.int .i64 fu, .slice ua us.length uc, .slice va vs.length vc, .int .i64 fl, .slice sa ss.length sc, .slice pa qs.length pc] ∧ (-9223372036854775808 ≤ fu ∧ fu ≤ 9223372036854775807) ∧ (-9223372036854775808 ≤ fl ∧ fl ≤ 9223372036854775807) ∧
      (us.length ≤ uc ∧ uc ≤ 9223372036854775807 ∧ (∀ d ∈ us, d.length = 32) ∧ Rd w ua ue (us.flatten.map vB)) ∧ (vs.length ≤ vc ∧ vc ≤ 9223372036854775807 ∧ (∀ d ∈ vs, d.length = 32) ∧ Rd w va ve (vs.flatten.map vB)) ∧
      (ss.length ≤ sc ∧ sc ≤ 9223372036854775807 ∧ (∀ d ∈ ss, d.length = 32) ∧ Rd w sa se (ss.flatten.map vB)) ∧ (qs.length ≤ pc ∧ pc ≤ 9223372036854775807 ∧ (∀ d ∈ qs, d.length = 32) ∧ Rd w pa pe (qs.flatten.map vB)) := by
  obtain ⟨cs, rfl, _⟩ := okWide_struct hT hval
  obtain ⟨fuel, hf⟩ := h
  obtain ⟨xs, n, _, _, hl, hlen, hfs⟩ := DataW.trod_struct hT hf
  obtain ⟨y0, y1, x0, x1⟩ : ∃ y0 y1, DataW.trod enc P w 0 spare held n g0.type (((Value.agg cs).cells.toList.drop g0.offset).take (P.cellsOf g0.type)) = some y0 ∧ DataW.trod enc P w 0 spare held n g1.type (((Value.agg cs).cells.toList.drop g1.offset).take (P.cellsOf g1.type)) = some y1 := by
    match xs, hlen with
    | [y0, y1], _ => exact ⟨y0, y1, by simpa using hfs 0 g0 rfl, by simpa using hfs 1 g1 rfl⟩
  rw [hg0, p0, hc] at x0
  rw [hg1, p1, hc] at x1
  rw [hcT] at hl
  obtain ⟨cl, hcl⟩ : ∃ l, l = cs.toList := ⟨_, rfl⟩
  have hcells : (Value.agg cs).cells = cs := rfl
  have hcl2 : (Value.agg cs).cells.toList = cl := by rw [hcells, hcl]
  simp only [hcl2] at hl x0 x1
  match cl, hl with
  | [v0, v1, v2, v3, v4, v5], _ =>
    simp only [List.drop_zero, List.take_succ_cons, List.take_zero, List.drop_succ_cons] at x0 x1
    obtain ⟨fu, us, ua, uc, ue, vs, va, vc, ve, e0, b0', a1, a2, a3, a4, a5, a6, a7, a8⟩ := trod_sigS ht h0 h1 h2 hd hq hc c0 c1 c2 cd cq o0 o1 o2 x0
    obtain ⟨fl, ss, sa, sc, se, qs, pa, pc, pe, e1, b1', d1, d2, d3, d4, d5, d6, d7, d8⟩ := trod_sigS ht h0 h1 h2 hd hq hc c0 c1 c2 cd cq o0 o1 o2 x1
    simp only [List.cons.injEq, and_true] at e0 e1
    refine ⟨fu, us, ua, uc, ue, vs, va, vc, ve, fl, ss, sa, sc, se, qs, pa, pc, pe, ?_, b0', b1', ⟨a1, a2, a3, a4⟩, ⟨a5, a6, a7, a8⟩, ⟨d1, d2, d3, d4⟩, ⟨d5, d6, d7, d8⟩⟩
    congr 1
    apply Array.toList_inj.1
    rw [← hcl, e0.1, e0.2.1, e0.2.2, e1.1, e1.2.1, e1.2.2]
end
end Go.Proofs.YtkioddmhjbaleaaGreatDoor
