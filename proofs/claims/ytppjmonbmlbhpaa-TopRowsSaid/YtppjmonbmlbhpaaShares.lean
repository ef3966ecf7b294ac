/- Shares in memory, and shares that come in. It says nothing of the program. -/
import Derived.Test.YtppjmonbmlbhpaaOpenA
namespace Go.Proofs.Ytppjmonbmlbhpaa
open Go.RowKit Go.ChangeShapes Go.WideShapes Go.ChangeAt
set_option linter.unusedVariables false

/-- a share: its place and its bytes -/
structure Sh where
  at_ : UInt8
  data : List UInt8
instance : Inhabited Sh := ⟨⟨0, []⟩⟩

/-- the cells of shares, two each -/
def AreS (E : Nat → TypeId → Prop) (w : World) (ss : List Sh) (vs : List Value) : Prop :=
  vs.length = 2 * ss.length ∧ ∀ i, (h : i < ss.length) → (h1 : 2 * i < vs.length) → (h2 : 2 * i + 1 < vs.length) → vs[2 * i] = vB ss[i].at_ ∧ IsB E w ss[i].data vs[2 * i + 1]
theorem AreS.nil {E : Nat → TypeId → Prop} {w : World} : AreS E w [] [] := ⟨rfl, fun i h => by simp at h⟩
theorem AreS.below {E : Nat → TypeId → Prop} {w w' : World} {ss : List Sh} {vs : List Value} (h : AreS E w ss vs) (hb : Below w.heap.size w w') : AreS E w' ss vs :=
  ⟨h.1, fun i hi h1 h2 => ⟨(h.2 i hi h1 h2).1, (h.2 i hi h1 h2).2.below hb⟩⟩
theorem AreS.mono {E E' : Nat → TypeId → Prop} {w : World} {ss : List Sh} {vs : List Value} (h : AreS E w ss vs) (hE : ∀ b e, b < w.heap.size → E b e → E' b e) : AreS E' w ss vs :=
  ⟨h.1, fun i hi h1 h2 => ⟨(h.2 i hi h1 h2).1, (h.2 i hi h1 h2).2.mono hE⟩⟩
theorem AreS.grown {E : Nat → TypeId → Prop} {w w' : World} {ss : List Sh} {vs : List Value} (h : AreS E w ss vs) {row : Option Nat} (hg : w.grownBy w' row)
    (hr : ∀ g, row = some g → ∃ cur e' fr, w.heap[g]? = some (.cells cur e' fr) ∧ ∀ e, E g e → e ≠ e') : AreS E w' ss vs :=
  ⟨h.1, fun i hi h1 h2 => ⟨(h.2 i hi h1 h2).1, (h.2 i hi h1 h2).2.grown hg hr⟩⟩
theorem AreS.snoc {E : Nat → TypeId → Prop} {w : World} {ss : List Sh} {vs : List Value} (h : AreS E w ss vs) {s : Sh} {v : Value} (hv : IsB E w s.data v) : AreS E w (ss ++ [s]) (vs ++ [vB s.at_, v]) := by
  refine ⟨by simp [h.1] <;> omega, fun i hi h1 h2 => ?_⟩
  by_cases e : i < ss.length
  · have l1 : 2 * i < vs.length := by rw [h.1]; omega
    have l2 : 2 * i + 1 < vs.length := by rw [h.1]; omega
    simp only [List.getElem_append_left e, List.getElem_append_left l1, List.getElem_append_left l2]
    exact h.2 i e l1 l2
  · have : i = ss.length := by simp at hi; omega
    subst this
    have e1 : 2 * ss.length - vs.length = 0 := by rw [h.1]; omega
    have e2 : 2 * ss.length + 1 - vs.length = 1 := by rw [h.1]; omega
    simp only [List.getElem_append_right (Nat.le_refl _), List.getElem_append_right (show vs.length ≤ 2 * ss.length by rw [h.1]; omega), List.getElem_append_right (show vs.length ≤ 2 * ss.length + 1 by rw [h.1]; omega), e1, e2, Nat.sub_self]
    exact ⟨rfl, hv⟩
theorem AreS.take {E : Nat → TypeId → Prop} {w : World} {ss : List Sh} {vs : List Value} (h : AreS E w ss vs) (n : Nat) : AreS E w (ss.take n) (vs.take (2 * n)) := by
  refine ⟨by simp [h.1] <;> omega, fun i hi h1 h2 => ?_⟩
  simp only [List.getElem_take]
  exact h.2 i (by simp at hi; omega) (by simp at h1; omega) (by simp at h2; omega)
theorem AreS.alloc {E : Nat → TypeId → Prop} {w : World} {ss : List Sh} {vs : List Value} (h : AreS E w ss vs) (o : Obj) : AreS E (w.alloc o) ss vs :=
  h.below ((Below.refl _ w).alloc (Nat.le_refl _) o)
/-- the two cells of a share -/
theorem AreS.cells {E : Nat → TypeId → Prop} {w : World} {a : Option Addr} {e : TypeId} {ss : List Sh} {vs : List Value} (hr : Rd w a e vs) (h : AreS E w ss vs) {k : Nat} (hk : k < ss.length) :
    ∃ b o a' c' e', a = some ⟨b, o, none⟩ ∧ b < w.heap.size ∧ w.cell? ⟨b, o + 2 * k, none⟩ = some (.int .u8 (ss[k].at_.toNat : Int)) ∧ w.cell? ⟨b, o + (2 * k + 1), none⟩ = some (.slice a' ss[k].data.length c') ∧ Rd w a' e' (ss[k].data.map vB) ∧ (∀ x, a' = some x → ss[k].data ≠ [] → E x.block e') ∧ ss[k].data.length ≤ 9223372036854775807 := by
  have l1 : 2 * k < vs.length := by rw [h.1]; omega
  have l2 : 2 * k + 1 < vs.length := by rw [h.1]; omega
  obtain ⟨b, o, ha, hb, hc⟩ := hr.cell l1
  obtain ⟨h1, a', c', e', h2, h3, h4, h5⟩ := h.2 k hk l1 l2
  refine ⟨b, o, a', c', e', ha, hb, ?_, ?_, h3, h4, h5⟩
  · rw [hc _ l1, h1]; rfl
  · rw [hc _ l2, h2]

section
variable {H : Type} {enc : TypeId × Value → H} {P : Program} {w : World} {spare : Nat → Bool} {held : Bool}
theorem trod_share {t q u : TypeId} {f0 f1 : Field} {n : Nat} {cs : List Value} {y : DataW H × List MemPlace} (ht : P.underlying t = some (.struct #[f0, f1])) (h0 : P.underlying f0.type = some (.int .u8)) (h1 : P.underlying f1.type = some (.slice u)) (hu : P.underlying u = some (.int .u8))
    (hc : P.cellsOf t = 2) (c0 : P.cellsOf f0.type = 1) (c1 : P.cellsOf f1.type = 1) (cu : P.cellsOf u = 1) (o0 : f0.offset = 0) (o1 : f1.offset = 1)
    (h : DataW.trod enc P w 0 spare held n t cs = some y) : ∃ (s : Sh) (v : Value), cs = [vB s.at_, v] ∧ IsB (fun _ _ => True) w s.data v := by
  obtain ⟨y0, y1, m, _, hl, g0, g1⟩ := trod_struct2 ht h
  rw [hc] at hl
  match cs, hl with
  | [v0, v1], _ =>
    rw [o0, c0] at g0
    rw [o1, c1] at g1
    simp only [List.drop_zero, List.take_succ_cons, List.take_zero, List.drop_succ_cons] at g0 g1
    obtain ⟨b, hb⟩ := byte_of_trod h0 g0
    obtain ⟨xs, a, cap, h2, h3, h4, e', h5⟩ := trod_bytes h1 hu cu g1
    simp only [List.cons.injEq, and_true] at hb h2
    refine ⟨⟨b, xs⟩, v1, by rw [hb], a, cap, e', h2, h5, fun _ _ _ => trivial, by simp only [maxLen] at h4; show xs.length ≤ _; omega⟩
theorem flatMap_pairs (F : Nat → List Value) (n : Nat) (h : ∀ i, i < n → (F i).length = 2) : ((List.range n).flatMap F).length = 2 * n ∧ ∀ i, i < n → ((List.range n).flatMap F)[2 * i]? = (F i)[0]? ∧ ((List.range n).flatMap F)[2 * i + 1]? = (F i)[1]? := by
  induction n with
  | zero => exact ⟨rfl, fun i hi => by omega⟩
  | succ n ih =>
    obtain ⟨h1, h2⟩ := ih (fun i hi => h i (by omega))
    rw [List.range_succ, List.flatMap_append]
    simp only [List.flatMap_cons, List.flatMap_nil, List.append_nil]
    refine ⟨by rw [List.length_append, h1, h n (by omega)]; omega, fun i hi => ?_⟩
    by_cases e : i < n
    · rw [List.getElem?_append_left (by omega), List.getElem?_append_left (by omega)]
      exact h2 i e
    · obtain rfl : i = n := by omega
      rw [List.getElem?_append_right (by omega), List.getElem?_append_right (by omega), h1]
      simp
theorem open_shares {r : Reach} {b0 : Nat} {t e u : TypeId} {f0 f1 : Field} {v : Value} {d : DataW H} {ps : List MemPlace} (ht : P.underlying t = some (.slice e)) (he : P.underlying e = some (.struct #[f0, f1])) (h0 : P.underlying f0.type = some (.int .u8)) (h1 : P.underlying f1.type = some (.slice u)) (hu : P.underlying u = some (.int .u8))
    (hc : P.cellsOf e = 2) (c0 : P.cellsOf f0.type = 1) (c1 : P.cellsOf f1.type = 1) (cu : P.cellsOf u = 1) (o0 : f0.offset = 0) (o1 : f1.offset = 1)
    (hval : Value.okWide P w r b0 t v) (h : DataW.Trod enc P w 0 spare held t v d ps) : ∃ (ss : List Sh) (a : Option Addr) (cap e' : Nat) (vs : List Value), v = .slice a ss.length cap ∧ ss.length ≤ cap ∧ cap ≤ 9223372036854775807 ∧ Rd w a e' vs ∧ AreS (fun _ _ => True) w ss vs := by
  obtain ⟨a, len, cap, rfl⟩ := okWide_slice ht hval
  obtain ⟨fuel, hf⟩ := h
  obtain ⟨a', len', cap', hcs, hl, hm, F, n, hF, e', hr⟩ := trod_list ht hf
  simp [Value.cells] at hcs
  obtain ⟨rfl, rfl, rfl⟩ := hcs
  obtain ⟨S, hS⟩ := Deep.choose_lt (α := Sh × Value) (n := len) (p := fun i b => F i = [vB b.1.at_, b.2] ∧ IsB (fun _ _ => True) w b.1.data b.2) (fun i hi => by
    obtain ⟨y, hy⟩ := (hF i hi).2
    obtain ⟨s, v, h1, h2⟩ := trod_share (q := u) he h0 h1 hu hc c0 c1 cu o0 o1 hy
    exact ⟨(s, v), h1, h2⟩)
  obtain ⟨g1, g2⟩ := flatMap_pairs F len (fun i hi => by rw [(hF i hi).1, hc])
  refine ⟨(List.range len).map fun i => (S i).1, a, cap, e', _, by simp, by simpa using hl, by simp only [maxLen] at hm; omega, hr, by simp [g1], fun i hi k1 k2 => ?_⟩
  have hi' : i < len := by simpa using hi
  obtain ⟨q1, q2⟩ := g2 i hi'
  obtain ⟨s1, s2⟩ := hS i hi'
  rw [s1] at q1 q2
  rw [List.getElem?_eq_getElem k1] at q1
  rw [List.getElem?_eq_getElem k2] at q2
  simp only [List.getElem?_cons_zero, Option.some.injEq, List.getElem?_cons_succ] at q1 q2
  simp only [List.getElem_map, List.getElem_range]
  rw [q1, q2]
  exact ⟨rfl, s2⟩
end
end Go.Proofs.Ytppjmonbmlbhpaa
