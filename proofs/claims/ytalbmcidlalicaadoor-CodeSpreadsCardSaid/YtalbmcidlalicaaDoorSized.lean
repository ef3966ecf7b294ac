/- How long what came in can be, by the form's own reach; one element appended within that reach. It says nothing of the program. -/
import Derived.Test.YtalbmcidlalicaaDoorShares
import Derived.SizedLaws
namespace Go.Proofs.YtalbmcidlalicaaDoor
open Go.RowKit Go.ChangeShapes Go.WideShapes Go.ChangeAt
set_option linter.unusedVariables false
section
variable {P : Program} {w : World} {ops : Array Oper} {rest : List Oper} {o : Oper} {a : Act} {Q : Exit → Act → World → Prop}
theorem app1w (T e : TypeId) (z : Value) (bytes : Nat) (ht : P.underlying T = some (.slice e)) (hinfo : (P.info? e).map (fun i => (i.zero, i.size, i.bytes)) = some (some z, 1, bytes)) (hzs : z.cells.size = 1)
    (hgd : o.guard = none) (s x : Operand) (ho : o.op = .call { callee := .builtin .append, args := #[s, x], argTypes := #[T, T] })
    (base : Nat) (v : Value) (n : Nat) (xs : List Value) (hs : a.eval s = v) (hown : w.ownsRow base e 1 v n xs) (ad : Addr) (c : Nat) (u : Value) (hx : a.eval x = .slice (some ad) 1 c)
    (hu : w.cell? ad = some u) (h1 : u.oneCell' = true) (hn : n + 1 ≤ 140737488355328) (hnb : (n + 1) * bytes ≤ 140737488355328) (hbase : base ≤ w.heap.size) (H : Nat) (hH : w.heap.size = H)
    (h : ∀ g cap w', w'.ownsRow base e 1 (.slice (some ⟨g, 0, none⟩) (n + 1) cap) (n + 1) (xs ++ [u]) → w.grownBy w' v.ownBlock → (v.ownBlock = some g ∨ g = H) → g < w'.heap.size → wpList P ops Q rest (a.put o.dst (.slice (some ⟨g, 0, none⟩) (n + 1) cap)) w') : wpList P ops Q (o :: rest) a w := by
  obtain ⟨i, hi, hz, hsz, hb⟩ := info_parts hinfo
  refine wpList_append_lies w hgd s x T ho base e i z 1 bytes ht hi hz hsz hb hzs (by omega) v n xs hs hown ad 1 c [u] hx rfl ?_ ?_ (by omega) (by simp only [maxLen]; omega) ?_ hbase H hH h
  · intro j y hj
    match j, hj with
    | 0, hj =>
      obtain rfl : u = y := by simpa using hj
      obtain ⟨b, off, sp⟩ := ad
      have := World.cell?_spot hu
      simp only at this
      subst this
      simpa [Addr.add] using hu
  · intro y hy
    obtain rfl : y = u := by simpa using hy
    exact h1
  · omega
end

section
variable {H : Type} {enc : TypeId × Value → H} {P : Program} {w : World} {spare : Nat → Bool} {held : Bool}
theorem trod_list2 {t e : TypeId} {fuel : Nat} {cs : List Value} {x : DataW H × List MemPlace} (ht : P.underlying t = some (.slice e)) (h : DataW.trod enc P w 0 spare held fuel t cs = some x) :
    ∃ (a : Option Addr) (len cap : Nat), cs = [.slice a len cap] ∧ len ≤ cap ∧ cap ≤ maxLen ∧ ∃ (F : Nat → List Value) (n : Nat), (∀ i, i < len → (F i).length = P.cellsOf e ∧ ∃ y, DataW.trod enc P w 0 spare held n e (F i) = some y ∧ ∃ es sp, x.1 = .slice es sp ∧ y.1 ∈ es) ∧
      ∃ e', Rd w a e' ((List.range len).flatMap F) := by
  rcases Deep.open_slice ht h with ⟨rfl, rfl⟩ | ⟨a, len, cap, m, n, D, Pl, rfl, _, hl, hm, hmm, hxe, hx⟩
  · exact ⟨none, 0, 0, rfl, Nat.le_refl _, Nat.zero_le _, fun _ => [], 0, fun i hi => by omega, 0, .inl (by simp)⟩
  · have hlm : len ≤ m := by rw [hmm]; split <;> omega
    obtain ⟨F, hF⟩ := Deep.choose_lt (α := List Value) (n := len) (p := fun i cs' => w.cells? 0 (a.add (i * P.cellsOf e)) (P.cellsOf e) = some cs' ∧ DataW.trod enc P w 0 spare held n e cs' = some (D i, Pl i)) (fun i hi => hx i (by omega))
    refine ⟨some a, len, cap, rfl, hl, hm, F, n, fun i hi => ?_, ?_⟩
    · obtain ⟨h1, h2⟩ := hF i hi
      exact ⟨(World.cells?_some h1).2.1, _, h2, _, _, by rw [hxe], List.mem_map.2 ⟨i, List.mem_range.2 hi, rfl⟩⟩
    · refine Rd.of_cells fun i hi => ?_
      have hall : ∀ i, i < len → (F i).length = P.cellsOf e := fun i hi => (World.cells?_some (hF i hi).1).2.1
      have key : ∀ k, k ≤ len → ∀ i, i < ((List.range k).flatMap F).length → w.cell? (a.add i) = ((List.range k).flatMap F)[i]? := by
        intro k
        induction k with
        | zero => intro _ i hi; simp at hi
        | succ k ih =>
          intro hk i hi
          have hlen : ∀ j, j ≤ len → ((List.range j).flatMap F).length = j * P.cellsOf e := by
            intro j
            induction j with
            | zero => intro _; simp
            | succ j ihj => intro hj; rw [List.range_succ, List.flatMap_append, List.length_append, ihj (by omega)]; simp [hall j (by omega), Nat.succ_mul]
          rw [List.range_succ, List.flatMap_append] at hi ⊢
          by_cases hlt : i < ((List.range k).flatMap F).length
          · rw [List.getElem?_append_left hlt]; exact ih (by omega) i hlt
          · rw [List.getElem?_append_right (by omega)]
            have hL := hlen k (by omega)
            simp only [List.flatMap_cons, List.flatMap_nil, List.append_nil, List.length_append] at hi ⊢
            have h3 := (World.cells?_some (hF k (by omega)).1).2.2 (i - ((List.range k).flatMap F).length) (by have := hall k (by omega); omega)
            rw [Deep.add_add, show k * P.cellsOf e + (i - ((List.range k).flatMap F).length) = i by omega] at h3
            exact h3
      exact key len (Nat.le_refl _) i hi
theorem wAll_mem {e : TypeId} : ∀ {l : List (DataW H)} {d : DataW H}, d ∈ l → ∀ n ∈ d.weights P e, n ∈ DataW.weightsAll P e l
  | d' :: r, d, hd, n, hn => by
    simp only [DataW.weightsAll, List.mem_append]
    rcases List.mem_cons.1 hd with rfl | h
    · exact Or.inl hn
    · exact Or.inr (wAll_mem h n hn)
theorem wElem {t e : TypeId} {d y : DataW H} {es sp : List (DataW H)} (ht : P.underlying t = some (.slice e)) (hd : d = .slice es sp) (hy : y ∈ es) {B : Nat} (hB : ∀ m ∈ d.weights P t, m ≤ B) : ∀ m ∈ y.weights P e, m ≤ B := by
  intro m hm
  refine hB m ?_
  rw [hd]
  simp only [DataW.weights, ht, List.mem_cons, List.mem_append]
  exact .inr (.inl (wAll_mem hy m hm))
theorem wLen {t e : TypeId} {fuel n cap : Nat} {a : Option Addr} {x : DataW H × List MemPlace} (ht : P.underlying t = some (.slice e)) (h : DataW.trod enc P w 0 spare held fuel t [.slice a n cap] = some x) {B : Nat} (hB : ∀ m ∈ x.1.weights P t, m ≤ B) : n * P.bytesOf e ≤ B := by
  rcases Deep.open_slice ht h with ⟨h1, _⟩ | ⟨a', len, cap', m, k, D, Pl, h1, _, hl, hm, hmm, hxe, _⟩
  · simp only [List.cons.injEq, and_true, Value.slice.injEq] at h1
    obtain ⟨_, rfl, _⟩ := h1
    omega
  · simp only [List.cons.injEq, and_true, Value.slice.injEq] at h1
    obtain ⟨_, rfl, _⟩ := h1
    have := hB ((n + ((List.range (m - n)).map fun j => D (n + j)).length) * P.bytesOf e) (by rw [hxe]; simp [DataW.weights, ht])
    have h2 : n * P.bytesOf e ≤ (n + ((List.range (m - n)).map fun j => D (n + j)).length) * P.bytesOf e := Nat.mul_le_mul_right _ (Nat.le_add_right _ _)
    omega
theorem trod_share2 {t q u : TypeId} {f0 f1 : Field} {n : Nat} {cs : List Value} {y : DataW H × List MemPlace} (ht : P.underlying t = some (.struct #[f0, f1])) (h0 : P.underlying f0.type = some (.int .u8)) (h1 : P.underlying f1.type = some (.slice u)) (hu : P.underlying u = some (.int .u8))
    (hc : P.cellsOf t = 2) (c0 : P.cellsOf f0.type = 1) (c1 : P.cellsOf f1.type = 1) (cu : P.cellsOf u = 1) (o0 : f0.offset = 0) (o1 : f1.offset = 1) (bu : P.bytesOf u = 1)
    (h : DataW.trod enc P w 0 spare held n t cs = some y) {B : Nat} (hB : ∀ m ∈ y.1.weights P t, m ≤ B) : ∃ (s : Sh) (v : Value), cs = [vB s.at_, v] ∧ IsB (fun _ _ => True) w s.data v ∧ s.data.length ≤ B := by
  obtain ⟨y0, y1, m, hy, hl, g0, g1⟩ := trod_struct2 ht h
  rw [hc] at hl
  match cs, hl with
  | [v0, v1], _ =>
    rw [o0, c0] at g0
    rw [o1, c1] at g1
    simp only [List.drop_zero, List.take_succ_cons, List.take_zero, List.drop_succ_cons] at g0 g1
    obtain ⟨b, hb⟩ := byte_of_trod h0 g0
    obtain ⟨xs, a, cap, h2, h3, h4, e', h5⟩ := trod_bytes h1 hu cu g1
    rw [h2] at g1
    have hz := wLen h1 g1 (B := B) (fun k hk => hB k (by rw [hy]; simp only [DataW.weights, ht, DataW.weightsEach, List.map_cons, List.map_nil, List.mem_append]; exact .inr (.inl hk)))
    rw [bu, Nat.mul_one] at hz
    simp only [List.cons.injEq, and_true] at hb h2
    refine ⟨⟨b, xs⟩, v1, by rw [hb], ⟨a, cap, e', h2, h5, fun _ _ _ => trivial, by simp only [maxLen] at h4; show xs.length ≤ _; omega⟩, hz⟩
theorem open_shares2 {r : Reach} {b0 : Nat} {t e u : TypeId} {f0 f1 : Field} {v : Value} {d : DataW H} {ps : List MemPlace} (ht : P.underlying t = some (.slice e)) (he : P.underlying e = some (.struct #[f0, f1])) (h0 : P.underlying f0.type = some (.int .u8)) (h1 : P.underlying f1.type = some (.slice u)) (hu : P.underlying u = some (.int .u8))
    (hc : P.cellsOf e = 2) (c0 : P.cellsOf f0.type = 1) (c1 : P.cellsOf f1.type = 1) (cu : P.cellsOf u = 1) (o0 : f0.offset = 0) (o1 : f1.offset = 1) (bu : P.bytesOf u = 1) {B : Nat} (hB : ∀ m ∈ d.weights P t, m ≤ B)
    (hval : Value.okWide P w r b0 t v) (h : DataW.Trod enc P w 0 spare held t v d ps) : ∃ (ss : List Sh) (a : Option Addr) (cap e' : Nat) (vs : List Value), v = .slice a ss.length cap ∧ ss.length ≤ cap ∧ cap ≤ 9223372036854775807 ∧ Rd w a e' vs ∧ AreS (fun _ _ => True) w ss vs ∧ ∀ i, (h : i < ss.length) → ss[i].data.length ≤ B := by
  obtain ⟨a, len, cap, rfl⟩ := okWide_slice ht hval
  obtain ⟨fuel, hf⟩ := h
  obtain ⟨a', len', cap', hcs, hl, hm, F, n, hF, e', hr⟩ := trod_list2 ht hf
  simp [Value.cells] at hcs
  obtain ⟨rfl, rfl, rfl⟩ := hcs
  obtain ⟨S, hS⟩ := Deep.choose_lt (α := Sh × Value) (n := len) (p := fun i b => F i = [vB b.1.at_, b.2] ∧ IsB (fun _ _ => True) w b.1.data b.2 ∧ b.1.data.length ≤ B) (fun i hi => by
    obtain ⟨y, hy, es, sp, hxe, hye⟩ := (hF i hi).2
    obtain ⟨s, v, h1, h2⟩ := trod_share2 (q := u) he h0 h1 hu hc c0 c1 cu o0 o1 bu hy (wElem ht hxe hye hB)
    exact ⟨(s, v), h1, h2⟩)
  obtain ⟨g1, g2⟩ := flatMap_pairs F len (fun i hi => by rw [(hF i hi).1, hc])
  refine ⟨(List.range len).map fun i => (S i).1, a, cap, e', _, by simp, by simpa using hl, by simp only [maxLen] at hm; omega, hr, ⟨by simp [g1], fun i hi k1 k2 => ?_⟩, fun i hi => ?_⟩
  · have hi' : i < len := by simpa using hi
    obtain ⟨q1, q2⟩ := g2 i hi'
    obtain ⟨s1, s2, _⟩ := hS i hi'
    rw [s1] at q1 q2
    rw [List.getElem?_eq_getElem k1] at q1
    rw [List.getElem?_eq_getElem k2] at q2
    simp only [List.getElem?_cons_zero, Option.some.injEq, List.getElem?_cons_succ] at q1 q2
    simp only [List.getElem_map, List.getElem_range]
    rw [q1, q2]
    exact ⟨rfl, s2⟩
  · have hi' : i < len := by simpa using hi
    simp only [List.getElem_map, List.getElem_range]
    exact (hS i hi').2.2
end
end Go.Proofs.YtalbmcidlalicaaDoor
