/- How long what came in can be, by the form's own reach; one element appended within that reach. It says nothing of the program. -/
import Derived.Test.YtpeomfehdccmmaaDoorOpen
import Derived.SizedLaws
namespace Go.Proofs.YtpeomfehdccmmaaDoor
open Go.RowKit Go.ChangeShapes Go.WideShapes Go.ChangeAt
set_option linter.unusedVariables false
section
variable {P : Program} {w : World} {ops : Array Oper} {rest : List Oper} {o : Oper} {a : Act} {Q : Exit → Act → World → Prop}
theorem app1w (T e : TypeId) (z : Value) (bytes : Nat) (ht : P.underlying T = some (.slice e)) (hinfo : (P.info? e).map (fun i => (i.zero, i.size, i.bytes)) = some (some z, 1, bytes)) (hzs : z.cells.size = 1)
    (hgd : o.guard = none) (s x : Operand) (ho : o.op = .call { callee := .builtin .append, args := #[s, x], argTypes := #[T, T] })
    (base : Nat) (v : Value) (n : Nat) (xs : List Value) (hs : a.eval s = v) (hown : w.ownsRow base e 1 v n xs) (ad : Addr) (c : Nat) (u : Value) (hx : a.eval x = .slice (some ad) 1 c)
    (hu : w.cell? ad = some u) (h1 : u.oneCell' = true) (hn : n + 1 ≤ 140737488355328) (hnb : (n + 1) * bytes ≤ 140737488355328) (hbase : base ≤ w.heap.size) (H : Nat) (hH : w.heap.size = H)
    (h : ∀ g cap w', w'.ownsRow base e 1 (.slice (some ⟨g, 0, none⟩) (n + 1) cap) (n + 1) (xs ++ [u]) → w.grownBy w' v.ownBlock → (v.ownBlock = some g ∨ g = H) → g < w'.heap.size → wpList P ops Q rest (a.put o.dst (.slice (some ⟨g, 0, none⟩) (n + 1) cap)) w') : wpList P ops Q (o :: rest) a w := by
  obtain ⟨i, hi, hz, hsz, hb⟩ := info_parts hinfo
  refine wpList_append_lies w hgd s x T ho base e i z 1 bytes ht hi hz hsz hb hzs (by omega) v n xs hs hown ad 1 c [u] hx rfl ?_ ?_ (by omega) (by simp only [maxLen]; omega) ?_ hbase H hH h
  · intro j y hj
    match j, hj with
    | 0, hj =>
      obtain rfl : u = y := by simpa using hj
      obtain ⟨b, off, sp⟩ := ad
      have := World.cell?_spot hu
      simp only at this
      subst this
      simpa [Addr.add] using hu
  · intro y hy
    obtain rfl : y = u := by simpa using hy
    exact h1
  · omega
theorem appRdw (T e : TypeId) (z : Value) (size bytes : Nat) (ht : P.underlying T = some (.slice e)) (hinfo : (P.info? e).map (fun i => (i.zero, i.size, i.bytes)) = some (some z, size, bytes)) (hzs : z.cells.size = size) (hsz : 0 < size)
    (hgd : o.guard = none) (s x : Operand) (ho : o.op = .call { callee := .builtin .append, args := #[s, x], argTypes := #[T, T] })
    (base : Nat) (v : Value) (n : Nat) (xs : List Value) (hs : a.eval s = v) (hown : w.ownsRow base e size v n xs) (ad : Addr) (m c : Nat) (news : List Value) (hx : a.eval x = .slice (some ad) m c) (es : TypeId)
    (hu : Rd w (some ad) es news) (hl : news.length = m * size) (h1 : ∀ u ∈ news, u.oneCell' = true) (hm : 0 < m) (hn : n + m ≤ 140737488355328) (hnb : (n + m) * bytes ≤ 140737488355328) (hbase : base ≤ w.heap.size) (H : Nat) (hH : w.heap.size = H)
    (h : ∀ g cap w', w'.ownsRow base e size (.slice (some ⟨g, 0, none⟩) (n + m) cap) (n + m) (xs ++ news) → w.grownBy w' v.ownBlock → (v.ownBlock = some g ∨ g = H) → g < w'.heap.size → wpList P ops Q rest (a.put o.dst (.slice (some ⟨g, 0, none⟩) (n + m) cap)) w') : wpList P ops Q (o :: rest) a w := by
  obtain ⟨i, hi, hz, hsz', hb⟩ := info_parts hinfo
  exact wpList_append_lies w hgd s x T ho base e i z size bytes ht hi hz hsz' hb hzs hsz v n xs hs hown ad m c news hx hl hu.news h1 hm (by simp only [maxLen]; omega) (by omega) hbase H hH h
end

section
variable {H : Type} {enc : TypeId × Value → H} {P : Program} {w : World} {spare : Nat → Bool} {held : Bool}
theorem trod_list2 {t e : TypeId} {fuel : Nat} {cs : List Value} {x : DataW H × List MemPlace} (ht : P.underlying t = some (.slice e)) (h : DataW.trod enc P w 0 spare held fuel t cs = some x) :
    ∃ (a : Option Addr) (len cap : Nat), cs = [.slice a len cap] ∧ len ≤ cap ∧ cap ≤ maxLen ∧ ∃ (F : Nat → List Value) (n : Nat), (∀ i, i < len → (F i).length = P.cellsOf e ∧ ∃ y, DataW.trod enc P w 0 spare held n e (F i) = some y ∧ ∃ es sp, x.1 = .slice es sp ∧ y.1 ∈ es) ∧
      ∃ e', Rd w a e' ((List.range len).flatMap F) := by
  rcases Deep.open_slice ht h with ⟨rfl, rfl⟩ | ⟨a, len, cap, m, n, D, Pl, rfl, _, hl, hm, hmm, hxe, hx⟩
  · exact ⟨none, 0, 0, rfl, Nat.le_refl _, Nat.zero_le _, fun _ => [], 0, fun i hi => by omega, 0, .inl (by simp)⟩
  · have hlm : len ≤ m := by rw [hmm]; split <;> omega
    obtain ⟨F, hF⟩ := Deep.choose_lt (α := List Value) (n := len) (p := fun i cs' => w.cells? 0 (a.add (i * P.cellsOf e)) (P.cellsOf e) = some cs' ∧ DataW.trod enc P w 0 spare held n e cs' = some (D i, Pl i)) (fun i hi => hx i (by omega))
    refine ⟨some a, len, cap, rfl, hl, hm, F, n, fun i hi => ?_, ?_⟩
    · obtain ⟨h1, h2⟩ := hF i hi
      exact ⟨(World.cells?_some h1).2.1, _, h2, _, _, by rw [hxe], List.mem_map.2 ⟨i, List.mem_range.2 hi, rfl⟩⟩
    · refine Rd.of_cells fun i hi => ?_
      have hall : ∀ i, i < len → (F i).length = P.cellsOf e := fun i hi => (World.cells?_some (hF i hi).1).2.1
      have key : ∀ k, k ≤ len → ∀ i, i < ((List.range k).flatMap F).length → w.cell? (a.add i) = ((List.range k).flatMap F)[i]? := by
        intro k
        induction k with
        | zero => intro _ i hi; simp at hi
        | succ k ih =>
          intro hk i hi
          have hlen : ∀ j, j ≤ len → ((List.range j).flatMap F).length = j * P.cellsOf e := by
            intro j
            induction j with
            | zero => intro _; simp
            | succ j ihj => intro hj; rw [List.range_succ, List.flatMap_append, List.length_append, ihj (by omega)]; simp [hall j (by omega), Nat.succ_mul]
          rw [List.range_succ, List.flatMap_append] at hi ⊢
          by_cases hlt : i < ((List.range k).flatMap F).length
          · rw [List.getElem?_append_left hlt]; exact ih (by omega) i hlt
          · rw [List.getElem?_append_right (by omega)]
            have hL := hlen k (by omega)
            simp only [List.flatMap_cons, List.flatMap_nil, List.append_nil, List.length_append] at hi ⊢
            have h3 := (World.cells?_some (hF k (by omega)).1).2.2 (i - ((List.range k).flatMap F).length) (by have := hall k (by omega); omega)
            rw [Deep.add_add, show k * P.cellsOf e + (i - ((List.range k).flatMap F).length) = i by omega] at h3
            exact h3
      exact key len (Nat.le_refl _) i hi
theorem wAll_mem {e : TypeId} : ∀ {l : List (DataW H)} {d : DataW H}, d ∈ l → ∀ n ∈ d.weights P e, n ∈ DataW.weightsAll P e l
  | d' :: r, d, hd, n, hn => by
    simp only [DataW.weightsAll, List.mem_append]
    rcases List.mem_cons.1 hd with rfl | h
    · exact Or.inl hn
    · exact Or.inr (wAll_mem h n hn)
theorem wElem {t e : TypeId} {d y : DataW H} {es sp : List (DataW H)} (ht : P.underlying t = some (.slice e)) (hd : d = .slice es sp) (hy : y ∈ es) {B : Nat} (hB : ∀ m ∈ d.weights P t, m ≤ B) : ∀ m ∈ y.weights P e, m ≤ B := by
  intro m hm
  refine hB m ?_
  rw [hd]
  simp only [DataW.weights, ht, List.mem_cons, List.mem_append]
  exact .inr (.inl (wAll_mem hy m hm))
theorem wLen {t e : TypeId} {fuel n cap : Nat} {a : Option Addr} {x : DataW H × List MemPlace} (ht : P.underlying t = some (.slice e)) (h : DataW.trod enc P w 0 spare held fuel t [.slice a n cap] = some x) {B : Nat} (hB : ∀ m ∈ x.1.weights P t, m ≤ B) : n * P.bytesOf e ≤ B := by
  rcases Deep.open_slice ht h with ⟨h1, _⟩ | ⟨a', len, cap', m, k, D, Pl, h1, _, hl, hm, hmm, hxe, _⟩
  · simp only [List.cons.injEq, and_true, Value.slice.injEq] at h1
    obtain ⟨_, rfl, _⟩ := h1
    omega
  · simp only [List.cons.injEq, and_true, Value.slice.injEq] at h1
    obtain ⟨_, rfl, _⟩ := h1
    have := hB ((n + ((List.range (m - n)).map fun j => D (n + j)).length) * P.bytesOf e) (by rw [hxe]; simp [DataW.weights, ht])
    have h2 : n * P.bytesOf e ≤ (n + ((List.range (m - n)).map fun j => D (n + j)).length) * P.bytesOf e := Nat.mul_le_mul_right _ (Nat.le_add_right _ _)
    omega
theorem trod_len {t e : TypeId} {n cap : Nat} {a : Option Addr} {d : DataW H} {ps : List MemPlace} (ht : P.underlying t = some (.slice e)) (h : DataW.Trod enc P w 0 spare held t (.slice a n cap) d ps) {B : Nat} (hB : ∀ m ∈ d.weights P t, m ≤ B) : n * P.bytesOf e ≤ B := by
  obtain ⟨fuel, hf⟩ := h
  exact wLen (x := (d, ps)) ht (by simpa [Value.cells] using hf) hB
end
end Go.Proofs.YtpeomfehdccmmaaDoor
