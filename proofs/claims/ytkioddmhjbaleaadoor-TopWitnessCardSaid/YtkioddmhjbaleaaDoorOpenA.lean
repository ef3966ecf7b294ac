/- What comes in, opened: lists of bytes, of numbers, of lists of bytes. It says nothing of the program. -/
import Derived.Test.YtkioddmhjbaleaaDoorMemA
import Derived.OpenShut
import Derived.Deep.Slices
import Derived.SizedLaws
import Derived.Test.YtkioddmhjbaleaaDoorChecked
import Derived.Great.BuildSlice
namespace Go.Proofs.YtkioddmhjbaleaaDoor
open Go.RowKit Go.ChangeShapes Go.WideShapes Go.ChangeAt

theorem Rd.of_cells {w : World} {a : Addr} {vs : List Value} (hc : ∀ i, i < vs.length → w.cell? (a.add i) = vs[i]?) : ∃ e, Rd w (some a) e vs := by
  cases vs with
  | nil => exact ⟨0, .inl rfl⟩
  | cons v vs =>
    obtain ⟨b, o, sp⟩ := a
    have h0 := hc 0 (by simp)
    have hsp := World.cell?_spot (w := w) (a := (⟨b, o, sp⟩ : Addr).add 0) (v := v) (by simpa using h0)
    have hsp' : sp = none := by
      unfold Addr.add at hsp
      split at hsp <;> simp_all
    subst hsp'
    have h1 : w.cell? ⟨b, o, none⟩ = some v := by simpa [Addr.add] using h0
    unfold World.cell? at h1
    split at h1
    · rename_i c e' fr heq
      refine ⟨e', .inr ⟨b, o, c, fr, rfl, heq, fun i hi => ?_⟩⟩
      have := hc i hi
      rw [Addr.add_lit, cell_of_row w b (o + i) c e' fr heq, List.getElem?_eq_getElem hi] at this
      exact this
    · cases h1

section
variable {H : Type} {enc : TypeId × Value → H} {P : Program} {w : World} {spare : Nat → Bool} {held : Bool}

/-- a list that came in: its elements, each of so many cells, each read -/
theorem trod_list {t e : TypeId} {fuel : Nat} {cs : List Value} {x : DataW H × List MemPlace} (ht : P.underlying t = some (.slice e)) (h : DataW.trod enc P w 0 spare held fuel t cs = some x) :
    ∃ (a : Option Addr) (len cap : Nat), cs = [.slice a len cap] ∧ len ≤ cap ∧ cap ≤ maxLen ∧ ∃ (F : Nat → List Value) (n : Nat), (∀ i, i < len → (F i).length = P.cellsOf e ∧ ∃ y, DataW.trod enc P w 0 spare held n e (F i) = some y) ∧
      ∃ e', Rd w a e' ((List.range len).flatMap F) := by
  rcases Deep.open_slice ht h with ⟨rfl, rfl⟩ | ⟨a, len, cap, m, n, D, Pl, rfl, _, hl, hm, hmm, _, hx⟩
  · exact ⟨none, 0, 0, rfl, Nat.le_refl _, Nat.zero_le _, fun _ => [], 0, fun i hi => by omega, 0, .inl (by simp)⟩
  · have hlm : len ≤ m := by rw [hmm]; split <;> omega
    obtain ⟨F, hF⟩ := Deep.choose_lt (α := List Value) (n := len) (p := fun i cs' => w.cells? 0 (a.add (i * P.cellsOf e)) (P.cellsOf e) = some cs' ∧ DataW.trod enc P w 0 spare held n e cs' = some (D i, Pl i)) (fun i hi => hx i (by omega))
    refine ⟨some a, len, cap, rfl, hl, hm, F, n, fun i hi => ?_, ?_⟩
    · obtain ⟨h1, h2⟩ := hF i hi
      exact ⟨(World.cells?_some h1).2.1, _, h2⟩
    · refine Rd.of_cells fun i hi => ?_
      have hall : ∀ i, i < len → (F i).length = P.cellsOf e := fun i hi => (World.cells?_some (hF i hi).1).2.1
      have key : ∀ k, k ≤ len → ∀ i, i < ((List.range k).flatMap F).length → w.cell? (a.add i) = ((List.range k).flatMap F)[i]? := by
        intro k
        induction k with
        | zero => intro _ i hi; simp at hi
        | succ k ih =>
          intro hk i hi
          have hlen : ∀ j, j ≤ len → ((List.range j).flatMap F).length = j * P.cellsOf e := by
            intro j
            induction j with
            | zero => intro _; simp
            | succ j ihj => intro hj; rw [List.range_succ, List.flatMap_append, List.length_append, ihj (by omega)]; simp [hall j (by omega), Nat.succ_mul]
          rw [List.range_succ, List.flatMap_append] at hi ⊢
          by_cases hlt : i < ((List.range k).flatMap F).length
          · rw [List.getElem?_append_left hlt]; exact ih (by omega) i hlt
          · rw [List.getElem?_append_right (by omega)]
            have hL := hlen k (by omega)
            simp only [List.flatMap_cons, List.flatMap_nil, List.append_nil, List.length_append] at hi ⊢
            have h3 := (World.cells?_some (hF k (by omega)).1).2.2 (i - ((List.range k).flatMap F).length) (by have := hall k (by omega); omega)
            rw [Deep.add_add, show k * P.cellsOf e + (i - ((List.range k).flatMap F).length) = i by omega] at h3
            exact h3
      exact key len (Nat.le_refl _) i hi

theorem flatMap_one (F : Nat → List Value) (n : Nat) (h : ∀ i, i < n → (F i).length = 1) : (List.range n).flatMap F = (List.range n).map fun i => (F i).headD undef := by
  induction n with
  | zero => rfl
  | succ n ih =>
    rw [List.range_succ, List.flatMap_append, List.map_append, ih (fun i hi => h i (by omega))]
    congr 1
    have := h n (by omega)
    match hF : F n, this with
    | [v], _ => simp [hF]

theorem byte_of_trod {e : TypeId} {n : Nat} {cs : List Value} {y : DataW H × List MemPlace} (he : P.underlying e = some (.int .u8)) (h : DataW.trod enc P w 0 spare held n e cs = some y) : ∃ b : UInt8, cs = [vB b] := by
  obtain ⟨z, rfl, _, hw⟩ := DataW.trod_int he h
  have b := bounds_u8 hw
  exact ⟨UInt8.ofNat z.toNat, by simp [vB]; omega⟩

/-- a list of bytes that came in -/
theorem trod_bytes {t e : TypeId} {fuel : Nat} {cs : List Value} {x : DataW H × List MemPlace} (ht : P.underlying t = some (.slice e)) (he : P.underlying e = some (.int .u8)) (hc : P.cellsOf e = 1)
    (h : DataW.trod enc P w 0 spare held fuel t cs = some x) : ∃ (xs : List UInt8) (a : Option Addr) (cap : Nat), cs = [.slice a xs.length cap] ∧ xs.length ≤ cap ∧ cap ≤ maxLen ∧ ∃ e', Rd w a e' (xs.map vB) := by
  obtain ⟨a, len, cap, rfl, hl, hm, F, n, hF, e', hr⟩ := trod_list ht h
  rw [flatMap_one F len (fun i hi => by rw [(hF i hi).1, hc])] at hr
  obtain ⟨B, hB⟩ := Deep.choose_lt (α := UInt8) (n := len) (p := fun i b => F i = [vB b]) (fun i hi => by obtain ⟨y, hy⟩ := (hF i hi).2; exact byte_of_trod he hy)
  refine ⟨(List.range len).map B, a, cap, by simp, by simpa using hl, hm, e', ?_⟩
  have : ((List.range len).map fun i => (F i).headD undef) = ((List.range len).map B).map vB := by
    rw [List.map_map]
    refine List.map_congr_left fun i hi => ?_
    rw [hB i (List.mem_range.1 hi)]; rfl
  rwa [this] at hr

/-- a list of numbers that came in -/
theorem trod_nums {t e : TypeId} {fuel : Nat} {cs : List Value} {x : DataW H × List MemPlace} (ht : P.underlying t = some (.slice e)) (he : P.underlying e = some (.int .i64)) (hc : P.cellsOf e = 1)
    (h : DataW.trod enc P w 0 spare held fuel t cs = some x) : ∃ (xs : List Int) (a : Option Addr) (cap : Nat), cs = [.slice a xs.length cap] ∧ xs.length ≤ cap ∧ cap ≤ maxLen ∧ (∀ n ∈ xs, -9223372036854775808 ≤ n ∧ n ≤ 9223372036854775807) ∧ ∃ e', Rd w a e' (xs.map vI) := by
  obtain ⟨a, len, cap, rfl, hl, hm, F, n, hF, e', hr⟩ := trod_list ht h
  rw [flatMap_one F len (fun i hi => by rw [(hF i hi).1, hc])] at hr
  obtain ⟨B, hB⟩ := Deep.choose_lt (α := Int) (n := len) (p := fun i b => F i = [vI b] ∧ -9223372036854775808 ≤ b ∧ b ≤ 9223372036854775807) (fun i hi => by
    obtain ⟨y, hy⟩ := (hF i hi).2
    obtain ⟨z, hz, _, hw⟩ := DataW.trod_int he hy
    have b := bounds_i64 hw
    exact ⟨z, hz, b.1, b.2⟩)
  refine ⟨(List.range len).map B, a, cap, by simp, by simpa using hl, hm, ?_, e', ?_⟩
  · intro n hn
    obtain ⟨i, hi, rfl⟩ := List.mem_map.1 hn
    exact (hB i (List.mem_range.1 hi)).2
  · have : ((List.range len).map fun i => (F i).headD undef) = ((List.range len).map B).map vI := by
      rw [List.map_map]
      refine List.map_congr_left fun i hi => ?_
      rw [(hB i (List.mem_range.1 hi)).1]; rfl
    rwa [this] at hr

/-- a list of lists of bytes that came in -/
theorem trod_rows {t e q : TypeId} {fuel : Nat} {cs : List Value} {x : DataW H × List MemPlace} (ht : P.underlying t = some (.slice e)) (he : P.underlying e = some (.slice q)) (hq : P.underlying q = some (.int .u8)) (hce : P.cellsOf e = 1) (hcq : P.cellsOf q = 1)
    (h : DataW.trod enc P w 0 spare held fuel t cs = some x) : ∃ (rows : List (List UInt8)) (a : Option Addr) (cap : Nat), cs = [.slice a rows.length cap] ∧ rows.length ≤ cap ∧ cap ≤ maxLen ∧ ∃ e' vs, Rd w a e' vs ∧ AreB (fun _ _ => True) w rows vs := by
  obtain ⟨a, len, cap, rfl, hl, hm, F, n, hF, e', hr⟩ := trod_list ht h
  rw [flatMap_one F len (fun i hi => by rw [(hF i hi).1, hce])] at hr
  obtain ⟨B, hB⟩ := Deep.choose_lt (α := List UInt8) (n := len) (p := fun i xs => ∃ v, F i = [v] ∧ IsB (fun _ _ => True) w xs v) (fun i hi => by
    obtain ⟨y, hy⟩ := (hF i hi).2
    obtain ⟨xs, a, cap, h1, h3, h4, e'', h2⟩ := trod_bytes he hq hcq hy
    exact ⟨xs, _, h1, a, cap, e'', rfl, h2, fun _ _ _ => trivial, by simp only [maxLen] at h4; omega⟩)
  refine ⟨(List.range len).map B, a, cap, by simp, by simpa using hl, hm, e', _, hr, by simp, fun i hi hj => ?_⟩
  simp only [List.getElem_map, List.getElem_range]
  obtain ⟨v, h1, h2⟩ := hB i (by simpa using hi)
  rw [h1]
  exact h2

theorem open_bytes {r : Reach} {b0 : Nat} {t e : TypeId} {v : Value} {d : DataW H} {ps : List MemPlace} (ht : P.underlying t = some (.slice e)) (he : P.underlying e = some (.int .u8)) (hc : P.cellsOf e = 1)
    (hval : Value.okWide P w r b0 t v) (h : DataW.Trod enc P w 0 spare held t v d ps) : ∃ (xs : List UInt8) (a : Option Addr) (cap e' : Nat), v = .slice a xs.length cap ∧ xs.length ≤ 9223372036854775807 ∧ Rd w a e' (xs.map vB) := by
  obtain ⟨a, len, cap, rfl⟩ := okWide_slice ht hval
  obtain ⟨fuel, hf⟩ := h
  obtain ⟨xs, a', cap', h1, h2, h3, e', h4⟩ := trod_bytes ht he hc hf
  simp [Value.cells] at h1
  obtain ⟨rfl, rfl, rfl⟩ := h1
  exact ⟨xs, a, cap, e', rfl, by simp only [maxLen] at h3; omega, h4⟩
theorem open_nums {r : Reach} {b0 : Nat} {t e : TypeId} {v : Value} {d : DataW H} {ps : List MemPlace} (ht : P.underlying t = some (.slice e)) (he : P.underlying e = some (.int .i64)) (hc : P.cellsOf e = 1)
    (hval : Value.okWide P w r b0 t v) (h : DataW.Trod enc P w 0 spare held t v d ps) : ∃ (xs : List Int) (a : Option Addr) (cap e' : Nat), v = .slice a xs.length cap ∧ xs.length ≤ 9223372036854775807 ∧ (∀ n ∈ xs, -9223372036854775808 ≤ n ∧ n ≤ 9223372036854775807) ∧ Rd w a e' (xs.map vI) := by
  obtain ⟨a, len, cap, rfl⟩ := okWide_slice ht hval
  obtain ⟨fuel, hf⟩ := h
  obtain ⟨xs, a', cap', h1, h2, h3, hw, e', h4⟩ := trod_nums ht he hc hf
  simp [Value.cells] at h1
  obtain ⟨rfl, rfl, rfl⟩ := h1
  exact ⟨xs, a, cap, e', rfl, by simp only [maxLen] at h3; omega, hw, h4⟩
theorem open_rows {r : Reach} {b0 : Nat} {t e q : TypeId} {v : Value} {d : DataW H} {ps : List MemPlace} (ht : P.underlying t = some (.slice e)) (he : P.underlying e = some (.slice q)) (hq : P.underlying q = some (.int .u8)) (hce : P.cellsOf e = 1) (hcq : P.cellsOf q = 1)
    (hval : Value.okWide P w r b0 t v) (h : DataW.Trod enc P w 0 spare held t v d ps) : ∃ (rows : List (List UInt8)) (a : Option Addr) (cap e' : Nat) (vs : List Value), v = .slice a rows.length cap ∧ rows.length ≤ 9223372036854775807 ∧ Rd w a e' vs ∧ AreB (fun _ _ => True) w rows vs := by
  obtain ⟨a, len, cap, rfl⟩ := okWide_slice ht hval
  obtain ⟨fuel, hf⟩ := h
  obtain ⟨rows, a', cap', h1, h2, h3, e', vs, h4, h5⟩ := trod_rows ht he hq hce hcq hf
  simp [Value.cells] at h1
  obtain ⟨rfl, rfl, rfl⟩ := h1
  exact ⟨rows, a, cap, e', vs, rfl, by simp only [maxLen] at h3; omega, h4, h5⟩
end
end Go.Proofs.YtkioddmhjbaleaaDoor
/- How long what came in can be, by the form's own reach; one element appended within that reach. It says nothing of the program. -/
namespace Go.Proofs.YtkioddmhjbaleaaDoor
open Go.RowKit Go.ChangeShapes Go.WideShapes Go.ChangeAt
set_option linter.unusedVariables false
section
variable {P : Program} {w : World} {ops : Array Oper} {rest : List Oper} {o : Oper} {a : Act} {Q : Exit → Act → World → Prop}
theorem app1w (T e : TypeId) (z : Value) (bytes : Nat) (ht : P.underlying T = some (.slice e)) (hinfo : (P.info? e).map (fun i => (i.zero, i.size, i.bytes)) = some (some z, 1, bytes)) (hzs : z.cells.size = 1)
    (hgd : o.guard = none) (s x : Operand) (ho : o.op = .call { callee := .builtin .append, args := #[s, x], argTypes := #[T, T] })
    (base : Nat) (v : Value) (n : Nat) (xs : List Value) (hs : a.eval s = v) (hown : w.ownsRow base e 1 v n xs) (ad : Addr) (c : Nat) (u : Value) (hx : a.eval x = .slice (some ad) 1 c)
    (hu : w.cell? ad = some u) (h1 : u.oneCell' = true) (hn : n + 1 ≤ 140737488355328) (hnb : (n + 1) * bytes ≤ 140737488355328) (hbase : base ≤ w.heap.size) (H : Nat) (hH : w.heap.size = H)
    (h : ∀ g cap w', w'.ownsRow base e 1 (.slice (some ⟨g, 0, none⟩) (n + 1) cap) (n + 1) (xs ++ [u]) → w.grownBy w' v.ownBlock → (v.ownBlock = some g ∨ g = H) → g < w'.heap.size → wpList P ops Q rest (a.put o.dst (.slice (some ⟨g, 0, none⟩) (n + 1) cap)) w') : wpList P ops Q (o :: rest) a w := by
  obtain ⟨i, hi, hz, hsz, hb⟩ := info_parts hinfo
  refine wpList_append_lies w hgd s x T ho base e i z 1 bytes ht hi hz hsz hb hzs (by omega) v n xs hs hown ad 1 c [u] hx rfl ?_ ?_ (by omega) (by simp only [maxLen]; omega) ?_ hbase H hH h
  · intro j y hj
    match j, hj with
    | 0, hj =>
      obtain rfl : u = y := by simpa using hj
      obtain ⟨b, off, sp⟩ := ad
      have := World.cell?_spot hu
      simp only at this
      subst this
      simpa [Addr.add] using hu
  · intro y hy
    obtain rfl : y = u := by simpa using hy
    exact h1
  · omega
theorem appRdw (T e : TypeId) (z : Value) (size bytes : Nat) (ht : P.underlying T = some (.slice e)) (hinfo : (P.info? e).map (fun i => (i.zero, i.size, i.bytes)) = some (some z, size, bytes)) (hzs : z.cells.size = size) (hsz : 0 < size)
    (hgd : o.guard = none) (s x : Operand) (ho : o.op = .call { callee := .builtin .append, args := #[s, x], argTypes := #[T, T] })
    (base : Nat) (v : Value) (n : Nat) (xs : List Value) (hs : a.eval s = v) (hown : w.ownsRow base e size v n xs) (ad : Addr) (m c : Nat) (news : List Value) (hx : a.eval x = .slice (some ad) m c) (es : TypeId)
    (hu : Rd w (some ad) es news) (hl : news.length = m * size) (h1 : ∀ u ∈ news, u.oneCell' = true) (hm : 0 < m) (hn : n + m ≤ 140737488355328) (hnb : (n + m) * bytes ≤ 140737488355328) (hbase : base ≤ w.heap.size) (H : Nat) (hH : w.heap.size = H)
    (h : ∀ g cap w', w'.ownsRow base e size (.slice (some ⟨g, 0, none⟩) (n + m) cap) (n + m) (xs ++ news) → w.grownBy w' v.ownBlock → (v.ownBlock = some g ∨ g = H) → g < w'.heap.size → wpList P ops Q rest (a.put o.dst (.slice (some ⟨g, 0, none⟩) (n + m) cap)) w') : wpList P ops Q (o :: rest) a w := by
  obtain ⟨i, hi, hz, hsz', hb⟩ := info_parts hinfo
  exact wpList_append_lies w hgd s x T ho base e i z size bytes ht hi hz hsz' hb hzs hsz v n xs hs hown ad m c news hx hl hu.news h1 hm (by simp only [maxLen]; omega) (by omega) hbase H hH h
end

section
variable {H : Type} {enc : TypeId × Value → H} {P : Program} {w : World} {spare : Nat → Bool} {held : Bool}
theorem trod_list2 {t e : TypeId} {fuel : Nat} {cs : List Value} {x : DataW H × List MemPlace} (ht : P.underlying t = some (.slice e)) (h : DataW.trod enc P w 0 spare held fuel t cs = some x) :
    ∃ (a : Option Addr) (len cap : Nat), cs = [.slice a len cap] ∧ len ≤ cap ∧ cap ≤ maxLen ∧ ∃ (F : Nat → List Value) (n : Nat), (∀ i, i < len → (F i).length = P.cellsOf e ∧ ∃ y, DataW.trod enc P w 0 spare held n e (F i) = some y ∧ ∃ es sp, x.1 = .slice es sp ∧ y.1 ∈ es) ∧
      ∃ e', Rd w a e' ((List.range len).flatMap F) := by
  rcases Deep.open_slice ht h with ⟨rfl, rfl⟩ | ⟨a, len, cap, m, n, D, Pl, rfl, _, hl, hm, hmm, hxe, hx⟩
  · exact ⟨none, 0, 0, rfl, Nat.le_refl _, Nat.zero_le _, fun _ => [], 0, fun i hi => by omega, 0, .inl (by simp)⟩
  · have hlm : len ≤ m := by rw [hmm]; split <;> omega
    obtain ⟨F, hF⟩ := Deep.choose_lt (α := List Value) (n := len) (p := fun i cs' => w.cells? 0 (a.add (i * P.cellsOf e)) (P.cellsOf e) = some cs' ∧ DataW.trod enc P w 0 spare held n e cs' = some (D i, Pl i)) (fun i hi => hx i (by omega))
    refine ⟨some a, len, cap, rfl, hl, hm, F, n, fun i hi => ?_, ?_⟩
    · obtain ⟨h1, h2⟩ := hF i hi
      exact ⟨(World.cells?_some h1).2.1, _, h2, _, _, by rw [hxe], List.mem_map.2 ⟨i, List.mem_range.2 hi, rfl⟩⟩
    · refine Rd.of_cells fun i hi => ?_
      have hall : ∀ i, i < len → (F i).length = P.cellsOf e := fun i hi => (World.cells?_some (hF i hi).1).2.1
      have key : ∀ k, k ≤ len → ∀ i, i < ((List.range k).flatMap F).length → w.cell? (a.add i) = ((List.range k).flatMap F)[i]? := by
        intro k
        induction k with
        | zero => intro _ i hi; simp at hi
        | succ k ih =>
          intro hk i hi
          have hlen : ∀ j, j ≤ len → ((List.range j).flatMap F).length = j * P.cellsOf e := by
            intro j
            induction j with
            | zero => intro _; simp
            | succ j ihj => intro hj; rw [List.range_succ, List.flatMap_append, List.length_append, ihj (by omega)]; simp [hall j (by omega), Nat.succ_mul]
          rw [List.range_succ, List.flatMap_append] at hi ⊢
          by_cases hlt : i < ((List.range k).flatMap F).length
          · rw [List.getElem?_append_left hlt]; exact ih (by omega) i hlt
          · rw [List.getElem?_append_right (by omega)]
            have hL := hlen k (by omega)
            simp only [List.flatMap_cons, List.flatMap_nil, List.append_nil, List.length_append] at hi ⊢
            have h3 := (World.cells?_some (hF k (by omega)).1).2.2 (i - ((List.range k).flatMap F).length) (by have := hall k (by omega); omega)
            rw [Deep.add_add, show k * P.cellsOf e + (i - ((List.range k).flatMap F).length) = i by omega] at h3
            exact h3
      exact key len (Nat.le_refl _) i hi
theorem wAll_mem {e : TypeId} : ∀ {l : List (DataW H)} {d : DataW H}, d ∈ l → ∀ n ∈ d.weights P e, n ∈ DataW.weightsAll P e l
  | d' :: r, d, hd, n, hn => by
    simp only [DataW.weightsAll, List.mem_append]
    rcases List.mem_cons.1 hd with rfl | h
    · exact Or.inl hn
    · exact Or.inr (wAll_mem h n hn)
theorem wElem {t e : TypeId} {d y : DataW H} {es sp : List (DataW H)} (ht : P.underlying t = some (.slice e)) (hd : d = .slice es sp) (hy : y ∈ es) {B : Nat} (hB : ∀ m ∈ d.weights P t, m ≤ B) : ∀ m ∈ y.weights P e, m ≤ B := by
  intro m hm
  refine hB m ?_
  rw [hd]
  simp only [DataW.weights, ht, List.mem_cons, List.mem_append]
  exact .inr (.inl (wAll_mem hy m hm))
theorem wLen {t e : TypeId} {fuel n cap : Nat} {a : Option Addr} {x : DataW H × List MemPlace} (ht : P.underlying t = some (.slice e)) (h : DataW.trod enc P w 0 spare held fuel t [.slice a n cap] = some x) {B : Nat} (hB : ∀ m ∈ x.1.weights P t, m ≤ B) : n * P.bytesOf e ≤ B := by
  rcases Deep.open_slice ht h with ⟨h1, _⟩ | ⟨a', len, cap', m, k, D, Pl, h1, _, hl, hm, hmm, hxe, _⟩
  · simp only [List.cons.injEq, and_true, Value.slice.injEq] at h1
    obtain ⟨_, rfl, _⟩ := h1
    omega
  · simp only [List.cons.injEq, and_true, Value.slice.injEq] at h1
    obtain ⟨_, rfl, _⟩ := h1
    have := hB ((n + ((List.range (m - n)).map fun j => D (n + j)).length) * P.bytesOf e) (by rw [hxe]; simp [DataW.weights, ht])
    have h2 : n * P.bytesOf e ≤ (n + ((List.range (m - n)).map fun j => D (n + j)).length) * P.bytesOf e := Nat.mul_le_mul_right _ (Nat.le_add_right _ _)
    omega
theorem trod_len {t e : TypeId} {n cap : Nat} {a : Option Addr} {d : DataW H} {ps : List MemPlace} (ht : P.underlying t = some (.slice e)) (h : DataW.Trod enc P w 0 spare held t (.slice a n cap) d ps) {B : Nat} (hB : ∀ m ∈ d.weights P t, m ≤ B) : n * P.bytesOf e ≤ B := by
  obtain ⟨fuel, hf⟩ := h
  exact wLen (x := (d, ps)) ht (by simpa [Value.cells] using hf) hB
end
end Go.Proofs.YtkioddmhjbaleaaDoor
/- Digests (arrays of bytes) and lists of them that come in, opened. It says nothing of the program. -/
namespace Go.Proofs.YtkioddmhjbaleaaDoor
open Go.RowKit Go.ChangeShapes Go.WideShapes Go.ChangeAt
set_option linter.unusedVariables false

/-- a digest as a value -/
def vD (d : List UInt8) : Value := .agg (d.map vB).toArray

section
variable {H : Type} {enc : TypeId × Value → H} {P : Program} {w : World} {spare : Nat → Bool} {held : Bool}
theorem okWide_array {r : Reach} {b0 : Nat} {t e : TypeId} {n : Nat} {v : Value} (ht : P.underlying t = some (.array n e)) (h : Value.okWide P w r b0 t v) : ∃ cs, v = .agg cs ∧ cs.size = P.cellsOf t := by
  simp only [Value.okWide, ht] at h
  obtain ⟨cs, h1, h2, _⟩ := h
  exact ⟨cs, h1, h2⟩
theorem mapM_some {α β : Type} {f : α → Option β} : ∀ (l : List α) {ys : List β}, l.mapM f = some ys → ∀ x ∈ l, ∃ y, f x = some y := by
  intro l
  induction l with
  | nil => intro ys _ x hx; cases hx
  | cons a l ih =>
    intro ys h x hx
    rw [List.mapM_cons] at h
    cases ha : f a with
    | none => rw [ha] at h; simp at h
    | some b =>
      cases hl : l.mapM f with
      | none => rw [ha, hl] at h; simp at h
      | some bs =>
        rcases List.mem_cons.1 hx with rfl | hx
        · exact ⟨b, ha⟩
        · exact ih hl x hx
theorem trod_digest {t e : TypeId} {k fuel : Nat} {cs : List Value} {y : DataW H × List MemPlace} (ht : P.underlying t = some (.array k e)) (he : P.underlying e = some (.int .u8)) (hc : P.cellsOf t = k) (c1 : P.cellsOf e = 1)
    (h : DataW.trod enc P w 0 spare held fuel t cs = some y) : ∃ d : List UInt8, d.length = k ∧ cs = d.map vB := by
  cases fuel with
  | zero => simp [DataW.trod] at h
  | succ m =>
    rw [DataW.trod_step] at h
    unfold DataW.trodStep at h
    simp only [ht] at h
    split at h
    · rename_i hl
      rw [hc] at hl
      simp only [Option.map_eq_some_iff] at h
      obtain ⟨ys, hy, _⟩ := h
      have hb : ∀ i, i < k → ∃ b : UInt8, cs[i]? = some (vB b) := by
        intro i hi
        obtain ⟨z, hz⟩ := mapM_some _ hy i (List.mem_range.2 hi)
        rw [c1, Nat.mul_one] at hz
        obtain ⟨b, hb⟩ := byte_of_trod he hz
        refine ⟨b, ?_⟩
        have := congrArg (fun l => l[0]?) hb
        simpa [List.getElem?_take, List.getElem?_drop] using this
      obtain ⟨B, hB⟩ := Deep.choose_lt (α := UInt8) (n := k) (p := fun i b => cs[i]? = some (vB b)) hb
      refine ⟨(List.range k).map B, by simp, ?_⟩
      apply List.ext_getElem?
      intro i
      by_cases hi : i < k
      · rw [hB i hi]; simp [hi]
      · rw [List.getElem?_eq_none (by omega), List.getElem?_eq_none (by simp; omega)]
    · cases h
theorem open_digest {r : Reach} {b0 : Nat} {t e : TypeId} {k : Nat} {v : Value} {d : DataW H} {ps : List MemPlace} (ht : P.underlying t = some (.array k e)) (he : P.underlying e = some (.int .u8)) (hc : P.cellsOf t = k) (c1 : P.cellsOf e = 1)
    (hval : Value.okWide P w r b0 t v) (h : DataW.Trod enc P w 0 spare held t v d ps) : ∃ x : List UInt8, x.length = k ∧ v = vD x := by
  obtain ⟨cs, rfl, hs⟩ := okWide_array ht hval
  obtain ⟨fuel, hf⟩ := h
  obtain ⟨x, h1, h2⟩ := trod_digest ht he hc c1 hf
  refine ⟨x, h1, ?_⟩
  simp only [Value.cells] at h2
  unfold vD
  rw [← h2]
theorem flatMap_flat (F : Nat → List Value) (D : Nat → List UInt8) (n : Nat) (h : ∀ i, i < n → F i = (D i).map vB) : (List.range n).flatMap F = (((List.range n).map D).flatten).map vB := by
  induction n with
  | zero => rfl
  | succ n ih =>
    rw [List.range_succ, List.flatMap_append, ih (fun i hi => h i (by omega))]
    simp [h n (by omega)]
theorem open_digests {r : Reach} {b0 : Nat} {t e q : TypeId} {k : Nat} {v : Value} {d : DataW H} {ps : List MemPlace} (ht : P.underlying t = some (.slice e)) (he : P.underlying e = some (.array k q)) (hq : P.underlying q = some (.int .u8)) (hce : P.cellsOf e = k) (hcq : P.cellsOf q = 1)
    (hval : Value.okWide P w r b0 t v) (h : DataW.Trod enc P w 0 spare held t v d ps) : ∃ (ds : List (List UInt8)) (a : Option Addr) (cap e' : Nat), v = .slice a ds.length cap ∧ ds.length ≤ cap ∧ cap ≤ 9223372036854775807 ∧ (∀ d ∈ ds, d.length = k) ∧ Rd w a e' (ds.flatten.map vB) := by
  obtain ⟨a, len, cap, rfl⟩ := okWide_slice ht hval
  obtain ⟨fuel, hf⟩ := h
  obtain ⟨a', len', cap', hcs, hl, hm, F, n, hF, e', hr⟩ := trod_list ht hf
  simp [Value.cells] at hcs
  obtain ⟨rfl, rfl, rfl⟩ := hcs
  obtain ⟨D, hD⟩ := Deep.choose_lt (α := List UInt8) (n := len) (p := fun i b => b.length = k ∧ F i = b.map vB) (fun i hi => by
    obtain ⟨y, hy⟩ := (hF i hi).2
    exact trod_digest he hq hce hcq hy)
  refine ⟨(List.range len).map D, a, cap, e', by simp, by simpa using hl, by simp only [maxLen] at hm; omega, ?_, ?_⟩
  · intro x hx
    obtain ⟨i, hi, rfl⟩ := List.mem_map.1 hx
    exact (hD i (List.mem_range.1 hi)).1
  · rw [← flatMap_flat F D len (fun i hi => (hD i hi).2)]; exact hr
end
/-- a byte of a list of digests -/
theorem flat_get {k : Nat} : ∀ (ds : List (List UInt8)), (∀ d ∈ ds, d.length = k) → ds.flatten.length = k * ds.length ∧ ∀ i j, (hi : i < ds.length) → (hj : j < ds[i].length) → ds.flatten[k * i + j]? = some ds[i][j] := by
  intro ds
  induction ds with
  | nil => intro _; exact ⟨by simp, fun i j hi => by simp at hi⟩
  | cons d ds ih =>
    intro h
    obtain ⟨h1, h2⟩ := ih (fun x hx => h x (List.mem_cons_of_mem _ hx))
    have hd : d.length = k := h d (List.mem_cons_self ..)
    refine ⟨by simp [h1, hd, Nat.mul_succ]; omega, fun i j hi hj => ?_⟩
    cases i with
    | zero =>
      simp only [List.getElem_cons_zero] at hj ⊢
      rw [Nat.mul_zero, Nat.zero_add, List.flatten_cons, List.getElem?_append_left hj, List.getElem?_eq_getElem hj]
    | succ i =>
      simp only [List.getElem_cons_succ] at hj ⊢
      rw [List.flatten_cons, List.getElem?_append_right (by rw [hd, Nat.mul_succ]; omega), hd, show k * (i + 1) + j - k = k * i + j by rw [Nat.mul_succ]; omega]
      exact h2 i j (by simpa using hi) hj
end Go.Proofs.YtkioddmhjbaleaaDoor
/- All of a list of bytes, or nothing, appended to what the call owns. It says nothing of the program. -/
namespace Go.Proofs.YtkioddmhjbaleaaDoor
open Go.RowKit
set_option linter.unusedVariables false
theorem run_append_zeroW (P : Program) (w : World) (t ty e : TypeId) (i : TypeInfo) (ht : P.underlying t = some (.slice e)) (hi : P.info? e = some i) (b : Option Addr) (n cap : Nat) (hle : n ≤ cap) (av : Option Addr) (c : Nat) :
    (Builtin.append_ #[t, t] ty #[.slice b n cap, .slice av 0 c]).run P w = .ok (.slice b n cap) w := by
  cases b <;> cases av <;> simp [Builtin.append_, run_underlying ht, sizeOf, typeInfo, hi, Builtin.firstCells, Builtin.lenOf, hle, storeCells, loadCells, loadCellsFrom]
theorem own_cappW {w : World} {base : Nat} {e : TypeId} {size : Nat} {a : Option Addr} {n cap : Nat} {xs : List Value} (h : w.ownsRow base e size (.slice a n cap) n xs) : n ≤ cap ∧ cap ≤ 9223372036854775807 := by
  rcases h.2 with ⟨h1, h2⟩ | ⟨g, cap', cur, hv, _, _, h1, h2, _⟩
  · simp only [Value.slice.injEq] at h1
    omega
  · simp only [Value.slice.injEq] at hv
    simp only [maxLen] at h2
    omega
section
variable {P : Program} {w : World} {ops : Array Oper} {rest : List Oper} {o : Oper} {a : Act} {Q : Exit → Act → World → Prop}
theorem appAllw (T e : TypeId) (z : Value) (size bytes : Nat) (ht : P.underlying T = some (.slice e)) (hinfo : (P.info? e).map (fun i => (i.zero, i.size, i.bytes)) = some (some z, size, bytes)) (hzs : z.cells.size = size) (hsz : 0 < size)
    (hgd : o.guard = none) (s x : Operand) (ho : o.op = .call { callee := .builtin .append, args := #[s, x], argTypes := #[T, T] })
    (base : Nat) (v : Value) (n : Nat) (xs : List Value) (hs : a.eval s = v) (hown : w.ownsRow base e size v n xs) (ad : Option Addr) (m c : Nat) (news : List Value) (hx : a.eval x = .slice ad m c) (es : TypeId)
    (hu : Rd w ad es news) (hl : news.length = m * size) (h1 : ∀ u ∈ news, u.oneCell' = true) (hn : n + m ≤ 140737488355328) (hnb : (n + m) * bytes ≤ 140737488355328) (hbase : base ≤ w.heap.size)
    (h : ∀ av cap w', w'.ownsRow base e size (.slice av (n + m) cap) (n + m) (xs ++ news) → Below base w w' → wpList P ops Q rest (a.put o.dst (.slice av (n + m) cap)) w') : wpList P ops Q (o :: rest) a w := by
  by_cases hm : 0 < m
  · have hlt : 0 < news.length := by rw [hl]; exact Nat.mul_pos hm hsz
    cases ad with
    | none =>
      rcases hu with h0 | ⟨B, o', cs, fr, h0, _⟩
      · rw [h0] at hlt; cases hlt
      · cases h0
    | some ad =>
      refine appRdw T e z size bytes ht hinfo hzs hsz hgd s x ho base v n xs hs hown ad m c news hx es hu hl h1 hm hn hnb hbase _ rfl ?_
      intro g cap w' hown' hgrow hat hlt
      exact h _ _ _ hown' (below_grow (Below.refl base w) hown hgrow hbase)
  · obtain rfl : m = 0 := by omega
    obtain rfl : news = [] := List.length_eq_zero_iff.1 (by rw [hl]; omega)
    obtain ⟨i, hi, _⟩ := info_parts hinfo
    obtain ⟨av, cap, rfl⟩ := own_slice hown
    refine wpList_plain hgd fun K hK => ?_
    unfold Oper.wp execOp
    simp only [ho, resolve, invoke, builtin, Sem.run_bind, Sem.run_pure, Result.andThen_ok, List.map_toArray, List.map_cons, List.map_nil, hs, hx, run_append_zeroW P w T o.type e i ht hi av n cap (own_cappW hown).1 ad c]
    have := h av cap w (by simpa using hown) (Below.refl base w)
    exact hK _ _ this
end
theorem info_byte : (Tryd.prog.info? 5).map (fun i => (i.zero, i.size, i.bytes)) = some (some (.int .u8 0), 1, 1) := by kernel_rfl
end Go.Proofs.YtkioddmhjbaleaaDoor
/- A list of one value of many cells is made, as a step of a region. It says nothing of the program. -/
namespace Go.Proofs.YtkioddmhjbaleaaDoor
open Go.RowKit
theorem fill_one (cs c0 : Array Value) (size : Nat) (hs : 0 < size) (h : cs.size = size) (h0 : c0.size = size) : Instr.fill (fun i => some (i * size, size)) c0 [(0, .agg cs)] = some cs := by
  have := Great.fill_whole hs [.agg cs] c0 (fun v hv => by rw [List.mem_singleton.1 hv]; exact h) (by simp [h0])
  refine Eq.trans this ?_
  simp [Value.cells]
section
variable {P : Program} {w : World} {ops : Array Oper} {o : Oper} {a : Act} {K : Act → World → Prop} {Q : Exit → Act → World → Prop} {E : Prop}
theorem wpBuild1 (T e : TypeId) (z : Value) (size bytes : Nat) (ht : P.underlying T = some (.slice e)) (hinfo : (P.info? e).map (fun i => (i.zero, i.size, i.bytes)) = some (some z, size, bytes)) (hsz : 0 < size) (hsm : size ≤ 1000)
    (x : Operand) (ho : o.op = .buildSlice T 1 #[(0, x)]) (cs : Array Value) (hx : a.eval x = .agg cs) (hcs : cs.size = size)
    (h : K (a.put o.dst (.slice (some ⟨w.heap.size, 0, none⟩) 1 1)) (w.alloc (.cells cs e))) : Oper.wp P o a w K Q := by
  obtain ⟨i, hi, hz, hs', hb⟩ := info_parts hinfo
  refine wp_buildSlice T e 1 _ ho cs i z ht hi hz (by rw [hs']; omega) (by rw [hs']; omega) ?_ h
  have he : (Array.map (fun x => match x with | (i, x) => (i, a.eval x)) #[(0, x)]).toList = [(0, .agg cs)] := by
    simp [hx]
  rw [hs']
  refine Eq.trans (congrArg _ he) ?_
  exact fill_one cs _ size hsz hcs (by simp)
theorem stepBuild1 (T e : TypeId) (z : Value) (size bytes : Nat) (ht : P.underlying T = some (.slice e)) (hinfo : (P.info? e).map (fun i => (i.zero, i.size, i.bytes)) = some (some z, size, bytes)) (hsz : 0 < size) (hsm : size ≤ 1000) (hgd : o.guard = none)
    (x : Operand) (ho : o.op = .buildSlice T 1 #[(0, x)]) (cs : Array Value) (hx : a.eval x = .agg cs) (hcs : cs.size = size)
    (h : K (a.put o.dst (.slice (some ⟨w.heap.size, 0, none⟩) 1 1)) (w.alloc (.cells cs e))) : if Region.wanted o (yielded ops a.tmps) = true then Oper.wp P o a w K Q else E := by
  rw [if_pos (by unfold Region.wanted; rw [hgd])]
  exact wpBuild1 T e z size bytes ht hinfo hsz hsm x ho cs hx hcs h
end
end Go.Proofs.YtkioddmhjbaleaaDoor

/- The field of 256 bytes: doubling, product, power and inverse as plain functions on bytes, and their laws. No program in sight. -/
namespace Go.Proofs.YtkioddmhjbaleaaDoor.Gf

def dbl (a : UInt8) : UInt8 := if a &&& 128 = 0 then a <<< 1 else (a <<< 1) ^^^ 27

/-- the sum; a name of its own, which no simplification opens -/
def add (a b : UInt8) : UInt8 := a ^^^ b

def mulF : Nat → UInt8 → UInt8 → UInt8 → UInt8
  | 0, p, _, _ => p
  | n + 1, p, a, b => mulF n (if b &&& 1 = 1 then p ^^^ a else p) (dbl a) (b >>> 1)

def mul (a b : UInt8) : UInt8 := mulF 8 0 a b

/-! bytes as bits -/
theorem all_of (p : UInt8 → Bool) (h : (List.range 256).all (fun n => p (UInt8.ofNat n)) = true) : ∀ a, p a = true := by
  intro a
  have h1 := List.all_eq_true.1 h a.toNat (List.mem_range.2 a.toNat_lt)
  simpa using h1

theorem and128 (a : UInt8) : a &&& 128 = 0 ∨ a &&& 128 = 128 := by
  have h := all_of (fun a => (a &&& 128 == 0) || (a &&& 128 == 128)) (by decide +kernel) a
  simpa using h
theorem and1 (a : UInt8) : a &&& 1 = 0 ∨ a &&& 1 = 1 := by
  have h := all_of (fun a => (a &&& 1 == 0) || (a &&& 1 == 1)) (by decide +kernel) a
  simpa using h
theorem xor_and (a b c : UInt8) : (a ^^^ b) &&& c = (a &&& c) ^^^ (b &&& c) := by
  apply UInt8.toBitVec_inj.1; simp only [UInt8.toBitVec_and, UInt8.toBitVec_xor]; ext i; simp [Bool.and_xor_distrib_right]
theorem xor_shr (a b c : UInt8) : (a ^^^ b) >>> c = (a >>> c) ^^^ (b >>> c) := by
  apply UInt8.toBitVec_inj.1; simp [BitVec.ushiftRight_xor_distrib]
theorem x4 (p q a b : UInt8) : (p ^^^ q) ^^^ (a ^^^ b) = (p ^^^ a) ^^^ (q ^^^ b) := by
  rw [UInt8.xor_assoc, UInt8.xor_assoc, ← UInt8.xor_assoc q a b, UInt8.xor_comm q a, UInt8.xor_assoc a q b]

theorem dbl_xor (a b : UInt8) : dbl (a ^^^ b) = dbl a ^^^ dbl b := by
  unfold dbl
  rw [xor_and, UInt8.shiftLeft_xor]
  rcases and128 a with h | h <;> rcases and128 b with g | g <;> rw [h, g]
  · simp
  · simp [UInt8.xor_assoc]
  · simp; rw [UInt8.xor_assoc, UInt8.xor_assoc, UInt8.xor_comm 27]
  · simp
    have := x4 (a <<< 1) 27 (b <<< 1) 27
    rw [UInt8.xor_self, UInt8.xor_zero] at this
    have e := x4 (a <<< 1) (b <<< 1) 27 27
    rw [UInt8.xor_self, UInt8.xor_zero] at e
    exact e

theorem mulF_xor_left (n : Nat) : ∀ p q a b c : UInt8, mulF n (p ^^^ q) (a ^^^ b) c = mulF n p a c ^^^ mulF n q b c := by
  induction n with
  | zero => intros; rfl
  | succ n ih =>
    intro p q a b c
    simp only [mulF]
    by_cases h : c &&& 1 = 1
    · simp only [if_pos h]; rw [x4, dbl_xor, ih]
    · simp only [if_neg h]; rw [dbl_xor, ih]

theorem mulF_xor_right (n : Nat) : ∀ p q a b c : UInt8, mulF n (p ^^^ q) a (b ^^^ c) = mulF n p a b ^^^ mulF n q a c := by
  induction n with
  | zero => intros; rfl
  | succ n ih =>
    intro p q a b c
    simp only [mulF]
    rw [xor_and, xor_shr, ← ih]
    congr 1
    rcases and1 b with h | h <;> rcases and1 c with g | g <;> rw [h, g] <;> simp
    · rw [UInt8.xor_assoc]
    · rw [UInt8.xor_assoc, UInt8.xor_assoc, UInt8.xor_comm a]
    · rw [x4, UInt8.xor_self, UInt8.xor_zero]

theorem mul_xor_left (a b c : UInt8) : mul (a ^^^ b) c = mul a c ^^^ mul b c := by
  have := mulF_xor_left 8 0 0 a b c
  simpa [mul] using this
theorem mul_xor (a b c : UInt8) : mul a (b ^^^ c) = mul a b ^^^ mul a c := by
  have := mulF_xor_right 8 0 0 a b c
  simpa [mul] using this

/-- What keeps sums is known by its values at the eight bits. -/
theorem lin_ext (f g : UInt8 → UInt8) (hf : ∀ a b, f (a ^^^ b) = f a ^^^ f b) (hg : ∀ a b, g (a ^^^ b) = g a ^^^ g b)
    (h : ∀ b ∈ [1, 2, 4, 8, 16, 32, 64, 128], f b = g b) (a : UInt8) : f a = g a := by
  have f0 : f 0 = 0 := by have := hf 0 0; simpa using this
  have g0 : g 0 = 0 := by have := hg 0 0; simpa using this
  have hb : ∀ (t : Bool), ∀ b ∈ [1, 2, 4, 8, 16, 32, 64, 128], f (if t then b else 0) = g (if t then b else 0) := by
    intro t b hm
    cases t
    · simp [f0, g0]
    · simpa using h b hm
  have e : (a == ((((((((if a &&& 1 = 1 then (1 : UInt8) else 0) ^^^ (if a &&& 2 = 2 then (2 : UInt8) else 0)) ^^^ (if a &&& 4 = 4 then (4 : UInt8) else 0)) ^^^ (if a &&& 8 = 8 then (8 : UInt8) else 0)) ^^^ (if a &&& 16 = 16 then (16 : UInt8) else 0)) ^^^ (if a &&& 32 = 32 then (32 : UInt8) else 0)) ^^^ (if a &&& 64 = 64 then (64 : UInt8) else 0)) ^^^ (if a &&& 128 = 128 then (128 : UInt8) else 0))) = true :=
    all_of (fun a => (a == ((((((((if a &&& 1 = 1 then (1 : UInt8) else 0) ^^^ (if a &&& 2 = 2 then (2 : UInt8) else 0)) ^^^ (if a &&& 4 = 4 then (4 : UInt8) else 0)) ^^^ (if a &&& 8 = 8 then (8 : UInt8) else 0)) ^^^ (if a &&& 16 = 16 then (16 : UInt8) else 0)) ^^^ (if a &&& 32 = 32 then (32 : UInt8) else 0)) ^^^ (if a &&& 64 = 64 then (64 : UInt8) else 0)) ^^^ (if a &&& 128 = 128 then (128 : UInt8) else 0)))) (by decide +kernel) a
  have e' := eq_of_beq e
  have one : ∀ (c b : UInt8), b ∈ [1, 2, 4, 8, 16, 32, 64, 128] → f (if a &&& c = c then b else 0) = g (if a &&& c = c then b else 0) := by
    intro c b hm
    have := hb (decide (a &&& c = c)) b hm
    simpa using this
  rw [e']
  simp only [hf, hg]
  rw [one 1 1 (by decide), one 2 2 (by decide), one 4 4 (by decide), one 8 8 (by decide), one 16 16 (by decide), one 32 32 (by decide), one 64 64 (by decide), one 128 128 (by decide)]

theorem mul_comm (a b : UInt8) : mul a b = mul b a := by
  refine lin_ext (fun a => mul a b) (fun a => mul b a) (fun x y => mul_xor_left x y b) (fun x y => mul_xor b x y) ?_ a
  intro x hx
  refine lin_ext (fun b => mul x b) (fun b => mul b x) (fun u v => mul_xor x u v) (fun u v => mul_xor_left u v x) ?_ b
  revert x
  decide +kernel

theorem mul_assoc (a b c : UInt8) : mul (mul a b) c = mul a (mul b c) := by
  refine lin_ext (fun a => mul (mul a b) c) (fun a => mul a (mul b c)) (fun x y => by simp only [mul_xor_left]) (fun x y => mul_xor_left x y _) ?_ a
  intro x hx
  refine lin_ext (fun b => mul (mul x b) c) (fun b => mul x (mul b c)) (fun u v => by simp only [mul_xor, mul_xor_left]) (fun u v => by simp only [mul_xor, mul_xor_left]) ?_ b
  intro y hy
  refine lin_ext (fun c => mul (mul x y) c) (fun c => mul x (mul y c)) (fun u v => by simp only [mul_xor]) (fun u v => by simp only [mul_xor]) ?_ c
  revert x y
  decide +kernel

theorem mul_one (a : UInt8) : mul a 1 = a := by
  have h := all_of (fun a => mul a 1 == a) (by decide +kernel) a
  simpa using h
theorem one_mul (a : UInt8) : mul 1 a = a := by rw [mul_comm, mul_one]
theorem mul_zero (a : UInt8) : mul a 0 = 0 := by
  have h := all_of (fun a => mul a 0 == 0) (by decide +kernel) a
  simpa using h
theorem zero_mul (a : UInt8) : mul 0 a = 0 := by rw [mul_comm, mul_zero]

/-! powers -/
def pow (a : UInt8) : Nat → UInt8
  | 0 => 1
  | n + 1 => mul (pow a n) a
theorem pow_add (a : UInt8) (m n : Nat) : pow a (m + n) = mul (pow a m) (pow a n) := by
  induction n with
  | zero => simp [pow, mul_one]
  | succ n ih => rw [← Nat.add_assoc]; simp only [pow]; rw [ih, mul_assoc]
theorem one_pow (n : Nat) : pow 1 n = 1 := by
  induction n with
  | zero => rfl
  | succ n ih => simp only [pow]; rw [ih, mul_one]
theorem pow_mul (a : UInt8) (m n : Nat) : pow a (m * n) = pow (pow a m) n := by
  induction n with
  | zero => simp [pow]
  | succ n ih => rw [Nat.mul_succ, pow_add, ih]; rfl
theorem pow_sq (a : UInt8) (n : Nat) : pow (mul a a) n = pow a (2 * n) := by
  rw [pow_mul]; simp [pow, one_mul]

/-- powers by halves, as the program does -/
def powF : Nat → UInt8 → UInt8 → Nat → UInt8
  | 0, p, _, _ => p
  | k + 1, p, a, n => powF k (if n % 2 = 1 then mul p a else p) (mul a a) (n / 2)
theorem powF_eq (k : Nat) : ∀ p a n, n < 2 ^ k → powF k p a n = mul p (pow a n) := by
  induction k with
  | zero => intro p a n h; obtain rfl : n = 0 := by simpa using h
            simp [powF, pow, mul_one]
  | succ k ih =>
    intro p a n h
    simp only [powF]
    rw [ih _ _ _ (by rw [Nat.pow_succ] at h; omega), pow_sq]
    by_cases g : n % 2 = 1
    · rw [if_pos g, mul_assoc]
      congr 1
      have e : n = 1 + 2 * (n / 2) := by omega
      conv => rhs; rw [e, pow_add]
      simp [pow, one_mul]
    · rw [if_neg g]; congr 2; omega

def inv (a : UInt8) : UInt8 := pow a 254
theorem pow255 (a : UInt8) (h : a ≠ 0) : pow a 255 = 1 := by
  have g := all_of (fun a => a == 0 || powF 8 1 a 255 == 1) (by decide +kernel) a
  rw [powF_eq 8 1 a 255 (by decide), one_mul] at g
  simpa [h] using g
theorem mul_inv (a : UInt8) (h : a ≠ 0) : mul a (inv a) = 1 := by
  rw [mul_comm]; exact pow255 a h
theorem inv_mul (a : UInt8) (h : a ≠ 0) : mul (inv a) a = 1 := pow255 a h
theorem mul_eq_zero (a b : UInt8) : mul a b = 0 ↔ a = 0 ∨ b = 0 := by
  constructor
  · intro h
    by_cases ha : a = 0
    · exact .inl ha
    · right
      have : mul (inv a) (mul a b) = 0 := by rw [h, mul_zero]
      rwa [← mul_assoc, inv_mul a ha, one_mul] at this
  · rintro (rfl | rfl)
    · exact zero_mul b
    · exact mul_zero a
theorem xor_eq_zero (a b : UInt8) : a ^^^ b = 0 ↔ a = b := by
  constructor
  · intro h
    have : (a ^^^ b) ^^^ b = 0 ^^^ b := by rw [h]
    rwa [UInt8.xor_assoc, UInt8.xor_self, UInt8.xor_zero, UInt8.zero_xor] at this
  · rintro rfl; exact UInt8.xor_self
theorem mul_cancel {a b c : UInt8} (h : a ≠ 0) (e : mul a b = mul a c) : b = c := by
  have : mul a (b ^^^ c) = 0 := by rw [mul_xor, e, UInt8.xor_self]
  rcases (mul_eq_zero _ _).1 this with g | g
  · exact absurd g h
  · exact (xor_eq_zero _ _).1 g
theorem pow_zero_base (n : Nat) (h : 0 < n) : pow 0 n = 0 := by
  cases n with
  | zero => omega
  | succ n => simp [pow, mul_zero]
end Go.Proofs.YtkioddmhjbaleaaDoor.Gf
