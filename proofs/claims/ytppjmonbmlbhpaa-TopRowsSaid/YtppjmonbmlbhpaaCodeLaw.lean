/- Rows that are spread: they are the values of polynomials; two that differ are far apart; any so many of them tell the first ones. No walk here. -/
import Derived.Test.YtppjmonbmlbhpaaCode
namespace Go.Proofs.Ytppjmonbmlbhpaa

theorem ofNat_inj {i j : Nat} (hi : i < 256) (hj : j < 256) (h : UInt8.ofNat i = UInt8.ofNat j) : i = j := by
  have := congrArg UInt8.toNat h
  simp at this
  omega
theorem ats_getD (k i : Nat) (h : i < k) : (ats k).getD i 0 = UInt8.ofNat i := by
  unfold ats
  rw [List.getD_eq_getElem?_getD, List.getElem?_map, List.getElem?_range h]; rfl
theorem map_nodup {l : List Nat} (h : l.Nodup) (hl : ∀ i ∈ l, i < 256) : (l.map UInt8.ofNat).Nodup := by
  induction l with
  | nil => simp
  | cons a l ih =>
    rw [List.nodup_cons] at h
    rw [List.map_cons, List.nodup_cons]
    refine ⟨fun hm => ?_, ih h.2 (fun i hi => hl i (List.mem_cons_of_mem _ hi))⟩
    obtain ⟨b, hb, he⟩ := List.mem_map.1 hm
    have := ofNat_inj (hl b (List.mem_cons_of_mem _ hb)) (hl a (List.mem_cons_self ..)) he
    exact h.1 (this ▸ hb)
theorem ats_nodup (k : Nat) (h : k ≤ 256) : (ats k).Nodup := map_nodup List.nodup_range (fun i hi => by have := List.mem_range.1 hi; omega)

/-- a column of rows -/
def col (rows : List (List UInt8)) (q : Nat) : List UInt8 := rows.map (·.getD q 0)
theorem col_length (rows : List (List UInt8)) (q : Nat) : (col rows q).length = rows.length := by simp [col]
theorem col_getD (rows : List (List UInt8)) (q i : Nat) : (col rows q).getD i 0 = (rows.getD i []).getD q 0 := by
  unfold col
  rw [List.getD_eq_getElem?_getD, List.getElem?_map, List.getD_eq_getElem?_getD]
  rcases Nat.lt_or_ge i rows.length with h | h
  · simp [List.getElem?_eq_getElem h]
  · simp [List.getElem?_eq_none h]
theorem thrus_getD (at_ : List UInt8) (rows : List (List UInt8)) (x : UInt8) (q : Nat) (h : q < (rows.headD []).length) : (thrus at_ rows x).getD q 0 = Gf.thro at_ (col rows q) x := by
  unfold thrus
  rw [List.getD_eq_getElem?_getD, List.getElem?_map, List.getElem?_range h]; rfl

/-- each row that is spread is the polynomials' value at its place -/
theorem spread_val (rows : List (List UInt8)) (n : Nat) (hk : rows.length ≤ 256) (i q : Nat) (hi : i < n) (hq : q < (rows.headD []).length) :
    ((spreadOf rows n).getD i []).getD q 0 = Gf.thro (ats rows.length) (col rows q) (UInt8.ofNat i) := by
  unfold spreadOf
  rcases Nat.lt_or_ge i rows.length with h | h
  · have e1 : (rows ++ (List.range (n - rows.length)).map fun j => thrus (ats rows.length) rows (UInt8.ofNat (rows.length + j))).getD i [] = rows.getD i [] := by
      rw [List.getD_eq_getElem?_getD, List.getElem?_append_left h, List.getD_eq_getElem?_getD]
    rw [e1, ← col_getD]
    have := Gf.thro_at (ats rows.length) (col rows q) (ats_nodup _ hk) (by rw [col_length, ats_length]) i (by rw [ats_length]; exact h)
    rw [ats_getD _ _ h] at this
    exact this.symm
  · have e1 : (rows ++ (List.range (n - rows.length)).map fun j => thrus (ats rows.length) rows (UInt8.ofNat (rows.length + j))).getD i [] = thrus (ats rows.length) rows (UInt8.ofNat i) := by
      rw [List.getD_eq_getElem?_getD, List.getElem?_append_right h, List.getElem?_map, List.getElem?_range (by omega)]
      simp only [Option.map_some, Option.getD_some]
      congr 2; omega
    rw [e1, thrus_getD _ _ _ _ hq]
theorem spread_row_length (rows : List (List UInt8)) (n L : Nat) (hL : (rows.headD []).length = L) (hall : ∀ r ∈ rows, r.length = L) : ∀ r ∈ spreadOf rows n, r.length = L := by
  intro r hr
  unfold spreadOf at hr
  rcases List.mem_append.1 hr with h | h
  · exact hall r h
  · obtain ⟨j, _, rfl⟩ := List.mem_map.1 h
    rw [thrus_length]; exact hL
theorem getD_mem {α : Type} {l : List α} {i : Nat} {d : α} (h : i < l.length) : l.getD i d ∈ l := by
  rw [List.getD_eq_getElem?_getD, List.getElem?_eq_getElem h]; exact List.getElem_mem _
theorem list_ext_getD {α : Type} {a b : List α} {d : α} (hl : a.length = b.length) (h : ∀ i, i < a.length → a.getD i d = b.getD i d) : a = b := by
  apply List.ext_getElem hl
  intro i h1 h2
  have := h i h1
  rw [List.getD_eq_getElem?_getD, List.getElem?_eq_getElem h1, List.getD_eq_getElem?_getD, List.getElem?_eq_getElem h2] at this
  simpa using this

/-- two that agree in as many rows as there are, agree -/
theorem spread_agree (a b : List (List UInt8)) (n L : Nat) (hab : a.length = b.length) (hk : a.length ≤ n) (hn : n ≤ 256) (ha : ∀ r ∈ a, r.length = L) (hb : ∀ r ∈ b, r.length = L) (h0 : 0 < a.length)
    (l : List Nat) (hl : l.Nodup) (hlen : a.length ≤ l.length) (hln : ∀ i ∈ l, i < n ∧ (spreadOf a n).getD i [] = (spreadOf b n).getD i []) : a = b := by
  have hha : (a.headD []).length = L := by cases a with | nil => simp at h0 | cons r rs => exact ha r (List.mem_cons_self ..)
  have hhb : (b.headD []).length = L := by cases b with | nil => rw [hab] at h0; simp at h0 | cons r rs => exact hb r (List.mem_cons_self ..)
  refine list_ext_getD (d := []) hab fun i hi => ?_
  have hla := ha _ (getD_mem (d := []) hi)
  have hlb := hb _ (getD_mem (d := []) (by omega : i < b.length))
  refine list_ext_getD (d := 0) (by omega) fun q hq => ?_
  have hq' : q < L := by omega
  have key : ∀ x, Gf.thro (ats a.length) (col a q) x = Gf.thro (ats b.length) (col b q) x := by
    have p1 : Gf.IsPoly a.length (Gf.thro (ats a.length) (col a q)) := by have := Gf.thro_poly (ats a.length) (col a q); rwa [ats_length] at this
    have p2 : Gf.IsPoly a.length (Gf.thro (ats b.length) (col b q)) := by
      have := Gf.thro_poly (ats b.length) (col b q)
      have e : (ats b.length).length = a.length := by rw [ats_length, hab]
      rw [e] at this; exact this
    refine p1.unique p2 (at_ := l.map UInt8.ofNat) (map_nodup hl (fun i hi => by have := (hln i hi).1; omega)) (by simpa using hlen) ?_
    intro y hy
    obtain ⟨j, hj, rfl⟩ := List.mem_map.1 hy
    have h1 := spread_val a n (by omega) j q (hln j hj).1 (by omega)
    have h2 := spread_val b n (by omega) j q (hln j hj).1 (by omega)
    rw [← h1, ← h2, (hln j hj).2]
  have h1 := spread_val a n (by omega) i q (by omega) (by omega)
  have h2 := spread_val b n (by omega) i q (by omega) (by omega)
  have e1 : (spreadOf a n).getD i [] = a.getD i [] := by
    unfold spreadOf; rw [List.getD_eq_getElem?_getD, List.getElem?_append_left hi, List.getD_eq_getElem?_getD]
  have e2 : (spreadOf b n).getD i [] = b.getD i [] := by
    unfold spreadOf; rw [List.getD_eq_getElem?_getD, List.getElem?_append_left (by omega), List.getD_eq_getElem?_getD]
  rw [e1] at h1
  rw [e2] at h2
  rw [h1, h2, key]

/-- in how many of the first k places two lists part -/
def parts (xs ys : List (List UInt8)) (k : Nat) : Nat := ((List.range k).filter fun i => decide (xs.getD i [] ≠ ys.getD i [])).length
theorem parts_succ (xs ys : List (List UInt8)) (k : Nat) : parts xs ys (k + 1) = parts xs ys k + if xs.getD k [] = ys.getD k [] then 0 else 1 := by
  unfold parts
  rw [List.range_succ, List.filter_append, List.length_append]
  congr 1
  by_cases h : xs.getD k [] = ys.getD k []
  · simp only [List.filter_cons, List.filter_nil]
    rw [if_neg (by simpa using h), if_pos h]; rfl
  · simp only [List.filter_cons, List.filter_nil]
    rw [if_pos (by simpa using h), if_neg h]; rfl
theorem parts_le (xs ys : List (List UInt8)) (k : Nat) : parts xs ys k ≤ k := by
  have := List.length_filter_le (fun i => decide (xs.getD i [] ≠ ys.getD i [])) (List.range k)
  simpa [parts] using this
theorem filter_split (p : Nat → Bool) (l : List Nat) : (l.filter p).length + (l.filter fun i => !p i).length = l.length := by
  induction l with
  | nil => rfl
  | cons a l ih =>
    simp only [List.filter_cons]
    cases h : p a <;> simp <;> omega
theorem nodup_filter {p : Nat → Bool} {l : List Nat} (h : l.Nodup) : (l.filter p).Nodup := h.filter p
/-- SINGLETON: two that differ part in more rows than were added. -/
theorem spread_far (a b : List (List UInt8)) (n L : Nat) (hab : a.length = b.length) (hk : a.length ≤ n) (hn : n ≤ 256) (ha : ∀ r ∈ a, r.length = L) (hb : ∀ r ∈ b, r.length = L) (h0 : 0 < a.length) (hne : a ≠ b) :
    n + 1 ≤ parts (spreadOf a n) (spreadOf b n) n + a.length := by
  have hs := filter_split (fun i => decide ((spreadOf a n).getD i [] ≠ (spreadOf b n).getD i [])) (List.range n)
  rw [List.length_range] at hs
  have hp : ((List.range n).filter fun i => decide ((spreadOf a n).getD i [] ≠ (spreadOf b n).getD i [])).length = parts (spreadOf a n) (spreadOf b n) n := rfl
  by_cases hc : a.length ≤ ((List.range n).filter fun i => !decide ((spreadOf a n).getD i [] ≠ (spreadOf b n).getD i [])).length
  · exfalso
    refine hne (spread_agree a b n L hab hk hn ha hb h0 _ (nodup_filter List.nodup_range) hc ?_)
    intro i hi
    obtain ⟨h1, h2⟩ := List.mem_filter.1 hi
    exact ⟨List.mem_range.1 h1, by simpa using h2⟩
  · omega
end Go.Proofs.Ytppjmonbmlbhpaa
