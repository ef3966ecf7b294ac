/- What comes in, opened: lists of bytes, of numbers, of lists of bytes. It says nothing of the program. -/
import Derived.Test.YtpeomfehdccmmaaDoorMem
import Derived.OpenShut
import Derived.Deep.Slices
namespace Go.Proofs.YtpeomfehdccmmaaDoor
open Go.RowKit Go.ChangeShapes Go.WideShapes Go.ChangeAt

theorem Rd.of_cells {w : World} {a : Addr} {vs : List Value} (hc : ∀ i, i < vs.length → w.cell? (a.add i) = vs[i]?) : ∃ e, Rd w (some a) e vs := by
  cases vs with
  | nil => exact ⟨0, .inl rfl⟩
  | cons v vs =>
    obtain ⟨b, o, sp⟩ := a
    have h0 := hc 0 (by simp)
    have hsp := World.cell?_spot (w := w) (a := (⟨b, o, sp⟩ : Addr).add 0) (v := v) (by simpa using h0)
    have hsp' : sp = none := by
      unfold Addr.add at hsp
      split at hsp <;> simp_all
    subst hsp'
    have h1 : w.cell? ⟨b, o, none⟩ = some v := by simpa [Addr.add] using h0
    unfold World.cell? at h1
    split at h1
    · rename_i c e' fr heq
      refine ⟨e', .inr ⟨b, o, c, fr, rfl, heq, fun i hi => ?_⟩⟩
      have := hc i hi
      rw [Addr.add_lit, cell_of_row w b (o + i) c e' fr heq, List.getElem?_eq_getElem hi] at this
      exact this
    · cases h1

section
variable {H : Type} {enc : TypeId × Value → H} {P : Program} {w : World} {spare : Nat → Bool} {held : Bool}

/-- a list that came in: its elements, each of so many cells, each read -/
theorem trod_list {t e : TypeId} {fuel : Nat} {cs : List Value} {x : DataW H × List MemPlace} (ht : P.underlying t = some (.slice e)) (h : DataW.trod enc P w 0 spare held fuel t cs = some x) :
    ∃ (a : Option Addr) (len cap : Nat), cs = [.slice a len cap] ∧ len ≤ cap ∧ cap ≤ maxLen ∧ ∃ (F : Nat → List Value) (n : Nat), (∀ i, i < len → (F i).length = P.cellsOf e ∧ ∃ y, DataW.trod enc P w 0 spare held n e (F i) = some y) ∧
      ∃ e', Rd w a e' ((List.range len).flatMap F) := by
  rcases Deep.open_slice ht h with ⟨rfl, rfl⟩ | ⟨a, len, cap, m, n, D, Pl, rfl, _, hl, hm, hmm, _, hx⟩
  · exact ⟨none, 0, 0, rfl, Nat.le_refl _, Nat.zero_le _, fun _ => [], 0, fun i hi => by omega, 0, .inl (by simp)⟩
  · have hlm : len ≤ m := by rw [hmm]; split <;> omega
    obtain ⟨F, hF⟩ := Deep.choose_lt (α := List Value) (n := len) (p := fun i cs' => w.cells? 0 (a.add (i * P.cellsOf e)) (P.cellsOf e) = some cs' ∧ DataW.trod enc P w 0 spare held n e cs' = some (D i, Pl i)) (fun i hi => hx i (by omega))
    refine ⟨some a, len, cap, rfl, hl, hm, F, n, fun i hi => ?_, ?_⟩
    · obtain ⟨h1, h2⟩ := hF i hi
      exact ⟨(World.cells?_some h1).2.1, _, h2⟩
    · refine Rd.of_cells fun i hi => ?_
      have hall : ∀ i, i < len → (F i).length = P.cellsOf e := fun i hi => (World.cells?_some (hF i hi).1).2.1
      have key : ∀ k, k ≤ len → ∀ i, i < ((List.range k).flatMap F).length → w.cell? (a.add i) = ((List.range k).flatMap F)[i]? := by
        intro k
        induction k with
        | zero => intro _ i hi; simp at hi
        | succ k ih =>
          intro hk i hi
          have hlen : ∀ j, j ≤ len → ((List.range j).flatMap F).length = j * P.cellsOf e := by
            intro j
            induction j with
            | zero => intro _; simp
            | succ j ihj => intro hj; rw [List.range_succ, List.flatMap_append, List.length_append, ihj (by omega)]; simp [hall j (by omega), Nat.succ_mul]
          rw [List.range_succ, List.flatMap_append] at hi ⊢
          by_cases hlt : i < ((List.range k).flatMap F).length
          · rw [List.getElem?_append_left hlt]; exact ih (by omega) i hlt
          · rw [List.getElem?_append_right (by omega)]
            have hL := hlen k (by omega)
            simp only [List.flatMap_cons, List.flatMap_nil, List.append_nil, List.length_append] at hi ⊢
            have h3 := (World.cells?_some (hF k (by omega)).1).2.2 (i - ((List.range k).flatMap F).length) (by have := hall k (by omega); omega)
            rw [Deep.add_add, show k * P.cellsOf e + (i - ((List.range k).flatMap F).length) = i by omega] at h3
            exact h3
      exact key len (Nat.le_refl _) i hi

theorem flatMap_one (F : Nat → List Value) (n : Nat) (h : ∀ i, i < n → (F i).length = 1) : (List.range n).flatMap F = (List.range n).map fun i => (F i).headD undef := by
  induction n with
  | zero => rfl
  | succ n ih =>
    rw [List.range_succ, List.flatMap_append, List.map_append, ih (fun i hi => h i (by omega))]
    congr 1
    have := h n (by omega)
    match hF : F n, this with
    | [v], _ => simp [hF]

theorem byte_of_trod {e : TypeId} {n : Nat} {cs : List Value} {y : DataW H × List MemPlace} (he : P.underlying e = some (.int .u8)) (h : DataW.trod enc P w 0 spare held n e cs = some y) : ∃ b : UInt8, cs = [vB b] := by
  obtain ⟨z, rfl, _, hw⟩ := DataW.trod_int he h
  have b := bounds_u8 hw
  exact ⟨UInt8.ofNat z.toNat, by simp [vB]; omega⟩

/-- a list of bytes that came in -/
theorem trod_bytes {t e : TypeId} {fuel : Nat} {cs : List Value} {x : DataW H × List MemPlace} (ht : P.underlying t = some (.slice e)) (he : P.underlying e = some (.int .u8)) (hc : P.cellsOf e = 1)
    (h : DataW.trod enc P w 0 spare held fuel t cs = some x) : ∃ (xs : List UInt8) (a : Option Addr) (cap : Nat), cs = [.slice a xs.length cap] ∧ xs.length ≤ cap ∧ cap ≤ maxLen ∧ ∃ e', Rd w a e' (xs.map vB) := by
  obtain ⟨a, len, cap, rfl, hl, hm, F, n, hF, e', hr⟩ := trod_list ht h
  rw [flatMap_one F len (fun i hi => by rw [(hF i hi).1, hc])] at hr
  obtain ⟨B, hB⟩ := Deep.choose_lt (α := UInt8) (n := len) (p := fun i b => F i = [vB b]) (fun i hi => by obtain ⟨y, hy⟩ := (hF i hi).2; exact byte_of_trod he hy)
  refine ⟨(List.range len).map B, a, cap, by simp, by simpa using hl, hm, e', ?_⟩
  have : ((List.range len).map fun i => (F i).headD undef) = ((List.range len).map B).map vB := by
    rw [List.map_map]
    refine List.map_congr_left fun i hi => ?_
    rw [hB i (List.mem_range.1 hi)]; rfl
  rwa [this] at hr

/-- a list of numbers that came in -/
theorem trod_nums {t e : TypeId} {fuel : Nat} {cs : List Value} {x : DataW H × List MemPlace} (ht : P.underlying t = some (.slice e)) (he : P.underlying e = some (.int .i64)) (hc : P.cellsOf e = 1)
    (h : DataW.trod enc P w 0 spare held fuel t cs = some x) : ∃ (xs : List Int) (a : Option Addr) (cap : Nat), cs = [.slice a xs.length cap] ∧ xs.length ≤ cap ∧ cap ≤ maxLen ∧ (∀ n ∈ xs, -9223372036854775808 ≤ n ∧ n ≤ 9223372036854775807) ∧ ∃ e', Rd w a e' (xs.map vI) := by
  obtain ⟨a, len, cap, rfl, hl, hm, F, n, hF, e', hr⟩ := trod_list ht h
  rw [flatMap_one F len (fun i hi => by rw [(hF i hi).1, hc])] at hr
  obtain ⟨B, hB⟩ := Deep.choose_lt (α := Int) (n := len) (p := fun i b => F i = [vI b] ∧ -9223372036854775808 ≤ b ∧ b ≤ 9223372036854775807) (fun i hi => by
    obtain ⟨y, hy⟩ := (hF i hi).2
    obtain ⟨z, hz, _, hw⟩ := DataW.trod_int he hy
    have b := bounds_i64 hw
    exact ⟨z, hz, b.1, b.2⟩)
  refine ⟨(List.range len).map B, a, cap, by simp, by simpa using hl, hm, ?_, e', ?_⟩
  · intro n hn
    obtain ⟨i, hi, rfl⟩ := List.mem_map.1 hn
    exact (hB i (List.mem_range.1 hi)).2
  · have : ((List.range len).map fun i => (F i).headD undef) = ((List.range len).map B).map vI := by
      rw [List.map_map]
      refine List.map_congr_left fun i hi => ?_
      rw [(hB i (List.mem_range.1 hi)).1]; rfl
    rwa [this] at hr

/-- a list of lists of bytes that came in -/
theorem trod_rows {t e q : TypeId} {fuel : Nat} {cs : List Value} {x : DataW H × List MemPlace} (ht : P.underlying t = some (.slice e)) (he : P.underlying e = some (.slice q)) (hq : P.underlying q = some (.int .u8)) (hce : P.cellsOf e = 1) (hcq : P.cellsOf q = 1)
    (h : DataW.trod enc P w 0 spare held fuel t cs = some x) : ∃ (rows : List (List UInt8)) (a : Option Addr) (cap : Nat), cs = [.slice a rows.length cap] ∧ rows.length ≤ cap ∧ cap ≤ maxLen ∧ ∃ e' vs, Rd w a e' vs ∧ AreB (fun _ _ => True) w rows vs := by
  obtain ⟨a, len, cap, rfl, hl, hm, F, n, hF, e', hr⟩ := trod_list ht h
  rw [flatMap_one F len (fun i hi => by rw [(hF i hi).1, hce])] at hr
  obtain ⟨B, hB⟩ := Deep.choose_lt (α := List UInt8) (n := len) (p := fun i xs => ∃ v, F i = [v] ∧ IsB (fun _ _ => True) w xs v) (fun i hi => by
    obtain ⟨y, hy⟩ := (hF i hi).2
    obtain ⟨xs, a, cap, h1, h3, h4, e'', h2⟩ := trod_bytes he hq hcq hy
    exact ⟨xs, _, h1, a, cap, e'', rfl, h2, fun _ _ _ => trivial, by simp only [maxLen] at h4; omega⟩)
  refine ⟨(List.range len).map B, a, cap, by simp, by simpa using hl, hm, e', _, hr, by simp, fun i hi hj => ?_⟩
  simp only [List.getElem_map, List.getElem_range]
  obtain ⟨v, h1, h2⟩ := hB i (by simpa using hi)
  rw [h1]
  exact h2

theorem open_bytes {r : Reach} {b0 : Nat} {t e : TypeId} {v : Value} {d : DataW H} {ps : List MemPlace} (ht : P.underlying t = some (.slice e)) (he : P.underlying e = some (.int .u8)) (hc : P.cellsOf e = 1)
    (hval : Value.okWide P w r b0 t v) (h : DataW.Trod enc P w 0 spare held t v d ps) : ∃ (xs : List UInt8) (a : Option Addr) (cap e' : Nat), v = .slice a xs.length cap ∧ xs.length ≤ 9223372036854775807 ∧ Rd w a e' (xs.map vB) := by
  obtain ⟨a, len, cap, rfl⟩ := okWide_slice ht hval
  obtain ⟨fuel, hf⟩ := h
  obtain ⟨xs, a', cap', h1, h2, h3, e', h4⟩ := trod_bytes ht he hc hf
  simp [Value.cells] at h1
  obtain ⟨rfl, rfl, rfl⟩ := h1
  exact ⟨xs, a, cap, e', rfl, by simp only [maxLen] at h3; omega, h4⟩
theorem open_nums {r : Reach} {b0 : Nat} {t e : TypeId} {v : Value} {d : DataW H} {ps : List MemPlace} (ht : P.underlying t = some (.slice e)) (he : P.underlying e = some (.int .i64)) (hc : P.cellsOf e = 1)
    (hval : Value.okWide P w r b0 t v) (h : DataW.Trod enc P w 0 spare held t v d ps) : ∃ (xs : List Int) (a : Option Addr) (cap e' : Nat), v = .slice a xs.length cap ∧ xs.length ≤ 9223372036854775807 ∧ (∀ n ∈ xs, -9223372036854775808 ≤ n ∧ n ≤ 9223372036854775807) ∧ Rd w a e' (xs.map vI) := by
  obtain ⟨a, len, cap, rfl⟩ := okWide_slice ht hval
  obtain ⟨fuel, hf⟩ := h
  obtain ⟨xs, a', cap', h1, h2, h3, hw, e', h4⟩ := trod_nums ht he hc hf
  simp [Value.cells] at h1
  obtain ⟨rfl, rfl, rfl⟩ := h1
  exact ⟨xs, a, cap, e', rfl, by simp only [maxLen] at h3; omega, hw, h4⟩
theorem open_rows {r : Reach} {b0 : Nat} {t e q : TypeId} {v : Value} {d : DataW H} {ps : List MemPlace} (ht : P.underlying t = some (.slice e)) (he : P.underlying e = some (.slice q)) (hq : P.underlying q = some (.int .u8)) (hce : P.cellsOf e = 1) (hcq : P.cellsOf q = 1)
    (hval : Value.okWide P w r b0 t v) (h : DataW.Trod enc P w 0 spare held t v d ps) : ∃ (rows : List (List UInt8)) (a : Option Addr) (cap e' : Nat) (vs : List Value), v = .slice a rows.length cap ∧ rows.length ≤ 9223372036854775807 ∧ Rd w a e' vs ∧ AreB (fun _ _ => True) w rows vs := by
  obtain ⟨a, len, cap, rfl⟩ := okWide_slice ht hval
  obtain ⟨fuel, hf⟩ := h
  obtain ⟨rows, a', cap', h1, h2, h3, e', vs, h4, h5⟩ := trod_rows ht he hq hce hcq hf
  simp [Value.cells] at h1
  obtain ⟨rfl, rfl, rfl⟩ := h1
  exact ⟨rows, a, cap, e', vs, rfl, by simp only [maxLen] at h3; omega, h4, h5⟩
end
end Go.Proofs.YtpeomfehdccmmaaDoor
