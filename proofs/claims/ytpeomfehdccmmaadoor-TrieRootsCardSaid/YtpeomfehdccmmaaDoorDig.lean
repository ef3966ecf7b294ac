/- Digests (arrays of bytes) and lists of them that come in, opened. It says nothing of the program. -/
import Derived.Test.YtpeomfehdccmmaaDoorOpen
namespace Go.Proofs.YtpeomfehdccmmaaDoor
open Go.RowKit Go.ChangeShapes Go.WideShapes Go.ChangeAt
set_option linter.unusedVariables false

/-- a digest as a value -/
def vD (d : List UInt8) : Value := .agg (d.map vB).toArray

section
variable {H : Type} {enc : TypeId × Value → H} {P : Program} {w : World} {spare : Nat → Bool} {held : Bool}
theorem okWide_array {r : Reach} {b0 : Nat} {t e : TypeId} {n : Nat} {v : Value} (ht : P.underlying t = some (.array n e)) (h : Value.okWide P w r b0 t v) : ∃ cs, v = .agg cs ∧ cs.size = P.cellsOf t := by
  simp only [Value.okWide, ht] at h
  obtain ⟨cs, h1, h2, _⟩ := h
  exact ⟨cs, h1, h2⟩
theorem mapM_some {α β : Type} {f : α → Option β} : ∀ (l : List α) {ys : List β}, l.mapM f = some ys → ∀ x ∈ l, ∃ y, f x = some y := by
  intro l
  induction l with
  | nil => intro ys _ x hx; cases hx
  | cons a l ih =>
    intro ys h x hx
    rw [List.mapM_cons] at h
    cases ha : f a with
    | none => rw [ha] at h; simp at h
    | some b =>
      cases hl : l.mapM f with
      | none => rw [ha, hl] at h; simp at h
      | some bs =>
        rcases List.mem_cons.1 hx with rfl | hx
        · exact ⟨b, ha⟩
        · exact ih hl x hx
theorem trod_digest {t e : TypeId} {k fuel : Nat} {cs : List Value} {y : DataW H × List MemPlace} (ht : P.underlying t = some (.array k e)) (he : P.underlying e = some (.int .u8)) (hc : P.cellsOf t = k) (c1 : P.cellsOf e = 1)
    (h : DataW.trod enc P w 0 spare held fuel t cs = some y) : ∃ d : List UInt8, d.length = k ∧ cs = d.map vB := by
  cases fuel with
  | zero => simp [DataW.trod] at h
  | succ m =>
    rw [DataW.trod_step] at h
    unfold DataW.trodStep at h
    simp only [ht] at h
    split at h
    · rename_i hl
      rw [hc] at hl
      simp only [Option.map_eq_some_iff] at h
      obtain ⟨ys, hy, _⟩ := h
      have hb : ∀ i, i < k → ∃ b : UInt8, cs[i]? = some (vB b) := by
        intro i hi
        obtain ⟨z, hz⟩ := mapM_some _ hy i (List.mem_range.2 hi)
        rw [c1, Nat.mul_one] at hz
        obtain ⟨b, hb⟩ := byte_of_trod he hz
        refine ⟨b, ?_⟩
        have := congrArg (fun l => l[0]?) hb
        simpa [List.getElem?_take, List.getElem?_drop] using this
      obtain ⟨B, hB⟩ := Deep.choose_lt (α := UInt8) (n := k) (p := fun i b => cs[i]? = some (vB b)) hb
      refine ⟨(List.range k).map B, by simp, ?_⟩
      apply List.ext_getElem?
      intro i
      by_cases hi : i < k
      · rw [hB i hi]; simp [hi]
      · rw [List.getElem?_eq_none (by omega), List.getElem?_eq_none (by simp; omega)]
    · cases h
theorem open_digest {r : Reach} {b0 : Nat} {t e : TypeId} {k : Nat} {v : Value} {d : DataW H} {ps : List MemPlace} (ht : P.underlying t = some (.array k e)) (he : P.underlying e = some (.int .u8)) (hc : P.cellsOf t = k) (c1 : P.cellsOf e = 1)
    (hval : Value.okWide P w r b0 t v) (h : DataW.Trod enc P w 0 spare held t v d ps) : ∃ x : List UInt8, x.length = k ∧ v = vD x := by
  obtain ⟨cs, rfl, hs⟩ := okWide_array ht hval
  obtain ⟨fuel, hf⟩ := h
  obtain ⟨x, h1, h2⟩ := trod_digest ht he hc c1 hf
  refine ⟨x, h1, ?_⟩
  simp only [Value.cells] at h2
  unfold vD
  rw [← h2]
theorem flatMap_flat (F : Nat → List Value) (D : Nat → List UInt8) (n : Nat) (h : ∀ i, i < n → F i = (D i).map vB) : (List.range n).flatMap F = (((List.range n).map D).flatten).map vB := by
  induction n with
  | zero => rfl
  | succ n ih =>
    rw [List.range_succ, List.flatMap_append, ih (fun i hi => h i (by omega))]
    simp [h n (by omega)]
theorem open_digests {r : Reach} {b0 : Nat} {t e q : TypeId} {k : Nat} {v : Value} {d : DataW H} {ps : List MemPlace} (ht : P.underlying t = some (.slice e)) (he : P.underlying e = some (.array k q)) (hq : P.underlying q = some (.int .u8)) (hce : P.cellsOf e = k) (hcq : P.cellsOf q = 1)
    (hval : Value.okWide P w r b0 t v) (h : DataW.Trod enc P w 0 spare held t v d ps) : ∃ (ds : List (List UInt8)) (a : Option Addr) (cap e' : Nat), v = .slice a ds.length cap ∧ ds.length ≤ cap ∧ cap ≤ 9223372036854775807 ∧ (∀ d ∈ ds, d.length = k) ∧ Rd w a e' (ds.flatten.map vB) := by
  obtain ⟨a, len, cap, rfl⟩ := okWide_slice ht hval
  obtain ⟨fuel, hf⟩ := h
  obtain ⟨a', len', cap', hcs, hl, hm, F, n, hF, e', hr⟩ := trod_list ht hf
  simp [Value.cells] at hcs
  obtain ⟨rfl, rfl, rfl⟩ := hcs
  obtain ⟨D, hD⟩ := Deep.choose_lt (α := List UInt8) (n := len) (p := fun i b => b.length = k ∧ F i = b.map vB) (fun i hi => by
    obtain ⟨y, hy⟩ := (hF i hi).2
    exact trod_digest he hq hce hcq hy)
  refine ⟨(List.range len).map D, a, cap, e', by simp, by simpa using hl, by simp only [maxLen] at hm; omega, ?_, ?_⟩
  · intro x hx
    obtain ⟨i, hi, rfl⟩ := List.mem_map.1 hx
    exact (hD i (List.mem_range.1 hi)).1
  · rw [← flatMap_flat F D len (fun i hi => (hD i hi).2)]; exact hr
end
/-- a byte of a list of digests -/
theorem flat_get {k : Nat} : ∀ (ds : List (List UInt8)), (∀ d ∈ ds, d.length = k) → ds.flatten.length = k * ds.length ∧ ∀ i j, (hi : i < ds.length) → (hj : j < ds[i].length) → ds.flatten[k * i + j]? = some ds[i][j] := by
  intro ds
  induction ds with
  | nil => intro _; exact ⟨by simp, fun i j hi => by simp at hi⟩
  | cons d ds ih =>
    intro h
    obtain ⟨h1, h2⟩ := ih (fun x hx => h x (List.mem_cons_of_mem _ hx))
    have hd : d.length = k := h d (List.mem_cons_self ..)
    refine ⟨by simp [h1, hd, Nat.mul_succ]; omega, fun i j hi hj => ?_⟩
    cases i with
    | zero =>
      simp only [List.getElem_cons_zero] at hj ⊢
      rw [Nat.mul_zero, Nat.zero_add, List.flatten_cons, List.getElem?_append_left hj, List.getElem?_eq_getElem hj]
    | succ i =>
      simp only [List.getElem_cons_succ] at hj ⊢
      rw [List.flatten_cons, List.getElem?_append_right (by rw [hd, Nat.mul_succ]; omega), hd, show k * (i + 1) + j - k = k * i + j by rw [Nat.mul_succ]; omega]
      exact h2 i j (by simpa using hi) hj
end Go.Proofs.YtpeomfehdccmmaaDoor
