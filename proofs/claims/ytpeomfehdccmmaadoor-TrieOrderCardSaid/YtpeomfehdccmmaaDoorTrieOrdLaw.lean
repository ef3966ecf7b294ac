/- Law: entries picked in another order. No walk is in it. -/
import Derived.Test.YtpeomfehdccmmaaDoorTrieSorted
namespace Go.Proofs.YtpeomfehdccmmaaDoor
open Go.RowKit
set_option linter.unusedVariables false
/-- entries, each by its place -/
def pickE (es : List En) (os : List Int) : List En := os.map fun o => es.getD o.toNat ⟨0, nz⟩
theorem pickE_length (es : List En) (os : List Int) : (pickE es os).length = os.length := by simp [pickE]
theorem pickE_snoc (es : List En) (os : List Int) (o : Int) : pickE es (os ++ [o]) = pickE es os ++ [es.getD o.toNat ⟨0, nz⟩] := by simp [pickE]
theorem pickE_mem (es : List En) (os : List Int) (h : ∀ o ∈ os, 0 ≤ o ∧ o < (es.length : Int)) : ∀ e ∈ pickE es os, e ∈ es := by
  intro e he
  obtain ⟨o, ho, rfl⟩ := List.mem_map.1 he
  have := h o ho
  have hl : o.toNat < es.length := by omega
  rw [List.getD_eq_getElem?_getD, List.getElem?_eq_getElem hl]
  exact List.getElem_mem hl
theorem scan_val : ∀ (es : List En) (pre : List Int), (∀ e ∈ es, KeyOk e.key) → scanG pre es = 0 ∨ scanG pre es = 7
  | [], _, _ => .inl rfl
  | e :: r, pre, h => by
    rw [scanG_cons, if_pos (h e (List.mem_cons_self ..))]
    split
    · exact .inr rfl
    · exact scan_val r _ (fun x hx => h x (List.mem_cons_of_mem _ hx))
/-- numbers below n, none of them twice, are at most n; and where one is missing, fewer -/
theorem pig : ∀ (n : Nat) (l : List Nat), l.Pairwise (· ≠ ·) → (∀ x ∈ l, x < n) → l.length ≤ n
  | 0, l, _, h => by
    cases l with
    | nil => exact Nat.le_refl _
    | cons x l => exact absurd (h x (List.mem_cons_self ..)) (Nat.not_lt_zero _)
  | n + 1, l, hd, h => by
    have h1 : (l.filter (fun x => decide (x ≠ n))).length ≤ n := pig n _ (hd.filter _) (fun x hx => by
      obtain ⟨hx1, hx2⟩ := List.mem_filter.1 hx
      have := h x hx1
      have := of_decide_eq_true hx2
      omega)
    have h2 : ∀ (l : List Nat), l.Pairwise (· ≠ ·) → l.length ≤ (l.filter (fun x => decide (x ≠ n))).length + 1 := by
      intro l
      induction l with
      | nil => intro _; simp
      | cons x l ih =>
        intro hp
        obtain ⟨p1, p2⟩ := List.pairwise_cons.1 hp
        by_cases e : x = n
        · have hf : l.filter (fun y => decide (y ≠ n)) = l := List.filter_eq_self.2 fun y hy => decide_eq_true (by rw [← e]; exact (p1 y hy).symm)
          rw [List.filter_cons, if_neg (by simp [e]), hf]
          simp
        · rw [List.filter_cons, if_pos (by simpa using e)]
          simp only [List.length_cons]
          have := ih p2
          omega
    have := h2 l hd
    omega
theorem pig_all (n : Nat) (l : List Nat) (hd : l.Pairwise (· ≠ ·)) (h : ∀ x ∈ l, x < n) (hl : l.length = n) (i : Nat) (hi : i < n) : i ∈ l := by
  by_cases hm : i ∈ l
  · exact hm
  · exfalso
    have := pig n (i :: l) (List.pairwise_cons.2 ⟨fun x hx e => hm (e ▸ hx), hd⟩) (fun x hx => by
      rcases List.mem_cons.1 hx with rfl | hx
      · exact hi
      · exact h x hx)
    simp at this
    omega
theorem pick_same (es : List En) (os : List Int) (h : ∀ o ∈ os, 0 ≤ o ∧ o < (es.length : Int)) (hl : os.length = es.length) (hap : Apart (pickE es os)) : ∀ e, e ∈ pickE es os ↔ e ∈ es := by
  intro e
  refine ⟨pickE_mem es os h e, fun he => ?_⟩
  have hd : (os.map Int.toNat).Pairwise (· ≠ ·) := by
    unfold Apart pickE at hap
    rw [List.pairwise_map] at hap ⊢
    exact hap.imp fun hne e => hne (by rw [e])
  obtain ⟨i, hi, rfl⟩ := List.getElem_of_mem he
  have hm := pig_all es.length (os.map Int.toNat) hd (fun x hx => by
    obtain ⟨o, ho, rfl⟩ := List.mem_map.1 hx
    have := h o ho
    omega) (by rw [List.length_map, hl]) i hi
  obtain ⟨o, ho, hoi⟩ := List.mem_map.1 hm
  refine List.mem_map.2 ⟨o, ho, ?_⟩
  rw [hoi, List.getD_eq_getElem?_getD, List.getElem?_eq_getElem hi]
  rfl
end Go.Proofs.YtpeomfehdccmmaaDoor
