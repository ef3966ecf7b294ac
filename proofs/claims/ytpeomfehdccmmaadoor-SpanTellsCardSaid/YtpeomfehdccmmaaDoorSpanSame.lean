/- Law: a range that fits, of the list's own entries, has all that the list has from here to there. No walk is in it. -/
import Derived.Test.YtpeomfehdccmmaaDoorSpanLaw
namespace Go.Proofs.YtpeomfehdccmmaaDoor
open Go.RowKit
set_option linter.unusedVariables false
theorem fitS_fr (R : List UInt8) (n : Nat) (fr : Int) : ∀ (es : List En) (ps : List (List (List UInt8))) (pr : Option Int) (i : Nat), ps.length = es.length → fitS R n fr pr i es ps = true → es = [] ∨ (0 ≤ fr ∧ fr + (i : Int) + (es.length : Int) ≤ (n : Int))
  | [], _, _, _, _, _ => .inl rfl
  | x :: es, [], _, _, hl, _ => by simp at hl
  | x :: es, p :: ps, pr, i, hl, h => by
    rw [fitS_cons] at h
    split at h
    · rename_i hc
      right
      have h0 := hc.2.2.1
      have h1 := hc.2.2.2.1
      rcases fitS_fr R n fr es ps _ _ (by simpa using hl) h with rfl | ⟨h2, h3⟩
      · simp only [List.length_cons, List.length_nil]; omega
      · simp only [List.length_cons]; omega
    · cases h
theorem fitsB_in {R : List UInt8} {n : Nat} {a b fr : Int} {es : List En} {ps : List (List (List UInt8))} (hl : ps.length = es.length) (h : fitsB R n a b fr es ps = true) (h0 : 0 < es.length) :
    0 ≤ fr ∧ fr + (es.length : Int) ≤ (n : Int) ∧ (fr = 0 ∨ es[0].key < a) ∧ (fr = (n : Int) - (es.length : Int) ∨ b < es[es.length - 1].key) := by
  unfold fitsB at h
  rw [dif_pos h0] at h
  split at h
  · cases h
  · rename_i hc
    rcases fitS_fr R n fr es ps none 0 hl h with rfl | ⟨h1, h2⟩
    · simp at h0
    · refine ⟨h1, by omega, ?_, ?_⟩
      · by_cases hf : fr = 0
        · exact .inl hf
        · right
          apply Classical.byContradiction
          intro hk
          exact hc (.inl ⟨hf, by omega⟩)
      · by_cases hf : fr = (n : Int) - (es.length : Int)
        · exact .inl hf
        · right
          apply Classical.byContradiction
          intro hk
          exact hc (.inr ⟨hf, by omega⟩)
theorem fitsB_none {R : List UInt8} {n : Nat} {a b fr : Int} {es : List En} {ps : List (List (List UInt8))} (h : fitsB R n a b fr es ps = true) (h0 : ¬ 0 < es.length) : n = 0 := by
  unfold fitsB at h
  rw [dif_neg h0] at h
  exact (of_decide_eq_true h).1
theorem within_append (x y : List En) (a b : Int) : withinE (x ++ y) a b = withinE x a b ++ withinE y a b := by unfold withinE; rw [List.filter_append]
theorem within_out (x : List En) (a b : Int) (h : ∀ e ∈ x, e.key < a ∨ b < e.key) : withinE x a b = [] := by
  unfold withinE
  rw [List.filter_eq_nil_iff]
  intro e he
  rcases h e he with h | h
  · simp only [Bool.and_eq_true, decide_eq_true_iff, not_and]; omega
  · simp only [Bool.and_eq_true, decide_eq_true_iff, not_and]; omega
theorem up_get {es : List En} (h : Up es) {i j : Nat} (hij : i < j) (hj : j < es.length) : (es[i]'(by omega)).key < es[j].key :=
  List.pairwise_iff_getElem.1 h i j (by omega) hj hij
theorem span_same {R : List UInt8} {a b fr : Int} {es items : List En} {pss : List (List (List UInt8))} (hU : Up es) (hpl : pss.length = items.length) (hf : fitsB R es.length a b fr items pss = true) (hall : ∀ i, (h : i < items.length) → es[fr.toNat + i]? = some items[i]) :
    withinE es a b = withinE items a b := by
  by_cases h0 : 0 < items.length
  · obtain ⟨h1, h2, h3, h4⟩ := fitsB_in hpl hf h0
    obtain ⟨f, rfl⟩ : ∃ f : Nat, fr = (f : Int) := ⟨fr.toNat, by omega⟩
    rw [Int.toNat_natCast] at hall
    have hmid : (es.drop f).take items.length = items := by
      apply List.ext_getElem?
      intro i
      by_cases hi : i < items.length
      · rw [List.getElem?_take_of_lt hi, List.getElem?_drop, hall i hi, List.getElem?_eq_getElem hi]
      · rw [List.getElem?_eq_none (by rw [List.length_take]; omega), List.getElem?_eq_none (by omega)]
    have hsp : es = es.take f ++ (items ++ es.drop (f + items.length)) := by
      conv => lhs; rw [← List.take_append_drop f es, ← List.take_append_drop items.length (es.drop f), hmid, List.drop_drop]
    have e0 := hall 0 h0
    have e1 := hall (items.length - 1) (by omega)
    have hA : withinE (es.take f) a b = [] := by
      rcases h3 with h3 | h3
      · rw [show f = 0 by omega]; rfl
      · refine within_out _ _ _ fun e he => .inl ?_
        obtain ⟨i, hi, rfl⟩ := List.getElem_of_mem he
        rw [List.length_take] at hi
        rw [List.getElem_take]
        have hfl : f + 0 < es.length := by omega
        rw [List.getElem?_eq_getElem hfl, Option.some.injEq] at e0
        have := up_get hU (show i < f + 0 by omega) hfl
        rw [e0] at this
        omega
    have hB : withinE (es.drop (f + items.length)) a b = [] := by
      rcases h4 with h4 | h4
      · rw [List.drop_of_length_le (by omega)]; rfl
      · refine within_out _ _ _ fun e he => .inr ?_
        obtain ⟨i, hi, rfl⟩ := List.getElem_of_mem he
        rw [List.length_drop] at hi
        rw [List.getElem_drop]
        have hfl : f + (items.length - 1) < es.length := by omega
        rw [List.getElem?_eq_getElem hfl, Option.some.injEq] at e1
        have := up_get hU (show f + (items.length - 1) < f + items.length + i by omega) (by omega)
        rw [e1] at this
        omega
    conv => lhs; rw [hsp]
    rw [within_append, within_append, hA, hB, List.nil_append, List.append_nil]
  · have hn := fitsB_none hf h0
    rw [List.length_eq_zero_iff.1 hn, List.length_eq_zero_iff.1 (show items.length = 0 by omega)]
/-- each entry of a range that fits, with its path, at its place -/
theorem fitS_get (R : List UInt8) (n : Nat) (fr : Int) : ∀ (es : List En) (ps : List (List (List UInt8))) (pr : Option Int) (i : Nat) (hl : ps.length = es.length), fitS R n fr pr i es ps = true → ∀ (j : Nat) (h : j < es.length), KeyOk es[j].key ∧ fr.toNat + (i + j) < n ∧ (ps[j]'(by omega)).length = tlong (fr.toNat + (i + j)) n ∧ tfold (itemD es[j]) (fr.toNat + (i + j)) n (ps[j]'(by omega)) = R
  | [], _, _, _, _, _, j, h => by simp at h
  | x :: es, [], _, _, hl, _, _, _ => by simp at hl
  | x :: es, p :: ps, pr, i, hl, hf, j, h => by
    rw [fitS_cons] at hf
    split at hf
    · rename_i hc
      cases j with
      | zero => exact ⟨hc.1, by have := hc.2.2.2.1; have := hc.2.2.1; omega, hc.2.2.2.2.2.1, hc.2.2.2.2.2.2⟩
      | succ j =>
        have := fitS_get R n fr es ps _ _ (by simpa using hl) hf j (by simpa using h)
        rw [show i + 1 + j = i + (j + 1) by omega] at this
        exact this
    · cases hf
theorem fitsB_get {R : List UInt8} {n : Nat} {a b fr : Int} {es : List En} {ps : List (List (List UInt8))} (hl : ps.length = es.length) (hf : fitsB R n a b fr es ps = true) (j : Nat) (h : j < es.length) : KeyOk es[j].key ∧ fr.toNat + j < n ∧ (ps[j]'(by omega)).length = tlong (fr.toNat + j) n ∧ tfold (itemD es[j]) (fr.toNat + j) n (ps[j]'(by omega)) = R := by
  unfold fitsB at hf
  rw [dif_pos (show 0 < es.length by omega)] at hf
  split at hf
  · cases hf
  · have := fitS_get R n fr es ps none 0 hl hf j h
    rw [Nat.zero_add] at this
    exact this
end Go.Proofs.YtpeomfehdccmmaaDoor
