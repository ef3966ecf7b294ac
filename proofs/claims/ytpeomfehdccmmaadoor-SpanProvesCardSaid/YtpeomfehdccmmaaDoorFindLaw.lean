/- Law: the entries that are found from here to there, and those beside them: they fit, and none in it is left out. No walk is in it. -/
import Derived.Test.YtpeomfehdccmmaaDoorSpanSame
namespace Go.Proofs.YtpeomfehdccmmaaDoor
open Go.RowKit
set_option linter.unusedVariables false
def FromIs (es : List En) (a : Int) (f : Nat) : Prop := (∀ j, (h : j < es.length) → 1 ≤ j → j ≤ f → es[j].key < a) ∧ (∀ h : f + 1 < es.length, a ≤ es[f + 1].key) ∧ (f = 0 ∨ f < es.length)
def ToIs (es : List En) (b : Int) (t : Nat) : Prop := t ≤ es.length ∧ (es.length = 0 ∨ 1 ≤ t) ∧ (∀ j, (h : j < es.length) → t ≤ j + 1 → j + 1 < es.length → b < es[j].key) ∧ (∀ h : t - 2 < es.length, 1 < t → es[t - 2].key ≤ b)
def itemsF (es : List En) (f t : Nat) : List En := (es.drop f).take (t - f)
def pathsF (es : List En) (f t : Nat) : List (List (List UInt8)) := (List.range (t - f)).map fun j => tpath (leavesD es) (f + j)
theorem itemsF_length {es : List En} {f t : Nat} (ht : t ≤ es.length) : (itemsF es f t).length = t - f := by unfold itemsF; rw [List.length_take, List.length_drop]; omega
theorem pathsF_length (es : List En) (f t : Nat) : (pathsF es f t).length = t - f := by simp [pathsF]
theorem itemsF_get {es : List En} {f t i : Nat} (ht : t ≤ es.length) (hi : i < t - f) : (itemsF es f t)[i]'(by rw [itemsF_length ht]; exact hi) = es[f + i]'(by omega) := by
  unfold itemsF
  rw [List.getElem_take, List.getElem_drop]
theorem pathsF_get {es : List En} {f t i : Nat} (hi : i < t - f) : (pathsF es f t)[i]'(by rw [pathsF_length]; exact hi) = tpath (leavesD es) (f + i) := by
  simp [pathsF]
theorem find_less {es : List En} {a b : Int} {f t : Nat} (hU : Up es) (hab : a ≤ b) (hF : FromIs es a f) (hT : ToIs es b t) (h0 : es.length ≠ 0) : f < t := by
  obtain ⟨f1, f2, f3⟩ := hF
  obtain ⟨t1, t2, t3, t4⟩ := hT
  apply Classical.byContradiction
  intro hn
  have hf : 1 ≤ f := by omega
  have hfl : f < es.length := by omega
  have h1 := f1 f hfl hf (Nat.le_refl _)
  have h2 := t3 (t - 1) (by omega) (by omega) (by omega)
  have h3 := up_get hU (show t - 1 < f by omega) hfl
  omega
theorem fit_all {es : List En} {f t : Nat} (hf : listF es = 0) (ht : t ≤ es.length) : ∀ (m i : Nat), t - f - i = m → i ≤ t - f → f < es.length → fitS (troot (leavesD es)) es.length (f : Int) (prevK (itemsF es f t) i) i ((itemsF es f t).drop i) ((pathsF es f t).drop i) = true
  | 0, i, hm, hi, hfl => by
    rw [List.drop_of_length_le (by rw [itemsF_length ht]; omega)]
    exact fitS_nil ..
  | m + 1, i, hm, hi, hfl => by
    obtain ⟨_, hk, hu⟩ := listF_ok hf
    have hlt : i < t - f := by omega
    have hli : i < (itemsF es f t).length := by rw [itemsF_length ht]; exact hlt
    have hlp : i < (pathsF es f t).length := by rw [pathsF_length]; exact hlt
    rw [List.drop_eq_getElem_cons hli, List.drop_eq_getElem_cons hlp, fitS_cons, itemsF_get ht hlt, pathsF_get hlt]
    have hfi : f + i < es.length := by omega
    have hlv : (leavesD es)[f + i]? = some (itemD es[f + i]) := by unfold leavesD; rw [List.getElem?_map, List.getElem?_eq_getElem hfi]; rfl
    have e1 := tpath_long (leavesD es).length (leavesD es) (f + i) (Nat.le_refl _)
    have e2 := tfold_path (leavesD es).length (leavesD es) (f + i) _ hlv (Nat.le_refl _)
    rw [leavesD_length] at e1 e2
    have hb : badK (prevK (itemsF es f t) i) es[f + i].key = false := by
      cases i with
      | zero => rfl
      | succ i =>
        rw [prevK_succ _ _ (by omega), itemsF_get ht (by omega)]
        have := up_get hu (show f + i < f + (i + 1) by omega) hfi
        simp only [badK, decide_eq_false_iff_not]
        omega
    rw [if_pos ⟨hk _ (List.getElem_mem _), hb, by omega, by omega, by omega, by rw [Int.toNat_natCast]; exact e1, by rw [Int.toNat_natCast]; exact e2⟩]
    have := fit_all hf ht m (i + 1) (by omega) (by omega) hfl
    rw [prevK_succ _ _ hli, itemsF_get ht hlt] at this
    exact this
theorem find_fits {es : List En} {a b : Int} {f t : Nat} (hf : listF es = 0) (hab : a ≤ b) (hF : FromIs es a f) (hT : ToIs es b t) : fitsB (troot (leavesD es)) es.length a b (f : Int) (itemsF es f t) (pathsF es f t) = true := by
  obtain ⟨_, hk, hu⟩ := listF_ok hf
  by_cases h0 : es.length = 0
  · obtain rfl := List.length_eq_zero_iff.1 h0
    have hf0 : f = 0 := by rcases hF.2.2 with h | h; exact h; simp at h
    subst hf0
    have : itemsF [] 0 t = [] := by simp [itemsF]
    unfold fitsB
    rw [dif_neg (by rw [this]; simp)]
    exact decide_eq_true ⟨rfl, rfl, troot_nil⟩
  · have hft := find_less hu hab hF hT h0
    obtain ⟨f1, f2, f3⟩ := hF
    obtain ⟨t1, t2, t3, t4⟩ := hT
    have hl := itemsF_length (es := es) (f := f) t1
    unfold fitsB
    rw [dif_pos (by omega), if_neg]
    · exact fit_all hf t1 (t - f) 0 (by omega) (by omega) (by omega)
    · rintro (⟨h1, h2⟩ | ⟨h1, h2⟩)
      · rw [itemsF_get t1 (by omega)] at h2
        have := f1 (f + 0) (by omega) (by omega) (by omega)
        omega
      · have hi : (itemsF es f t).length - 1 = t - f - 1 := by omega
        have h3 : (itemsF es f t)[t - f - 1]'(by omega) = es[f + (t - f - 1)]'(by omega) := itemsF_get t1 (by omega)
        simp only [hi] at h2
        rw [h3] at h2
        have := t3 (f + (t - f - 1)) (by omega) (by omega) (by omega)
        omega
theorem find_all {es : List En} {f t : Nat} (ht : t ≤ es.length) : ∀ i, (h : i < (itemsF es f t).length) → es[((f : Nat) : Int).toNat + i]? = some (itemsF es f t)[i] := fun i h => by
  have hi : i < t - f := by rwa [itemsF_length ht] at h
  rw [Int.toNat_natCast, itemsF_get ht hi, List.getElem?_eq_getElem (show f + i < es.length by omega)]
theorem find_two {es : List En} {a b : Int} {f t : Nat} (hu : Up es) (hab : a ≤ b) (hF : FromIs es a f) (hT : ToIs es b t) : (itemsF es f t).length ≤ (withinE es a b).length + 2 := by
  obtain ⟨f1, f2, f3⟩ := hF
  obtain ⟨t1, t2, t3, t4⟩ := hT
  rw [itemsF_length t1]
  by_cases h2 : t - f ≤ 2
  · omega
  · have hsp : es = es.take (f + 1) ++ ((es.drop (f + 1)).take (t - f - 2) ++ (es.drop (f + 1)).drop (t - f - 2)) := by
      rw [List.take_append_drop, List.take_append_drop]
    have hmid : withinE ((es.drop (f + 1)).take (t - f - 2)) a b = (es.drop (f + 1)).take (t - f - 2) := by
      unfold withinE
      rw [List.filter_eq_self]
      intro e he
      obtain ⟨i, hi, rfl⟩ := List.getElem_of_mem he
      rw [List.length_take, List.length_drop] at hi
      rw [List.getElem_take, List.getElem_drop]
      have hx : f + 1 + i < es.length := by omega
      have g1 : a ≤ es[f + 1 + i].key := by
        have h3 := f2 (by omega)
        by_cases hi0 : i = 0
        · subst hi0; exact h3
        · have := up_get hu (show f + 1 < f + 1 + i by omega) hx
          omega
      have g2 : es[f + 1 + i].key ≤ b := by
        have h4 := t4 (by omega) (by omega)
        by_cases hi0 : f + 1 + i = t - 2
        · simp only [hi0]; exact h4
        · have := up_get hu (show f + 1 + i < t - 2 by omega) (by omega)
          omega
      simp [g1, g2]
    have := congrArg (fun l => (withinE l a b).length) hsp
    simp only [within_append, List.length_append, hmid] at this
    rw [List.length_take, List.length_drop] at this
    omega
end Go.Proofs.YtpeomfehdccmmaaDoor
