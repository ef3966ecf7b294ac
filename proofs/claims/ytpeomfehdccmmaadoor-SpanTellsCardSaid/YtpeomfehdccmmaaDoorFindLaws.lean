/- Law: the entries that are found from here to there, and those beside them: they fit, and none in it is left out. No walk is in it. -/
import Derived.Test.YtpeomfehdccmmaaDoorSpanSame
import Derived.Test.YtpeomfehdccmmaaDoorMemA
import Derived.OrdersHeld
import Derived.Deep.RegionHeld3
namespace Go.Proofs.YtpeomfehdccmmaaDoor
open Go.RowKit
set_option linter.unusedVariables false
def FromIs (es : List En) (a : Int) (f : Nat) : Prop := (∀ j, (h : j < es.length) → 1 ≤ j → j ≤ f → es[j].key < a) ∧ (∀ h : f + 1 < es.length, a ≤ es[f + 1].key) ∧ (f = 0 ∨ f < es.length)
def ToIs (es : List En) (b : Int) (t : Nat) : Prop := t ≤ es.length ∧ (es.length = 0 ∨ 1 ≤ t) ∧ (∀ j, (h : j < es.length) → t ≤ j + 1 → j + 1 < es.length → b < es[j].key) ∧ (∀ h : t - 2 < es.length, 1 < t → es[t - 2].key ≤ b)
def itemsF (es : List En) (f t : Nat) : List En := (es.drop f).take (t - f)
def pathsF (es : List En) (f t : Nat) : List (List (List UInt8)) := (List.range (t - f)).map fun j => tpath (leavesD es) (f + j)
theorem itemsF_length {es : List En} {f t : Nat} (ht : t ≤ es.length) : (itemsF es f t).length = t - f := by unfold itemsF; rw [List.length_take, List.length_drop]; omega
theorem pathsF_length (es : List En) (f t : Nat) : (pathsF es f t).length = t - f := by simp [pathsF]
theorem itemsF_get {es : List En} {f t i : Nat} (ht : t ≤ es.length) (hi : i < t - f) : (itemsF es f t)[i]'(by rw [itemsF_length ht]; exact hi) = es[f + i]'(by omega) := by
  unfold itemsF
  rw [List.getElem_take, List.getElem_drop]
theorem pathsF_get {es : List En} {f t i : Nat} (hi : i < t - f) : (pathsF es f t)[i]'(by rw [pathsF_length]; exact hi) = tpath (leavesD es) (f + i) := by
  simp [pathsF]
theorem find_less {es : List En} {a b : Int} {f t : Nat} (hU : Up es) (hab : a ≤ b) (hF : FromIs es a f) (hT : ToIs es b t) (h0 : es.length ≠ 0) : f < t := by
  obtain ⟨f1, f2, f3⟩ := hF
  obtain ⟨t1, t2, t3, t4⟩ := hT
  apply Classical.byContradiction
  intro hn
  have hf : 1 ≤ f := by omega
  have hfl : f < es.length := by omega
  have h1 := f1 f hfl hf (Nat.le_refl _)
  have h2 := t3 (t - 1) (by omega) (by omega) (by omega)
  have h3 := up_get hU (show t - 1 < f by omega) hfl
  omega
theorem fit_all {es : List En} {f t : Nat} (hf : listF es = 0) (ht : t ≤ es.length) : ∀ (m i : Nat), t - f - i = m → i ≤ t - f → f < es.length → fitS (troot (leavesD es)) es.length (f : Int) (prevK (itemsF es f t) i) i ((itemsF es f t).drop i) ((pathsF es f t).drop i) = true
  | 0, i, hm, hi, hfl => by
    rw [List.drop_of_length_le (by rw [itemsF_length ht]; omega)]
    exact fitS_nil ..
  | m + 1, i, hm, hi, hfl => by
    obtain ⟨_, hk, hu⟩ := listF_ok hf
    have hlt : i < t - f := by omega
    have hli : i < (itemsF es f t).length := by rw [itemsF_length ht]; exact hlt
    have hlp : i < (pathsF es f t).length := by rw [pathsF_length]; exact hlt
    rw [List.drop_eq_getElem_cons hli, List.drop_eq_getElem_cons hlp, fitS_cons, itemsF_get ht hlt, pathsF_get hlt]
    have hfi : f + i < es.length := by omega
    have hlv : (leavesD es)[f + i]? = some (itemD es[f + i]) := by unfold leavesD; rw [List.getElem?_map, List.getElem?_eq_getElem hfi]; rfl
    have e1 := tpath_long (leavesD es).length (leavesD es) (f + i) (Nat.le_refl _)
    have e2 := tfold_path (leavesD es).length (leavesD es) (f + i) _ hlv (Nat.le_refl _)
    rw [leavesD_length] at e1 e2
    have hb : badK (prevK (itemsF es f t) i) es[f + i].key = false := by
      cases i with
      | zero => rfl
      | succ i =>
        rw [prevK_succ _ _ (by omega), itemsF_get ht (by omega)]
        have := up_get hu (show f + i < f + (i + 1) by omega) hfi
        simp only [badK, decide_eq_false_iff_not]
        omega
    rw [if_pos ⟨hk _ (List.getElem_mem _), hb, by omega, by omega, by omega, by rw [Int.toNat_natCast]; exact e1, by rw [Int.toNat_natCast]; exact e2⟩]
    have := fit_all hf ht m (i + 1) (by omega) (by omega) hfl
    rw [prevK_succ _ _ hli, itemsF_get ht hlt] at this
    exact this
theorem find_fits {es : List En} {a b : Int} {f t : Nat} (hf : listF es = 0) (hab : a ≤ b) (hF : FromIs es a f) (hT : ToIs es b t) : fitsB (troot (leavesD es)) es.length a b (f : Int) (itemsF es f t) (pathsF es f t) = true := by
  obtain ⟨_, hk, hu⟩ := listF_ok hf
  by_cases h0 : es.length = 0
  · obtain rfl := List.length_eq_zero_iff.1 h0
    have hf0 : f = 0 := by rcases hF.2.2 with h | h; exact h; simp at h
    subst hf0
    have : itemsF [] 0 t = [] := by simp [itemsF]
    unfold fitsB
    rw [dif_neg (by rw [this]; simp)]
    exact decide_eq_true ⟨rfl, rfl, troot_nil⟩
  · have hft := find_less hu hab hF hT h0
    obtain ⟨f1, f2, f3⟩ := hF
    obtain ⟨t1, t2, t3, t4⟩ := hT
    have hl := itemsF_length (es := es) (f := f) t1
    unfold fitsB
    rw [dif_pos (by omega), if_neg]
    · exact fit_all hf t1 (t - f) 0 (by omega) (by omega) (by omega)
    · rintro (⟨h1, h2⟩ | ⟨h1, h2⟩)
      · rw [itemsF_get t1 (by omega)] at h2
        have := f1 (f + 0) (by omega) (by omega) (by omega)
        omega
      · have hi : (itemsF es f t).length - 1 = t - f - 1 := by omega
        have h3 : (itemsF es f t)[t - f - 1]'(by omega) = es[f + (t - f - 1)]'(by omega) := itemsF_get t1 (by omega)
        simp only [hi] at h2
        rw [h3] at h2
        have := t3 (f + (t - f - 1)) (by omega) (by omega) (by omega)
        omega
theorem find_all {es : List En} {f t : Nat} (ht : t ≤ es.length) : ∀ i, (h : i < (itemsF es f t).length) → es[((f : Nat) : Int).toNat + i]? = some (itemsF es f t)[i] := fun i h => by
  have hi : i < t - f := by rwa [itemsF_length ht] at h
  rw [Int.toNat_natCast, itemsF_get ht hi, List.getElem?_eq_getElem (show f + i < es.length by omega)]
theorem find_two {es : List En} {a b : Int} {f t : Nat} (hu : Up es) (hab : a ≤ b) (hF : FromIs es a f) (hT : ToIs es b t) : (itemsF es f t).length ≤ (withinE es a b).length + 2 := by
  obtain ⟨f1, f2, f3⟩ := hF
  obtain ⟨t1, t2, t3, t4⟩ := hT
  rw [itemsF_length t1]
  by_cases h2 : t - f ≤ 2
  · omega
  · have hsp : es = es.take (f + 1) ++ ((es.drop (f + 1)).take (t - f - 2) ++ (es.drop (f + 1)).drop (t - f - 2)) := by
      rw [List.take_append_drop, List.take_append_drop]
    have hmid : withinE ((es.drop (f + 1)).take (t - f - 2)) a b = (es.drop (f + 1)).take (t - f - 2) := by
      unfold withinE
      rw [List.filter_eq_self]
      intro e he
      obtain ⟨i, hi, rfl⟩ := List.getElem_of_mem he
      rw [List.length_take, List.length_drop] at hi
      rw [List.getElem_take, List.getElem_drop]
      have hx : f + 1 + i < es.length := by omega
      have g1 : a ≤ es[f + 1 + i].key := by
        have h3 := f2 (by omega)
        by_cases hi0 : i = 0
        · subst hi0; exact h3
        · have := up_get hu (show f + 1 < f + 1 + i by omega) hx
          omega
      have g2 : es[f + 1 + i].key ≤ b := by
        have h4 := t4 (by omega) (by omega)
        by_cases hi0 : f + 1 + i = t - 2
        · simp only [hi0]; exact h4
        · have := up_get hu (show f + 1 + i < t - 2 by omega) (by omega)
          omega
      simp [g1, g2]
    have := congrArg (fun l => (withinE l a b).length) hsp
    simp only [within_append, List.length_append, hmid] at this
    rw [List.length_take, List.length_drop] at this
    omega
end Go.Proofs.YtpeomfehdccmmaaDoor
/- Law: from where, and to where: there is just one such. No walk is in it. -/
namespace Go.Proofs.YtpeomfehdccmmaaDoor
open Go.RowKit
set_option linter.unusedVariables false
theorem from_ex (es : List En) (a : Int) : ∀ (m f : Nat), es.length - f = m → (∀ j, (h : j < es.length) → 1 ≤ j → j ≤ f → es[j].key < a) → (f = 0 ∨ f < es.length) → ∃ g, FromIs es a g
  | 0, f, hm, h1, h2 => ⟨f, h1, fun h => absurd h (by omega), h2⟩
  | m + 1, f, hm, h1, h2 => by
    by_cases hl : f + 1 < es.length
    · by_cases hk : es[f + 1].key < a
      · refine from_ex es a m (f + 1) (by omega) (fun j h i1 i2 => ?_) (.inr hl)
        by_cases hj : j ≤ f
        · exact h1 j h i1 hj
        · obtain rfl : j = f + 1 := by omega
          exact hk
      · exact ⟨f, h1, fun _ => by omega, h2⟩
    · exact ⟨f, h1, fun h => absurd h hl, h2⟩
theorem to_ex (es : List En) (b : Int) : ∀ (t : Nat), t ≤ es.length → (es.length = 0 ∨ 1 ≤ t) → (∀ j, (h : j < es.length) → t ≤ j + 1 → j + 1 < es.length → b < es[j].key) → ∃ g, ToIs es b g
  | 0, h1, h2, h3 => ⟨0, h1, h2, h3, fun _ h => absurd h (by omega)⟩
  | t + 1, h1, h2, h3 => by
    by_cases hl : 1 < t + 1
    · by_cases hk : b < (es[t + 1 - 2]'(by omega)).key
      · refine to_ex es b t (by omega) (.inr (by omega)) (fun j h i1 i2 => ?_)
        by_cases hj : t + 1 ≤ j + 1
        · exact h3 j h hj i2
        · obtain rfl : j = t + 1 - 2 := by omega
          exact hk
      · exact ⟨t + 1, h1, h2, h3, fun _ _ => by omega⟩
    · exact ⟨t + 1, h1, h2, h3, fun _ h => absurd h hl⟩
theorem from_one {es : List En} {a : Int} {f g : Nat} (hf : FromIs es a f) (hg : FromIs es a g) : f = g := by
  obtain ⟨a1, a2, a3⟩ := hf
  obtain ⟨b1, b2, b3⟩ := hg
  apply Classical.byContradiction
  intro hne
  by_cases h : f < g
  · have h1 := a2 (by omega)
    have h2 := b1 (f + 1) (by omega) (by omega) (by omega)
    omega
  · have h1 := b2 (by omega)
    have h2 := a1 (g + 1) (by omega) (by omega) (by omega)
    omega
theorem to_one {es : List En} {b : Int} {t u : Nat} (ht : ToIs es b t) (hu : ToIs es b u) : t = u := by
  obtain ⟨a1, a2, a3, a4⟩ := ht
  obtain ⟨b1, b2, b3, b4⟩ := hu
  apply Classical.byContradiction
  intro hne
  by_cases h : t < u
  · have h1 := a3 (u - 2) (by omega) (by omega) (by omega)
    have h2 := b4 (by omega) (by omega)
    omega
  · have h1 := b3 (t - 2) (by omega) (by omega) (by omega)
    have h2 := a4 (by omega) (by omega)
    omega
end Go.Proofs.YtpeomfehdccmmaaDoor
/- Law: which entries of a list are told, by the document. No walk is in it. -/
namespace Go.Proofs.YtpeomfehdccmmaaDoor
open Go.RowKit
set_option linter.unusedVariables false
theorem last_below {es : List En} {a : Int} {f i : Nat} (hU : Up es) (hF : FromIs es a f) (hi : i < es.length) : (es[i].key < a ∧ (i + 1 = es.length ∨ ∃ h : i + 1 < es.length, a ≤ es[i + 1].key)) ↔ (es[i].key < a ∧ i = f) := by
  obtain ⟨f1, f2, f3⟩ := hF
  constructor
  · rintro ⟨h1, h2⟩
    refine ⟨h1, ?_⟩
    apply Classical.byContradiction
    intro hne
    by_cases hlt : i < f
    · rcases h2 with h2 | ⟨h2, h3⟩
      · omega
      · have := f1 (i + 1) h2 (by omega) (by omega)
        omega
    · have h4 := f2 (by omega)
      by_cases he : i = f + 1
      · subst he; omega
      · have := up_get hU (show f + 1 < i by omega) hi
        omega
  · rintro ⟨h1, rfl⟩
    refine ⟨h1, ?_⟩
    by_cases h : i + 1 < es.length
    · exact .inr ⟨h, f2 h⟩
    · exact .inl (by omega)
theorem first_above {es : List En} {b : Int} {t i : Nat} (hU : Up es) (hT : ToIs es b t) (hi : i < es.length) : (b < es[i].key ∧ (i = 0 ∨ ∃ h : i - 1 < es.length, es[i - 1].key ≤ b)) ↔ (b < es[i].key ∧ i + 1 = t) := by
  obtain ⟨t1, t2, t3, t4⟩ := hT
  constructor
  · rintro ⟨h1, h2⟩
    refine ⟨h1, ?_⟩
    apply Classical.byContradiction
    intro hne
    by_cases hlt : i + 1 < t
    · have h4 := t4 (by omega) (by omega)
      by_cases he : i = t - 2
      · subst he; omega
      · have := up_get hU (show i < t - 2 by omega) (by omega)
        omega
    · rcases h2 with h2 | ⟨h2, h3⟩
      · omega
      · have := t3 (i - 1) h2 (by omega) (by omega)
        omega
  · rintro ⟨h1, h2⟩
    refine ⟨h1, ?_⟩
    by_cases h0 : i = 0
    · exact .inl h0
    · have h4 := t4 (by omega) (by omega)
      refine .inr ⟨by omega, ?_⟩
      have he : t - 2 = i - 1 := by omega
      simp only [he] at h4
      exact h4
theorem told_is {es : List En} {a b : Int} {f t i : Nat} (hU : Up es) (hab : a ≤ b) (hF : FromIs es a f) (hT : ToIs es b t) (hi : i < es.length) : ((a ≤ es[i].key ∧ es[i].key ≤ b) ∨ (es[i].key < a ∧ i = f) ∨ (b < es[i].key ∧ i + 1 = t)) ↔ (f ≤ i ∧ i < t) := by
  have hft := find_less hU hab hF hT (by omega)
  obtain ⟨f1, f2, f3⟩ := hF
  obtain ⟨t1, t2, t3, t4⟩ := hT
  constructor
  · rintro (⟨h1, h2⟩ | ⟨h1, h2⟩ | ⟨h1, h2⟩)
    · constructor
      · apply Classical.byContradiction
        intro hn
        have h3 := f1 f (by omega) (by omega) (Nat.le_refl _)
        have := up_get hU (show i < f by omega) (by omega)
        omega
      · apply Classical.byContradiction
        intro hn
        have h3 := t3 (i - 1) (by omega) (by omega) (by omega)
        have := up_get hU (show i - 1 < i by omega) hi
        omega
    · omega
    · omega
  · rintro ⟨h1, h2⟩
    by_cases ha : es[i].key < a
    · refine .inr (.inl ⟨ha, ?_⟩)
      apply Classical.byContradiction
      intro hne
      have h3 := f2 (by omega)
      by_cases he : i = f + 1
      · subst he; omega
      · have := up_get hU (show f + 1 < i by omega) hi
        omega
    · by_cases hb : b < es[i].key
      · refine .inr (.inr ⟨hb, ?_⟩)
        apply Classical.byContradiction
        intro hne
        have h4 := t4 (by omega) (by omega)
        by_cases he : i = t - 2
        · subst he; omega
        · have := up_get hU (show i < t - 2 by omega) (by omega)
          omega
      · exact .inl ⟨by omega, by omega⟩
end Go.Proofs.YtpeomfehdccmmaaDoor
/- A region in whatever order, whose LAST operations write what others load: the loads may be taken first where each of those last operations waits for them. It says nothing of the program. -/
namespace Go.Proofs.YtpeomfehdccmmaaDoor
open Go.RowKit
set_option linter.unusedVariables false
section
variable {P : Program} {ops : Array Oper} {Q : Exit → Act → World → Prop} {md : Region.Mode} {S : World → Prop} {F : Nat → Bool}
/-- number j, not yet listed, waits (perhaps through others that are not yet listed) for number i -/
inductive Waits (md : Region.Mode) (ops : Array Oper) (listed : Array Bool) (i : Nat) : Nat → Prop
  | one {j : Nat} {oj : Oper} (hj : ops[j]? = some oj) (hl : listed.getD j true = false) {e} (he : e ∈ oj.after) (hb : Region.binds md e = true) (hi : e.on = i) : Waits md ops listed i j
  | more {j : Nat} {oj : Oper} (hj : ops[j]? = some oj) (hl : listed.getD j true = false) {e} (he : e ∈ oj.after) (hb : Region.binds md e = true) (h : Waits md ops listed i e.on) : Waits md ops listed i j
def waitsB (md : Region.Mode) (ops : Array Oper) (listed : Array Bool) (i : Nat) : Nat → Nat → Bool
  | 0, _ => false
  | n + 1, j => match ops[j]? with
    | none => false
    | some oj => !(listed.getD j true) && oj.after.any fun e => Region.binds md e && (e.on == i || waitsB md ops listed i n e.on)
theorem waits_of : ∀ (n j : Nat) {listed : Array Bool} {i : Nat}, waitsB md ops listed i n j = true → Waits md ops listed i j
  | 0, _, _, _, h => by cases h
  | n + 1, j, listed, i, h => by
    unfold waitsB at h
    split at h
    · cases h
    · rename_i oj hj
      simp only [Bool.and_eq_true, Bool.not_eq_true', Array.any_eq_true] at h
      obtain ⟨hl, k, hk, hb, ho⟩ := h
      have he : oj.after[k] ∈ oj.after := Array.getElem_mem hk
      simp only [Bool.or_eq_true, beq_iff_eq] at ho
      rcases ho with ho | ho
      · exact .one hj hl he hb ho
      · exact .more hj hl he hb (waits_of n _ ho)
theorem getD_in {l : Array Bool} {k : Nat} (h : l.getD k true = false) : k < l.size := by
  rcases Nat.lt_or_ge k l.size with h' | h'
  · exact h'
  · simp [h'] at h
theorem ready_listed {listed : Array Bool} {j : Nat} {oj : Oper} (hr : j ∈ Region.ready md ops listed) (hj : ops[j]? = some oj) {e} (he : e ∈ oj.after) (hb : Region.binds md e = true) {b : Bool} (h : listed.getD e.on true = b) : b = true ∨ listed.size ≤ e.on := by
  obtain ⟨_, o, ho, hall⟩ := mem_ready.1 hr
  rw [hj, Option.some.injEq] at ho
  subst ho
  have h1 := hall e he hb
  rcases Nat.lt_or_ge e.on listed.size with h' | h'
  · left
    simp [h'] at h h1
    rw [← h, h1]
  · exact .inr h'
theorem Waits.un {listed : Array Bool} {i j : Nat} (h : Waits md ops listed i j) : listed.getD j true = false := by
  cases h with
  | one _ hl _ _ _ => exact hl
  | more _ hl _ _ _ => exact hl
/-- whoever comes up while number i has not, is not one that waits for it; and those go on waiting -/
theorem Waits.step {listed : Array Bool} {i j k : Nat} (h : Waits md ops listed i j) (hi : listed.getD i true = false) (hk : k ∈ Region.ready md ops listed) (hne : k ≠ i) : k ≠ j ∧ Waits md ops (listed.setIfInBounds k true) i j := by
  induction h with
  | one hj hl he hb hei =>
    have hkj : k ≠ _ := fun e => by
      have hk2 := hk
      rw [e] at hk2
      rw [← hei] at hi
      rcases ready_listed hk2 hj he hb hi with h | h
      · cases h
      · have := getD_in hi; omega
    refine ⟨hkj, .one hj ?_ he hb hei⟩
    rw [getD_set_ne true hkj]; exact hl
  | more hj hl he hb h ih =>
    have hkj : k ≠ _ := fun e => by
      have hk2 := hk
      rw [e] at hk2
      have hm := h.un
      rcases ready_listed hk2 hj he hb hm with h | h
      · cases h
      · have := getD_in hm; omega
    refine ⟨hkj, .more hj ?_ he hb ih.2⟩
    rw [getD_set_ne true hkj]; exact hl
/-- none of the last operations has come up -/
def Clean (F : Nat → Bool) (listed : Array Bool) : Prop := ∀ j, F j = true → listed.getD j true = false
/-- whatever order is picked from here on, and S holds behind every operation until one of the last ones has come up -/
def wpAnyF (P : Program) (md : Region.Mode) (ops : Array Oper) (Q : Exit → Act → World → Prop) (S : World → Prop) (F : Nat → Bool) : Nat → Array Bool → Act → World → Prop
  | 0, listed, a, w => Region.ready md ops listed = [] ∧ Q .normal a w
  | fuel + 1, listed, a, w =>
    (Region.ready md ops listed = [] → Q .normal a w) ∧
    ∀ i ∈ Region.ready md ops listed, wpOp P ops Q i (fun a' w' => (Clean F (listed.setIfInBounds i true) → S w') ∧ wpAnyF P md ops Q S F fuel (listed.setIfInBounds i true) a' w') a w
theorem wpAny_of_F : ∀ (fuel : Nat) (listed : Array Bool) (a : Act) (w : World), wpAnyF P md ops Q S F fuel listed a w → wpAny P md ops Q fuel listed a w
  | 0, _, _, _, h => h
  | fuel + 1, _, _, _, h => ⟨h.1, fun i hi => wpOp_mono (fun a' w' h' => wpAny_of_F fuel _ a' w' h'.2) (h.2 i hi)⟩
theorem Clean.set {listed : Array Bool} {i : Nat} (h : Clean F listed) (hi : F i = false) : Clean F (listed.setIfInBounds i true) := fun j hj => by
  have hij : i ≠ j := fun e => by rw [← e, hi] at hj; cases hj
  rw [getD_set_ne true hij]
  exact h j hj
theorem wpAnyF_first {i : Nat} {oi : Oper} {v : Value} (hi : ops[i]? = some oi) (hF : F i = false) (hsel : ∀ (j : Nat) (o : Oper) cs b, ops[j]? = some o → o.op ≠ .select cs b)
    (hQ : ∀ c a w, Q (.panic c) (a.put oi.dst v) w → Q (.panic c) a w) :
    ∀ (fuel : Nat) (listed : Array Bool) (a : Act) (w : World),
      (∀ j oj, ops[j]? = some oj → j ≠ i → listed.getD j true = false → (∀ e ∈ oj.after, Region.binds md e = true → e.on ≠ i) → oi.apart ops oj = true) →
      Clean F listed → (∀ j, F j = true → Waits md ops listed i j) →
      i ∈ Region.ready md ops listed → YieldsIf P ops S oi v a → S w →
      wpAnyF P md ops Q S F fuel (listed.setIfInBounds i true) (a.put oi.dst v) w → wpAnyF P md ops Q S F (fuel + 1) listed a w := by
  intro fuel
  induction fuel with
  | zero =>
    intro listed a w _ _ _ hr hy hS H
    refine ⟨fun h => (by rw [h] at hr; cases hr), fun j hj => ?_⟩
    by_cases hji : j = i
    · subst hji; exact hy.wpOp hi hS ⟨fun _ => hS, H⟩
    · have := ready_mono hj hji
      rw [H.1] at this
      cases this
  | succ fuel ih =>
    intro listed a w hfree hcl hwait hr hy hS H
    refine ⟨fun h => (by rw [h] at hr; cases hr), fun j hj => ?_⟩
    by_cases hji : j = i
    · subst hji; exact hy.wpOp hi hS ⟨fun _ => hS, H⟩
    · have h1 := H.2 j (ready_mono hj hji)
      obtain ⟨hjun, oj, hoj, hall⟩ := mem_ready.1 hj
      have hiun := (mem_ready.1 hr).1
      have hnot : ∀ e ∈ oj.after, Region.binds md e = true → e.on ≠ i := fun e he hb heq => by
        have h1 := hall e he hb
        have h0 := (mem_ready.1 hr).1
        rw [heq] at h1
        rcases Nat.lt_or_ge i listed.size with h' | h'
        · simp [h'] at h0 h1; rw [h0] at h1; cases h1
        · simp [Array.getElem?_eq_none h'] at h1
      have hFj : F j = false := by
        cases hf : F j with
        | false => rfl
        | true => exact absurd rfl ((hwait j hf).step hiun hj hji).1
      have h2 := wpOp_putIf hoj (hfree j oj hoj hji hjun hnot) (fun cs b => hsel i oi cs b hi) (fun cs b => hsel j oj cs b hoj) hQ hy h1
      have hfree' : ∀ k ok, ops[k]? = some ok → k ≠ i → (listed.setIfInBounds j true).getD k true = false →
          (∀ e ∈ ok.after, Region.binds md e = true → e.on ≠ i) → oi.apart ops ok = true := fun k ok hk hki hun hno => by
        refine hfree k ok hk hki ?_ hno
        by_cases hjk : j = k
        · subst hjk; exact hjun
        · rw [getD_set_ne true hjk] at hun; exact hun
      have hwait' : ∀ k, F k = true → Waits md ops (listed.setIfInBounds j true) i k := fun k hk => ((hwait k hk).step hiun hj hji).2
      have hcl' : Clean F (listed.setIfInBounds j true) := hcl.set hFj
      have hcl2 : Clean F ((listed.setIfInBounds i true).setIfInBounds j true) := (hcl.set hF).set hFj
      refine wpOp_mono (fun a' w' h3 => ⟨fun _ => h3.2.1 hcl2, ih (listed.setIfInBounds j true) a' w' hfree' hcl' hwait' (ready_mono hr (Ne.symm hji)) h3.1 (h3.2.1 hcl2) ?_⟩) h2
      rw [Array.setIfInBounds_comm _ _ hji]
      exact h3.2.2
theorem wpAnyF_take {i : Nat} {oi : Oper} {v : Value} {fuel : Nat} {listed : Array Bool} {a : Act} {w : World} {fs : List Nat} (hi : ops[i]? = some oi)
    (hs : Region.noSelect ops = true) (hf : Region.free md ops listed i = true) (hr : (Region.ready md ops listed).contains i = true)
    (hFs : ∀ j, F j = true → j ∈ fs) (hFi : F i = false) (hwt : (fs.all fun j => waitsB md ops listed i 40 j) = true)
    (hQ : ∀ c a w, Q (.panic c) (a.put oi.dst v) w → Q (.panic c) a w) (hy : YieldsIf P ops S oi v a) (hS : S w)
    (h : wpAnyF P md ops Q S F fuel (listed.setIfInBounds i true) (a.put oi.dst v) w) : wpAnyF P md ops Q S F (fuel + 1) listed a w := by
  have hw : ∀ j, F j = true → Waits md ops listed i j := fun j hj => waits_of _ _ (List.all_eq_true.1 hwt j (hFs j hj))
  exact wpAnyF_first hi hFi (Region.noSelect_spec hs) hQ fuel listed a w (Region.free_spec hi hf) (fun j hj => (hw j hj).un) hw (by simpa using hr) hy hS h
theorem wpAnyF_all {rs : List Nat} {fuel : Nat} {listed : Array Bool} {a : Act} {w : World} (hr : Region.ready md ops listed = rs) (hne : rs ≠ [])
    (h : ∀ i ∈ rs, wpOp P ops Q i (fun a' w' => (Clean F (listed.setIfInBounds i true) → S w') ∧ wpAnyF P md ops Q S F fuel (listed.setIfInBounds i true) a' w') a w) : wpAnyF P md ops Q S F (fuel + 1) listed a w :=
  ⟨fun h0 => absurd (hr ▸ h0) hne, hr ▸ h⟩
theorem wpAnyF_done {listed : Array Bool} {a : Act} {w : World} (hr : Region.ready md ops listed = []) (h : Q .normal a w) :
    ∀ fuel, wpAnyF P md ops Q S F fuel listed a w
  | 0 => ⟨hr, h⟩
  | _ + 1 => ⟨fun _ => h, by rw [hr]; simp⟩
def AllReadyF (P : Program) (md : Region.Mode) (ops : Array Oper) (Q : Exit → Act → World → Prop) (S : World → Prop) (F : Nat → Bool) (fuel : Nat) (listed : Array Bool) (a : Act) (w : World) (rs : List Nat) : Prop :=
  ∀ i ∈ rs, wpOp P ops Q i (fun a' w' => (Clean F (listed.setIfInBounds i true) → S w') ∧ wpAnyF P md ops Q S F fuel (listed.setIfInBounds i true) a' w') a w
theorem AllReadyF.nil {fuel : Nat} {listed : Array Bool} {a : Act} {w : World} : AllReadyF P md ops Q S F fuel listed a w [] := fun _ h => by cases h
theorem AllReadyF.cons {fuel : Nat} {listed : Array Bool} {a : Act} {w : World} {i : Nat} {o : Oper} {rs : List Nat} (ho : ops[i]? = some o)
    (h : ∀ K' : Act → World → Prop, Shut (∀ a w, (Clean F (listed.setIfInBounds i true) → S w) → wpAnyF P md ops Q S F fuel (listed.setIfInBounds i true) a w → K' a w) → if Region.wanted o (yielded ops a.tmps) = true then Oper.wp P o a w K' Q else K' (a.put o.dst undef) w)
    (hs : AllReadyF P md ops Q S F fuel listed a w rs) : AllReadyF P md ops Q S F fuel listed a w (i :: rs) := fun j hj => by
  rcases List.mem_cons.1 hj with rfl | hj
  · exact wpOp_step ho (fun K' hK => h K' (fun a w hS hW => hK a w ⟨hS, hW⟩))
  · exact hs j hj
theorem wpAnyF_ready {rs : List Nat} {fuel : Nat} {listed : Array Bool} {a : Act} {w : World} (hr : Region.ready md ops listed = rs) (hne : rs ≠ [])
    (h : AllReadyF P md ops Q S F fuel listed a w rs) : wpAnyF P md ops Q S F (fuel + 1) listed a w := wpAnyF_all hr hne h
theorem wp_region_final_drew {id : Nat} {a : Act} {w : World} (F : Nat → Bool) (S : World → Prop) (hm : P.follows .mixedOrders = true) (hS : S w.drew)
    (h : S w.drew → wpAnyF P .any ops Q S F ops.size (Array.replicate ops.size false) a w.drew) : (Code.region id ops true).wp P Q a w :=
  wp_region_any hm (wpAny_of_F _ _ _ _ (h hS))
end
end Go.Proofs.YtpeomfehdccmmaaDoor
