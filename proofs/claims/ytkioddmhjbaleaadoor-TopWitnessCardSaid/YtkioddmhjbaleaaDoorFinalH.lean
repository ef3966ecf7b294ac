/- A region in whatever order, whose LAST operations write what others load: the loads may be taken first where each of those last operations waits for them. It says nothing of the program. -/
import Derived.Test.YtkioddmhjbaleaaDoorMemA
import Derived.OrdersHeld
import Derived.Deep.RegionHeld3
namespace Go.Proofs.YtkioddmhjbaleaaDoor
open Go.RowKit
set_option linter.unusedVariables false
section
variable {P : Program} {ops : Array Oper} {Q : Exit → Act → World → Prop} {md : Region.Mode} {S : World → Prop} {F : Nat → Bool}
/-- number j, not yet listed, waits (perhaps through others that are not yet listed) for number i -/
inductive Waits (md : Region.Mode) (ops : Array Oper) (listed : Array Bool) (i : Nat) : Nat → Prop
  | one {j : Nat} {oj : Oper} (hj : ops[j]? = some oj) (hl : listed.getD j true = false) {e} (he : e ∈ oj.after) (hb : Region.binds md e = true) (hi : e.on = i) : Waits md ops listed i j
  | more {j : Nat} {oj : Oper} (hj : ops[j]? = some oj) (hl : listed.getD j true = false) {e} (he : e ∈ oj.after) (hb : Region.binds md e = true) (h : Waits md ops listed i e.on) : Waits md ops listed i j
def waitsB (md : Region.Mode) (ops : Array Oper) (listed : Array Bool) (i : Nat) : Nat → Nat → Bool
  | 0, _ => false
  | n + 1, j => match ops[j]? with
    | none => false
    | some oj => !(listed.getD j true) && oj.after.any fun e => Region.binds md e && (e.on == i || waitsB md ops listed i n e.on)
theorem waits_of : ∀ (n j : Nat) {listed : Array Bool} {i : Nat}, waitsB md ops listed i n j = true → Waits md ops listed i j
  | 0, _, _, _, h => by cases h
  | n + 1, j, listed, i, h => by
    unfold waitsB at h
    split at h
    · cases h
    · rename_i oj hj
      simp only [Bool.and_eq_true, Bool.not_eq_true', Array.any_eq_true] at h
      obtain ⟨hl, k, hk, hb, ho⟩ := h
      have he : oj.after[k] ∈ oj.after := Array.getElem_mem hk
      simp only [Bool.or_eq_true, beq_iff_eq] at ho
      rcases ho with ho | ho
      · exact .one hj hl he hb ho
      · exact .more hj hl he hb (waits_of n _ ho)
theorem getD_in {l : Array Bool} {k : Nat} (h : l.getD k true = false) : k < l.size := by
  rcases Nat.lt_or_ge k l.size with h' | h'
  · exact h'
  · simp [h'] at h
theorem ready_listed {listed : Array Bool} {j : Nat} {oj : Oper} (hr : j ∈ Region.ready md ops listed) (hj : ops[j]? = some oj) {e} (he : e ∈ oj.after) (hb : Region.binds md e = true) {b : Bool} (h : listed.getD e.on true = b) : b = true ∨ listed.size ≤ e.on := by
  obtain ⟨_, o, ho, hall⟩ := mem_ready.1 hr
  rw [hj, Option.some.injEq] at ho
  subst ho
  have h1 := hall e he hb
  rcases Nat.lt_or_ge e.on listed.size with h' | h'
  · left
    simp [h'] at h h1
    rw [← h, h1]
  · exact .inr h'
theorem Waits.un {listed : Array Bool} {i j : Nat} (h : Waits md ops listed i j) : listed.getD j true = false := by
  cases h with
  | one _ hl _ _ _ => exact hl
  | more _ hl _ _ _ => exact hl
/-- whoever comes up while number i has not, is not one that waits for it; and those go on waiting -/
theorem Waits.step {listed : Array Bool} {i j k : Nat} (h : Waits md ops listed i j) (hi : listed.getD i true = false) (hk : k ∈ Region.ready md ops listed) (hne : k ≠ i) : k ≠ j ∧ Waits md ops (listed.setIfInBounds k true) i j := by
  induction h with
  | one hj hl he hb hei =>
    have hkj : k ≠ _ := fun e => by
      have hk2 := hk
      rw [e] at hk2
      rw [← hei] at hi
      rcases ready_listed hk2 hj he hb hi with h | h
      · cases h
      · have := getD_in hi; omega
    refine ⟨hkj, .one hj ?_ he hb hei⟩
    rw [getD_set_ne true hkj]; exact hl
  | more hj hl he hb h ih =>
    have hkj : k ≠ _ := fun e => by
      have hk2 := hk
      rw [e] at hk2
      have hm := h.un
      rcases ready_listed hk2 hj he hb hm with h | h
      · cases h
      · have := getD_in hm; omega
    refine ⟨hkj, .more hj ?_ he hb ih.2⟩
    rw [getD_set_ne true hkj]; exact hl
/-- none of the last operations has come up -/
def Clean (F : Nat → Bool) (listed : Array Bool) : Prop := ∀ j, F j = true → listed.getD j true = false
/-- whatever order is picked from here on, and S holds behind every operation until one of the last ones has come up -/
def wpAnyF (P : Program) (md : Region.Mode) (ops : Array Oper) (Q : Exit → Act → World → Prop) (S : World → Prop) (F : Nat → Bool) : Nat → Array Bool → Act → World → Prop
  | 0, listed, a, w => Region.ready md ops listed = [] ∧ Q .normal a w
  | fuel + 1, listed, a, w =>
    (Region.ready md ops listed = [] → Q .normal a w) ∧
    ∀ i ∈ Region.ready md ops listed, wpOp P ops Q i (fun a' w' => (Clean F (listed.setIfInBounds i true) → S w') ∧ wpAnyF P md ops Q S F fuel (listed.setIfInBounds i true) a' w') a w
theorem wpAny_of_F : ∀ (fuel : Nat) (listed : Array Bool) (a : Act) (w : World), wpAnyF P md ops Q S F fuel listed a w → wpAny P md ops Q fuel listed a w
  | 0, _, _, _, h => h
  | fuel + 1, _, _, _, h => ⟨h.1, fun i hi => wpOp_mono (fun a' w' h' => wpAny_of_F fuel _ a' w' h'.2) (h.2 i hi)⟩
theorem Clean.set {listed : Array Bool} {i : Nat} (h : Clean F listed) (hi : F i = false) : Clean F (listed.setIfInBounds i true) := fun j hj => by
  have hij : i ≠ j := fun e => by rw [← e, hi] at hj; cases hj
  rw [getD_set_ne true hij]
  exact h j hj
theorem wpAnyF_first {i : Nat} {oi : Oper} {v : Value} (hi : ops[i]? = some oi) (hF : F i = false) (hsel : ∀ (j : Nat) (o : Oper) cs b, ops[j]? = some o → o.op ≠ .select cs b)
    (hQ : ∀ c a w, Q (.panic c) (a.put oi.dst v) w → Q (.panic c) a w) :
    ∀ (fuel : Nat) (listed : Array Bool) (a : Act) (w : World),
      (∀ j oj, ops[j]? = some oj → j ≠ i → listed.getD j true = false → (∀ e ∈ oj.after, Region.binds md e = true → e.on ≠ i) → oi.apart ops oj = true) →
      Clean F listed → (∀ j, F j = true → Waits md ops listed i j) →
      i ∈ Region.ready md ops listed → YieldsIf P ops S oi v a → S w →
      wpAnyF P md ops Q S F fuel (listed.setIfInBounds i true) (a.put oi.dst v) w → wpAnyF P md ops Q S F (fuel + 1) listed a w := by
  intro fuel
  induction fuel with
  | zero =>
    intro listed a w _ _ _ hr hy hS H
    refine ⟨fun h => (by rw [h] at hr; cases hr), fun j hj => ?_⟩
    by_cases hji : j = i
    · subst hji; exact hy.wpOp hi hS ⟨fun _ => hS, H⟩
    · have := ready_mono hj hji
      rw [H.1] at this
      cases this
  | succ fuel ih =>
    intro listed a w hfree hcl hwait hr hy hS H
    refine ⟨fun h => (by rw [h] at hr; cases hr), fun j hj => ?_⟩
    by_cases hji : j = i
    · subst hji; exact hy.wpOp hi hS ⟨fun _ => hS, H⟩
    · have h1 := H.2 j (ready_mono hj hji)
      obtain ⟨hjun, oj, hoj, hall⟩ := mem_ready.1 hj
      have hiun := (mem_ready.1 hr).1
      have hnot : ∀ e ∈ oj.after, Region.binds md e = true → e.on ≠ i := fun e he hb heq => by
        have h1 := hall e he hb
        have h0 := (mem_ready.1 hr).1
        rw [heq] at h1
        rcases Nat.lt_or_ge i listed.size with h' | h'
        · simp [h'] at h0 h1; rw [h0] at h1; cases h1
        · simp [Array.getElem?_eq_none h'] at h1
      have hFj : F j = false := by
        cases hf : F j with
        | false => rfl
        | true => exact absurd rfl ((hwait j hf).step hiun hj hji).1
      have h2 := wpOp_putIf hoj (hfree j oj hoj hji hjun hnot) (fun cs b => hsel i oi cs b hi) (fun cs b => hsel j oj cs b hoj) hQ hy h1
      have hfree' : ∀ k ok, ops[k]? = some ok → k ≠ i → (listed.setIfInBounds j true).getD k true = false →
          (∀ e ∈ ok.after, Region.binds md e = true → e.on ≠ i) → oi.apart ops ok = true := fun k ok hk hki hun hno => by
        refine hfree k ok hk hki ?_ hno
        by_cases hjk : j = k
        · subst hjk; exact hjun
        · rw [getD_set_ne true hjk] at hun; exact hun
      have hwait' : ∀ k, F k = true → Waits md ops (listed.setIfInBounds j true) i k := fun k hk => ((hwait k hk).step hiun hj hji).2
      have hcl' : Clean F (listed.setIfInBounds j true) := hcl.set hFj
      have hcl2 : Clean F ((listed.setIfInBounds i true).setIfInBounds j true) := (hcl.set hF).set hFj
      refine wpOp_mono (fun a' w' h3 => ⟨fun _ => h3.2.1 hcl2, ih (listed.setIfInBounds j true) a' w' hfree' hcl' hwait' (ready_mono hr (Ne.symm hji)) h3.1 (h3.2.1 hcl2) ?_⟩) h2
      rw [Array.setIfInBounds_comm _ _ hji]
      exact h3.2.2
theorem wpAnyF_take {i : Nat} {oi : Oper} {v : Value} {fuel : Nat} {listed : Array Bool} {a : Act} {w : World} {fs : List Nat} (hi : ops[i]? = some oi)
    (hs : Region.noSelect ops = true) (hf : Region.free md ops listed i = true) (hr : (Region.ready md ops listed).contains i = true)
    (hFs : ∀ j, F j = true → j ∈ fs) (hFi : F i = false) (hwt : (fs.all fun j => waitsB md ops listed i 40 j) = true)
    (hQ : ∀ c a w, Q (.panic c) (a.put oi.dst v) w → Q (.panic c) a w) (hy : YieldsIf P ops S oi v a) (hS : S w)
    (h : wpAnyF P md ops Q S F fuel (listed.setIfInBounds i true) (a.put oi.dst v) w) : wpAnyF P md ops Q S F (fuel + 1) listed a w := by
  have hw : ∀ j, F j = true → Waits md ops listed i j := fun j hj => waits_of _ _ (List.all_eq_true.1 hwt j (hFs j hj))
  exact wpAnyF_first hi hFi (Region.noSelect_spec hs) hQ fuel listed a w (Region.free_spec hi hf) (fun j hj => (hw j hj).un) hw (by simpa using hr) hy hS h
theorem wpAnyF_all {rs : List Nat} {fuel : Nat} {listed : Array Bool} {a : Act} {w : World} (hr : Region.ready md ops listed = rs) (hne : rs ≠ [])
    (h : ∀ i ∈ rs, wpOp P ops Q i (fun a' w' => (Clean F (listed.setIfInBounds i true) → S w') ∧ wpAnyF P md ops Q S F fuel (listed.setIfInBounds i true) a' w') a w) : wpAnyF P md ops Q S F (fuel + 1) listed a w :=
  ⟨fun h0 => absurd (hr ▸ h0) hne, hr ▸ h⟩
theorem wpAnyF_done {listed : Array Bool} {a : Act} {w : World} (hr : Region.ready md ops listed = []) (h : Q .normal a w) :
    ∀ fuel, wpAnyF P md ops Q S F fuel listed a w
  | 0 => ⟨hr, h⟩
  | _ + 1 => ⟨fun _ => h, by rw [hr]; simp⟩
def AllReadyF (P : Program) (md : Region.Mode) (ops : Array Oper) (Q : Exit → Act → World → Prop) (S : World → Prop) (F : Nat → Bool) (fuel : Nat) (listed : Array Bool) (a : Act) (w : World) (rs : List Nat) : Prop :=
  ∀ i ∈ rs, wpOp P ops Q i (fun a' w' => (Clean F (listed.setIfInBounds i true) → S w') ∧ wpAnyF P md ops Q S F fuel (listed.setIfInBounds i true) a' w') a w
theorem AllReadyF.nil {fuel : Nat} {listed : Array Bool} {a : Act} {w : World} : AllReadyF P md ops Q S F fuel listed a w [] := fun _ h => by cases h
theorem AllReadyF.cons {fuel : Nat} {listed : Array Bool} {a : Act} {w : World} {i : Nat} {o : Oper} {rs : List Nat} (ho : ops[i]? = some o)
    (h : ∀ K' : Act → World → Prop, Shut (∀ a w, (Clean F (listed.setIfInBounds i true) → S w) → wpAnyF P md ops Q S F fuel (listed.setIfInBounds i true) a w → K' a w) → if Region.wanted o (yielded ops a.tmps) = true then Oper.wp P o a w K' Q else K' (a.put o.dst undef) w)
    (hs : AllReadyF P md ops Q S F fuel listed a w rs) : AllReadyF P md ops Q S F fuel listed a w (i :: rs) := fun j hj => by
  rcases List.mem_cons.1 hj with rfl | hj
  · exact wpOp_step ho (fun K' hK => h K' (fun a w hS hW => hK a w ⟨hS, hW⟩))
  · exact hs j hj
theorem wpAnyF_ready {rs : List Nat} {fuel : Nat} {listed : Array Bool} {a : Act} {w : World} (hr : Region.ready md ops listed = rs) (hne : rs ≠ [])
    (h : AllReadyF P md ops Q S F fuel listed a w rs) : wpAnyF P md ops Q S F (fuel + 1) listed a w := wpAnyF_all hr hne h
theorem wp_region_final_drew {id : Nat} {a : Act} {w : World} (F : Nat → Bool) (S : World → Prop) (hm : P.follows .mixedOrders = true) (hS : S w.drew)
    (h : S w.drew → wpAnyF P .any ops Q S F ops.size (Array.replicate ops.size false) a w.drew) : (Code.region id ops true).wp P Q a w :=
  wp_region_any hm (wpAny_of_F _ _ _ _ (h hS))
end
end Go.Proofs.YtkioddmhjbaleaaDoor
