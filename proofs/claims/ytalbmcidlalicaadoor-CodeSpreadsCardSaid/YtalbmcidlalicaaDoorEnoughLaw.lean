/- SHAMIR: so many are enough. No walk here. -/
import Derived.Test.YtalbmcidlalicaaDoorSplitAny
import Derived.Test.YtalbmcidlalicaaDoorJoin
namespace Go.Proofs.YtalbmcidlalicaaDoor
open Go.RowKit
def pickS (all : List Sh) (js : List Nat) : List Sh := js.map fun j => all.getD j default
def cellsS (xvs : List Value) (which : List Int) (k : Nat) : List Value := (List.range k).flatMap fun i => [xvs.getD (2 * (which.getD i 0).toNat) undef, xvs.getD (2 * (which.getD i 0).toNat + 1) undef]
theorem cellsS_succ (xvs : List Value) (which : List Int) (k : Nat) : cellsS xvs which (k + 1) = cellsS xvs which k ++ [xvs.getD (2 * (which.getD k 0).toNat) undef, xvs.getD (2 * (which.getD k 0).toNat + 1) undef] := by
  simp [cellsS, List.range_succ]
theorem AreS.getD {E : Nat → TypeId → Prop} {w : World} {ss : List Sh} {vs : List Value} (h : AreS E w ss vs) {i : Nat} (hi : i < ss.length) : vs.getD (2 * i) undef = vB (ss.getD i default).at_ ∧ IsB E w (ss.getD i default).data (vs.getD (2 * i + 1) undef) := by
  have l1 : 2 * i < vs.length := by rw [h.1]; omega
  have l2 : 2 * i + 1 < vs.length := by rw [h.1]; omega
  have := h.2 i hi l1 l2
  rw [List.getD_eq_getElem?_getD, List.getElem?_eq_getElem l1, List.getD_eq_getElem?_getD, List.getElem?_eq_getElem hi, List.getD_eq_getElem?_getD, List.getElem?_eq_getElem l2]
  exact this
theorem cellsS_are {w : World} {all : List Sh} {xvs : List Value} {which : List Int} {n : Nat} (hA : AreS (fun _ _ => True) w all xvs) (hn : all.length = n) : ∀ k, (∀ i, i < k → 0 ≤ which.getD i 0 ∧ which.getD i 0 < n) → k ≤ which.length →
    AreS (fun _ _ => True) w (pickS all ((which.take k).map Int.toNat)) (cellsS xvs which k) := by
  intro k
  induction k with
  | zero => intro _ _; exact AreS.nil
  | succ k ih =>
    intro h hk
    have h1 := h k (by omega)
    have e1 : which.getD k 0 = which[k]'(by omega) := by rw [List.getD_eq_getElem?_getD, List.getElem?_eq_getElem (by omega)]; rfl
    have e2 : pickS all ((which.take (k + 1)).map Int.toNat) = pickS all ((which.take k).map Int.toNat) ++ [all.getD (which.getD k 0).toNat default] := by
      rw [List.take_succ_eq_append_getElem (by omega), e1, List.map_append]
      unfold pickS
      rw [List.map_append]; rfl
    rw [e2, cellsS_succ]
    have hz : (which.getD k 0).toNat < all.length := by omega
    obtain ⟨g1, g2⟩ := hA.getD hz
    rw [g1]
    exact (ih (fun i hi => h i (by omega)) (by omega)).snoc g2

theorem splitOf_getD (secret : List UInt8) (n : Nat) (more : List (List UInt8)) (j : Nat) (h : j < n) : (splitOf secret n more).getD j default = shareOf secret more (UInt8.ofNat (j + 1)) := by
  rw [List.getD_eq_getElem?_getD, List.getElem?_eq_getElem (by rw [splitOf_length]; exact h)]
  simp [splitOf]
theorem shareOf_getD (secret : List UInt8) (more : List (List UInt8)) (x : UInt8) (k : Nat) (h : k < secret.length) : (shareOf secret more x).data.getD k 0 = Gf.val (coefs secret more k) x := by
  rw [List.getD_eq_getElem?_getD, List.getElem?_eq_getElem (by simp [shareOf]; exact h)]
  simp [shareOf]
theorem shareOf_length (secret : List UInt8) (more : List (List UInt8)) (x : UInt8) : (shareOf secret more x).data.length = secret.length := by simp [shareOf]
theorem coefs_length (secret : List UInt8) (more : List (List UInt8)) (i : Nat) : (coefs secret more i).length = more.length + 1 := by simp [coefs]
/-- the shares at some places tell the secret again -/
theorem join_at (secret : List UInt8) (more : List (List UInt8)) (at_ : List UInt8) (hnd : at_.Nodup) (hl : more.length + 1 ≤ at_.length) : joinOf (at_.map (shareOf secret more)) = secret := by
  have e1 : (at_.map (shareOf secret more)).map (·.at_) = at_ := by simp [Function.comp_def, shareOf]
  have hh : (((at_.map (shareOf secret more)).map (·.data)).headD []).length = secret.length := by
    cases at_ with
    | nil => simp at hl
    | cons x xs => exact shareOf_length _ _ _
  unfold joinOf
  rw [e1]
  refine list_ext_getD (d := 0) (by rw [thrus_length, hh]) fun k hk => ?_
  rw [thrus_length, hh] at hk
  rw [thrus_getD _ _ _ _ (by rw [hh]; exact hk)]
  have hcol : col ((at_.map (shareOf secret more)).map (·.data)) k = at_.map (Gf.val (coefs secret more k)) := by
    unfold col
    rw [List.map_map, List.map_map]
    exact List.map_congr_left fun x _ => shareOf_getD _ _ _ _ hk
  have hp : Gf.IsPoly (more.length + 1) (Gf.val (coefs secret more k)) := by
    have := Gf.IsPoly.val (coefs secret more k)
    rwa [coefs_length] at this
  rw [hcol, Gf.lagrange hp _ hnd hl, Gf.val_at_zero]
  rfl
theorem pick_at (secret : List UInt8) (n : Nat) (more : List (List UInt8)) (js : List Nat) (hlt : ∀ j ∈ js, j < n) : pickS (splitOf secret n more) js = (js.map fun j => UInt8.ofNat (j + 1)).map (shareOf secret more) := by
  unfold pickS
  rw [List.map_map]
  exact List.map_congr_left fun j hj => splitOf_getD _ _ _ _ (hlt j hj)
theorem succ_nodup {l : List Nat} (h : l.Nodup) (hl : ∀ i ∈ l, i < 255) : (l.map fun j => UInt8.ofNat (j + 1)).Nodup := by
  induction l with
  | nil => simp
  | cons a l ih =>
    rw [List.nodup_cons] at h
    rw [List.map_cons, List.nodup_cons]
    refine ⟨fun hm => ?_, ih h.2 (fun i hi => hl i (List.mem_cons_of_mem _ hi))⟩
    obtain ⟨b, hb, he⟩ := List.mem_map.1 hm
    have h1 := hl b (List.mem_cons_of_mem _ hb)
    have h2 := hl a (List.mem_cons_self ..)
    have := ofNat_inj (by omega) (by omega) he
    have : b = a := by omega
    exact h.1 (this ▸ hb)
/-- nothing is wrong with such shares -/
theorem at_fault (secret : List UInt8) (more : List (List UInt8)) (at_ : List UInt8) (hnd : at_.Nodup) (h0 : ∀ x ∈ at_, x.toNat ≠ 0) : ∀ m, m ≤ at_.length → sharesF 1 255 (at_.map (shareOf secret more)) m = 0 := by
  intro m
  induction m with
  | zero => intro _; rfl
  | succ m ih =>
    intro hm
    simp only [sharesF]
    rw [if_neg (by simpa using ih (by omega))]
    have hg : (at_.map (shareOf secret more)).getD m default = shareOf secret more at_[m] := by
      rw [List.getD_eq_getElem?_getD, List.getElem?_map, List.getElem?_eq_getElem (by omega)]; rfl
    unfold faultAt
    rw [hg]
    have h1 := h0 _ (List.getElem_mem (show m < at_.length by omega))
    have h2 : at_[m].toNat < 256 := UInt8.toNat_lt _
    have h3 : (shareOf secret more at_[m]).at_ = at_[m] := rfl
    rw [if_neg (by rw [h3]; omega), if_neg, if_neg]
    · simp only [ne_eq, Decidable.not_not, shareOf_length]
      cases at_ with
      | nil => simp at hm
      | cons x xs => exact (shareOf_length _ _ _).symm
    · have e1 : ((at_.map (shareOf secret more)).take m).map (·.at_) = at_.take m := by
        rw [← List.map_take, List.map_map]; simp [Function.comp_def, shareOf]
      rw [e1, h3]
      intro hmem
      obtain ⟨i, hi, he⟩ := List.mem_iff_getElem.1 hmem
      have hi' : i < m := by simp at hi; omega
      rw [List.getElem_take] at he
      have := (List.getElem_inj hnd).1 he
      omega
end Go.Proofs.YtalbmcidlalicaaDoor
