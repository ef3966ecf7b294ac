/- The sum of shares is a share of the sum. No walk here. -/
import Derived.Test.YtalbmcidlalicaaEnoughLaw
namespace Go.Proofs.Ytalbmcidlalicaa
open Go.RowKit
/-- a share of polynomials -/
def polySh (L : Nat) (f : Nat → UInt8 → UInt8) (x : UInt8) : Sh := ⟨x, (List.range L).map fun k => f k x⟩
theorem polySh_length (L : Nat) (f : Nat → UInt8 → UInt8) (x : UInt8) : (polySh L f x).data.length = L := by simp [polySh]
theorem polySh_getD (L : Nat) (f : Nat → UInt8 → UInt8) (x : UInt8) (k : Nat) (h : k < L) : (polySh L f x).data.getD k 0 = f k x := by
  rw [List.getD_eq_getElem?_getD, List.getElem?_eq_getElem (by rw [polySh_length]; exact h)]
  simp [polySh]
theorem polySh_take (L : Nat) (f : Nat → UInt8 → UInt8) (x : UInt8) (m : Nat) (h : m < L) : (polySh L f x).data.take (m + 1) = (polySh L f x).data.take m ++ [f m x] := by
  rw [List.take_succ_eq_append_getElem (by rw [polySh_length]; exact h)]
  simp [polySh]
theorem join_poly (L m : Nat) (f : Nat → UInt8 → UInt8) (hf : ∀ k, Gf.IsPoly m (f k)) (at_ : List UInt8) (hnd : at_.Nodup) (hl : m ≤ at_.length) (h0 : 0 < at_.length) : joinOf (at_.map (polySh L f)) = (List.range L).map fun k => f k 0 := by
  have e1 : (at_.map (polySh L f)).map (·.at_) = at_ := by simp [Function.comp_def, polySh]
  have hh : (((at_.map (polySh L f)).map (·.data)).headD []).length = L := by
    cases at_ with
    | nil => simp at h0
    | cons x xs => exact polySh_length _ _ _
  unfold joinOf
  rw [e1]
  refine list_ext_getD (d := 0) (by rw [thrus_length, hh]; simp) fun k hk => ?_
  rw [thrus_length, hh] at hk
  rw [thrus_getD _ _ _ _ (by rw [hh]; exact hk)]
  have hcol : col ((at_.map (polySh L f)).map (·.data)) k = at_.map (f k) := by
    unfold col
    rw [List.map_map, List.map_map]
    exact List.map_congr_left fun x _ => polySh_getD _ _ _ _ hk
  rw [hcol, Gf.lagrange (hf k) _ hnd hl]
  rw [List.getD_eq_getElem?_getD, List.getElem?_map, List.getElem?_range hk]; rfl
theorem poly_fault (L : Nat) (f : Nat → UInt8 → UInt8) (at_ : List UInt8) (hnd : at_.Nodup) (h0 : ∀ x ∈ at_, x.toNat ≠ 0) : ∀ m, m ≤ at_.length → sharesF 1 255 (at_.map (polySh L f)) m = 0 := by
  intro m
  induction m with
  | zero => intro _; rfl
  | succ m ih =>
    intro hm
    simp only [sharesF]
    rw [if_neg (by simpa using ih (by omega))]
    have hg : (at_.map (polySh L f)).getD m default = polySh L f at_[m] := by
      rw [List.getD_eq_getElem?_getD, List.getElem?_map, List.getElem?_eq_getElem (by omega)]; rfl
    unfold faultAt
    rw [hg]
    have h1 := h0 _ (List.getElem_mem (show m < at_.length by omega))
    have h2 : at_[m].toNat < 256 := UInt8.toNat_lt _
    have h3 : (polySh L f at_[m]).at_ = at_[m] := rfl
    rw [if_neg (by rw [h3]; omega), if_neg, if_neg]
    · simp only [ne_eq, Decidable.not_not, polySh_length]
      cases at_ with
      | nil => simp at hm
      | cons x xs => exact (polySh_length _ _ _).symm
    · have e1 : ((at_.map (polySh L f)).take m).map (·.at_) = at_.take m := by
        rw [← List.map_take, List.map_map]; simp [Function.comp_def, polySh]
      rw [e1, h3]
      intro hmem
      obtain ⟨i, hi, he⟩ := List.mem_iff_getElem.1 hmem
      have hi' : i < m := by simp at hi; omega
      rw [List.getElem_take] at he
      have := (List.getElem_inj hnd).1 he
      omega
/-- the places 1 .. n -/
def ones (n : Nat) : List UInt8 := (List.range n).map fun k => UInt8.ofNat (k + 1)
theorem ones_length (n : Nat) : (ones n).length = n := by simp [ones]
theorem ones_nodup (n : Nat) (h : n ≤ 255) : (ones n).Nodup := succ_nodup List.nodup_range (fun i hi => by have := List.mem_range.1 hi; omega)
theorem ones_ne (n : Nat) (h : n ≤ 255) : ∀ x ∈ ones n, x.toNat ≠ 0 := by
  intro x hx
  obtain ⟨j, hj, rfl⟩ := List.mem_map.1 hx
  have := List.mem_range.1 hj
  simp; omega
theorem ones_take (n k : Nat) (g : UInt8 → Sh) (h : k < n) : ((ones n).map g).take (k + 1) = ((ones n).map g).take k ++ [g (UInt8.ofNat (k + 1))] := by
  rw [List.take_succ_eq_append_getElem (by simp [ones]; exact h)]
  simp [ones]
/-- the sum's polynomials -/
def sumF (a b : List UInt8) (p q : List (List UInt8)) (k : Nat) (x : UInt8) : UInt8 := Gf.add (Gf.val (coefs a p k) x) (Gf.val (coefs b q k) x)
theorem sumF_poly (a b : List UInt8) (p q : List (List UInt8)) (h : p.length = q.length) (k : Nat) : Gf.IsPoly (p.length + 1) (sumF a b p q k) := by
  have h1 := Gf.IsPoly.val (coefs a p k)
  have h2 := Gf.IsPoly.val (coefs b q k)
  rw [coefs_length] at h1 h2
  rw [← h] at h2
  exact h1.xor h2
theorem sumF_zero (a b : List UInt8) (p q : List (List UInt8)) (k : Nat) : sumF a b p q k 0 = Gf.add (a.getD k 0) (b.getD k 0) := by
  unfold sumF
  rw [Gf.val_at_zero, Gf.val_at_zero]; rfl
end Go.Proofs.Ytalbmcidlalicaa
