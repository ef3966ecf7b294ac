/- Fewer shares tell nothing: the rows that make given shares of a given secret. No walk here. -/
import Derived.Test.YtalbmcidlalicaaDoorCofLaw
import Derived.Test.YtalbmcidlalicaaDoorEnoughLaw
namespace Go.Proofs.YtalbmcidlalicaaDoor
open Go.RowKit
def atsH (ss : List Sh) : List UInt8 := 0 :: ss.map (·.at_)
def valsH (secret : List UInt8) (ss : List Sh) (k : Nat) : List UInt8 := secret.getD k 0 :: ss.map (fun s => s.data.getD k 0)
def cofK (secret : List UInt8) (ss : List Sh) (k : Nat) : List UInt8 := Gf.cofs (atsH ss) (valsH secret ss k) (atsH ss).length
def rowH (secret : List UInt8) (ss : List Sh) (i k : Nat) : UInt8 := (cofK secret ss k).getD (i + 1) 0
/-- the rows, m places done -/
def moreH (secret : List UInt8) (ss : List Sh) (m : Nat) : List (List UInt8) := (List.range ss.length).map fun i => (List.range m).map (rowH secret ss i)
/-- the rows while place m is done, i of them -/
def moreM (secret : List UInt8) (ss : List Sh) (m i : Nat) : List (List UInt8) := (List.range ss.length).map fun q => (List.range (if q < i then m + 1 else m)).map (rowH secret ss q)
theorem atsH_length (ss : List Sh) : (atsH ss).length = ss.length + 1 := by simp [atsH]
theorem valsH_length (secret : List UInt8) (ss : List Sh) (k : Nat) : (valsH secret ss k).length = ss.length + 1 := by simp [valsH]
theorem cofK_length (secret : List UInt8) (ss : List Sh) (k : Nat) : (cofK secret ss k).length = ss.length + 1 := by unfold cofK; rw [Gf.cofs_length, atsH_length]
theorem moreH_length (secret : List UInt8) (ss : List Sh) (m : Nat) : (moreH secret ss m).length = ss.length := by simp [moreH]
theorem moreM_length (secret : List UInt8) (ss : List Sh) (m i : Nat) : (moreM secret ss m i).length = ss.length := by simp [moreM]
theorem moreM_zero (secret : List UInt8) (ss : List Sh) (m : Nat) : moreM secret ss m 0 = moreH secret ss m := by simp [moreM, moreH]
theorem moreM_all (secret : List UInt8) (ss : List Sh) (m : Nat) : moreM secret ss m ss.length = moreH secret ss (m + 1) := by
  unfold moreM moreH
  refine List.map_congr_left fun q hq => ?_
  rw [if_pos (List.mem_range.1 hq)]
theorem moreM_get (secret : List UInt8) (ss : List Sh) (m i q : Nat) (h : q < (moreM secret ss m i).length) : (moreM secret ss m i)[q] = (List.range (if q < i then m + 1 else m)).map (rowH secret ss q) := by simp [moreM]
theorem moreM_set (secret : List UInt8) (ss : List Sh) (m i : Nat) (hi : i < ss.length) : (moreM secret ss m i).set i ((moreM secret ss m i)[i]'(by rw [moreM_length]; exact hi) ++ [rowH secret ss i m]) = moreM secret ss m (i + 1) := by
  apply List.ext_getElem
  · simp [moreM_length]
  · intro q h1 h2
    have hm := moreM_get secret ss m i i (by rw [moreM_length]; exact hi)
    rw [List.getElem_set, moreM_get secret ss m (i + 1)]
    by_cases e : i = q
    · subst e
      rw [if_pos rfl, hm, if_neg (by omega), if_pos (by omega), List.range_succ, List.map_append]; rfl
    · rw [if_neg e, moreM_get]
      by_cases g : q < i
      · rw [if_pos g, if_pos (by omega)]
      · rw [if_neg g, if_neg (by omega)]
theorem moreH_zero (secret : List UInt8) (ss : List Sh) : moreH secret ss 0 = List.replicate ss.length [] := by
  apply List.ext_getElem
  · simp [moreH]
  · intro i _ _; simp [moreH]
theorem moreH_len (secret : List UInt8) (ss : List Sh) (m : Nat) : ∀ r ∈ moreH secret ss m, r.length = m := by
  intro r hr
  obtain ⟨i, _, rfl⟩ := List.mem_map.1 hr
  simp
/-- what no fault says -/
theorem noFault {lo hi : Nat} {ss : List Sh} (h : sharesF lo hi ss ss.length = 0) (i : Nat) (hi' : i < ss.length) : lo ≤ ss[i].at_.toNat ∧ ss[i].at_.toNat ≤ hi ∧ ss[i].at_ ∉ (ss.take i).map (·.at_) ∧ ss[i].data.length = (ss.headD default).data.length := by
  have hf := sharesF_zero h i hi'
  have e : ss.getD i default = ss[i] := by rw [List.getD_eq_getElem?_getD, List.getElem?_eq_getElem hi']; rfl
  unfold faultAt at hf
  rw [e] at hf
  by_cases h1 : ss[i].at_.toNat < lo ∨ hi < ss[i].at_.toNat
  · rw [if_pos h1] at hf; cases hf
  · rw [if_neg h1] at hf
    by_cases h2 : ss[i].at_ ∈ (ss.take i).map (·.at_)
    · rw [if_pos h2] at hf; cases hf
    · rw [if_neg h2] at hf
      by_cases h3 : ss[i].data.length ≠ (ss.headD default).data.length
      · rw [if_pos h3] at hf; cases hf
      · exact ⟨by omega, by omega, h2, by simpa using h3⟩
theorem nodup_of_fresh {α : Type} : ∀ (l : List α), (∀ i, (h : i < l.length) → l[i] ∉ l.take i) → l.Nodup := by
  intro l h
  rw [List.nodup_iff_pairwise_ne, List.pairwise_iff_getElem]
  intro i j hi hj hij e
  apply h j hj
  rw [List.mem_take_iff_getElem]
  exact ⟨i, by omega, e⟩
theorem atsH_nodup {ss : List Sh} (h : sharesF 1 20 ss ss.length = 0) : (atsH ss).Nodup := by
  unfold atsH
  rw [List.nodup_cons]
  constructor
  · intro hm
    obtain ⟨s, hs, h0⟩ := List.mem_map.1 hm
    obtain ⟨i, hi, rfl⟩ := List.mem_iff_getElem.1 hs
    have := (noFault h i hi).1
    rw [h0] at this
    simp at this
  · apply nodup_of_fresh
    intro i hi
    have hi' : i < ss.length := by simpa using hi
    have := (noFault h i hi').2.2.1
    rw [List.getElem_map, ← List.map_take]
    exact this
theorem headD_get (l : List UInt8) (h : 0 < l.length) : l.headD 0 = l[0] := by
  cases l with
  | nil => simp at h
  | cons x xs => rfl
theorem hides_coefs {secret : List UInt8} {ss : List Sh} (h : sharesF 1 20 ss ss.length = 0) (k : Nat) (hk : k < secret.length) : coefs secret (moreH secret ss secret.length) k = cofK secret ss k := by
  apply List.ext_getElem
  · rw [coefs_length, moreH_length, cofK_length]
  · intro q h1 h2
    cases q with
    | zero =>
      show secret.getD k 0 = _
      have hv := Gf.cofs_at (atsH ss) (valsH secret ss k) (atsH_nodup h) 0 (by rw [atsH_length]; omega)
      have e1 : (atsH ss).getD 0 0 = 0 := rfl
      have e2 : (valsH secret ss k).getD 0 0 = secret.getD k 0 := rfl
      rw [e1, e2, Gf.val_at_zero] at hv
      rw [← hv]
      show (cofK secret ss k).headD 0 = _
      exact headD_get _ h2
    | succ q =>
      have hq : q < ss.length := by rw [cofK_length] at h2; omega
      have e1 : (coefs secret (moreH secret ss secret.length) k)[q + 1] = ((moreH secret ss secret.length)[q]'(by rw [moreH_length]; exact hq)).getD k 0 := by simp only [coefs, List.getElem_cons_succ, List.getElem_map]
      rw [e1]
      simp only [moreH, List.getElem_map, List.getElem_range]
      rw [List.getD_eq_getElem?_getD, List.getElem?_map, List.getElem?_range hk, Option.map_some, Option.getD_some]
      unfold rowH
      rw [List.getD_eq_getElem?_getD, List.getElem?_eq_getElem h2]; rfl
theorem hides_share {secret : List UInt8} {ss : List Sh} (h : sharesF 1 20 ss ss.length = 0) (hd : (ss.headD default).data.length = secret.length) (i : Nat) (hi : i < ss.length) : (shareOf secret (moreH secret ss secret.length) ss[i].at_).data = ss[i].data := by
  have hl := (noFault h i hi).2.2.2
  rw [hd] at hl
  apply List.ext_getElem
  · simp [shareOf, hl]
  · intro k h1 h2
    have hk : k < secret.length := by rw [← hl]; exact h2
    simp only [shareOf, List.getElem_map, List.getElem_range]
    rw [hides_coefs h k hk]
    have hv := Gf.cofs_at (atsH ss) (valsH secret ss k) (atsH_nodup h) (i + 1) (by rw [atsH_length]; omega)
    have e1 : (atsH ss).getD (i + 1) 0 = ss[i].at_ := by
      unfold atsH
      rw [List.getD_eq_getElem?_getD, List.getElem?_cons_succ, List.getElem?_map, List.getElem?_eq_getElem hi]; rfl
    have e2 : (valsH secret ss k).getD (i + 1) 0 = ss[i].data[k] := by
      unfold valsH
      rw [List.getD_eq_getElem?_getD, List.getElem?_cons_succ, List.getElem?_map, List.getElem?_eq_getElem hi, Option.map_some, Option.getD_some, List.getD_eq_getElem?_getD, List.getElem?_eq_getElem h2]; rfl
    rw [e1, e2] at hv
    exact hv
end Go.Proofs.YtalbmcidlalicaaDoor
