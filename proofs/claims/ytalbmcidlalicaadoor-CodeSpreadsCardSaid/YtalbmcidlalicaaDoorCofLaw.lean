/- The polynomial that has given values at given places: its coefficients, step by step, and what they tell. No walk here. -/
import Derived.Test.YtalbmcidlalicaaDoorPoly
namespace Go.Proofs.YtalbmcidlalicaaDoor.Gf

/-- a polynomial times (x + a) -/
def lin (c : List UInt8) (a : UInt8) : List UInt8 := List.zipWith (· ^^^ ·) (0 :: c) (c.map (mul a) ++ [0])
theorem lin_length (c : List UInt8) (a : UInt8) : (lin c a).length = c.length + 1 := by simp [lin]
theorem lin_val (c : List UInt8) (a x : UInt8) : val (lin c a) x = mul (val c x) (x ^^^ a) := by
  unfold lin
  rw [val_zip _ _ (by simp), val_append, val_map_mul]
  simp only [val, zero_mul, mul_xor, UInt8.xor_zero]
  rw [mul_comm a]
/-- what the next polynomial is, m of c's coefficients done, at q -/
def nxtE (c : List UInt8) (a : UInt8) (m q : Nat) : UInt8 := add (if 1 ≤ q ∧ q ≤ m then c.getD (q - 1) 0 else 0) (if q < m then mul (c.getD q 0) a else 0)
def nxt (c : List UInt8) (a : UInt8) (m : Nat) : List UInt8 := (List.range (c.length + 1)).map (nxtE c a m)
theorem nxt_length (c : List UInt8) (a : UInt8) (m : Nat) : (nxt c a m).length = c.length + 1 := by simp [nxt]
theorem nxt_get (c : List UInt8) (a : UInt8) (m q : Nat) (h : q < (nxt c a m).length) : (nxt c a m)[q] = nxtE c a m q := by simp [nxt]
theorem nxt_zero (c : List UInt8) (a : UInt8) : nxt c a 0 = List.replicate (c.length + 1) 0 := by
  apply List.ext_getElem
  · simp [nxt]
  · intro i h1 h2
    rw [nxt_get]
    unfold nxtE
    rw [if_neg (by omega), if_neg (by omega)]
    simp [add]
theorem nxt_step (c : List UInt8) (a : UInt8) (m : Nat) (h : m < c.length) : ((nxt c a m).set (m + 1) (add (nxtE c a m (m + 1)) c[m])).set m (add (nxtE c a m m) (mul c[m] a)) = nxt c a (m + 1) := by
  have hc : c.getD m 0 = c[m] := by rw [List.getD_eq_getElem?_getD, List.getElem?_eq_getElem h]; rfl
  apply List.ext_getElem
  · simp [nxt_length]
  · intro q h1 h2
    rw [List.getElem_set, List.getElem_set, nxt_get, nxt_get]
    by_cases e : m = q
    · subst e
      rw [if_pos rfl]
      unfold nxtE add
      rw [if_neg (show ¬ m < m by omega), if_pos (show m < m + 1 by omega), hc]
      by_cases h0 : 1 ≤ m
      · rw [if_pos ⟨h0, Nat.le_refl _⟩, if_pos ⟨h0, by omega⟩, UInt8.xor_zero]
      · rw [if_neg (by omega), if_neg (by omega), UInt8.xor_zero]
    · rw [if_neg e]
      by_cases e1 : m + 1 = q
      · subst e1
        rw [if_pos rfl]
        unfold nxtE add
        rw [if_neg (show ¬ (1 ≤ m + 1 ∧ m + 1 ≤ m) by omega), if_neg (show ¬ m + 1 < m by omega), if_pos (show 1 ≤ m + 1 ∧ m + 1 ≤ m + 1 by omega), if_neg (show ¬ m + 1 < m + 1 by omega), Nat.add_sub_cancel, hc]
        simp
      · rw [if_neg e1]
        unfold nxtE
        congr 1
        · by_cases g : 1 ≤ q ∧ q ≤ m
          · rw [if_pos g, if_pos (by omega)]
          · rw [if_neg g, if_neg (by omega)]
        · by_cases g : q < m
          · rw [if_pos g, if_pos (by omega)]
          · rw [if_neg g, if_neg (by omega)]
theorem nxt_all (c : List UInt8) (a : UInt8) : nxt c a c.length = lin c a := by
  apply List.ext_getElem
  · rw [nxt_length, lin_length]
  · intro q h1 h2
    rw [nxt_get]
    have e1 : (lin c a)[q] = (0 :: c)[q]'(by rw [lin_length] at h2; simpa using h2) ^^^ (c.map (mul a) ++ [0])[q]'(by rw [lin_length] at h2; simpa using h2) := by simp only [lin, List.getElem_zipWith]
    rw [e1]
    unfold nxtE add
    have hq : q < c.length + 1 := by rw [nxt_length] at h1; exact h1
    congr 1
    · cases q with
      | zero => simp
      | succ q => rw [if_pos (by omega), Nat.add_sub_cancel, List.getD_eq_getElem?_getD, List.getElem?_eq_getElem (by omega)]; simp
    · by_cases g : q < c.length
      · rw [if_pos g, List.getElem_append_left (by simpa using g), List.getElem_map, mul_comm, List.getD_eq_getElem?_getD, List.getElem?_eq_getElem g]; rfl
      · obtain rfl : q = c.length := by omega
        rw [if_neg g]
        simp

/-- the polynomial of place i, and its weight, behind j places -/
def cj (at_ : List UInt8) (i : Nat) : Nat → List UInt8
  | 0 => [1]
  | j + 1 => if j = i then cj at_ i j else lin (cj at_ i j) (at_.getD j 0)
def wj (at_ : List UInt8) (i : Nat) : Nat → UInt8
  | 0 => 1
  | j + 1 => if j = i then wj at_ i j else mul (wj at_ i j) (add (at_.getD i 0) (at_.getD j 0))
def pj (at_ : List UInt8) (i : Nat) (x : UInt8) : Nat → UInt8
  | 0 => 1
  | j + 1 => if j = i then pj at_ i x j else mul (pj at_ i x j) (x ^^^ at_.getD j 0)
theorem cj_length (at_ : List UInt8) (i j : Nat) : (cj at_ i j).length = 1 + j - (if i < j then 1 else 0) := by
  induction j with
  | zero => simp [cj]
  | succ j ih =>
    simp only [cj]
    by_cases e : j = i
    · rw [if_pos e, ih, if_neg (by omega), if_pos (by omega)]; omega
    · rw [if_neg e, lin_length, ih]
      by_cases g : i < j
      · rw [if_pos g, if_pos (by omega)]; omega
      · rw [if_neg g, if_neg (by omega)]; omega
theorem cj_val (at_ : List UInt8) (i : Nat) (x : UInt8) (j : Nat) : val (cj at_ i j) x = pj at_ i x j := by
  induction j with
  | zero => simp [cj, pj, val, zero_mul]
  | succ j ih =>
    simp only [cj, pj]
    by_cases e : j = i
    · rw [if_pos e, if_pos e, ih]
    · rw [if_neg e, if_neg e, lin_val, ih]
theorem wj_pj (at_ : List UInt8) (i j : Nat) : wj at_ i j = pj at_ i (at_.getD i 0) j := by
  induction j with
  | zero => rfl
  | succ j ih => simp only [wj, pj]; rw [ih]; rfl
theorem pj_zero (at_ : List UInt8) (i m : Nat) (hm : m ≠ i) (j : Nat) (h : m < j) : pj at_ i (at_.getD m 0) j = 0 := by
  induction j with
  | zero => omega
  | succ j ih =>
    simp only [pj]
    by_cases e : j = i
    · rw [if_pos e]; exact ih (by omega)
    · rw [if_neg e]
      by_cases g : m = j
      · rw [g, UInt8.xor_self, mul_zero]
      · rw [ih (by omega), zero_mul]
theorem one_ne : (1 : UInt8) ≠ 0 := by decide
theorem wj_ne (at_ : List UInt8) (hnd : at_.Nodup) (i : Nat) (hi : i < at_.length) (j : Nat) (hj : j ≤ at_.length) : wj at_ i j ≠ 0 := by
  induction j with
  | zero => exact one_ne
  | succ j ih =>
    simp only [wj]
    by_cases e : j = i
    · rw [if_pos e]; exact ih (by omega)
    · rw [if_neg e]
      intro h
      rcases (mul_eq_zero _ _).1 h with h | h
      · exact ih (by omega) h
      · exact e (getD_inj hnd (by omega) hi ((xor_eq_zero _ _).1 h).symm)
/-- the coefficients behind i places -/
def cofE (at_ v : List UInt8) : Nat → Nat → UInt8
  | 0, _ => 0
  | i + 1, k => add (cofE at_ v i k) (mul ((cj at_ i at_.length).getD k 0) (mul (v.getD i 0) (inv (wj at_ i at_.length))))
def cofs (at_ v : List UInt8) (i : Nat) : List UInt8 := (List.range at_.length).map (cofE at_ v i)
theorem cofs_length (at_ v : List UInt8) (i : Nat) : (cofs at_ v i).length = at_.length := by simp [cofs]
def sumV (at_ v : List UInt8) (x : UInt8) : Nat → UInt8
  | 0 => 0
  | i + 1 => add (sumV at_ v x i) (mul (mul (v.getD i 0) (inv (wj at_ i at_.length))) (pj at_ i x at_.length))
theorem cofs_val (at_ v : List UInt8) (x : UInt8) (i : Nat) (hi : i ≤ at_.length) : val (cofs at_ v i) x = sumV at_ v x i := by
  induction i with
  | zero =>
    have : cofs at_ v 0 = List.replicate at_.length 0 := by
      apply List.ext_getElem
      · simp [cofs]
      · intro i _ _; simp [cofs, cofE]
    rw [this, val_zeros]; rfl
  | succ i ih =>
    have hl : (cj at_ i at_.length).length = at_.length := by rw [cj_length, if_pos (by omega)]; omega
    have : cofs at_ v (i + 1) = List.zipWith (· ^^^ ·) (cofs at_ v i) ((cj at_ i at_.length).map (mul (mul (v.getD i 0) (inv (wj at_ i at_.length))))) := by
      apply List.ext_getElem
      · simp [cofs, hl]
      · intro k h1 h2
        rw [List.getElem_zipWith]
        have hk : k < (cj at_ i at_.length).length := by rw [hl]; simpa [cofs] using h1
        simp only [cofs, List.getElem_map, List.getElem_range, cofE, add]
        rw [List.getD_eq_getElem?_getD, List.getElem?_eq_getElem hk, mul_comm]; rfl
    rw [this, val_zip _ _ (by rw [cofs_length, List.length_map, hl]), ih (by omega), val_map_mul, cj_val]; rfl
theorem sumV_other (at_ v : List UInt8) (m : Nat) (hm : m < at_.length) (i : Nat) (hi : i ≤ m) : sumV at_ v (at_.getD m 0) i = 0 := by
  induction i with
  | zero => rfl
  | succ i ih => simp only [sumV]; rw [ih (by omega), pj_zero at_ i m (by omega) _ hm, mul_zero]; rfl
theorem sumV_at (at_ v : List UInt8) (hnd : at_.Nodup) (m : Nat) (hm : m < at_.length) (i : Nat) (hi : m < i) : sumV at_ v (at_.getD m 0) i = v.getD m 0 := by
  induction i with
  | zero => omega
  | succ i ih =>
    simp only [sumV]
    by_cases e : m = i
    · subst e
      rw [sumV_other at_ v m hm m (Nat.le_refl _), ← wj_pj, mul_assoc, inv_mul _ (wj_ne at_ hnd m hm _ (Nat.le_refl _)), mul_one]
      simp [add]
    · rw [ih (by omega), pj_zero at_ i m e _ hm, mul_zero]
      simp [add]
/-- the coefficients' polynomial has the values at the places -/
theorem cofs_at (at_ v : List UInt8) (hnd : at_.Nodup) (m : Nat) (hm : m < at_.length) : val (cofs at_ v at_.length) (at_.getD m 0) = v.getD m 0 := by
  rw [cofs_val _ _ _ _ (Nat.le_refl _), sumV_at at_ v hnd m hm _ hm]
end Go.Proofs.YtalbmcidlalicaaDoor.Gf
