/- NEWTON's differences tell what LAGRANGE's weights tell. No walk here. -/
import Derived.Test.YtalbmcidlalicaaDoorCofLaw
namespace Go.Proofs.YtalbmcidlalicaaDoor.Gf

/-- a polynomial with n + 1 coefficients, and its last one -/
def IsLead (n : Nat) (f : UInt8 → UInt8) (l : UInt8) : Prop := ∃ c : List UInt8, ∃ d : List UInt8, c = d ++ [l] ∧ d.length = n ∧ ∀ x, f x = val c x
theorem IsLead.poly {n : Nat} {f : UInt8 → UInt8} {l : UInt8} (h : IsLead n f l) : IsPoly (n + 1) f := by
  obtain ⟨c, d, rfl, hd, hf⟩ := h
  exact ⟨_, by simp [hd], hf⟩
theorem IsLead.zero {n : Nat} {f : UInt8 → UInt8} (h : IsLead n f 0) : IsPoly n f := by
  obtain ⟨c, d, rfl, hd, hf⟩ := h
  refine ⟨d, hd, fun x => ?_⟩
  rw [hf, val_append]
  simp [Gf.val, zero_mul]
theorem IsPoly.lead {n : Nat} {f : UInt8 → UInt8} (h : IsPoly n f) : IsLead n f 0 := by
  obtain ⟨c, hc, hf⟩ := h
  refine ⟨c ++ [0], c, rfl, hc, fun x => ?_⟩
  rw [hf, val_append]
  simp [Gf.val, zero_mul]
theorem IsLead.const (s : UInt8) : IsLead 0 (fun _ => s) s := ⟨[s], [], rfl, rfl, fun x => by simp [Gf.val, zero_mul]⟩
theorem IsLead.xor {n : Nat} {f g : UInt8 → UInt8} {l m : UInt8} (h : IsLead n f l) (k : IsLead n g m) : IsLead n (fun x => f x ^^^ g x) (l ^^^ m) := by
  obtain ⟨c, d, rfl, hd, hf⟩ := h
  obtain ⟨c', d', rfl, hd', hg⟩ := k
  refine ⟨_, List.zipWith (· ^^^ ·) d d', rfl, by simp [hd, hd'], fun x => ?_⟩
  have e := val_zip (d ++ [l]) (d' ++ [m]) (by simp [hd, hd']) x
  rw [List.zipWith_append (by omega)] at e
  show f x ^^^ g x = _
  rw [hf, hg, ← e]; rfl
theorem IsLead.smul {n : Nat} {f : UInt8 → UInt8} {l : UInt8} (h : IsLead n f l) (s : UInt8) : IsLead n (fun x => mul (f x) s) (mul l s) := by
  obtain ⟨c, d, rfl, hd, hf⟩ := h
  refine ⟨_, d.map (mul s), rfl, by simp [hd], fun x => ?_⟩
  have e := val_map_mul (d ++ [l]) s x
  show mul (f x) s = _
  rw [hf, mul_comm, ← e, List.map_append, List.map_cons, List.map_nil, mul_comm s l]
theorem IsLead.lin {n : Nat} {f : UInt8 → UInt8} {l : UInt8} (h : IsLead n f l) (a : UInt8) : IsLead (n + 1) (fun x => mul (f x) (x ^^^ a)) l := by
  obtain ⟨c, d, rfl, hd, hf⟩ := h
  have e : Gf.lin (d ++ [l]) a = List.zipWith (· ^^^ ·) (0 :: d) ((d ++ [l]).map (mul a)) ++ [l] := by
    unfold Gf.lin
    have e1 : (0 : UInt8) :: (d ++ [l]) = (0 :: d) ++ [l] := rfl
    rw [e1, List.zipWith_append (by simp)]
    simp
  refine ⟨_, _, e, by simp [hd], fun x => ?_⟩
  show mul (f x) (x ^^^ a) = _
  rw [lin_val, hf]

/-- the divided difference of v over a, k + 1 places up to i -/
def dif (a v : Nat → UInt8) : Nat → Nat → UInt8
  | 0, i => v i
  | k + 1, i => mul (dif a v k i ^^^ dif a v k (i - 1)) (inv (a i ^^^ a (i - (k + 1))))

/-- the polynomial through k + 1 points up to i has the difference as its last coefficient -/
theorem dif_poly (a v : Nat → UInt8) (N : Nat) (ha : ∀ i j, i < N → j < N → a i = a j → i = j) : ∀ k i, k ≤ i → i < N → ∃ f, IsLead k f (dif a v k i) ∧ ∀ j, i - k ≤ j → j ≤ i → f (a j) = v j := by
  intro k
  induction k with
  | zero =>
    intro i _ _
    refine ⟨fun _ => v i, IsLead.const _, fun j h1 h2 => ?_⟩
    obtain rfl : j = i := by omega
    rfl
  | succ k ih =>
    intro i hk hi
    obtain ⟨f, hf, hfv⟩ := ih i (by omega) hi
    obtain ⟨g, hg, hgv⟩ := ih (i - 1) (by omega) (by omega)
    have hne : a i ^^^ a (i - (k + 1)) ≠ 0 := by
      intro h
      have := ha i (i - (k + 1)) hi (by omega) ((xor_eq_zero _ _).1 h)
      omega
    have hl := ((hf.lin (a (i - (k + 1)))).xor (hg.lin (a i))).smul (inv (a i ^^^ a (i - (k + 1))))
    refine ⟨_, hl, fun j h1 h2 => ?_⟩
    show mul (mul (f (a j)) (a j ^^^ a (i - (k + 1))) ^^^ mul (g (a j)) (a j ^^^ a i)) (inv (a i ^^^ a (i - (k + 1)))) = v j
    by_cases e1 : j = i
    · subst e1
      rw [hfv j (by omega) (Nat.le_refl _), UInt8.xor_self, mul_zero, UInt8.xor_zero, mul_assoc, mul_inv _ hne, mul_one]
    · by_cases e2 : j = i - (k + 1)
      · rw [hgv j (by omega) (by omega), e2, UInt8.xor_self, mul_zero, UInt8.zero_xor, mul_assoc, UInt8.xor_comm (a (i - (k + 1))), mul_inv _ hne, mul_one]
      · rw [hfv j (by omega) h2, hgv j (by omega) (by omega), ← mul_xor]
        have e3 : a j ^^^ a (i - (k + 1)) ^^^ (a j ^^^ a i) = a i ^^^ a (i - (k + 1)) := by
          have : a j ^^^ a (i - (k + 1)) ^^^ (a j ^^^ a i) = (a j ^^^ a j) ^^^ (a i ^^^ a (i - (k + 1))) := by ac_rfl
          rw [this, UInt8.xor_self, UInt8.zero_xor]
        rw [e3, mul_assoc, mul_inv _ hne, mul_one]

/-- the product of (x + a j), j below m -/
def pr (a : Nat → UInt8) (x : UInt8) : Nat → UInt8
  | 0 => 1
  | m + 1 => mul (pr a x m) (x ^^^ a m)
def newton (a c : Nat → UInt8) (x : UInt8) : Nat → UInt8
  | 0 => 0
  | m + 1 => newton a c x m ^^^ mul (c m) (pr a x m)
theorem pr_lead (a : Nat → UInt8) (m : Nat) : IsLead m (fun x => pr a x m) 1 := by
  induction m with
  | zero => exact IsLead.const 1
  | succ m ih => exact ih.lin (a m)
theorem pr_zero (a : Nat → UInt8) (m j : Nat) (h : j < m) : pr a (a j) m = 0 := by
  induction m with
  | zero => omega
  | succ m ih =>
    simp only [pr]
    by_cases e : j = m
    · rw [e, UInt8.xor_self, mul_zero]
    · rw [ih (by omega), zero_mul]
theorem newton_poly (a c : Nat → UInt8) (m : Nat) : IsPoly m (fun x => newton a c x m) := by
  induction m with
  | zero => exact IsPoly.zero 0
  | succ m ih =>
    have h1 := (pr_lead a m).poly.smul (c m)
    have h2 := (ih.mono (Nat.le_succ m)).xor h1
    have e : (fun x => newton a c x m ^^^ mul (pr a x m) (c m)) = (fun x => newton a c x (m + 1)) := by
      funext x; simp only [newton]; rw [mul_comm]
    rw [e] at h2; exact h2

/-- NEWTON's sum goes through the points -/
theorem newton_at (a v : Nat → UInt8) (N : Nat) (ha : ∀ i j, i < N → j < N → a i = a j → i = j) : ∀ m, m ≤ N → ∀ j, j < m → newton a (fun i => dif a v i i) (a j) m = v j := by
  intro m
  induction m with
  | zero => intro _ j hj; omega
  | succ m ih =>
    intro hm
    obtain ⟨f, hf, hfv⟩ := dif_poly a v N ha m m (Nat.le_refl _) (by omega)
    -- the difference of both
    have h1 : IsLead m (fun x => newton a (fun i => dif a v i i) x (m + 1)) (0 ^^^ dif a v m m) := by
      have := (newton_poly a (fun i => dif a v i i) m).lead.xor ((pr_lead a m).smul (dif a v m m))
      have e : (fun x => newton a (fun i => dif a v i i) x m ^^^ mul (pr a x m) (dif a v m m)) = (fun x => newton a (fun i => dif a v i i) x (m + 1)) := by
        funext x; simp only [newton]; rw [mul_comm]
      rw [e, one_mul] at this; exact this
    have h2 := hf.xor h1
    have e0 : dif a v m m ^^^ (0 ^^^ dif a v m m) = 0 := by simp
    rw [e0] at h2
    have h3 := h2.zero
    have hnd : ((List.range m).map a).Nodup := by
      refine List.Pairwise.map _ (R := fun i j => i < j ∧ j < m) ?_ ?_
      · intro i j h e
        have := ha i j (by omega) (by omega) e
        omega
      · rw [List.pairwise_iff_getElem]
        intro i j hi hj hij
        simp only [List.length_range] at hi hj
        simp only [List.getElem_range]
        exact ⟨hij, hj⟩
    have hz : ∀ x, f x ^^^ newton a (fun i => dif a v i i) x (m + 1) = 0 := by
      refine fun x => h3.roots (at_ := (List.range m).map a) hnd (by simp) ?_ x
      intro y hy
      obtain ⟨j, hj, rfl⟩ := List.mem_map.1 hy
      have hj := List.mem_range.1 hj
      rw [hfv j (by omega) (by omega)]
      simp only [newton]
      rw [ih (by omega) j hj, pr_zero a m j hj, mul_zero, UInt8.xor_zero, UInt8.xor_self]
    intro j hj
    rw [← (xor_eq_zero _ _).1 (hz (a j))]
    exact hfv j (by omega) (by omega)

/-- HORNER's way from the end on -/
def horner (a c : Nat → UInt8) (n : Nat) (x : UInt8) : Nat → UInt8
  | 0 => 0
  | k + 1 => mul (horner a c n x k) (x ^^^ a (n - (k + 1))) ^^^ c (n - (k + 1))
theorem horner_newton (a c : Nat → UInt8) (n : Nat) (x : UInt8) : ∀ k, k ≤ n → newton a c x (n - k) ^^^ mul (horner a c n x k) (pr a x (n - k)) = newton a c x n := by
  intro k
  induction k with
  | zero => intro _; simp [horner, zero_mul]
  | succ k ih =>
    intro hk
    rw [← ih (by omega)]
    obtain ⟨m, hm⟩ : ∃ m, m = n - (k + 1) := ⟨_, rfl⟩
    have e : n - k = m + 1 := by omega
    rw [e, ← hm]
    simp only [horner, newton, pr]
    rw [← hm, mul_xor_left, UInt8.xor_assoc]
    congr 1
    rw [mul_assoc, mul_comm (pr a x m), UInt8.xor_comm]
theorem horner_all (a c : Nat → UInt8) (n : Nat) (x : UInt8) : horner a c n x n = newton a c x n := by
  have := horner_newton a c n x n (Nat.le_refl _)
  rw [Nat.sub_self] at this
  simp only [newton, pr, mul_one, UInt8.zero_xor] at this
  exact this
/-- NEWTON and LAGRANGE -/
theorem newton_thro (at_ ys : List UInt8) (hnd : at_.Nodup) (hl : ys.length = at_.length) (x : UInt8) :
    horner (fun i => at_.getD i 0) (fun i => dif (fun i => at_.getD i 0) (fun i => ys.getD i 0) i i) at_.length x at_.length = thro at_ ys x := by
  rw [horner_all]
  refine (newton_poly _ _ _).unique (thro_poly at_ ys) hnd (Nat.le_refl _) ?_ x
  intro y hy
  obtain ⟨i, hi, rfl⟩ := List.mem_iff_getElem.1 hy
  have e : at_[i] = at_.getD i 0 := by rw [List.getD_eq_getElem?_getD, List.getElem?_eq_getElem hi]; rfl
  rw [e]
  rw [thro_at at_ ys hnd hl i hi]
  exact newton_at (fun i => at_.getD i 0) (fun i => ys.getD i 0) at_.length (fun i j hi hj h => getD_inj hnd hi hj h) at_.length (Nat.le_refl _) i hi
end Go.Proofs.YtalbmcidlalicaaDoor.Gf
