/- Polynomials over the field of 256 bytes: as many roots as coefficients make it nothing; the polynomial through given points. No program in sight. -/
import Derived.Test.YtppjmonbmlbhpaaOpenA
namespace Go.Proofs.Ytppjmonbmlbhpaa.Gf

/-- the value of a polynomial, its lowest coefficient first -/
def val : List UInt8 → UInt8 → UInt8
  | [], _ => 0
  | a :: c, x => mul (val c x) x ^^^ a

theorem val_append (c d : List UInt8) (x : UInt8) : val (c ++ d) x = val c x ^^^ mul (val d x) (pow x c.length) := by
  induction c with
  | nil => simp [val, pow, mul_one]
  | cons a c ih =>
    simp only [List.cons_append, val, List.length_cons, pow]
    rw [ih, mul_xor_left, mul_assoc, UInt8.xor_assoc, UInt8.xor_assoc]
    congr 1
    rw [UInt8.xor_comm]
theorem val_zeros (n : Nat) (x : UInt8) : val (List.replicate n 0) x = 0 := by
  induction n with
  | zero => rfl
  | succ n ih => simp only [List.replicate_succ, val, ih, zero_mul]; rfl
theorem val_at_zero (c : List UInt8) : val c 0 = c.headD 0 := by
  cases c with
  | nil => rfl
  | cons a c => simp [val, mul_zero]
theorem val_map_mul (c : List UInt8) (s x : UInt8) : val (c.map (mul s)) x = mul s (val c x) := by
  induction c with
  | nil => simp [val, mul_zero]
  | cons a c ih => simp only [List.map_cons, val, ih, mul_xor, mul_assoc]
theorem val_zip (c d : List UInt8) (h : c.length = d.length) (x : UInt8) : val (List.zipWith (· ^^^ ·) c d) x = val c x ^^^ val d x := by
  induction c generalizing d with
  | nil => cases d with
    | nil => simp [val]
    | cons b d => simp at h
  | cons a c ih =>
    cases d with
    | nil => simp at h
    | cons b d =>
      simp only [List.zipWith_cons_cons, val]
      rw [ih d (by simpa using h), mul_xor_left, x4]

/-- a function that is a polynomial with n coefficients -/
def IsPoly (n : Nat) (f : UInt8 → UInt8) : Prop := ∃ c : List UInt8, c.length = n ∧ ∀ x, f x = val c x

theorem IsPoly.val (c : List UInt8) : IsPoly c.length (val c) := ⟨c, rfl, fun _ => rfl⟩
theorem IsPoly.mono {n m : Nat} {f : UInt8 → UInt8} (h : IsPoly n f) (hm : n ≤ m) : IsPoly m f := by
  obtain ⟨c, hc, hf⟩ := h
  refine ⟨c ++ List.replicate (m - n) 0, by simp; omega, fun x => ?_⟩
  rw [hf, val_append, val_zeros, zero_mul, UInt8.xor_zero]
theorem IsPoly.xor {n : Nat} {f g : UInt8 → UInt8} (h : IsPoly n f) (k : IsPoly n g) : IsPoly n (fun x => f x ^^^ g x) := by
  obtain ⟨c, hc, hf⟩ := h
  obtain ⟨d, hd, hg⟩ := k
  exact ⟨List.zipWith (· ^^^ ·) c d, by simp; omega, fun x => by show f x ^^^ g x = _; rw [val_zip c d (by omega), hf, hg]⟩
theorem IsPoly.smul {n : Nat} {f : UInt8 → UInt8} (h : IsPoly n f) (s : UInt8) : IsPoly n (fun x => mul (f x) s) := by
  obtain ⟨c, hc, hf⟩ := h
  exact ⟨c.map (mul s), by simp [hc], fun x => by show mul (f x) s = _; rw [val_map_mul, hf, mul_comm]⟩
theorem IsPoly.const (s : UInt8) : IsPoly 1 (fun _ => s) := ⟨[s], rfl, fun x => by simp [Gf.val, zero_mul]⟩
theorem IsPoly.zero (n : Nat) : IsPoly n (fun _ => 0) := ⟨List.replicate n 0, by simp, fun x => (val_zeros n x).symm⟩
theorem IsPoly.lin {n : Nat} {f : UInt8 → UInt8} (h : IsPoly n f) (a : UInt8) : IsPoly (n + 1) (fun x => mul (f x) (x ^^^ a)) := by
  obtain ⟨c, hc, hf⟩ := h
  have h1 : IsPoly (n + 1) (fun x => mul (f x) x) := ⟨0 :: c, by simp [hc], fun x => by simp [Gf.val, hf]⟩
  have h2 : IsPoly (n + 1) (fun x => mul (f x) a) := (IsPoly.mono ⟨c, hc, hf⟩ (Nat.le_succ n)).smul a
  obtain ⟨d, hd, hg⟩ := h1.xor h2
  exact ⟨d, hd, fun x => by rw [← hg x]; show mul (f x) (x ^^^ a) = mul (f x) x ^^^ mul (f x) a; rw [mul_xor]⟩

/-- what is left when a root is taken out -/
def quot : List UInt8 → UInt8 → List UInt8
  | [], _ => []
  | _ :: c, r => val c r :: quot c r
theorem quot_length (c : List UInt8) (r : UInt8) : (quot c r).length = c.length := by
  induction c with
  | nil => rfl
  | cons a c ih => simp [quot, ih]
theorem quot_tail (a : UInt8) (c : List UInt8) (r : UInt8) : ∃ q, q.length = c.length ∧ ∀ x, val (a :: c) x = val (a :: c) r ^^^ mul (val q x) (x ^^^ r) := by
  induction c generalizing a with
  | nil => exact ⟨[], rfl, fun x => by simp [val, zero_mul]⟩
  | cons b c ih =>
    obtain ⟨q, hq, hv⟩ := ih b
    refine ⟨val (b :: c) r :: q, by simp [hq], fun x => ?_⟩
    have e := hv x
    rw [val]
    conv => lhs; rw [e]
    conv => rhs; rw [val]
    generalize val (b :: c) r = v
    conv => rhs; rhs; lhs; rw [val]
    have e1 : mul (mul (val q x) x) (x ^^^ r) = mul (mul (val q x) (x ^^^ r)) x := by rw [mul_assoc, mul_assoc, mul_comm x]
    rw [mul_xor_left (mul (val q x) x) v, e1, mul_xor_left v, mul_xor v]
    generalize mul (mul (val q x) (x ^^^ r)) x = t
    generalize mul v x = y
    generalize mul v r = z
    have e2 : z ^^^ a ^^^ (t ^^^ (y ^^^ z)) = (y ^^^ t ^^^ a) ^^^ (z ^^^ z) := by ac_rfl
    rw [e2, UInt8.xor_self, UInt8.xor_zero]

theorem roots (n : Nat) : ∀ (c : List UInt8), c.length = n → ∀ at_ : List UInt8, at_.Nodup → n ≤ at_.length → (∀ a ∈ at_, val c a = 0) → ∀ x, val c x = 0 := by
  induction n with
  | zero => intro c hc _ _ _ _ x; obtain rfl := List.eq_nil_of_length_eq_zero hc; rfl
  | succ n ih =>
    intro c hc at_ hnd hl hr x
    cases c with
    | nil => rfl
    | cons b c =>
      cases at_ with
      | nil => simp at hl
      | cons r at_ =>
        obtain ⟨q, hq, hv⟩ := quot_tail b c r
        have h0 : val (b :: c) r = 0 := hr r (List.mem_cons_self ..)
        have hnd' := List.nodup_cons.1 hnd
        have hqz : ∀ x, val q x = 0 := by
          refine ih q (by simp at hc; omega) at_ hnd'.2 (by simp at hl; omega) ?_
          intro a ha
          have h1 := hv a
          rw [hr a (List.mem_cons_of_mem _ ha), h0, UInt8.zero_xor] at h1
          rcases (mul_eq_zero _ _).1 h1.symm with g | g
          · exact g
          · exfalso; exact hnd'.1 ((xor_eq_zero _ _).1 g ▸ ha)
        rw [hv x, h0, hqz x, zero_mul]; rfl

theorem IsPoly.roots {n : Nat} {f : UInt8 → UInt8} (h : IsPoly n f) {at_ : List UInt8} (hnd : at_.Nodup) (hl : n ≤ at_.length) (hr : ∀ a ∈ at_, f a = 0) (x : UInt8) : f x = 0 := by
  obtain ⟨c, hc, hf⟩ := h
  rw [hf]
  exact Gf.roots n c hc at_ hnd hl (fun a ha => by rw [← hf]; exact hr a ha) x
theorem IsPoly.unique {n : Nat} {f g : UInt8 → UInt8} (h : IsPoly n f) (k : IsPoly n g) {at_ : List UInt8} (hnd : at_.Nodup) (hl : n ≤ at_.length) (hr : ∀ a ∈ at_, f a = g a) (x : UInt8) : f x = g x :=
  (xor_eq_zero _ _).1 ((h.xor k).roots hnd hl (fun a ha => (xor_eq_zero _ _).2 (hr a ha)) x)

/-! the weights, as the program has them: place i of at_, at x -/
/-- the product over all places but number i, from place j on -/
def wgt (a x : UInt8) (i : Nat) : Nat → List UInt8 → UInt8 → UInt8
  | _, [], w => w
  | j, b :: r, w => wgt a x i (j + 1) r (if j = i then w else mul w (mul (x ^^^ b) (inv (a ^^^ b))))
def weight (at_ : List UInt8) (x : UInt8) (i : Nat) : UInt8 := wgt (at_.getD i 0) x i 0 at_ 1
def weights (at_ : List UInt8) (x : UInt8) : List UInt8 := (List.range at_.length).map (weight at_ x)
/-- the sum of weights times values -/
def wsum : List UInt8 → List UInt8 → UInt8
  | w :: ws, y :: ys => mul w y ^^^ wsum ws ys
  | _, _ => 0
def thro (at_ ys : List UInt8) (x : UInt8) : UInt8 := wsum (weights at_ x) ys

theorem wgt_lin (a x : UInt8) (i : Nat) (l : List UInt8) : ∀ j w, wgt a x i j l w = mul w (wgt a x i j l 1) := by
  induction l with
  | nil => intro j w; simp [wgt, mul_one]
  | cons b r ih =>
    intro j w
    simp only [wgt]
    rw [ih (j + 1) (if j = i then w else _), ih (j + 1) (if j = i then 1 else _)]
    by_cases h : j = i
    · rw [if_pos h, if_pos h, one_mul]
    · rw [if_neg h, if_neg h, one_mul, mul_assoc]
theorem wgt_poly (a : UInt8) (i : Nat) (l : List UInt8) : ∀ (j n : Nat) (f : UInt8 → UInt8), IsPoly n f →
    IsPoly (n + l.length - (if j ≤ i ∧ i < j + l.length then 1 else 0)) (fun x => wgt a x i j l (f x)) := by
  induction l with
  | nil => intro j n f h; simp only [wgt, List.length_nil]; rw [if_neg (by omega)]; exact h
  | cons b r ih =>
    intro j n f h
    simp only [wgt]
    by_cases e : j = i
    · have := ih (j + 1) n f h
      simp only [if_pos e]
      rw [if_neg (by omega)] at this
      rw [if_pos (by simp; omega)]
      have e3 : n + (b :: r).length - 1 = n + r.length - 0 := by simp
      rw [e3]
      exact this
    · have := ih (j + 1) (n + 1) _ ((h.lin b).smul (inv (a ^^^ b)))
      simp only [if_neg e]
      have e2 : (fun x => wgt a x i (j + 1) r (mul (mul (f x) (x ^^^ b)) (inv (a ^^^ b)))) = (fun x => wgt a x i (j + 1) r (mul (f x) (mul (x ^^^ b) (inv (a ^^^ b))))) := by
        funext x; rw [mul_assoc]
      rw [e2] at this
      refine (Eq.mp ?_ this)
      congr 1
      simp only [List.length_cons]
      by_cases g : j ≤ i ∧ i < j + (r.length + 1)
      · rw [if_pos g, if_pos (by omega)]; omega
      · rw [if_neg g, if_neg (by omega)]; omega
theorem weight_poly (at_ : List UInt8) (i : Nat) (hi : i < at_.length) : IsPoly at_.length (fun x => weight at_ x i) := by
  have := wgt_poly (at_.getD i 0) i at_ 0 1 (fun _ => 1) (IsPoly.const 1)
  rw [if_pos (by omega)] at this
  have e : 1 + at_.length - 1 = at_.length := by omega
  rw [e] at this
  exact this

theorem wgt_one (a : UInt8) (i : Nat) (l : List UInt8) : ∀ j, (∀ k, k < l.length → j + k ≠ i → l.getD k 0 ≠ a) → wgt a a i j l 1 = 1 := by
  induction l with
  | nil => intro j _; rfl
  | cons b r ih =>
    intro j h
    simp only [wgt]
    have hr : wgt a a i (j + 1) r 1 = 1 := ih (j + 1) (fun k hk e => by have := h (k + 1) (by simp; omega) (by omega); simpa using this)
    by_cases e : j = i
    · rw [if_pos e, hr]
    · rw [if_neg e, wgt_lin, hr, one_mul, mul_one]
      refine mul_inv _ (fun g => ?_)
      exact h 0 (by simp) (by omega) (by simpa using ((xor_eq_zero _ _).1 g).symm)
theorem wgt_zero (a x : UInt8) (i : Nat) (l : List UInt8) : ∀ j k, k < l.length → j + k ≠ i → l.getD k 0 = x → ∀ w, wgt a x i j l w = 0 := by
  induction l with
  | nil => intro j k hk; simp at hk
  | cons b r ih =>
    intro j k hk e hx w
    simp only [wgt]
    cases k with
    | zero =>
      have hb : b = x := by simpa using hx
      rw [if_neg (by omega), hb, UInt8.xor_self, zero_mul, mul_zero, wgt_lin, zero_mul]
    | succ k => exact ih (j + 1) k (by simp at hk; omega) (by omega) (by simpa using hx) _
theorem getD_inj {at_ : List UInt8} (h : at_.Nodup) {i j : Nat} (hi : i < at_.length) (hj : j < at_.length) (e : at_.getD i 0 = at_.getD j 0) : i = j := by
  rw [List.getD_eq_getElem?_getD, List.getD_eq_getElem?_getD, List.getElem?_eq_getElem hi, List.getElem?_eq_getElem hj] at e
  exact (List.getElem_inj h).1 (by simpa using e)
theorem weight_self (at_ : List UInt8) (h : at_.Nodup) (i : Nat) (hi : i < at_.length) : weight at_ (at_.getD i 0) i = 1 :=
  wgt_one _ _ _ _ (fun k hk e g => e (by have := getD_inj h hk hi g; omega))
theorem weight_other (at_ : List UInt8) (i j : Nat) (hj : j < at_.length) (hij : j ≠ i) : weight at_ (at_.getD j 0) i = 0 :=
  wgt_zero _ _ _ _ 0 j hj (by omega) rfl _

theorem wsum_poly (n : Nat) : ∀ (fs : List (UInt8 → UInt8)) (ys : List UInt8), (∀ f ∈ fs, IsPoly n f) → IsPoly n (fun x => wsum (fs.map (· x)) ys) := by
  intro fs
  induction fs with
  | nil => intro ys _; simp only [List.map_nil, wsum]; exact IsPoly.zero n
  | cons f fs ih =>
    intro ys h
    cases ys with
    | nil => simp only [List.map_cons, wsum]; exact IsPoly.zero n
    | cons y ys =>
      simp only [List.map_cons, wsum]
      exact ((h f (List.mem_cons_self ..)).smul y).xor (ih ys (fun g hg => h g (List.mem_cons_of_mem _ hg)))
theorem thro_poly (at_ ys : List UInt8) : IsPoly at_.length (thro at_ ys) := by
  have := wsum_poly at_.length ((List.range at_.length).map (fun i x => weight at_ x i)) ys (fun f hf => by
    obtain ⟨i, hi, rfl⟩ := List.mem_map.1 hf
    exact weight_poly at_ i (List.mem_range.1 hi))
  have e : (fun x => wsum (((List.range at_.length).map (fun i x => weight at_ x i)).map (· x)) ys) = thro at_ ys := by
    funext x; unfold thro weights; rw [List.map_map]; rfl
  rw [e] at this; exact this
theorem wsum_pick : ∀ (ws ys : List UInt8) (i : Nat), i < ws.length → i < ys.length → ws.getD i 0 = 1 → (∀ j, j < ws.length → j ≠ i → ws.getD j 0 = 0) → wsum ws ys = ys.getD i 0 := by
  intro ws
  induction ws with
  | nil => intro ys i h; simp at h
  | cons w ws ih =>
    intro ys i hi hy h1 h0
    cases ys with
    | nil => simp at hy
    | cons y ys =>
      have z : ∀ (us vs : List UInt8), (∀ j, j < us.length → us.getD j 0 = 0) → wsum us vs = 0 := by
        intro us
        induction us with
        | nil => intro vs _; rfl
        | cons u us ihu =>
          intro vs hu
          cases vs with
          | nil => rfl
          | cons v vs =>
            have hu0 := hu 0 (by simp)
            simp only [List.getD_cons_zero] at hu0
            simp only [wsum]
            rw [hu0, zero_mul, ihu vs (fun j hj => by have := hu (j + 1) (by simp; omega); simpa using this)]; rfl
      cases i with
      | zero =>
        simp only [List.getD_cons_zero] at h1 ⊢
        simp only [wsum]
        rw [h1, one_mul, z ws ys (fun j hj => by have := h0 (j + 1) (by simp; omega) (by omega); simpa using this), UInt8.xor_zero]
      | succ i =>
        have h00 := h0 0 (by simp) (by omega)
        simp only [List.getD_cons_zero] at h00
        simp only [wsum, List.getD_cons_succ] at h1 ⊢
        rw [h00, zero_mul, UInt8.zero_xor]
        exact ih ys i (by simp at hi; omega) (by simp at hy; omega) h1 (fun j hj e => by have := h0 (j + 1) (by simp; omega) (by omega); simpa using this)
theorem weights_getD (at_ : List UInt8) (x : UInt8) (i : Nat) (hi : i < at_.length) : (weights at_ x).getD i 0 = weight at_ x i := by
  unfold weights
  rw [List.getD_eq_getElem?_getD, List.getElem?_map, List.getElem?_range hi]; rfl
theorem weights_length (at_ : List UInt8) (x : UInt8) : (weights at_ x).length = at_.length := by simp [weights]
/-- the polynomial through the points goes through them -/
theorem thro_at (at_ ys : List UInt8) (h : at_.Nodup) (hl : ys.length = at_.length) (i : Nat) (hi : i < at_.length) : thro at_ ys (at_.getD i 0) = ys.getD i 0 := by
  unfold thro
  refine wsum_pick _ _ i (by rw [weights_length]; exact hi) (by omega) ?_ ?_
  · rw [weights_getD _ _ _ hi, weight_self at_ h i hi]
  · intro j hj e
    rw [weights_length] at hj
    rw [weights_getD _ _ _ hj]
    exact weight_other at_ j i hi (by omega)
/-- LAGRANGE: what is a polynomial with no more coefficients than points is told by its values there. -/
theorem lagrange {n : Nat} {f : UInt8 → UInt8} (hf : IsPoly n f) (at_ : List UInt8) (h : at_.Nodup) (hn : n ≤ at_.length) (x : UInt8) : thro at_ (at_.map f) x = f x := by
  refine (thro_poly at_ _).unique (hf.mono hn) h (Nat.le_refl _) ?_ x
  intro a ha
  obtain ⟨i, hi, rfl⟩ := List.mem_iff_getElem.1 ha
  have := thro_at at_ (at_.map f) h (by simp) i hi
  simpa [List.getD_eq_getElem?_getD, hi] using this
end Go.Proofs.Ytppjmonbmlbhpaa.Gf
