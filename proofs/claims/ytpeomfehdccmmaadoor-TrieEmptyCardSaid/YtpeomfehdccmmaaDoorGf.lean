/- The field of 256 bytes: doubling, product, power and inverse as plain functions on bytes, and their laws. No program in sight. -/
namespace Go.Proofs.YtpeomfehdccmmaaDoor.Gf

def dbl (a : UInt8) : UInt8 := if a &&& 128 = 0 then a <<< 1 else (a <<< 1) ^^^ 27

/-- the sum; a name of its own, which no simplification opens -/
def add (a b : UInt8) : UInt8 := a ^^^ b

def mulF : Nat → UInt8 → UInt8 → UInt8 → UInt8
  | 0, p, _, _ => p
  | n + 1, p, a, b => mulF n (if b &&& 1 = 1 then p ^^^ a else p) (dbl a) (b >>> 1)

def mul (a b : UInt8) : UInt8 := mulF 8 0 a b

/-! bytes as bits -/
theorem all_of (p : UInt8 → Bool) (h : (List.range 256).all (fun n => p (UInt8.ofNat n)) = true) : ∀ a, p a = true := by
  intro a
  have h1 := List.all_eq_true.1 h a.toNat (List.mem_range.2 a.toNat_lt)
  simpa using h1

theorem and128 (a : UInt8) : a &&& 128 = 0 ∨ a &&& 128 = 128 := by
  have h := all_of (fun a => (a &&& 128 == 0) || (a &&& 128 == 128)) (by decide +kernel) a
  simpa using h
theorem and1 (a : UInt8) : a &&& 1 = 0 ∨ a &&& 1 = 1 := by
  have h := all_of (fun a => (a &&& 1 == 0) || (a &&& 1 == 1)) (by decide +kernel) a
  simpa using h
theorem xor_and (a b c : UInt8) : (a ^^^ b) &&& c = (a &&& c) ^^^ (b &&& c) := by
  apply UInt8.toBitVec_inj.1; simp only [UInt8.toBitVec_and, UInt8.toBitVec_xor]; ext i; simp [Bool.and_xor_distrib_right]
theorem xor_shr (a b c : UInt8) : (a ^^^ b) >>> c = (a >>> c) ^^^ (b >>> c) := by
  apply UInt8.toBitVec_inj.1; simp [BitVec.ushiftRight_xor_distrib]
theorem x4 (p q a b : UInt8) : (p ^^^ q) ^^^ (a ^^^ b) = (p ^^^ a) ^^^ (q ^^^ b) := by
  rw [UInt8.xor_assoc, UInt8.xor_assoc, ← UInt8.xor_assoc q a b, UInt8.xor_comm q a, UInt8.xor_assoc a q b]

theorem dbl_xor (a b : UInt8) : dbl (a ^^^ b) = dbl a ^^^ dbl b := by
  unfold dbl
  rw [xor_and, UInt8.shiftLeft_xor]
  rcases and128 a with h | h <;> rcases and128 b with g | g <;> rw [h, g]
  · simp
  · simp [UInt8.xor_assoc]
  · simp; rw [UInt8.xor_assoc, UInt8.xor_assoc, UInt8.xor_comm 27]
  · simp
    have := x4 (a <<< 1) 27 (b <<< 1) 27
    rw [UInt8.xor_self, UInt8.xor_zero] at this
    have e := x4 (a <<< 1) (b <<< 1) 27 27
    rw [UInt8.xor_self, UInt8.xor_zero] at e
    exact e

theorem mulF_xor_left (n : Nat) : ∀ p q a b c : UInt8, mulF n (p ^^^ q) (a ^^^ b) c = mulF n p a c ^^^ mulF n q b c := by
  induction n with
  | zero => intros; rfl
  | succ n ih =>
    intro p q a b c
    simp only [mulF]
    by_cases h : c &&& 1 = 1
    · simp only [if_pos h]; rw [x4, dbl_xor, ih]
    · simp only [if_neg h]; rw [dbl_xor, ih]

theorem mulF_xor_right (n : Nat) : ∀ p q a b c : UInt8, mulF n (p ^^^ q) a (b ^^^ c) = mulF n p a b ^^^ mulF n q a c := by
  induction n with
  | zero => intros; rfl
  | succ n ih =>
    intro p q a b c
    simp only [mulF]
    rw [xor_and, xor_shr, ← ih]
    congr 1
    rcases and1 b with h | h <;> rcases and1 c with g | g <;> rw [h, g] <;> simp
    · rw [UInt8.xor_assoc]
    · rw [UInt8.xor_assoc, UInt8.xor_assoc, UInt8.xor_comm a]
    · rw [x4, UInt8.xor_self, UInt8.xor_zero]

theorem mul_xor_left (a b c : UInt8) : mul (a ^^^ b) c = mul a c ^^^ mul b c := by
  have := mulF_xor_left 8 0 0 a b c
  simpa [mul] using this
theorem mul_xor (a b c : UInt8) : mul a (b ^^^ c) = mul a b ^^^ mul a c := by
  have := mulF_xor_right 8 0 0 a b c
  simpa [mul] using this

/-- What keeps sums is known by its values at the eight bits. -/
theorem lin_ext (f g : UInt8 → UInt8) (hf : ∀ a b, f (a ^^^ b) = f a ^^^ f b) (hg : ∀ a b, g (a ^^^ b) = g a ^^^ g b)
    (h : ∀ b ∈ [1, 2, 4, 8, 16, 32, 64, 128], f b = g b) (a : UInt8) : f a = g a := by
  have f0 : f 0 = 0 := by have := hf 0 0; simpa using this
  have g0 : g 0 = 0 := by have := hg 0 0; simpa using this
  have hb : ∀ (t : Bool), ∀ b ∈ [1, 2, 4, 8, 16, 32, 64, 128], f (if t then b else 0) = g (if t then b else 0) := by
    intro t b hm
    cases t
    · simp [f0, g0]
    · simpa using h b hm
  have e : (a == ((((((((if a &&& 1 = 1 then (1 : UInt8) else 0) ^^^ (if a &&& 2 = 2 then (2 : UInt8) else 0)) ^^^ (if a &&& 4 = 4 then (4 : UInt8) else 0)) ^^^ (if a &&& 8 = 8 then (8 : UInt8) else 0)) ^^^ (if a &&& 16 = 16 then (16 : UInt8) else 0)) ^^^ (if a &&& 32 = 32 then (32 : UInt8) else 0)) ^^^ (if a &&& 64 = 64 then (64 : UInt8) else 0)) ^^^ (if a &&& 128 = 128 then (128 : UInt8) else 0))) = true :=
    all_of (fun a => (a == ((((((((if a &&& 1 = 1 then (1 : UInt8) else 0) ^^^ (if a &&& 2 = 2 then (2 : UInt8) else 0)) ^^^ (if a &&& 4 = 4 then (4 : UInt8) else 0)) ^^^ (if a &&& 8 = 8 then (8 : UInt8) else 0)) ^^^ (if a &&& 16 = 16 then (16 : UInt8) else 0)) ^^^ (if a &&& 32 = 32 then (32 : UInt8) else 0)) ^^^ (if a &&& 64 = 64 then (64 : UInt8) else 0)) ^^^ (if a &&& 128 = 128 then (128 : UInt8) else 0)))) (by decide +kernel) a
  have e' := eq_of_beq e
  have one : ∀ (c b : UInt8), b ∈ [1, 2, 4, 8, 16, 32, 64, 128] → f (if a &&& c = c then b else 0) = g (if a &&& c = c then b else 0) := by
    intro c b hm
    have := hb (decide (a &&& c = c)) b hm
    simpa using this
  rw [e']
  simp only [hf, hg]
  rw [one 1 1 (by decide), one 2 2 (by decide), one 4 4 (by decide), one 8 8 (by decide), one 16 16 (by decide), one 32 32 (by decide), one 64 64 (by decide), one 128 128 (by decide)]

theorem mul_comm (a b : UInt8) : mul a b = mul b a := by
  refine lin_ext (fun a => mul a b) (fun a => mul b a) (fun x y => mul_xor_left x y b) (fun x y => mul_xor b x y) ?_ a
  intro x hx
  refine lin_ext (fun b => mul x b) (fun b => mul b x) (fun u v => mul_xor x u v) (fun u v => mul_xor_left u v x) ?_ b
  revert x
  decide +kernel

theorem mul_assoc (a b c : UInt8) : mul (mul a b) c = mul a (mul b c) := by
  refine lin_ext (fun a => mul (mul a b) c) (fun a => mul a (mul b c)) (fun x y => by simp only [mul_xor_left]) (fun x y => mul_xor_left x y _) ?_ a
  intro x hx
  refine lin_ext (fun b => mul (mul x b) c) (fun b => mul x (mul b c)) (fun u v => by simp only [mul_xor, mul_xor_left]) (fun u v => by simp only [mul_xor, mul_xor_left]) ?_ b
  intro y hy
  refine lin_ext (fun c => mul (mul x y) c) (fun c => mul x (mul y c)) (fun u v => by simp only [mul_xor]) (fun u v => by simp only [mul_xor]) ?_ c
  revert x y
  decide +kernel

theorem mul_one (a : UInt8) : mul a 1 = a := by
  have h := all_of (fun a => mul a 1 == a) (by decide +kernel) a
  simpa using h
theorem one_mul (a : UInt8) : mul 1 a = a := by rw [mul_comm, mul_one]
theorem mul_zero (a : UInt8) : mul a 0 = 0 := by
  have h := all_of (fun a => mul a 0 == 0) (by decide +kernel) a
  simpa using h
theorem zero_mul (a : UInt8) : mul 0 a = 0 := by rw [mul_comm, mul_zero]

/-! powers -/
def pow (a : UInt8) : Nat → UInt8
  | 0 => 1
  | n + 1 => mul (pow a n) a
theorem pow_add (a : UInt8) (m n : Nat) : pow a (m + n) = mul (pow a m) (pow a n) := by
  induction n with
  | zero => simp [pow, mul_one]
  | succ n ih => rw [← Nat.add_assoc]; simp only [pow]; rw [ih, mul_assoc]
theorem one_pow (n : Nat) : pow 1 n = 1 := by
  induction n with
  | zero => rfl
  | succ n ih => simp only [pow]; rw [ih, mul_one]
theorem pow_mul (a : UInt8) (m n : Nat) : pow a (m * n) = pow (pow a m) n := by
  induction n with
  | zero => simp [pow]
  | succ n ih => rw [Nat.mul_succ, pow_add, ih]; rfl
theorem pow_sq (a : UInt8) (n : Nat) : pow (mul a a) n = pow a (2 * n) := by
  rw [pow_mul]; simp [pow, one_mul]

/-- powers by halves, as the program does -/
def powF : Nat → UInt8 → UInt8 → Nat → UInt8
  | 0, p, _, _ => p
  | k + 1, p, a, n => powF k (if n % 2 = 1 then mul p a else p) (mul a a) (n / 2)
theorem powF_eq (k : Nat) : ∀ p a n, n < 2 ^ k → powF k p a n = mul p (pow a n) := by
  induction k with
  | zero => intro p a n h; obtain rfl : n = 0 := by simpa using h
            simp [powF, pow, mul_one]
  | succ k ih =>
    intro p a n h
    simp only [powF]
    rw [ih _ _ _ (by rw [Nat.pow_succ] at h; omega), pow_sq]
    by_cases g : n % 2 = 1
    · rw [if_pos g, mul_assoc]
      congr 1
      have e : n = 1 + 2 * (n / 2) := by omega
      conv => rhs; rw [e, pow_add]
      simp [pow, one_mul]
    · rw [if_neg g]; congr 2; omega

def inv (a : UInt8) : UInt8 := pow a 254
theorem pow255 (a : UInt8) (h : a ≠ 0) : pow a 255 = 1 := by
  have g := all_of (fun a => a == 0 || powF 8 1 a 255 == 1) (by decide +kernel) a
  rw [powF_eq 8 1 a 255 (by decide), one_mul] at g
  simpa [h] using g
theorem mul_inv (a : UInt8) (h : a ≠ 0) : mul a (inv a) = 1 := by
  rw [mul_comm]; exact pow255 a h
theorem inv_mul (a : UInt8) (h : a ≠ 0) : mul (inv a) a = 1 := pow255 a h
theorem mul_eq_zero (a b : UInt8) : mul a b = 0 ↔ a = 0 ∨ b = 0 := by
  constructor
  · intro h
    by_cases ha : a = 0
    · exact .inl ha
    · right
      have : mul (inv a) (mul a b) = 0 := by rw [h, mul_zero]
      rwa [← mul_assoc, inv_mul a ha, one_mul] at this
  · rintro (rfl | rfl)
    · exact zero_mul b
    · exact mul_zero a
theorem xor_eq_zero (a b : UInt8) : a ^^^ b = 0 ↔ a = b := by
  constructor
  · intro h
    have : (a ^^^ b) ^^^ b = 0 ^^^ b := by rw [h]
    rwa [UInt8.xor_assoc, UInt8.xor_self, UInt8.xor_zero, UInt8.zero_xor] at this
  · rintro rfl; exact UInt8.xor_self
theorem mul_cancel {a b c : UInt8} (h : a ≠ 0) (e : mul a b = mul a c) : b = c := by
  have : mul a (b ^^^ c) = 0 := by rw [mul_xor, e, UInt8.xor_self]
  rcases (mul_eq_zero _ _).1 this with g | g
  · exact absurd g h
  · exact (xor_eq_zero _ _).1 g
theorem pow_zero_base (n : Nat) (h : 0 < n) : pow 0 n = 0 := by
  cases n with
  | zero => omega
  | succ n => simp [pow, mul_zero]
end Go.Proofs.YtpeomfehdccmmaaDoor.Gf
