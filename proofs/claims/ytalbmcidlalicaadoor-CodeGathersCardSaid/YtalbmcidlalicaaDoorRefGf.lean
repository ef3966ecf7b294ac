/- The product of bytes as the document defines it (all pairs of bits, then what is left) is the field's product. No walk here. -/
import Derived.Test.YtalbmcidlalicaaDoorGf
namespace Go.Proofs.YtalbmcidlalicaaDoor.Gf

/-- is the bit there? -/
def tb (n i : Nat) : Bool := n.testBit i
theorem tb_eq (n i : Nat) : n / 2 ^ i % 2 = if tb n i then 1 else 0 := by
  unfold tb
  rw [Nat.testBit_eq_decide_div_mod_eq]
  have := Nat.mod_two_eq_zero_or_one (n / 2 ^ i)
  rcases this with h | h <;> simp [h]
theorem tb_xor (a b i : Nat) : tb (a ^^^ b) i = (tb a i != tb b i) := by
  unfold tb; rw [Nat.testBit_xor]
theorem flip_yes (n i : Nat) (h : tb n i = true) : n - 2 ^ i = n ^^^ 2 ^ i ∧ 2 ^ i ≤ n := by
  have h1 := Nat.ge_two_pow_of_testBit h
  refine ⟨?_, h1⟩
  have h2 : (n - 2 ^ i) ^^^ 2 ^ i = n := by
    have h3 : tb (n - 2 ^ i) i = false := by
      have := Nat.testBit_two_pow_add_eq (n - 2 ^ i) i
      rw [show 2 ^ i + (n - 2 ^ i) = n by omega] at this
      unfold tb at h ⊢
      rw [h] at this
      simpa using this.symm
    apply Nat.eq_of_testBit_eq
    intro j
    rw [Nat.testBit_xor, Nat.testBit_two_pow]
    have e : n = 2 ^ i + (n - 2 ^ i) := by omega
    by_cases hij : i = j
    · subst hij
      unfold tb at h h3
      rw [h3, h]; simp
    · simp only [hij, decide_false, Bool.xor_false]
      have hn : (n - 2 ^ i) / 2 ^ i % 2 = 0 := by
        have := tb_eq (n - 2 ^ i) i
        rw [h3] at this; simpa using this
      rw [Nat.testBit_eq_decide_div_mod_eq, Nat.testBit_eq_decide_div_mod_eq]
      generalize hm : n - 2 ^ i = m at *
      rw [e]
      have hp : 0 < 2 ^ i := Nat.two_pow_pos i
      rcases Nat.lt_or_ge j i with hl | hl
      · obtain ⟨d, rfl⟩ : ∃ d, i = j + (d + 1) := ⟨i - j - 1, by omega⟩
        have : (2 ^ (j + (d + 1)) + m) / 2 ^ j = 2 * 2 ^ d + m / 2 ^ j := by
          rw [Nat.pow_add, Nat.add_comm, Nat.add_mul_div_left _ _ (Nat.two_pow_pos j), Nat.pow_succ]; omega
        rw [this]; congr 2; omega
      · obtain ⟨d, rfl⟩ : ∃ d, j = i + (d + 1) := ⟨j - i - 1, by omega⟩
        have h4 : (2 ^ i + m) / 2 ^ i = m / 2 ^ i + 1 := by rw [Nat.add_comm, Nat.add_div_right _ hp]
        rw [Nat.pow_add, ← Nat.div_div_eq_div_mul, ← Nat.div_div_eq_div_mul, h4, Nat.pow_succ, Nat.mul_comm (2 ^ d) 2, ← Nat.div_div_eq_div_mul, ← Nat.div_div_eq_div_mul]
        rw [show (m / 2 ^ i + 1) / 2 = m / 2 ^ i / 2 by omega]
  conv => rhs; rw [← h2]
  rw [Nat.xor_assoc, Nat.xor_self, Nat.xor_zero]
theorem flip_no (n i : Nat) (h : tb n i = false) : n + 2 ^ i = n ^^^ 2 ^ i := by
  have h1 : tb (n + 2 ^ i) i = true := by
    have := Nat.testBit_two_pow_add_eq n i
    unfold tb at h ⊢
    rw [Nat.add_comm, this, h]; rfl
  have := (flip_yes _ _ h1).1
  rw [Nat.add_sub_cancel] at this
  conv => rhs; rw [this]
  rw [Nat.xor_assoc, Nat.xor_self, Nat.xor_zero]

/-! the product -/
def clj (a b i : Nat) : Nat → Nat → Nat
  | 0, p => p
  | n + 1, p => if tb a i && tb b n then clj a b i n p ^^^ 2 ^ (i + n) else clj a b i n p
def cli (a b : Nat) : Nat → Nat
  | 0 => 0
  | n + 1 => clj a b n 8 (cli a b n)
def red : Nat → Nat → Nat
  | 0, p => p
  | n + 1, p => red n (if tb p (n + 8) then p ^^^ (283 * 2 ^ n) else p)

theorem xx (a b c d : Nat) : (a ^^^ b) ^^^ (c ^^^ d) = (a ^^^ c) ^^^ (b ^^^ d) := by
  rw [Nat.xor_assoc, Nat.xor_assoc, ← Nat.xor_assoc b c d, Nat.xor_comm b c, Nat.xor_assoc c b d]
theorem x3 (a b c : Nat) : (a ^^^ b) ^^^ c = (a ^^^ c) ^^^ b := by
  rw [Nat.xor_assoc, Nat.xor_comm b c, ← Nat.xor_assoc]
theorem x5 (a b c : Nat) : (a ^^^ c) ^^^ (b ^^^ c) = a ^^^ b := by
  rw [xx, Nat.xor_self, Nat.xor_zero]
theorem clj_left (a a' b i : Nat) (n : Nat) : ∀ p q, clj (a ^^^ a') b i n (p ^^^ q) = clj a b i n p ^^^ clj a' b i n q := by
  induction n with
  | zero => intros; rfl
  | succ n ih =>
    intro p q
    simp only [clj]
    rw [tb_xor, ih]
    cases tb a i <;> cases tb a' i <;> cases tb b n <;> first | rfl | exact Nat.xor_assoc _ _ _ | exact x3 _ _ _ | exact (x5 _ _ _).symm
theorem clj_right (a b b' i : Nat) (n : Nat) : ∀ p q, clj a (b ^^^ b') i n (p ^^^ q) = clj a b i n p ^^^ clj a b' i n q := by
  induction n with
  | zero => intros; rfl
  | succ n ih =>
    intro p q
    simp only [clj]
    rw [tb_xor, ih]
    cases tb a i <;> cases tb b n <;> cases tb b' n <;> first | rfl | exact Nat.xor_assoc _ _ _ | exact x3 _ _ _ | exact (x5 _ _ _).symm
theorem cli_left (a a' b : Nat) (n : Nat) : cli (a ^^^ a') b n = cli a b n ^^^ cli a' b n := by
  induction n with
  | zero => exact (Nat.xor_self 0).symm
  | succ n ih => simp only [cli]; rw [ih, clj_left]
theorem cli_right (a b b' : Nat) (n : Nat) : cli a (b ^^^ b') n = cli a b n ^^^ cli a b' n := by
  induction n with
  | zero => exact (Nat.xor_self 0).symm
  | succ n ih => simp only [cli]; rw [ih, clj_right]
theorem red_xor (n : Nat) : ∀ p q, red n (p ^^^ q) = red n p ^^^ red n q := by
  induction n with
  | zero => intros; rfl
  | succ n ih =>
    intro p q
    simp only [red]
    rw [tb_xor, ← ih]
    congr 1
    cases tb p (n + 8) <;> cases tb q (n + 8) <;> first | rfl | exact (Nat.xor_assoc _ _ _) | exact (x3 _ _ _) | exact (x5 _ _ _).symm
/-- the document's product -/
def refMul (a b : UInt8) : UInt8 := UInt8.ofNat (red 7 (cli a.toNat b.toNat 8))
theorem refMul_eq (a b : UInt8) : refMul a b = mul a b := by
  refine lin_ext (fun a => refMul a b) (fun a => mul a b) (fun x y => ?_) (fun x y => mul_xor_left x y b) ?_ a
  · show UInt8.ofNat _ = UInt8.ofNat _ ^^^ UInt8.ofNat _
    rw [UInt8.toNat_xor, cli_left, red_xor, UInt8.ofNat_xor]
  · intro x hx
    refine lin_ext (fun b => refMul x b) (fun b => mul x b) (fun u v => ?_) (fun u v => mul_xor x u v) ?_ b
    · show UInt8.ofNat _ = UInt8.ofNat _ ^^^ UInt8.ofNat _
      rw [UInt8.toNat_xor, cli_right, red_xor, UInt8.ofNat_xor]
    · revert x
      decide +kernel

theorem pow_lt (m n : Nat) (h : m < n) : 2 ^ m < 2 ^ n := Nat.pow_lt_pow_right (by decide) h
theorem clj_lt (a b i : Nat) (hi : i ≤ 7) (n : Nat) (hn : n ≤ 8) (p : Nat) (hp : p < 2 ^ 15) : clj a b i n p < 2 ^ 15 := by
  induction n with
  | zero => exact hp
  | succ n ih =>
    simp only [clj]
    split
    · exact Nat.xor_lt_two_pow (ih (by omega)) (pow_lt _ _ (by omega))
    · exact ih (by omega)
theorem cli_lt (a b : Nat) (n : Nat) (hn : n ≤ 8) : cli a b n < 2 ^ 15 := by
  induction n with
  | zero => exact Nat.two_pow_pos 15
  | succ n ih => exact clj_lt a b n (by omega) 8 (by omega) _ (ih (by omega))
/-- the five flips of one step -/
theorem five (p n : Nat) : ((((p ^^^ 2 ^ (n + 8)) ^^^ 2 ^ (n + 4)) ^^^ 2 ^ (n + 3)) ^^^ 2 ^ (n + 1)) ^^^ 2 ^ n = p ^^^ (283 * 2 ^ n) := by
  rw [Nat.xor_assoc, Nat.xor_assoc, Nat.xor_assoc, Nat.xor_assoc]
  congr 1
  have e : ∀ k, 2 ^ (n + k) = 2 ^ k <<< n := fun k => by rw [Nat.shiftLeft_eq, ← Nat.pow_add, Nat.add_comm]
  have e0 : 2 ^ n = 1 <<< n := by rw [Nat.shiftLeft_eq, Nat.one_mul]
  rw [e 8, e 4, e 3, e 1, e0, ← Nat.shiftLeft_xor_distrib, ← Nat.shiftLeft_xor_distrib, ← Nat.shiftLeft_xor_distrib, ← Nat.shiftLeft_xor_distrib, ← e0, Nat.shiftLeft_eq]
  rfl
end Go.Proofs.YtalbmcidlalicaaDoor.Gf
