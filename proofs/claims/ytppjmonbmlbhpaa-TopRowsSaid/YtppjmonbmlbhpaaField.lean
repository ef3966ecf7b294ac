/- Walks of package field: each function computes the plain one. -/
import Derived.Test.YtppjmonbmlbhpaaChecked
import Derived.Test.YtppjmonbmlbhpaaOpenA
import Derived.WalkKit
import Derived.ProofKit
import Derived.Lib.Hide
namespace Go.Proofs.Ytppjmonbmlbhpaa
open Go.RowKit

@[go_sem] theorem xor8 (a b : UInt8) : bits .xor .u8 (a.toNat : Int) (b.toNat : Int) = ((Gf.add a b).toNat : Int) := by
  unfold Gf.add
  have ha := a.toNat_lt
  have hb := b.toNat_lt
  show IntKind.u8.wrap ((BitVec.ofInt 8 (a.toNat : Int) ^^^ BitVec.ofInt 8 (b.toNat : Int)).toNat : Int) = _
  rw [BitVec.toNat_xor, BitVec.ofInt_natCast, BitVec.ofInt_natCast, BitVec.toNat_ofNat, BitVec.toNat_ofNat, Nat.mod_eq_of_lt ha, Nat.mod_eq_of_lt hb, ← UInt8.toNat_xor]
  have hc := (a ^^^ b).toNat_lt
  rw [IntKind.wrap_u8]; omega
theorem ret_u8 {a : Int} {b : UInt8} (h : a = (b.toNat : Int)) : Ending.returned (.int .u8 a) = .returned (.int .u8 b.toNat) := by rw [h]
theorem shr1 (a : UInt8) : (a >>> 1).toNat = a.toNat / 2 := by
  have h := Gf.all_of (fun a => decide ((a >>> 1).toNat = a.toNat / 2)) (by decide +kernel) a
  simpa using h

theorem dbl_yes (a : UInt8) (h : (bits .and .u8 (a.toNat : Int) 128 != 0) = true) : bits .xor .u8 ((a.toNat : Int) * 2 % 256) 27 = ((Gf.dbl a).toNat : Int) := by
  have g := Gf.all_of (fun a => !(bits .and .u8 (a.toNat : Int) 128 != 0) || decide (bits .xor .u8 ((a.toNat : Int) * 2 % 256) 27 = ((Gf.dbl a).toNat : Int))) (by decide +kernel) a
  simpa [h] using g
theorem dbl_no (a : UInt8) (h : (bits .and .u8 (a.toNat : Int) 128 != 0) = false) : (a.toNat : Int) * 2 % 256 = ((Gf.dbl a).toNat : Int) := by
  have g := Gf.all_of (fun a => (bits .and .u8 (a.toNat : Int) 128 != 0) || decide ((a.toNat : Int) * 2 % 256 = ((Gf.dbl a).toNat : Int))) (by decide +kernel) a
  simpa [h] using g
theorem odd_yes (a : UInt8) (h : (bits .and .u8 (a.toNat : Int) 1 == 1) = true) : a &&& 1 = 1 := by
  have g := Gf.all_of (fun a => !(bits .and .u8 (a.toNat : Int) 1 == 1) || decide (a &&& 1 = 1)) (by decide +kernel) a
  simpa [h] using g
theorem odd_no (a : UInt8) (h : (bits .and .u8 (a.toNat : Int) 1 == 1) = false) : ¬ a &&& 1 = 1 := by
  have g := Gf.all_of (fun a => (bits .and .u8 (a.toNat : Int) 1 == 1) || !decide (a &&& 1 = 1)) (by decide +kernel) a
  simpa [h] using g

theorem double_calls (a : UInt8) (w : World) : Calls Try.prog 23 #[.int .u8 a.toNat] w fun e w' => e = .returned (.int .u8 (Gf.dbl a).toNat) ∧ w = w' := by
  have ha := a.toNat_lt
  go_enter Try.func23, Try.ntmps23
  go_wp2
  · go_ret
    exact ⟨ret_u8 (dbl_yes a (by assumption)), rfl⟩
  · go_ret
    exact ⟨ret_u8 (dbl_no a (by assumption)), rfl⟩

theorem mulF_zero (n : Nat) : ∀ p a : UInt8, Gf.mulF n p a 0 = p := by
  induction n with
  | zero => intros; rfl
  | succ n ih => intro p a; simp only [Gf.mulF]; exact ih p _

theorem Mul_calls (a b : UInt8) (w : World) : Calls Try.prog 17 #[.int .u8 a.toNat, .int .u8 b.toNat] w fun e w' => e = .returned (.int .u8 (Gf.mul a b).toNat) ∧ w = w' := by
  go_enter Try.func17, Try.ntmps17
  go_wp2
  go_loop [0, 1, 5] (fun x y z => ∃ (n : Nat) (p c d : UInt8), x = .int .u8 c.toNat ∧ y = .int .u8 d.toNat ∧ z = .int .u8 p.toNat ∧ Gf.mulF n p c d = Gf.mul a b ∧ d.toNat < 2 ^ n)
    (fun _ y _ => (intOf y).toNat)
  case atStart => exact ⟨8, 0, a, b, rfl, rfl, rfl, rfl, b.toNat_lt⟩
  case round =>
    obtain ⟨n, p, c, d, rfl, rfl, rfl, hm, hd⟩ := hrel
    have H := Lib.hid hm
    clear hm
    have hdl := d.toNat_lt
    by_cases h0 : 0 < d.toNat
    · cases n with
      | zero => simp at hd; omega
      | succ n =>
      go_wp2_with (go_at_call 23; refine (double_calls _ _).mono ?_; rintro e w' ⟨rfl, rfl⟩)
      all_goals go_round
      case rel => exact ⟨n, Gf.add p c, Gf.dbl c, d >>> 1, rfl, by rw [shr1]; go_num, rfl, by have := H.out; simp only [Gf.mulF] at this; rw [if_pos (odd_yes d (by assumption))] at this; exact this, by rw [shr1]; rw [Nat.pow_succ] at hd; omega⟩
      case measure => simp [intOf]; omega
      case rel => exact ⟨n, p, Gf.dbl c, d >>> 1, rfl, by rw [shr1]; go_num, rfl, by have := H.out; simp only [Gf.mulF] at this; rw [if_neg (odd_no d (by assumption))] at this; exact this, by rw [shr1]; rw [Nat.pow_succ] at hd; omega⟩
      case measure => simp [intOf]; omega
    · have hz : d = 0 := by apply UInt8.toNat_inj.1; simp; omega
      go_wp2
      go_ret
      have := H.out
      rw [hz, mulF_zero] at this
      rw [this]
      exact ⟨rfl, rfl⟩

theorem Add_calls (a b : UInt8) (w : World) : Calls Try.prog 16 #[.int .u8 a.toNat, .int .u8 b.toNat] w fun e w' => e = .returned (.int .u8 (Gf.add a b).toNat) ∧ w = w' := by
  go_enter Try.func16, Try.ntmps16
  go_wp2
  go_ret
  exact ⟨rfl, rfl⟩

theorem i64_and1 (n : Int) : bits .and .i64 n 1 = n % 2 := by
  have h1 : (BitVec.ofInt 64 1).toNat = 2 ^ 1 - 1 := by decide
  have key : (BitVec.ofInt 64 n &&& BitVec.ofInt 64 1).toNat = (n % ((2 ^ 64 : Nat) : Int)).toNat % 2 ^ 1 := by
    rw [BitVec.toNat_and, BitVec.toNat_ofInt, h1, Nat.and_two_pow_sub_one_eq_mod]
  show IntKind.i64.wrap ((BitVec.ofInt 64 n &&& BitVec.ofInt 64 1).toNat : Nat) = n % 2
  rw [key, IntKind.wrap_i64]
  omega
theorem odd64_yes {n : Nat} (h : (bits .and .i64 (n : Int) 1 == 1) = true) : n % 2 = 1 := by
  rw [i64_and1] at h
  have := eq_of_beq h
  omega
theorem odd64_no {n : Nat} (h : (bits .and .i64 (n : Int) 1 == 1) = false) : ¬ n % 2 = 1 := by
  rw [i64_and1] at h
  have := ne_of_beq_false h
  omega
theorem half_pow (c : UInt8) (m : Nat) (h : ¬ m % 2 = 1) : Gf.pow (Gf.mul c c) (m / 2) = Gf.pow c m := by
  rw [Gf.pow_sq]; congr 1; omega
theorem half_pow1 (c : UInt8) (m : Nat) (h : m % 2 = 1) : Gf.mul c (Gf.pow (Gf.mul c c) (m / 2)) = Gf.pow c m := by
  rw [Gf.pow_sq]
  have e : m = 1 + 2 * (m / 2) := by omega
  conv => rhs; rw [e, Gf.pow_add]
  simp [Gf.pow, Gf.one_mul]

theorem power_calls (a : UInt8) (n : Nat) (hn : n ≤ 9223372036854775807) (w : World) : Calls Try.prog 25 #[.int .u8 a.toNat, .int .i64 n] w fun e w' => e = .returned (.int .u8 (Gf.pow a n).toNat) ∧ w = w' := by
  go_enter Try.func25, Try.ntmps25
  go_wp2
  go_loop [0, 1, 5] (fun x y z => ∃ (m : Nat) (p c : UInt8), x = .int .u8 c.toNat ∧ y = .int .i64 m ∧ z = .int .u8 p.toNat ∧ Gf.mul p (Gf.pow c m) = Gf.pow a n ∧ m ≤ n)
    (fun _ y _ => (intOf y).toNat)
  case atStart => exact ⟨n, 1, a, rfl, rfl, rfl, Gf.one_mul _, Nat.le_refl _⟩
  case round =>
    obtain ⟨m, p, c, rfl, rfl, rfl, hm, hd⟩ := hrel
    have H := Lib.hid hm
    clear hm
    by_cases h0 : 0 < m
    · go_wp2_with (go_at_call 17; refine (Mul_calls _ _ _).mono ?_; rintro e w' ⟨rfl, rfl⟩)
      all_goals go_round
      case rel => exact ⟨m / 2, Gf.mul p c, Gf.mul c c, rfl, by go_num, rfl, by rw [Gf.mul_assoc, half_pow1 c m (odd64_yes (by assumption))]; exact H.out, by omega⟩
      case measure => simp [intOf]; omega
      case rel => exact ⟨m / 2, p, Gf.mul c c, rfl, by go_num, rfl, by rw [half_pow c m (odd64_no (by assumption))]; exact H.out, by omega⟩
      case measure => simp [intOf]; omega
    · obtain rfl : m = 0 := by omega
      go_wp2
      go_ret
      have e := H.out
      simp only [Gf.pow] at e
      rw [Gf.mul_one] at e
      rw [e]
      exact ⟨rfl, rfl⟩

theorem Inv_calls (a : UInt8) (ha : a ≠ 0) (w : World) : Calls Try.prog 22 #[.int .u8 a.toNat] w fun e w' => e = .returned (.tuple #[.int .u8 (Gf.inv a).toNat, .nilIface]) ∧ w = w' := by
  have h0 : ((a.toNat : Int) == 0) = false := by
    rw [beq_eq_false_iff_ne]; intro h; apply ha; apply UInt8.toNat_inj.1; simp; omega
  have hp := fun w => power_calls a 254 (by omega) w
  go_enter Try.func22, Try.ntmps22
  go_wp2_with (go_at_call 25; refine (hp _).mono ?_; rintro e w' ⟨rfl, rfl⟩)
  go_ret2
  exact ⟨rfl, rfl⟩
theorem Inv_calls_no (w : World) : Calls Try.prog 22 #[.int .u8 0] w fun e w' => e = .returned (.tuple #[.int .u8 0, .iface 43 (.int .i64 2)]) ∧ w = w' := by
  go_enter Try.func22, Try.ntmps22
  go_wp2
  go_ret2
  exact ⟨rfl, rfl⟩
end Go.Proofs.Ytppjmonbmlbhpaa
