/- Rows that stay where numbers are drawn. -/
import Derived.Test.YtkioddmhjbaleaaDoorChecked
import Derived.Test.YtkioddmhjbaleaaDoorMemA
import Derived.Deep.QuietTactic
import Derived.BigQuiet
import Derived.WalkSmall
import Derived.WalkSpells
import Derived.Test.YtkioddmhjbaleaaDoorOpenA
import Derived.WalkKit
import Derived.ProofKit
import Derived.Lib.Hide
import Derived.Deep.RegionHeld3
import Derived.Deep.RegionLaw
import Derived.RangeFuncBox
import Derived.RangeFuncNested
import Derived.RangeFuncBound
import Derived.RangeFuncCalls
import Derived.RangeFuncLeaves
import Derived.Shelf.Abstract
import Derived.OwnWalkIn
import Derived.TacticsInMore
import Derived.LoopNIn
import Derived.LoopIn
namespace Go.Proofs.YtkioddmhjbaleaaDoor
open Go.RowKit
set_option linter.unusedVariables false

theorem Rd.drewN {w : World} {a : Option Addr} {e : TypeId} {vs : List Value} (h : Rd w a e vs) (n : Nat) : Rd (w.drewN n) a e vs := h
theorem IsB.drewN {E : Nat → TypeId → Prop} {w : World} {xs : List UInt8} {v : Value} (h : IsB E w xs v) (n : Nat) : IsB E (w.drewN n) xs v := h
theorem below_N (w : World) (n : Nat) : Below w.heap.size w (w.drewN n) := below_drewN (Below.refl _ _) n

theorem byte_eq (x y : UInt8) : ((x.toNat : Int) = (y.toNat : Int)) ↔ x = y := ⟨fun h => UInt8.toNat_inj.1 (by omega), fun h => by rw [h]⟩
end Go.Proofs.YtkioddmhjbaleaaDoor
/- What a function that tells bytes of its own leaves. It says nothing of what the program does. -/
namespace Go.Proofs.YtkioddmhjbaleaaDoor
open Go.RowKit
set_option linter.unusedVariables false

theorem info_u8 : (Tryd.prog.info? 5).map (fun i => (i.zero, i.size, i.bytes)) = some (some (.int .u8 0), 1, 1) := by kernel_rfl

/-- a list of bytes of the call's own comes back -/
def RetB (w : World) (xs : List UInt8) (e : Ending) (w' : World) : Prop :=
  ∃ a cap, e = .returned (.slice a xs.length cap) ∧ w'.ownsRow w.heap.size 5 1 (.slice a xs.length cap) xs.length (xs.map vB) ∧ Below w.heap.size w w'

end Go.Proofs.YtkioddmhjbaleaaDoor
/- Walk: slices.Clone at lists of bytes. -/
namespace Go.Proofs.YtkioddmhjbaleaaDoor
open Go.RowKit
set_option linter.unusedVariables false

theorem Clone_calls (xs : List UInt8) (a : Option Addr) (ca ea : Nat) (w : World) (ha : Rd w a ea (xs.map vB)) (hx : xs.length ≤ 2000000000000) :
    Calls Tryd.prog 99 #[.slice a xs.length ca] w (RetB w xs) := by
  have hnil := fun (w : World) (a : Option Addr) (n c : Nat) => Lib.run_eql_slice_nil (P := Tryd.prog) w 67 5 a n c 0 0 Tryd.underlying67
  cases a with
  | none =>
    have h0 : xs = [] := by
      rcases ha with h | ⟨b, o, cur, fr, h, _⟩
      · simpa using h
      · cases h
    subst h0
    go_enter Tryd.func99, Tryd.ntmps99
    go_wp2
    go_ret
    exact ⟨none, 0, rfl, World.ownsRow_nil _ _ _ _, Below.refl _ _⟩
  | some ad =>
    by_cases h0 : xs = []
    · subst h0
      go_enter Tryd.func99, Tryd.ntmps99
      go_wp2
      go_ret
      exact ⟨_, 0, rfl, World.ownsRow_made w #[] 0 (Nat.le_refl _) (Nat.zero_le _) rfl, (Below.refl _ w).alloc (Nat.le_refl _) _⟩
    · have hl : 0 < xs.length := by cases xs with | nil => exact absurd rfl h0 | cons _ _ => simp
      obtain ⟨b, o, he, _, hc⟩ := ha.bytes hl
      simp only [Option.some.injEq] at he
      subst he
      have H0 := Lib.hid h0
      clear h0
      go_enter Tryd.func99, Tryd.ntmps99
      go_wp2_with (at_builtin; refine appRd 67 5 (.int .u8 0) 1 1 Tryd.underlying67 info_u8 rfl (by omega) (by omega) rfl _ _ rfl w.heap.size _ 0 [] rfl (World.ownsRow_made w #[] 0 (Nat.le_refl _) (Nat.zero_le _) rfl) ⟨b, o, none⟩ xs.length _ (xs.map vB) rfl ea (ha.alloc _) (by simp) (one_bytes xs) hl (by omega) (by simp) _ rfl ?_; intro g cap w1 hown hgrow _ _)
      have hb1 : Below w.heap.size w w1 := ((Below.refl _ w).alloc (Nat.le_refl _) _).grown hgrow (by simp) (fun k hk => by have : w.heap.size = k := Option.some.inj hk; omega)
      clear hgrow
      go_wp2
      go_ret
      exact ⟨_, cap, rfl, by simpa using hown, hb1⟩
end Go.Proofs.YtkioddmhjbaleaaDoor
/- Walks: slices.Index and slices.Contains at lists of bytes. -/
namespace Go.Proofs.YtkioddmhjbaleaaDoor
open Go.RowKit
set_option linter.unusedVariables false

theorem Index_calls (xs : List UInt8) (v : UInt8) (a : Option Addr) (ca ea : Nat) (w : World) (ha : Rd w a ea (xs.map vB)) (hx : xs.length ≤ 9223372036854775806) :
    Calls Tryd.prog 97 #[.slice a xs.length ca, .int .u8 v.toNat] w fun e w' => ∃ n : Int, decide (0 ≤ n) = decide (v ∈ xs) ∧ e = .returned (.int .i64 n) ∧ w = w' := by
  go_enter Tryd.func97, Tryd.ntmps97
  go_wp2
  go_loop [8] (fun i => ∃ k : Nat, k ≤ xs.length ∧ i = .int .i64 k ∧ v ∉ xs.take k) (fun i => xs.length - (intOf i).toNat)
  case atStart => exact ⟨0, Nat.zero_le _, rfl, by simp⟩
  case round =>
    obtain ⟨k, hk, rfl, ht⟩ := hrel
    have Ht := Lib.hid ht
    clear ht
    by_cases hlt : k < xs.length
    · obtain ⟨ba, oa, rfl, _, hca⟩ := ha.bytes hlt
      have c1 := hca k hlt
      clear hca ha
      by_cases hxy : v = xs[k]
      · have t : ((v.toNat : Int) == ((xs[k]).toNat : Int)) = true := by rw [hxy]; simp
        have Hxy := Lib.hid hxy
        clear hxy
        go_wp2
        go_ret
        refine ⟨k, ?_, rfl, rfl⟩
        have h1 : v ∈ xs := by have := Hxy.out; rw [this]; exact List.getElem_mem _
        simp [h1]
      · have t : ((v.toNat : Int) == ((xs[k]).toNat : Int)) = false := by rw [beq_eq_false_iff_ne]; intro h; exact hxy ((byte_eq _ _).1 h)
        have Hxy := Lib.hid hxy
        clear hxy
        go_wp2
        go_round
        case rel => exact ⟨k + 1, by omega, by go_num, by rw [List.take_succ_eq_append_getElem hlt]; intro h; rcases List.mem_append.1 h with h | h; exact Ht.out h; exact Hxy.out (by simpa using h)⟩
        case measure => simp [intOf] <;> omega
    · obtain rfl : k = xs.length := by omega
      go_wp2
      go_ret
      refine ⟨-1, ?_, rfl, rfl⟩
      have := Ht.out
      rw [List.take_of_length_le (Nat.le_refl _)] at this
      simp [this]

theorem Contains_calls (xs : List UInt8) (v : UInt8) (a : Option Addr) (ca ea : Nat) (w : World) (ha : Rd w a ea (xs.map vB)) (hx : xs.length ≤ 9223372036854775806) :
    Calls Tryd.prog 60 #[.slice a xs.length ca, .int .u8 v.toNat] w fun e w' => e = .returned (.bool (decide (v ∈ xs))) ∧ w = w' := by
  go_enter Tryd.func60, Tryd.ntmps60
  go_wp2_with fail
  refine (Index_calls xs v a ca ea _ ha hx).mono ?_; rintro e w' ⟨n, hn, rfl, rfl⟩
  have Hn := Lib.hid hn
  clear hn
  go_wp2_with fail
  go_ret
  rw [← Hn.out]
  exact ⟨rfl, rfl⟩

end Go.Proofs.YtkioddmhjbaleaaDoor
/- Walks of package field: each function computes the plain one. -/
namespace Go.Proofs.YtkioddmhjbaleaaDoor
open Go.RowKit

@[go_sem] theorem xor8 (a b : UInt8) : bits .xor .u8 (a.toNat : Int) (b.toNat : Int) = ((Gf.add a b).toNat : Int) := by
  unfold Gf.add
  have ha := a.toNat_lt
  have hb := b.toNat_lt
  show IntKind.u8.wrap ((BitVec.ofInt 8 (a.toNat : Int) ^^^ BitVec.ofInt 8 (b.toNat : Int)).toNat : Int) = _
  rw [BitVec.toNat_xor, BitVec.ofInt_natCast, BitVec.ofInt_natCast, BitVec.toNat_ofNat, BitVec.toNat_ofNat, Nat.mod_eq_of_lt ha, Nat.mod_eq_of_lt hb, ← UInt8.toNat_xor]
  have hc := (a ^^^ b).toNat_lt
  rw [IntKind.wrap_u8]; omega
theorem ret_u8 {a : Int} {b : UInt8} (h : a = (b.toNat : Int)) : Ending.returned (.int .u8 a) = .returned (.int .u8 b.toNat) := by rw [h]
theorem shr1 (a : UInt8) : (a >>> 1).toNat = a.toNat / 2 := by
  have h := Gf.all_of (fun a => decide ((a >>> 1).toNat = a.toNat / 2)) (by decide +kernel) a
  simpa using h

theorem dbl_yes (a : UInt8) (h : (bits .and .u8 (a.toNat : Int) 128 != 0) = true) : bits .xor .u8 ((a.toNat : Int) * 2 % 256) 27 = ((Gf.dbl a).toNat : Int) := by
  have g := Gf.all_of (fun a => !(bits .and .u8 (a.toNat : Int) 128 != 0) || decide (bits .xor .u8 ((a.toNat : Int) * 2 % 256) 27 = ((Gf.dbl a).toNat : Int))) (by decide +kernel) a
  simpa [h] using g
theorem dbl_no (a : UInt8) (h : (bits .and .u8 (a.toNat : Int) 128 != 0) = false) : (a.toNat : Int) * 2 % 256 = ((Gf.dbl a).toNat : Int) := by
  have g := Gf.all_of (fun a => (bits .and .u8 (a.toNat : Int) 128 != 0) || decide ((a.toNat : Int) * 2 % 256 = ((Gf.dbl a).toNat : Int))) (by decide +kernel) a
  simpa [h] using g
theorem odd_yes (a : UInt8) (h : (bits .and .u8 (a.toNat : Int) 1 == 1) = true) : a &&& 1 = 1 := by
  have g := Gf.all_of (fun a => !(bits .and .u8 (a.toNat : Int) 1 == 1) || decide (a &&& 1 = 1)) (by decide +kernel) a
  simpa [h] using g
theorem odd_no (a : UInt8) (h : (bits .and .u8 (a.toNat : Int) 1 == 1) = false) : ¬ a &&& 1 = 1 := by
  have g := Gf.all_of (fun a => (bits .and .u8 (a.toNat : Int) 1 == 1) || !decide (a &&& 1 = 1)) (by decide +kernel) a
  simpa [h] using g

theorem double_calls (a : UInt8) (w : World) : Calls Tryd.prog 123 #[.int .u8 a.toNat] w fun e w' => e = .returned (.int .u8 (Gf.dbl a).toNat) ∧ w = w' := by
  have ha := a.toNat_lt
  go_enter Tryd.func123, Tryd.ntmps123
  go_wp2
  · go_ret
    exact ⟨ret_u8 (dbl_yes a (by assumption)), rfl⟩
  · go_ret
    exact ⟨ret_u8 (dbl_no a (by assumption)), rfl⟩

theorem mulF_zero (n : Nat) : ∀ p a : UInt8, Gf.mulF n p a 0 = p := by
  induction n with
  | zero => intros; rfl
  | succ n ih => intro p a; simp only [Gf.mulF]; exact ih p _

theorem Mul_calls (a b : UInt8) (w : World) : Calls Tryd.prog 96 #[.int .u8 a.toNat, .int .u8 b.toNat] w fun e w' => e = .returned (.int .u8 (Gf.mul a b).toNat) ∧ w = w' := by
  go_enter Tryd.func96, Tryd.ntmps96
  go_wp2
  go_loop [0, 1, 5] (fun x y z => ∃ (n : Nat) (p c d : UInt8), x = .int .u8 c.toNat ∧ y = .int .u8 d.toNat ∧ z = .int .u8 p.toNat ∧ Gf.mulF n p c d = Gf.mul a b ∧ d.toNat < 2 ^ n)
    (fun _ y _ => (intOf y).toNat)
  case atStart => exact ⟨8, 0, a, b, rfl, rfl, rfl, rfl, b.toNat_lt⟩
  case round =>
    obtain ⟨n, p, c, d, rfl, rfl, rfl, hm, hd⟩ := hrel
    have H := Lib.hid hm
    clear hm
    have hdl := d.toNat_lt
    by_cases h0 : 0 < d.toNat
    · cases n with
      | zero => simp at hd; omega
      | succ n =>
      go_wp2_with (go_at_call 123; refine (double_calls _ _).mono ?_; rintro e w' ⟨rfl, rfl⟩)
      all_goals go_round
      case rel => exact ⟨n, Gf.add p c, Gf.dbl c, d >>> 1, rfl, by rw [shr1]; go_num, rfl, by have := H.out; simp only [Gf.mulF] at this; rw [if_pos (odd_yes d (by assumption))] at this; exact this, by rw [shr1]; rw [Nat.pow_succ] at hd; omega⟩
      case measure => simp [intOf]; omega
      case rel => exact ⟨n, p, Gf.dbl c, d >>> 1, rfl, by rw [shr1]; go_num, rfl, by have := H.out; simp only [Gf.mulF] at this; rw [if_neg (odd_no d (by assumption))] at this; exact this, by rw [shr1]; rw [Nat.pow_succ] at hd; omega⟩
      case measure => simp [intOf]; omega
    · have hz : d = 0 := by apply UInt8.toNat_inj.1; simp; omega
      go_wp2
      go_ret
      have := H.out
      rw [hz, mulF_zero] at this
      rw [this]
      exact ⟨rfl, rfl⟩

theorem Add_calls (a b : UInt8) (w : World) : Calls Tryd.prog 95 #[.int .u8 a.toNat, .int .u8 b.toNat] w fun e w' => e = .returned (.int .u8 (Gf.add a b).toNat) ∧ w = w' := by
  go_enter Tryd.func95, Tryd.ntmps95
  go_wp2
  go_ret
  exact ⟨rfl, rfl⟩

theorem i64_and1 (n : Int) : bits .and .i64 n 1 = n % 2 := by
  have h1 : (BitVec.ofInt 64 1).toNat = 2 ^ 1 - 1 := by decide
  have key : (BitVec.ofInt 64 n &&& BitVec.ofInt 64 1).toNat = (n % ((2 ^ 64 : Nat) : Int)).toNat % 2 ^ 1 := by
    rw [BitVec.toNat_and, BitVec.toNat_ofInt, h1, Nat.and_two_pow_sub_one_eq_mod]
  show IntKind.i64.wrap ((BitVec.ofInt 64 n &&& BitVec.ofInt 64 1).toNat : Nat) = n % 2
  rw [key, IntKind.wrap_i64]
  omega
theorem odd64_yes {n : Nat} (h : (bits .and .i64 (n : Int) 1 == 1) = true) : n % 2 = 1 := by
  rw [i64_and1] at h
  have := eq_of_beq h
  omega
theorem odd64_no {n : Nat} (h : (bits .and .i64 (n : Int) 1 == 1) = false) : ¬ n % 2 = 1 := by
  rw [i64_and1] at h
  have := ne_of_beq_false h
  omega
theorem half_pow (c : UInt8) (m : Nat) (h : ¬ m % 2 = 1) : Gf.pow (Gf.mul c c) (m / 2) = Gf.pow c m := by
  rw [Gf.pow_sq]; congr 1; omega
theorem half_pow1 (c : UInt8) (m : Nat) (h : m % 2 = 1) : Gf.mul c (Gf.pow (Gf.mul c c) (m / 2)) = Gf.pow c m := by
  rw [Gf.pow_sq]
  have e : m = 1 + 2 * (m / 2) := by omega
  conv => rhs; rw [e, Gf.pow_add]
  simp [Gf.pow, Gf.one_mul]

theorem power_calls (a : UInt8) (n : Nat) (hn : n ≤ 9223372036854775807) (w : World) : Calls Tryd.prog 142 #[.int .u8 a.toNat, .int .i64 n] w fun e w' => e = .returned (.int .u8 (Gf.pow a n).toNat) ∧ w = w' := by
  go_enter Tryd.func142, Tryd.ntmps142
  go_wp2
  go_loop [0, 1, 5] (fun x y z => ∃ (m : Nat) (p c : UInt8), x = .int .u8 c.toNat ∧ y = .int .i64 m ∧ z = .int .u8 p.toNat ∧ Gf.mul p (Gf.pow c m) = Gf.pow a n ∧ m ≤ n)
    (fun _ y _ => (intOf y).toNat)
  case atStart => exact ⟨n, 1, a, rfl, rfl, rfl, Gf.one_mul _, Nat.le_refl _⟩
  case round =>
    obtain ⟨m, p, c, rfl, rfl, rfl, hm, hd⟩ := hrel
    have H := Lib.hid hm
    clear hm
    by_cases h0 : 0 < m
    · go_wp2_with (go_at_call 96; refine (Mul_calls _ _ _).mono ?_; rintro e w' ⟨rfl, rfl⟩)
      all_goals go_round
      case rel => exact ⟨m / 2, Gf.mul p c, Gf.mul c c, rfl, by go_num, rfl, by rw [Gf.mul_assoc, half_pow1 c m (odd64_yes (by assumption))]; exact H.out, by omega⟩
      case measure => simp [intOf]; omega
      case rel => exact ⟨m / 2, p, Gf.mul c c, rfl, by go_num, rfl, by rw [half_pow c m (odd64_no (by assumption))]; exact H.out, by omega⟩
      case measure => simp [intOf]; omega
    · obtain rfl : m = 0 := by omega
      go_wp2
      go_ret
      have e := H.out
      simp only [Gf.pow] at e
      rw [Gf.mul_one] at e
      rw [e]
      exact ⟨rfl, rfl⟩

theorem Inv_calls (a : UInt8) (ha : a ≠ 0) (w : World) : Calls Tryd.prog 124 #[.int .u8 a.toNat] w fun e w' => e = .returned (.tuple #[.int .u8 (Gf.inv a).toNat, .nilIface]) ∧ w = w' := by
  have h0 : ((a.toNat : Int) == 0) = false := by
    rw [beq_eq_false_iff_ne]; intro h; apply ha; apply UInt8.toNat_inj.1; simp; omega
  have hp := fun w => power_calls a 254 (by omega) w
  go_enter Tryd.func124, Tryd.ntmps124
  go_wp2_with (go_at_call 142; refine (hp _).mono ?_; rintro e w' ⟨rfl, rfl⟩)
  go_ret2
  exact ⟨rfl, rfl⟩
theorem Inv_calls_no (w : World) : Calls Tryd.prog 124 #[.int .u8 0] w fun e w' => e = .returned (.tuple #[.int .u8 0, .iface 41 (.int .i64 2)]) ∧ w = w' := by
  go_enter Tryd.func124, Tryd.ntmps124
  go_wp2
  go_ret2
  exact ⟨rfl, rfl⟩
end Go.Proofs.YtkioddmhjbaleaaDoor
/- Polynomials over the field of 256 bytes: as many roots as coefficients make it nothing; the polynomial through given points. No program in sight. -/
namespace Go.Proofs.YtkioddmhjbaleaaDoor.Gf

/-- the value of a polynomial, its lowest coefficient first -/
def val : List UInt8 → UInt8 → UInt8
  | [], _ => 0
  | a :: c, x => mul (val c x) x ^^^ a

theorem val_append (c d : List UInt8) (x : UInt8) : val (c ++ d) x = val c x ^^^ mul (val d x) (pow x c.length) := by
  induction c with
  | nil => simp [val, pow, mul_one]
  | cons a c ih =>
    simp only [List.cons_append, val, List.length_cons, pow]
    rw [ih, mul_xor_left, mul_assoc, UInt8.xor_assoc, UInt8.xor_assoc]
    congr 1
    rw [UInt8.xor_comm]
theorem val_zeros (n : Nat) (x : UInt8) : val (List.replicate n 0) x = 0 := by
  induction n with
  | zero => rfl
  | succ n ih => simp only [List.replicate_succ, val, ih, zero_mul]; rfl
theorem val_at_zero (c : List UInt8) : val c 0 = c.headD 0 := by
  cases c with
  | nil => rfl
  | cons a c => simp [val, mul_zero]
theorem val_map_mul (c : List UInt8) (s x : UInt8) : val (c.map (mul s)) x = mul s (val c x) := by
  induction c with
  | nil => simp [val, mul_zero]
  | cons a c ih => simp only [List.map_cons, val, ih, mul_xor, mul_assoc]
theorem val_zip (c d : List UInt8) (h : c.length = d.length) (x : UInt8) : val (List.zipWith (· ^^^ ·) c d) x = val c x ^^^ val d x := by
  induction c generalizing d with
  | nil => cases d with
    | nil => simp [val]
    | cons b d => simp at h
  | cons a c ih =>
    cases d with
    | nil => simp at h
    | cons b d =>
      simp only [List.zipWith_cons_cons, val]
      rw [ih d (by simpa using h), mul_xor_left, x4]

/-- a function that is a polynomial with n coefficients -/
def IsPoly (n : Nat) (f : UInt8 → UInt8) : Prop := ∃ c : List UInt8, c.length = n ∧ ∀ x, f x = val c x

theorem IsPoly.val (c : List UInt8) : IsPoly c.length (val c) := ⟨c, rfl, fun _ => rfl⟩
theorem IsPoly.mono {n m : Nat} {f : UInt8 → UInt8} (h : IsPoly n f) (hm : n ≤ m) : IsPoly m f := by
  obtain ⟨c, hc, hf⟩ := h
  refine ⟨c ++ List.replicate (m - n) 0, by simp; omega, fun x => ?_⟩
  rw [hf, val_append, val_zeros, zero_mul, UInt8.xor_zero]
theorem IsPoly.xor {n : Nat} {f g : UInt8 → UInt8} (h : IsPoly n f) (k : IsPoly n g) : IsPoly n (fun x => f x ^^^ g x) := by
  obtain ⟨c, hc, hf⟩ := h
  obtain ⟨d, hd, hg⟩ := k
  exact ⟨List.zipWith (· ^^^ ·) c d, by simp; omega, fun x => by show f x ^^^ g x = _; rw [val_zip c d (by omega), hf, hg]⟩
theorem IsPoly.smul {n : Nat} {f : UInt8 → UInt8} (h : IsPoly n f) (s : UInt8) : IsPoly n (fun x => mul (f x) s) := by
  obtain ⟨c, hc, hf⟩ := h
  exact ⟨c.map (mul s), by simp [hc], fun x => by show mul (f x) s = _; rw [val_map_mul, hf, mul_comm]⟩
theorem IsPoly.const (s : UInt8) : IsPoly 1 (fun _ => s) := ⟨[s], rfl, fun x => by simp [Gf.val, zero_mul]⟩
theorem IsPoly.zero (n : Nat) : IsPoly n (fun _ => 0) := ⟨List.replicate n 0, by simp, fun x => (val_zeros n x).symm⟩
theorem IsPoly.lin {n : Nat} {f : UInt8 → UInt8} (h : IsPoly n f) (a : UInt8) : IsPoly (n + 1) (fun x => mul (f x) (x ^^^ a)) := by
  obtain ⟨c, hc, hf⟩ := h
  have h1 : IsPoly (n + 1) (fun x => mul (f x) x) := ⟨0 :: c, by simp [hc], fun x => by simp [Gf.val, hf]⟩
  have h2 : IsPoly (n + 1) (fun x => mul (f x) a) := (IsPoly.mono ⟨c, hc, hf⟩ (Nat.le_succ n)).smul a
  obtain ⟨d, hd, hg⟩ := h1.xor h2
  exact ⟨d, hd, fun x => by rw [← hg x]; show mul (f x) (x ^^^ a) = mul (f x) x ^^^ mul (f x) a; rw [mul_xor]⟩

/-- what is left when a root is taken out -/
def quot : List UInt8 → UInt8 → List UInt8
  | [], _ => []
  | _ :: c, r => val c r :: quot c r
theorem quot_length (c : List UInt8) (r : UInt8) : (quot c r).length = c.length := by
  induction c with
  | nil => rfl
  | cons a c ih => simp [quot, ih]
theorem quot_tail (a : UInt8) (c : List UInt8) (r : UInt8) : ∃ q, q.length = c.length ∧ ∀ x, val (a :: c) x = val (a :: c) r ^^^ mul (val q x) (x ^^^ r) := by
  induction c generalizing a with
  | nil => exact ⟨[], rfl, fun x => by simp [val, zero_mul]⟩
  | cons b c ih =>
    obtain ⟨q, hq, hv⟩ := ih b
    refine ⟨val (b :: c) r :: q, by simp [hq], fun x => ?_⟩
    have e := hv x
    rw [val]
    conv => lhs; rw [e]
    conv => rhs; rw [val]
    generalize val (b :: c) r = v
    conv => rhs; rhs; lhs; rw [val]
    have e1 : mul (mul (val q x) x) (x ^^^ r) = mul (mul (val q x) (x ^^^ r)) x := by rw [mul_assoc, mul_assoc, mul_comm x]
    rw [mul_xor_left (mul (val q x) x) v, e1, mul_xor_left v, mul_xor v]
    generalize mul (mul (val q x) (x ^^^ r)) x = t
    generalize mul v x = y
    generalize mul v r = z
    have e2 : z ^^^ a ^^^ (t ^^^ (y ^^^ z)) = (y ^^^ t ^^^ a) ^^^ (z ^^^ z) := by ac_rfl
    rw [e2, UInt8.xor_self, UInt8.xor_zero]

theorem roots (n : Nat) : ∀ (c : List UInt8), c.length = n → ∀ at_ : List UInt8, at_.Nodup → n ≤ at_.length → (∀ a ∈ at_, val c a = 0) → ∀ x, val c x = 0 := by
  induction n with
  | zero => intro c hc _ _ _ _ x; obtain rfl := List.eq_nil_of_length_eq_zero hc; rfl
  | succ n ih =>
    intro c hc at_ hnd hl hr x
    cases c with
    | nil => rfl
    | cons b c =>
      cases at_ with
      | nil => simp at hl
      | cons r at_ =>
        obtain ⟨q, hq, hv⟩ := quot_tail b c r
        have h0 : val (b :: c) r = 0 := hr r (List.mem_cons_self ..)
        have hnd' := List.nodup_cons.1 hnd
        have hqz : ∀ x, val q x = 0 := by
          refine ih q (by simp at hc; omega) at_ hnd'.2 (by simp at hl; omega) ?_
          intro a ha
          have h1 := hv a
          rw [hr a (List.mem_cons_of_mem _ ha), h0, UInt8.zero_xor] at h1
          rcases (mul_eq_zero _ _).1 h1.symm with g | g
          · exact g
          · exfalso; exact hnd'.1 ((xor_eq_zero _ _).1 g ▸ ha)
        rw [hv x, h0, hqz x, zero_mul]; rfl

theorem IsPoly.roots {n : Nat} {f : UInt8 → UInt8} (h : IsPoly n f) {at_ : List UInt8} (hnd : at_.Nodup) (hl : n ≤ at_.length) (hr : ∀ a ∈ at_, f a = 0) (x : UInt8) : f x = 0 := by
  obtain ⟨c, hc, hf⟩ := h
  rw [hf]
  exact Gf.roots n c hc at_ hnd hl (fun a ha => by rw [← hf]; exact hr a ha) x
theorem IsPoly.unique {n : Nat} {f g : UInt8 → UInt8} (h : IsPoly n f) (k : IsPoly n g) {at_ : List UInt8} (hnd : at_.Nodup) (hl : n ≤ at_.length) (hr : ∀ a ∈ at_, f a = g a) (x : UInt8) : f x = g x :=
  (xor_eq_zero _ _).1 ((h.xor k).roots hnd hl (fun a ha => (xor_eq_zero _ _).2 (hr a ha)) x)

/-! the weights, as the program has them: place i of at_, at x -/
/-- the product over all places but number i, from place j on -/
def wgt (a x : UInt8) (i : Nat) : Nat → List UInt8 → UInt8 → UInt8
  | _, [], w => w
  | j, b :: r, w => wgt a x i (j + 1) r (if j = i then w else mul w (mul (x ^^^ b) (inv (a ^^^ b))))
def weight (at_ : List UInt8) (x : UInt8) (i : Nat) : UInt8 := wgt (at_.getD i 0) x i 0 at_ 1
def weights (at_ : List UInt8) (x : UInt8) : List UInt8 := (List.range at_.length).map (weight at_ x)
/-- the sum of weights times values -/
def wsum : List UInt8 → List UInt8 → UInt8
  | w :: ws, y :: ys => mul w y ^^^ wsum ws ys
  | _, _ => 0
def thro (at_ ys : List UInt8) (x : UInt8) : UInt8 := wsum (weights at_ x) ys

theorem wgt_lin (a x : UInt8) (i : Nat) (l : List UInt8) : ∀ j w, wgt a x i j l w = mul w (wgt a x i j l 1) := by
  induction l with
  | nil => intro j w; simp [wgt, mul_one]
  | cons b r ih =>
    intro j w
    simp only [wgt]
    rw [ih (j + 1) (if j = i then w else _), ih (j + 1) (if j = i then 1 else _)]
    by_cases h : j = i
    · rw [if_pos h, if_pos h, one_mul]
    · rw [if_neg h, if_neg h, one_mul, mul_assoc]
theorem wgt_poly (a : UInt8) (i : Nat) (l : List UInt8) : ∀ (j n : Nat) (f : UInt8 → UInt8), IsPoly n f →
    IsPoly (n + l.length - (if j ≤ i ∧ i < j + l.length then 1 else 0)) (fun x => wgt a x i j l (f x)) := by
  induction l with
  | nil => intro j n f h; simp only [wgt, List.length_nil]; rw [if_neg (by omega)]; exact h
  | cons b r ih =>
    intro j n f h
    simp only [wgt]
    by_cases e : j = i
    · have := ih (j + 1) n f h
      simp only [if_pos e]
      rw [if_neg (by omega)] at this
      rw [if_pos (by simp; omega)]
      have e3 : n + (b :: r).length - 1 = n + r.length - 0 := by simp
      rw [e3]
      exact this
    · have := ih (j + 1) (n + 1) _ ((h.lin b).smul (inv (a ^^^ b)))
      simp only [if_neg e]
      have e2 : (fun x => wgt a x i (j + 1) r (mul (mul (f x) (x ^^^ b)) (inv (a ^^^ b)))) = (fun x => wgt a x i (j + 1) r (mul (f x) (mul (x ^^^ b) (inv (a ^^^ b))))) := by
        funext x; rw [mul_assoc]
      rw [e2] at this
      refine (Eq.mp ?_ this)
      congr 1
      simp only [List.length_cons]
      by_cases g : j ≤ i ∧ i < j + (r.length + 1)
      · rw [if_pos g, if_pos (by omega)]; omega
      · rw [if_neg g, if_neg (by omega)]; omega
theorem weight_poly (at_ : List UInt8) (i : Nat) (hi : i < at_.length) : IsPoly at_.length (fun x => weight at_ x i) := by
  have := wgt_poly (at_.getD i 0) i at_ 0 1 (fun _ => 1) (IsPoly.const 1)
  rw [if_pos (by omega)] at this
  have e : 1 + at_.length - 1 = at_.length := by omega
  rw [e] at this
  exact this

theorem wgt_one (a : UInt8) (i : Nat) (l : List UInt8) : ∀ j, (∀ k, k < l.length → j + k ≠ i → l.getD k 0 ≠ a) → wgt a a i j l 1 = 1 := by
  induction l with
  | nil => intro j _; rfl
  | cons b r ih =>
    intro j h
    simp only [wgt]
    have hr : wgt a a i (j + 1) r 1 = 1 := ih (j + 1) (fun k hk e => by have := h (k + 1) (by simp; omega) (by omega); simpa using this)
    by_cases e : j = i
    · rw [if_pos e, hr]
    · rw [if_neg e, wgt_lin, hr, one_mul, mul_one]
      refine mul_inv _ (fun g => ?_)
      exact h 0 (by simp) (by omega) (by simpa using ((xor_eq_zero _ _).1 g).symm)
theorem wgt_zero (a x : UInt8) (i : Nat) (l : List UInt8) : ∀ j k, k < l.length → j + k ≠ i → l.getD k 0 = x → ∀ w, wgt a x i j l w = 0 := by
  induction l with
  | nil => intro j k hk; simp at hk
  | cons b r ih =>
    intro j k hk e hx w
    simp only [wgt]
    cases k with
    | zero =>
      have hb : b = x := by simpa using hx
      rw [if_neg (by omega), hb, UInt8.xor_self, zero_mul, mul_zero, wgt_lin, zero_mul]
    | succ k => exact ih (j + 1) k (by simp at hk; omega) (by omega) (by simpa using hx) _
theorem getD_inj {at_ : List UInt8} (h : at_.Nodup) {i j : Nat} (hi : i < at_.length) (hj : j < at_.length) (e : at_.getD i 0 = at_.getD j 0) : i = j := by
  rw [List.getD_eq_getElem?_getD, List.getD_eq_getElem?_getD, List.getElem?_eq_getElem hi, List.getElem?_eq_getElem hj] at e
  exact (List.getElem_inj h).1 (by simpa using e)
theorem weight_self (at_ : List UInt8) (h : at_.Nodup) (i : Nat) (hi : i < at_.length) : weight at_ (at_.getD i 0) i = 1 :=
  wgt_one _ _ _ _ (fun k hk e g => e (by have := getD_inj h hk hi g; omega))
theorem weight_other (at_ : List UInt8) (i j : Nat) (hj : j < at_.length) (hij : j ≠ i) : weight at_ (at_.getD j 0) i = 0 :=
  wgt_zero _ _ _ _ 0 j hj (by omega) rfl _

theorem wsum_poly (n : Nat) : ∀ (fs : List (UInt8 → UInt8)) (ys : List UInt8), (∀ f ∈ fs, IsPoly n f) → IsPoly n (fun x => wsum (fs.map (· x)) ys) := by
  intro fs
  induction fs with
  | nil => intro ys _; simp only [List.map_nil, wsum]; exact IsPoly.zero n
  | cons f fs ih =>
    intro ys h
    cases ys with
    | nil => simp only [List.map_cons, wsum]; exact IsPoly.zero n
    | cons y ys =>
      simp only [List.map_cons, wsum]
      exact ((h f (List.mem_cons_self ..)).smul y).xor (ih ys (fun g hg => h g (List.mem_cons_of_mem _ hg)))
theorem thro_poly (at_ ys : List UInt8) : IsPoly at_.length (thro at_ ys) := by
  have := wsum_poly at_.length ((List.range at_.length).map (fun i x => weight at_ x i)) ys (fun f hf => by
    obtain ⟨i, hi, rfl⟩ := List.mem_map.1 hf
    exact weight_poly at_ i (List.mem_range.1 hi))
  have e : (fun x => wsum (((List.range at_.length).map (fun i x => weight at_ x i)).map (· x)) ys) = thro at_ ys := by
    funext x; unfold thro weights; rw [List.map_map]; rfl
  rw [e] at this; exact this
theorem wsum_pick : ∀ (ws ys : List UInt8) (i : Nat), i < ws.length → i < ys.length → ws.getD i 0 = 1 → (∀ j, j < ws.length → j ≠ i → ws.getD j 0 = 0) → wsum ws ys = ys.getD i 0 := by
  intro ws
  induction ws with
  | nil => intro ys i h; simp at h
  | cons w ws ih =>
    intro ys i hi hy h1 h0
    cases ys with
    | nil => simp at hy
    | cons y ys =>
      have z : ∀ (us vs : List UInt8), (∀ j, j < us.length → us.getD j 0 = 0) → wsum us vs = 0 := by
        intro us
        induction us with
        | nil => intro vs _; rfl
        | cons u us ihu =>
          intro vs hu
          cases vs with
          | nil => rfl
          | cons v vs =>
            have hu0 := hu 0 (by simp)
            simp only [List.getD_cons_zero] at hu0
            simp only [wsum]
            rw [hu0, zero_mul, ihu vs (fun j hj => by have := hu (j + 1) (by simp; omega); simpa using this)]; rfl
      cases i with
      | zero =>
        simp only [List.getD_cons_zero] at h1 ⊢
        simp only [wsum]
        rw [h1, one_mul, z ws ys (fun j hj => by have := h0 (j + 1) (by simp; omega) (by omega); simpa using this), UInt8.xor_zero]
      | succ i =>
        have h00 := h0 0 (by simp) (by omega)
        simp only [List.getD_cons_zero] at h00
        simp only [wsum, List.getD_cons_succ] at h1 ⊢
        rw [h00, zero_mul, UInt8.zero_xor]
        exact ih ys i (by simp at hi; omega) (by simp at hy; omega) h1 (fun j hj e => by have := h0 (j + 1) (by simp; omega) (by omega); simpa using this)
theorem weights_getD (at_ : List UInt8) (x : UInt8) (i : Nat) (hi : i < at_.length) : (weights at_ x).getD i 0 = weight at_ x i := by
  unfold weights
  rw [List.getD_eq_getElem?_getD, List.getElem?_map, List.getElem?_range hi]; rfl
theorem weights_length (at_ : List UInt8) (x : UInt8) : (weights at_ x).length = at_.length := by simp [weights]
/-- the polynomial through the points goes through them -/
theorem thro_at (at_ ys : List UInt8) (h : at_.Nodup) (hl : ys.length = at_.length) (i : Nat) (hi : i < at_.length) : thro at_ ys (at_.getD i 0) = ys.getD i 0 := by
  unfold thro
  refine wsum_pick _ _ i (by rw [weights_length]; exact hi) (by omega) ?_ ?_
  · rw [weights_getD _ _ _ hi, weight_self at_ h i hi]
  · intro j hj e
    rw [weights_length] at hj
    rw [weights_getD _ _ _ hj]
    exact weight_other at_ j i hi (by omega)
/-- LAGRANGE: what is a polynomial with no more coefficients than points is told by its values there. -/
theorem lagrange {n : Nat} {f : UInt8 → UInt8} (hf : IsPoly n f) (at_ : List UInt8) (h : at_.Nodup) (hn : n ≤ at_.length) (x : UInt8) : thro at_ (at_.map f) x = f x := by
  refine (thro_poly at_ _).unique (hf.mono hn) h (Nat.le_refl _) ?_ x
  intro a ha
  obtain ⟨i, hi, rfl⟩ := List.mem_iff_getElem.1 ha
  have := thro_at at_ (at_.map f) h (by simp) i hi
  simpa [List.getD_eq_getElem?_getD, hi] using this
end Go.Proofs.YtkioddmhjbaleaaDoor.Gf
/- Walks of package share: how much each place counts; the value of the polynomial through rows. -/
namespace Go.Proofs.YtkioddmhjbaleaaDoor
open Go.RowKit
set_option linter.unusedVariables false

theorem Inv_any (a : UInt8) (w : World) : Calls Tryd.prog 124 #[.int .u8 a.toNat] w fun e w' => ∃ u, e = .returned (.tuple #[.int .u8 (Gf.inv a).toNat, u]) ∧ w = w' := by
  by_cases h : a = 0
  · subst h
    exact (Inv_calls_no w).mono fun e w' ⟨h1, h2⟩ => ⟨_, h1, h2⟩
  · exact (Inv_calls a h w).mono fun e w' ⟨h1, h2⟩ => ⟨_, h1, h2⟩

theorem weights_snoc (at_ : List UInt8) (x : UInt8) (k : Nat) : (List.range (k + 1)).map (Gf.weight at_ x) = (List.range k).map (Gf.weight at_ x) ++ [Gf.weight at_ x k] := by
  rw [List.range_succ, List.map_append]; rfl

set_option maxHeartbeats 1000000 in
theorem Weights_calls (at_ : List UInt8) (x : UInt8) (a : Option Addr) (ca ea : Nat) (w : World) (ha : Rd w a ea (at_.map vB)) (hx : at_.length ≤ 1000000) :
    Calls Tryd.prog 98 #[.slice a at_.length ca, .int .u8 x.toNat] w (RetB w (Gf.weights at_ x)) := by
  go_enter Tryd.func98, Tryd.ntmps98
  go_wp2
  go_loopw [5, 15] (fun v i wr => ∃ k : Nat, k ≤ at_.length ∧ i = .int .i64 k ∧ wr.ownsRow w.heap.size 5 1 v k (((List.range k).map (Gf.weight at_ x)).map vB) ∧ Below w.heap.size w wr) (fun _ i _ => at_.length - (intOf i).toNat)
  case atStart => exact ⟨0, Nat.zero_le _, rfl, World.ownsRow_nil _ _ _ _, Below.refl _ _⟩
  case round =>
    obtain ⟨k, hk, rfl, hown, hbl⟩ := hrel
    by_cases hlt : k < at_.length
    · obtain ⟨ba, oa, rfl, _, hca⟩ := (ha.below hbl).bytes hlt
      have c1 := hca k hlt
      have hgk : at_.getD k 0 = at_[k] := by rw [List.getD_eq_getElem?_getD, List.getElem?_eq_getElem hlt]; rfl
      have Hg := Lib.hid hgk
      have Hca := Lib.hid hca
      clear hca hgk
      go_wp2
      go_loop [8, 22] (fun p j => ∃ (m : Nat) (q : UInt8), m ≤ at_.length ∧ j = .int .i64 m ∧ p = .int .u8 q.toNat ∧ Gf.wgt at_[k] x k m (at_.drop m) q = Gf.weight at_ x k) (fun _ j => at_.length - (intOf j).toNat)
      case atStart => exact ⟨0, 1, Nat.zero_le _, rfl, rfl, by unfold Gf.weight; rw [Hg.out]; rfl⟩
      case round =>
        obtain ⟨m, q, hm, rfl, rfl, hw⟩ := hrel
        have Hw := Lib.hid hw
        clear hw
        by_cases hml : m < at_.length
        · have c2 := Hca.out m hml
          have hdrop : at_.drop m = at_[m] :: at_.drop (m + 1) := List.drop_eq_getElem_cons hml
          have Hd := Lib.hid hdrop
          clear hdrop
          by_cases hmk : m = k
          · have t : ((m : Int) == (k : Int)) = true := by rw [hmk]; simp
            have Hmk := Lib.hid hmk
            clear hmk
            go_wp2
            go_round
            case rel => exact ⟨m + 1, q, by omega, by go_num, rfl, by have := Hw.out; rw [Hd.out] at this; simp only [Gf.wgt] at this; rw [if_pos Hmk.out] at this; exact this⟩
            case measure => simp [intOf] <;> omega
          · have t : ((m : Int) == (k : Int)) = false := by rw [beq_eq_false_iff_ne]; omega
            have Hmk := Lib.hid hmk
            clear hmk
            go_wp2_with fail
            refine (Add_calls _ _ _).mono ?_; rintro e w' ⟨rfl, rfl⟩
            go_wp2_with fail
            refine (Inv_any _ _).mono ?_; rintro e w' ⟨u, rfl, rfl⟩
            go_wp2_with fail
            refine (Add_calls _ _ _).mono ?_; rintro e w' ⟨rfl, rfl⟩
            go_wp2_with fail
            refine (Mul_calls _ _ _).mono ?_; rintro e w' ⟨rfl, rfl⟩
            go_wp2_with fail
            refine (Mul_calls _ _ _).mono ?_; rintro e w' ⟨rfl, rfl⟩
            go_wp2_with fail
            go_round
            case rel => exact ⟨m + 1, _, by omega, by go_num, rfl, by have := Hw.out; rw [Hd.out] at this; simp only [Gf.wgt] at this; rw [if_neg Hmk.out] at this; exact this⟩
            case measure => simp [intOf] <;> omega
        · obtain rfl : m = at_.length := by omega
          have hq : q = Gf.weight at_ x k := by
            have := Hw.out
            rw [List.drop_of_length_le (Nat.le_refl _)] at this
            exact this
          have Hq := Lib.hid hq
          clear hq Hw
          go_wp2_with (at_builtin; refine app1 67 5 (.int .u8 0) 1 Tryd.underlying67 info_u8 rfl (by omega) rfl _ _ rfl w.heap.size _ _ _ rfl (hown.alloc _) ⟨wr.heap.size, 0, none⟩ 1 (.int .u8 q.toNat) rfl (by simp) rfl (by omega) (by have := hbl.size; simp; omega) _ rfl ?_; intro g cap w1 hown1 hgrow hat hlt1)
          have hb1 : Below w.heap.size w w1 := (hbl.alloc hbl.size _).grown hgrow (by have := hbl.size; simp; omega) (fun j hj => (hown.lt j hj).1)
          clear hgrow hat hlt1 hown
          go_wp2
          go_roundw
          case rel => exact ⟨k + 1, by omega, by go_num, by rw [weights_snoc, List.map_append, ← Hq.out]; exact hown1, hb1⟩
          case measure => simp [intOf] <;> omega
    · obtain rfl : k = at_.length := by omega
      obtain ⟨a', cap', rfl⟩ := own_slice hown
      go_wp2
      go_ret
      have hl : (Gf.weights at_ x).length = at_.length := Gf.weights_length _ _
      exact ⟨a', cap', by rw [hl]; rfl, by rw [hl]; exact hown, hbl⟩

/-! the polynomials through rows, place by place -/
def thrus (at_ : List UInt8) (rows : List (List UInt8)) (x : UInt8) : List UInt8 := (List.range (rows.headD []).length).map fun k => Gf.thro at_ (rows.map (·.getD k 0)) x
/-- the first i weights times the values of the first i rows at a place -/
def part (ws : List UInt8) (rows : List (List UInt8)) (i k : Nat) : UInt8 := Gf.wsum (ws.take i) ((rows.map (·.getD k 0)).take i)
theorem wsum_snoc : ∀ (ws ys : List UInt8) (w y : UInt8), ws.length = ys.length → Gf.wsum (ws ++ [w]) (ys ++ [y]) = Gf.add (Gf.wsum ws ys) (Gf.mul w y) := by
  intro ws
  induction ws with
  | nil => intro ys w y h; obtain rfl : ys = [] := List.eq_nil_of_length_eq_zero (by simpa using h.symm); simp [Gf.wsum, Gf.add]
  | cons u ws ih =>
    intro ys w y h
    cases ys with
    | nil => simp at h
    | cons v ys =>
      simp only [List.cons_append, Gf.wsum]
      rw [ih ys w y (by simpa using h)]
      unfold Gf.add
      rw [UInt8.xor_assoc]
theorem part_succ (ws : List UInt8) (rows : List (List UInt8)) (i k : Nat) (hw : i < ws.length) (hr : i < rows.length) : part ws rows (i + 1) k = Gf.add (part ws rows i k) (Gf.mul ws[i] (rows[i].getD k 0)) := by
  unfold part
  rw [List.take_succ_eq_append_getElem hw, List.take_succ_eq_append_getElem (by simpa using hr), wsum_snoc _ _ _ _ (by simp; omega)]
  simp
def mixed (ws : List UInt8) (rows : List (List UInt8)) (L i m : Nat) : List UInt8 := (List.range L).map fun q => if q < m then part ws rows (i + 1) q else part ws rows i q
theorem mixed_zero (ws : List UInt8) (rows : List (List UInt8)) (L i : Nat) : mixed ws rows L i 0 = (List.range L).map (part ws rows i) := by simp [mixed]
theorem mixed_all (ws : List UInt8) (rows : List (List UInt8)) (L i : Nat) : mixed ws rows L i L = (List.range L).map (part ws rows (i + 1)) := by
  refine List.map_congr_left fun q hq => ?_
  rw [if_pos (List.mem_range.1 hq)]
theorem mixed_length (ws : List UInt8) (rows : List (List UInt8)) (L i m : Nat) : (mixed ws rows L i m).length = L := by simp [mixed]
theorem mixed_get (ws : List UInt8) (rows : List (List UInt8)) (L i m : Nat) (h : m < (mixed ws rows L i m).length) : (mixed ws rows L i m)[m] = part ws rows i m := by simp [mixed]
theorem mixed_set (ws : List UInt8) (rows : List (List UInt8)) (L i m : Nat) (hm : m < L) : (mixed ws rows L i m).set m (part ws rows (i + 1) m) = mixed ws rows L i (m + 1) := by
  apply List.ext_getElem
  · simp [mixed]
  · intro q h1 h2
    have hq : q < L := by simpa [mixed] using h2
    rw [List.getElem_set]
    by_cases e : m = q
    · subst e; simp [mixed]
    · rw [if_neg e]
      simp only [mixed, List.getElem_map, List.getElem_range]
      by_cases g : q < m
      · rw [if_pos g, if_pos (by omega)]
      · rw [if_neg g, if_neg (by omega)]

theorem mixed_own {w : World} {base g L cap : Nat} {ws : List UInt8} {rows : List (List UInt8)} {k m : Nat} (h : w.ownsRow base 5 1 (.slice (some ⟨g, 0, none⟩) L cap) L ((mixed ws rows L k m).map vB)) (hm : m < L) {z : UInt8} (hz : part ws rows (k + 1) m = z) :
    (w.setCell ⟨g, m, none⟩ (.int .u8 z.toNat)).ownsRow base 5 1 (.slice (some ⟨g, 0, none⟩) L cap) L ((mixed ws rows L k (m + 1)).map vB) := by
  have := own_set h m (.int .u8 z.toNat)
  have e : ((mixed ws rows L k m).map vB).set m (.int .u8 z.toNat) = (mixed ws rows L k (m + 1)).map vB := by
    rw [← mixed_set ws rows L k m hm, hz, List.map_set]; rfl
  rw [e] at this; exact this

set_option maxHeartbeats 4000000 in
theorem Through_calls (at_ : List UInt8) (rows : List (List UInt8)) (x : UInt8) (a b : Option Addr) (ca ea cb eb L : Nat) (vs : List Value) (w : World) (ha : Rd w a ea (at_.map vB)) (hb : Rd w b eb vs) (hv : AreB (fun _ _ => True) w rows vs)
    (h1 : 0 < rows.length) (hal : at_.length = rows.length) (hr : rows.length ≤ 1000) (hL : L ≤ 140737488355328) (hall : ∀ r ∈ rows, r.length = L) :
    Calls Tryd.prog 61 #[.slice a at_.length ca, .slice b rows.length cb, .int .u8 x.toNat] w (RetB w (thrus at_ rows x)) := by
  have hhead : (rows.headD []).length = L := by
    cases rows with
    | nil => simp at h1
    | cons r rs => exact hall r (List.mem_cons_self ..)
  have hth : thrus at_ rows x = (List.range L).map (part (Gf.weights at_ x) rows rows.length) := by
    unfold thrus
    rw [hhead]
    refine List.map_congr_left fun k _ => ?_
    unfold Gf.thro part
    rw [List.take_of_length_le (by rw [Gf.weights_length]; omega), List.take_of_length_le (by simp)]
  have hvl : vs.length = rows.length := hv.1
  obtain ⟨i0, hi0, hz0, hs0, hb0⟩ := info_parts info_u8
  obtain ⟨ws, hws⟩ : ∃ ws, ws = Gf.weights at_ x := ⟨_, rfl⟩
  have hwl : ws.length = at_.length := by rw [hws, Gf.weights_length]
  have WC := fun w ha => Weights_calls at_ x a ca ea w ha (by omega)
  rw [← hws] at hth WC
  have Hth := Lib.hid hth
  have Hal := Lib.hid hal
  have Hvl := Lib.hid hvl
  have Hwl := Lib.hid hwl
  have hwr1 : ws.length ≤ rows.length := by omega
  have hwr2 : rows.length ≤ ws.length := by omega
  clear hth hal hvl hwl hws hhead
  obtain ⟨bb, ob, rfl, hbb, hcb⟩ := hb.cell (k := 0) (by rw [Hvl.out]; exact h1)
  have row : ∀ i, (h : i < rows.length) → ∃ a' c' e', vs[i]'(by rw [Hvl.out]; exact h) = .slice a' L c' ∧ Rd w a' e' (rows[i].map vB) := by
    intro i h
    obtain ⟨a', c', e', h2, h3, _⟩ := hv.2 i h (by rw [Hvl.out]; exact h)
    exact ⟨a', c', e', by rw [h2, hall _ (List.getElem_mem _)], h3⟩
  obtain ⟨a0, c0, e0, hv0, _⟩ := row 0 h1
  have hc0 : w.cell? ⟨bb, ob, none⟩ = some (.slice a0 L c0) := by have := hcb 0 (by rw [Hvl.out]; exact h1); rw [hv0] at this; exact this
  have Hv0 := Lib.hid hv0
  clear hv0
  have i1 : (0 : Int) < (rows.length : Int) := by omega
  go_enter Tryd.func61, Tryd.ntmps61
  go_wp2_with fail
  refine (WC _ ha).mono ?_; rintro e w1 ⟨a1, cap1, rfl, hown1, hbl1⟩
  clear WC
  have hc0' : w1.cell? ⟨bb, ob, none⟩ = some (.slice a0 L c0) := (hbl1.cell (p := ⟨bb, ob, none⟩) hbb).trans hc0
  clear hc0
  go_wp2_with (at_make; refine wpList_make_full _ rfl _ _ 67 rfl w.heap.size 5 i0 (.int .u8 0) 1 Tryd.underlying67 hi0 hz0 hs0 _ _ _ _ L rfl rfl rfl rfl ?c1 ?c2 ?c3 ?_)
  case c1 => rw [hb0]; omega
  case c2 => simp only [maxLen]; omega
  case c3 => exact hbl1.size
  intro w2 hown2 hgrow2
  rw [made_one] at hown2
  have hbl2 : Below w1.heap.size w1 w2 := (Below.refl _ w1).grown hgrow2 (Nat.le_refl _) (fun k hk => by cases hk)
  clear hgrow2
  have hrep : List.replicate L (Value.int .u8 0) = ((List.range L).map (part ws rows 0)).map vB := by
    apply List.ext_getElem
    · simp
    · intro i _ _; simp [part, Gf.wsum, vB]
  rw [hrep] at hown2
  clear hrep
  go_wp2
  go_loopw [23] (fun i wr => ∃ k : Nat, k ≤ rows.length ∧ i = .int .i64 k ∧ wr.ownsRow w.heap.size 5 1 (.slice (some ⟨w1.heap.size, 0, none⟩) L L) L (((List.range L).map (part ws rows k)).map vB) ∧ Below w1.heap.size w1 wr) (fun i _ => rows.length - (intOf i).toNat)
  case atStart => exact ⟨0, Nat.zero_le _, rfl, hown2, hbl2⟩
  case round =>
    obtain ⟨k, hk, rfl, hown, hbl⟩ := hrel
    by_cases hlt : k < rows.length
    · obtain ⟨ak, ck, ek, hvk, hrk⟩ := row k hlt
      have hck : wr.cell? ⟨bb, ob + k, none⟩ = some (.slice ak L ck) := by
        have h2 := hcb k (by rw [Hvl.out]; exact hlt)
        rw [hvk] at h2
        exact (hbl.cell (p := ⟨bb, ob + k, none⟩) (by have := hbl1.size; show bb < _; omega)).trans ((hbl1.cell (p := ⟨bb, ob + k, none⟩) hbb).trans h2)
      have Hvk := Lib.hid hvk
      clear hvk
      have hrkl : rows[k].length = L := hall _ (List.getElem_mem _)
      have Hrkl := Lib.hid hrkl
      clear hrkl
      have hrk1 : Rd w1 ak ek (rows[k].map vB) := hrk.below hbl1
      have hrw1 : Rd w1 a1 5 (ws.map vB) := Rd.of_own hown1
      go_wp2
      obtain ⟨wo, rfl⟩ : ∃ wo : World, wo = wr := ⟨_, rfl⟩
      go_loopw [30] (fun i wr => ∃ m : Nat, m ≤ L ∧ i = .int .i64 m ∧ wr.ownsRow w.heap.size 5 1 (.slice (some ⟨w1.heap.size, 0, none⟩) L L) L ((mixed ws rows L k m).map vB) ∧ Below w1.heap.size w1 wr) (fun i _ => L - (intOf i).toNat)
      case atStart => exact ⟨0, Nat.zero_le _, rfl, by rw [mixed_zero]; exact hown, hbl⟩
      case round =>
        obtain ⟨m, hm, rfl, hownm, hblm⟩ := hrel
        by_cases hml : m < L
        · obtain ⟨bk, ok, rfl, hbk, hcx⟩ := hrk1.bytes (k := m) (by rw [Hrkl.out]; exact hml)
          obtain ⟨bw, ow, rfl, hbw, hcw⟩ := hrw1.bytes (k := k) (by omega)
          have d1 : wr.cell? ⟨bk, ok + m, none⟩ = some (.int .u8 ((rows[k]'hlt)[m]'(by rw [Hrkl.out]; exact hml)).toNat) := (hblm.cell (p := ⟨bk, ok + m, none⟩) hbk).trans (hcx m (by rw [Hrkl.out]; exact hml))
          have d2 : wr.cell? ⟨bw, ow + k, none⟩ = some (.int .u8 (ws[k]'(by omega)).toNat) := (hblm.cell (p := ⟨bw, ow + k, none⟩) hbw).trans (hcw k (by omega))
          have ho := own_cell hownm (k := m) (by simp [mixed_length]; exact hml)
          have d3 : wr.cell? ⟨w1.heap.size, m, none⟩ = some (.int .u8 (part ws rows k m).toNat) := by
            rw [ho.1]; simp only [List.getElem_map, mixed_get]; rfl
          have d4 := ho.2
          have hnew : part ws rows (k + 1) m = Gf.add (part ws rows k m) (Gf.mul (ws[k]'(by omega)) ((rows[k]'hlt)[m]'(by rw [Hrkl.out]; exact hml))) := by
            rw [part_succ ws rows k m (by omega) hlt]
            have e9 : (rows[k]'hlt).getD m 0 = (rows[k]'hlt)[m]'(by rw [Hrkl.out]; exact hml) := by rw [List.getD_eq_getElem?_getD, List.getElem?_eq_getElem (by rw [Hrkl.out]; exact hml)]; rfl
            rw [e9]
          have Hnew := Lib.hid hnew
          clear hnew ho hcx hcw
          generalize (rows[k]'hlt)[m]'(by rw [Hrkl.out]; exact hml) = y at *
          generalize ws[k]'(by omega) = u at *
          generalize part ws rows k m = p at *
          have j1 : (m : Int) < (L : Int) := by omega
          have j2 : (k : Int) < (ws.length : Int) := by omega
          have j0 : (0 : Int) ≤ (m : Int) := by omega
          have j3 : (0 : Int) ≤ (k : Int) := by omega
          go_wp2_with fail
          go_region_with (first | (go_at_call 96; refine (Mul_calls _ _ _).mono ?_; rintro e w' ⟨rfl, rfl⟩) | (go_at_call 95; refine (Add_calls _ _ _).mono ?_; rintro e w' ⟨rfl, rfl⟩))
          all_goals
            go_wp2
            go_roundw
          all_goals first
            | exact ⟨m + 1, by omega, by go_num, (mixed_own hownm hml Hnew.out).drew, (hblm.setCell (p := ⟨w1.heap.size, m, none⟩) (Nat.le_refl _) _).drew⟩
            | (simp [intOf] <;> omega)
        · obtain rfl : m = L := by omega
          rw [mixed_all] at hownm
          go_wp2
          go_roundw
          case rel => exact ⟨k + 1, by omega, by go_num, hownm, hblm⟩
          case measure => simp [intOf] <;> omega
    · obtain rfl : k = rows.length := by omega
      go_wp2
      go_ret
      rw [Hth.out]
      have hl : ((List.range L).map (part ws rows rows.length)).length = L := by simp
      exact ⟨_, L, by rw [hl]; rfl, by rw [hl]; exact hown, (hbl1.trans (hbl.mono hbl1.size))⟩
end Go.Proofs.YtkioddmhjbaleaaDoor
/- Rows that are spread to more: what they are; share.Through at given places. -/
namespace Go.Proofs.YtkioddmhjbaleaaDoor
open Go.RowKit
set_option linter.unusedVariables false

theorem info_bs : (Tryd.prog.info? 67).map (fun i => (i.zero, i.size, i.bytes)) = some (some (.slice none 0 0), 1, 24) := by kernel_rfl

def ats (k : Nat) : List UInt8 := (List.range k).map UInt8.ofNat
theorem ats_length (k : Nat) : (ats k).length = k := by simp [ats]
theorem ats_succ (k : Nat) : ats (k + 1) = ats k ++ [UInt8.ofNat k] := by simp [ats, List.range_succ]
theorem byte_lit {k : Nat} (h : k < 256) : (Value.int .u8 (k : Int)) = vB (UInt8.ofNat k) := by
  have : (UInt8.ofNat k).toNat = k := by simp; omega
  simp only [vB, this]
def spreadOf (rows : List (List UInt8)) (n : Nat) : List (List UInt8) := rows ++ (List.range (n - rows.length)).map fun j => thrus (ats rows.length) rows (UInt8.ofNat (rows.length + j))
theorem spreadOf_length (rows : List (List UInt8)) (n : Nat) (h : rows.length ≤ n) : (spreadOf rows n).length = n := by simp [spreadOf]; omega
theorem spreadOf_take (rows : List (List UInt8)) (n k : Nat) (h1 : rows.length ≤ k) (h2 : k < n) : (spreadOf rows n).take (k + 1) = (spreadOf rows n).take k ++ [thrus (ats rows.length) rows (UInt8.ofNat k)] := by
  have hl := spreadOf_length rows n (by omega)
  rw [List.take_succ_eq_append_getElem (by omega)]
  congr 2
  unfold spreadOf
  rw [List.getElem_append_right h1]
  simp only [List.getElem_map, List.getElem_range]
  congr 2; omega

theorem Through_at (at_ : List UInt8) (rows : List (List UInt8)) (x : UInt8) (y : Int) (hy : y = x.toNat) (a b : Option Addr) (ca ea cb eb L n : Nat) (vs : List Value) (w : World) (ha : Rd w a ea (at_.map vB)) (hb : Rd w b eb vs) (hv : AreB (fun _ _ => True) w rows vs)
    (hn : n = at_.length) (h1 : 0 < rows.length) (hal : at_.length = rows.length) (hr : rows.length ≤ 1000) (hL : L ≤ 140737488355328) (hall : ∀ r ∈ rows, r.length = L) :
    Calls Tryd.prog 61 #[.slice a n ca, .slice b rows.length cb, .int .u8 y] w (RetB w (thrus at_ rows x)) := by
  subst hy hn; exact Through_calls at_ rows x a b ca ea cb eb L vs w ha hb hv h1 hal hr hL hall

theorem thrus_length (at_ : List UInt8) (rows : List (List UInt8)) (x : UInt8) : (thrus at_ rows x).length = (rows.headD []).length := by simp [thrus]

end Go.Proofs.YtkioddmhjbaleaaDoor
/- Rows that are spread: they are the values of polynomials; two that differ are far apart; any so many of them tell the first ones. No walk here. -/
namespace Go.Proofs.YtkioddmhjbaleaaDoor

theorem ofNat_inj {i j : Nat} (hi : i < 256) (hj : j < 256) (h : UInt8.ofNat i = UInt8.ofNat j) : i = j := by
  have := congrArg UInt8.toNat h
  simp at this
  omega
theorem ats_getD (k i : Nat) (h : i < k) : (ats k).getD i 0 = UInt8.ofNat i := by
  unfold ats
  rw [List.getD_eq_getElem?_getD, List.getElem?_map, List.getElem?_range h]; rfl
theorem map_nodup {l : List Nat} (h : l.Nodup) (hl : ∀ i ∈ l, i < 256) : (l.map UInt8.ofNat).Nodup := by
  induction l with
  | nil => simp
  | cons a l ih =>
    rw [List.nodup_cons] at h
    rw [List.map_cons, List.nodup_cons]
    refine ⟨fun hm => ?_, ih h.2 (fun i hi => hl i (List.mem_cons_of_mem _ hi))⟩
    obtain ⟨b, hb, he⟩ := List.mem_map.1 hm
    have := ofNat_inj (hl b (List.mem_cons_of_mem _ hb)) (hl a (List.mem_cons_self ..)) he
    exact h.1 (this ▸ hb)
theorem ats_nodup (k : Nat) (h : k ≤ 256) : (ats k).Nodup := map_nodup List.nodup_range (fun i hi => by have := List.mem_range.1 hi; omega)

/-- a column of rows -/
def col (rows : List (List UInt8)) (q : Nat) : List UInt8 := rows.map (·.getD q 0)
theorem col_length (rows : List (List UInt8)) (q : Nat) : (col rows q).length = rows.length := by simp [col]
theorem col_getD (rows : List (List UInt8)) (q i : Nat) : (col rows q).getD i 0 = (rows.getD i []).getD q 0 := by
  unfold col
  rw [List.getD_eq_getElem?_getD, List.getElem?_map, List.getD_eq_getElem?_getD]
  rcases Nat.lt_or_ge i rows.length with h | h
  · simp [List.getElem?_eq_getElem h]
  · simp [List.getElem?_eq_none h]
theorem thrus_getD (at_ : List UInt8) (rows : List (List UInt8)) (x : UInt8) (q : Nat) (h : q < (rows.headD []).length) : (thrus at_ rows x).getD q 0 = Gf.thro at_ (col rows q) x := by
  unfold thrus
  rw [List.getD_eq_getElem?_getD, List.getElem?_map, List.getElem?_range h]; rfl

/-- each row that is spread is the polynomials' value at its place -/
theorem spread_val (rows : List (List UInt8)) (n : Nat) (hk : rows.length ≤ 256) (i q : Nat) (hi : i < n) (hq : q < (rows.headD []).length) :
    ((spreadOf rows n).getD i []).getD q 0 = Gf.thro (ats rows.length) (col rows q) (UInt8.ofNat i) := by
  unfold spreadOf
  rcases Nat.lt_or_ge i rows.length with h | h
  · have e1 : (rows ++ (List.range (n - rows.length)).map fun j => thrus (ats rows.length) rows (UInt8.ofNat (rows.length + j))).getD i [] = rows.getD i [] := by
      rw [List.getD_eq_getElem?_getD, List.getElem?_append_left h, List.getD_eq_getElem?_getD]
    rw [e1, ← col_getD]
    have := Gf.thro_at (ats rows.length) (col rows q) (ats_nodup _ hk) (by rw [col_length, ats_length]) i (by rw [ats_length]; exact h)
    rw [ats_getD _ _ h] at this
    exact this.symm
  · have e1 : (rows ++ (List.range (n - rows.length)).map fun j => thrus (ats rows.length) rows (UInt8.ofNat (rows.length + j))).getD i [] = thrus (ats rows.length) rows (UInt8.ofNat i) := by
      rw [List.getD_eq_getElem?_getD, List.getElem?_append_right h, List.getElem?_map, List.getElem?_range (by omega)]
      simp only [Option.map_some, Option.getD_some]
      congr 2; omega
    rw [e1, thrus_getD _ _ _ _ hq]
theorem spread_row_length (rows : List (List UInt8)) (n L : Nat) (hL : (rows.headD []).length = L) (hall : ∀ r ∈ rows, r.length = L) : ∀ r ∈ spreadOf rows n, r.length = L := by
  intro r hr
  unfold spreadOf at hr
  rcases List.mem_append.1 hr with h | h
  · exact hall r h
  · obtain ⟨j, _, rfl⟩ := List.mem_map.1 h
    rw [thrus_length]; exact hL
theorem getD_mem {α : Type} {l : List α} {i : Nat} {d : α} (h : i < l.length) : l.getD i d ∈ l := by
  rw [List.getD_eq_getElem?_getD, List.getElem?_eq_getElem h]; exact List.getElem_mem _
theorem list_ext_getD {α : Type} {a b : List α} {d : α} (hl : a.length = b.length) (h : ∀ i, i < a.length → a.getD i d = b.getD i d) : a = b := by
  apply List.ext_getElem hl
  intro i h1 h2
  have := h i h1
  rw [List.getD_eq_getElem?_getD, List.getElem?_eq_getElem h1, List.getD_eq_getElem?_getD, List.getElem?_eq_getElem h2] at this
  simpa using this

/-- two that agree in as many rows as there are, agree -/
theorem spread_agree (a b : List (List UInt8)) (n L : Nat) (hab : a.length = b.length) (hk : a.length ≤ n) (hn : n ≤ 256) (ha : ∀ r ∈ a, r.length = L) (hb : ∀ r ∈ b, r.length = L) (h0 : 0 < a.length)
    (l : List Nat) (hl : l.Nodup) (hlen : a.length ≤ l.length) (hln : ∀ i ∈ l, i < n ∧ (spreadOf a n).getD i [] = (spreadOf b n).getD i []) : a = b := by
  have hha : (a.headD []).length = L := by cases a with | nil => simp at h0 | cons r rs => exact ha r (List.mem_cons_self ..)
  have hhb : (b.headD []).length = L := by cases b with | nil => rw [hab] at h0; simp at h0 | cons r rs => exact hb r (List.mem_cons_self ..)
  refine list_ext_getD (d := []) hab fun i hi => ?_
  have hla := ha _ (getD_mem (d := []) hi)
  have hlb := hb _ (getD_mem (d := []) (by omega : i < b.length))
  refine list_ext_getD (d := 0) (by omega) fun q hq => ?_
  have hq' : q < L := by omega
  have key : ∀ x, Gf.thro (ats a.length) (col a q) x = Gf.thro (ats b.length) (col b q) x := by
    have p1 : Gf.IsPoly a.length (Gf.thro (ats a.length) (col a q)) := by have := Gf.thro_poly (ats a.length) (col a q); rwa [ats_length] at this
    have p2 : Gf.IsPoly a.length (Gf.thro (ats b.length) (col b q)) := by
      have := Gf.thro_poly (ats b.length) (col b q)
      have e : (ats b.length).length = a.length := by rw [ats_length, hab]
      rw [e] at this; exact this
    refine p1.unique p2 (at_ := l.map UInt8.ofNat) (map_nodup hl (fun i hi => by have := (hln i hi).1; omega)) (by simpa using hlen) ?_
    intro y hy
    obtain ⟨j, hj, rfl⟩ := List.mem_map.1 hy
    have h1 := spread_val a n (by omega) j q (hln j hj).1 (by omega)
    have h2 := spread_val b n (by omega) j q (hln j hj).1 (by omega)
    rw [← h1, ← h2, (hln j hj).2]
  have h1 := spread_val a n (by omega) i q (by omega) (by omega)
  have h2 := spread_val b n (by omega) i q (by omega) (by omega)
  have e1 : (spreadOf a n).getD i [] = a.getD i [] := by
    unfold spreadOf; rw [List.getD_eq_getElem?_getD, List.getElem?_append_left hi, List.getD_eq_getElem?_getD]
  have e2 : (spreadOf b n).getD i [] = b.getD i [] := by
    unfold spreadOf; rw [List.getD_eq_getElem?_getD, List.getElem?_append_left (by omega), List.getD_eq_getElem?_getD]
  rw [e1] at h1
  rw [e2] at h2
  rw [h1, h2, key]

/-- in how many of the first k places two lists part -/
def parts (xs ys : List (List UInt8)) (k : Nat) : Nat := ((List.range k).filter fun i => decide (xs.getD i [] ≠ ys.getD i [])).length
theorem parts_succ (xs ys : List (List UInt8)) (k : Nat) : parts xs ys (k + 1) = parts xs ys k + if xs.getD k [] = ys.getD k [] then 0 else 1 := by
  unfold parts
  rw [List.range_succ, List.filter_append, List.length_append]
  congr 1
  by_cases h : xs.getD k [] = ys.getD k []
  · simp only [List.filter_cons, List.filter_nil]
    rw [if_neg (by simpa using h), if_pos h]; rfl
  · simp only [List.filter_cons, List.filter_nil]
    rw [if_pos (by simpa using h), if_neg h]; rfl
theorem parts_le (xs ys : List (List UInt8)) (k : Nat) : parts xs ys k ≤ k := by
  have := List.length_filter_le (fun i => decide (xs.getD i [] ≠ ys.getD i [])) (List.range k)
  simpa [parts] using this
theorem filter_split (p : Nat → Bool) (l : List Nat) : (l.filter p).length + (l.filter fun i => !p i).length = l.length := by
  induction l with
  | nil => rfl
  | cons a l ih =>
    simp only [List.filter_cons]
    cases h : p a <;> simp <;> omega
theorem nodup_filter {p : Nat → Bool} {l : List Nat} (h : l.Nodup) : (l.filter p).Nodup := h.filter p
/-- SINGLETON: two that differ part in more rows than were added. -/
theorem spread_far (a b : List (List UInt8)) (n L : Nat) (hab : a.length = b.length) (hk : a.length ≤ n) (hn : n ≤ 256) (ha : ∀ r ∈ a, r.length = L) (hb : ∀ r ∈ b, r.length = L) (h0 : 0 < a.length) (hne : a ≠ b) :
    n + 1 ≤ parts (spreadOf a n) (spreadOf b n) n + a.length := by
  have hs := filter_split (fun i => decide ((spreadOf a n).getD i [] ≠ (spreadOf b n).getD i [])) (List.range n)
  rw [List.length_range] at hs
  have hp : ((List.range n).filter fun i => decide ((spreadOf a n).getD i [] ≠ (spreadOf b n).getD i [])).length = parts (spreadOf a n) (spreadOf b n) n := rfl
  by_cases hc : a.length ≤ ((List.range n).filter fun i => !decide ((spreadOf a n).getD i [] ≠ (spreadOf b n).getD i [])).length
  · exfalso
    refine hne (spread_agree a b n L hab hk hn ha hb h0 _ (nodup_filter List.nodup_range) hc ?_)
    intro i hi
    obtain ⟨h1, h2⟩ := List.mem_filter.1 hi
    exact ⟨List.mem_range.1 h1, by simpa using h2⟩
  · omega
end Go.Proofs.YtkioddmhjbaleaaDoor
/- Shares in memory, and shares that come in. It says nothing of the program. -/
namespace Go.Proofs.YtkioddmhjbaleaaDoor
open Go.RowKit Go.ChangeShapes Go.WideShapes Go.ChangeAt
set_option linter.unusedVariables false

/-- a share: its place and its bytes -/
structure Sh where
  at_ : UInt8
  data : List UInt8
instance : Inhabited Sh := ⟨⟨0, []⟩⟩

/-- the cells of shares, two each -/
def AreS (E : Nat → TypeId → Prop) (w : World) (ss : List Sh) (vs : List Value) : Prop :=
  vs.length = 2 * ss.length ∧ ∀ i, (h : i < ss.length) → (h1 : 2 * i < vs.length) → (h2 : 2 * i + 1 < vs.length) → vs[2 * i] = vB ss[i].at_ ∧ IsB E w ss[i].data vs[2 * i + 1]
theorem AreS.nil {E : Nat → TypeId → Prop} {w : World} : AreS E w [] [] := ⟨rfl, fun i h => by simp at h⟩
theorem AreS.below {E : Nat → TypeId → Prop} {w w' : World} {ss : List Sh} {vs : List Value} (h : AreS E w ss vs) (hb : Below w.heap.size w w') : AreS E w' ss vs :=
  ⟨h.1, fun i hi h1 h2 => ⟨(h.2 i hi h1 h2).1, (h.2 i hi h1 h2).2.below hb⟩⟩
theorem AreS.mono {E E' : Nat → TypeId → Prop} {w : World} {ss : List Sh} {vs : List Value} (h : AreS E w ss vs) (hE : ∀ b e, b < w.heap.size → E b e → E' b e) : AreS E' w ss vs :=
  ⟨h.1, fun i hi h1 h2 => ⟨(h.2 i hi h1 h2).1, (h.2 i hi h1 h2).2.mono hE⟩⟩
theorem AreS.grown {E : Nat → TypeId → Prop} {w w' : World} {ss : List Sh} {vs : List Value} (h : AreS E w ss vs) {row : Option Nat} (hg : w.grownBy w' row)
    (hr : ∀ g, row = some g → ∃ cur e' fr, w.heap[g]? = some (.cells cur e' fr) ∧ ∀ e, E g e → e ≠ e') : AreS E w' ss vs :=
  ⟨h.1, fun i hi h1 h2 => ⟨(h.2 i hi h1 h2).1, (h.2 i hi h1 h2).2.grown hg hr⟩⟩
theorem AreS.snoc {E : Nat → TypeId → Prop} {w : World} {ss : List Sh} {vs : List Value} (h : AreS E w ss vs) {s : Sh} {v : Value} (hv : IsB E w s.data v) : AreS E w (ss ++ [s]) (vs ++ [vB s.at_, v]) := by
  refine ⟨by simp [h.1] <;> omega, fun i hi h1 h2 => ?_⟩
  by_cases e : i < ss.length
  · have l1 : 2 * i < vs.length := by rw [h.1]; omega
    have l2 : 2 * i + 1 < vs.length := by rw [h.1]; omega
    simp only [List.getElem_append_left e, List.getElem_append_left l1, List.getElem_append_left l2]
    exact h.2 i e l1 l2
  · have : i = ss.length := by simp at hi; omega
    subst this
    have e1 : 2 * ss.length - vs.length = 0 := by rw [h.1]; omega
    have e2 : 2 * ss.length + 1 - vs.length = 1 := by rw [h.1]; omega
    simp only [List.getElem_append_right (Nat.le_refl _), List.getElem_append_right (show vs.length ≤ 2 * ss.length by rw [h.1]; omega), List.getElem_append_right (show vs.length ≤ 2 * ss.length + 1 by rw [h.1]; omega), e1, e2, Nat.sub_self]
    exact ⟨rfl, hv⟩
theorem AreS.take {E : Nat → TypeId → Prop} {w : World} {ss : List Sh} {vs : List Value} (h : AreS E w ss vs) (n : Nat) : AreS E w (ss.take n) (vs.take (2 * n)) := by
  refine ⟨by simp [h.1] <;> omega, fun i hi h1 h2 => ?_⟩
  simp only [List.getElem_take]
  exact h.2 i (by simp at hi; omega) (by simp at h1; omega) (by simp at h2; omega)
theorem AreS.alloc {E : Nat → TypeId → Prop} {w : World} {ss : List Sh} {vs : List Value} (h : AreS E w ss vs) (o : Obj) : AreS E (w.alloc o) ss vs :=
  h.below ((Below.refl _ w).alloc (Nat.le_refl _) o)
/-- the two cells of a share -/
theorem AreS.cells {E : Nat → TypeId → Prop} {w : World} {a : Option Addr} {e : TypeId} {ss : List Sh} {vs : List Value} (hr : Rd w a e vs) (h : AreS E w ss vs) {k : Nat} (hk : k < ss.length) :
    ∃ b o a' c' e', a = some ⟨b, o, none⟩ ∧ b < w.heap.size ∧ w.cell? ⟨b, o + 2 * k, none⟩ = some (.int .u8 (ss[k].at_.toNat : Int)) ∧ w.cell? ⟨b, o + (2 * k + 1), none⟩ = some (.slice a' ss[k].data.length c') ∧ Rd w a' e' (ss[k].data.map vB) ∧ (∀ x, a' = some x → ss[k].data ≠ [] → E x.block e') ∧ ss[k].data.length ≤ 9223372036854775807 := by
  have l1 : 2 * k < vs.length := by rw [h.1]; omega
  have l2 : 2 * k + 1 < vs.length := by rw [h.1]; omega
  obtain ⟨b, o, ha, hb, hc⟩ := hr.cell l1
  obtain ⟨h1, a', c', e', h2, h3, h4, h5⟩ := h.2 k hk l1 l2
  refine ⟨b, o, a', c', e', ha, hb, ?_, ?_, h3, h4, h5⟩
  · rw [hc _ l1, h1]; rfl
  · rw [hc _ l2, h2]

section
variable {H : Type} {enc : TypeId × Value → H} {P : Program} {w : World} {spare : Nat → Bool} {held : Bool}
theorem trod_share {t q u : TypeId} {f0 f1 : Field} {n : Nat} {cs : List Value} {y : DataW H × List MemPlace} (ht : P.underlying t = some (.struct #[f0, f1])) (h0 : P.underlying f0.type = some (.int .u8)) (h1 : P.underlying f1.type = some (.slice u)) (hu : P.underlying u = some (.int .u8))
    (hc : P.cellsOf t = 2) (c0 : P.cellsOf f0.type = 1) (c1 : P.cellsOf f1.type = 1) (cu : P.cellsOf u = 1) (o0 : f0.offset = 0) (o1 : f1.offset = 1)
    (h : DataW.trod enc P w 0 spare held n t cs = some y) : ∃ (s : Sh) (v : Value), cs = [vB s.at_, v] ∧ IsB (fun _ _ => True) w s.data v := by
  obtain ⟨y0, y1, m, _, hl, g0, g1⟩ := trod_struct2 ht h
  rw [hc] at hl
  match cs, hl with
  | [v0, v1], _ =>
    rw [o0, c0] at g0
    rw [o1, c1] at g1
    simp only [List.drop_zero, List.take_succ_cons, List.take_zero, List.drop_succ_cons] at g0 g1
    obtain ⟨b, hb⟩ := byte_of_trod h0 g0
    obtain ⟨xs, a, cap, h2, h3, h4, e', h5⟩ := trod_bytes h1 hu cu g1
    simp only [List.cons.injEq, and_true] at hb h2
    refine ⟨⟨b, xs⟩, v1, by rw [hb], a, cap, e', h2, h5, fun _ _ _ => trivial, by simp only [maxLen] at h4; show xs.length ≤ _; omega⟩
theorem flatMap_pairs (F : Nat → List Value) (n : Nat) (h : ∀ i, i < n → (F i).length = 2) : ((List.range n).flatMap F).length = 2 * n ∧ ∀ i, i < n → ((List.range n).flatMap F)[2 * i]? = (F i)[0]? ∧ ((List.range n).flatMap F)[2 * i + 1]? = (F i)[1]? := by
  induction n with
  | zero => exact ⟨rfl, fun i hi => by omega⟩
  | succ n ih =>
    obtain ⟨h1, h2⟩ := ih (fun i hi => h i (by omega))
    rw [List.range_succ, List.flatMap_append]
    simp only [List.flatMap_cons, List.flatMap_nil, List.append_nil]
    refine ⟨by rw [List.length_append, h1, h n (by omega)]; omega, fun i hi => ?_⟩
    by_cases e : i < n
    · rw [List.getElem?_append_left (by omega), List.getElem?_append_left (by omega)]
      exact h2 i e
    · obtain rfl : i = n := by omega
      rw [List.getElem?_append_right (by omega), List.getElem?_append_right (by omega), h1]
      simp
theorem open_shares {r : Reach} {b0 : Nat} {t e u : TypeId} {f0 f1 : Field} {v : Value} {d : DataW H} {ps : List MemPlace} (ht : P.underlying t = some (.slice e)) (he : P.underlying e = some (.struct #[f0, f1])) (h0 : P.underlying f0.type = some (.int .u8)) (h1 : P.underlying f1.type = some (.slice u)) (hu : P.underlying u = some (.int .u8))
    (hc : P.cellsOf e = 2) (c0 : P.cellsOf f0.type = 1) (c1 : P.cellsOf f1.type = 1) (cu : P.cellsOf u = 1) (o0 : f0.offset = 0) (o1 : f1.offset = 1)
    (hval : Value.okWide P w r b0 t v) (h : DataW.Trod enc P w 0 spare held t v d ps) : ∃ (ss : List Sh) (a : Option Addr) (cap e' : Nat) (vs : List Value), v = .slice a ss.length cap ∧ ss.length ≤ cap ∧ cap ≤ 9223372036854775807 ∧ Rd w a e' vs ∧ AreS (fun _ _ => True) w ss vs := by
  obtain ⟨a, len, cap, rfl⟩ := okWide_slice ht hval
  obtain ⟨fuel, hf⟩ := h
  obtain ⟨a', len', cap', hcs, hl, hm, F, n, hF, e', hr⟩ := trod_list ht hf
  simp [Value.cells] at hcs
  obtain ⟨rfl, rfl, rfl⟩ := hcs
  obtain ⟨S, hS⟩ := Deep.choose_lt (α := Sh × Value) (n := len) (p := fun i b => F i = [vB b.1.at_, b.2] ∧ IsB (fun _ _ => True) w b.1.data b.2) (fun i hi => by
    obtain ⟨y, hy⟩ := (hF i hi).2
    obtain ⟨s, v, h1, h2⟩ := trod_share (q := u) he h0 h1 hu hc c0 c1 cu o0 o1 hy
    exact ⟨(s, v), h1, h2⟩)
  obtain ⟨g1, g2⟩ := flatMap_pairs F len (fun i hi => by rw [(hF i hi).1, hc])
  refine ⟨(List.range len).map fun i => (S i).1, a, cap, e', _, by simp, by simpa using hl, by simp only [maxLen] at hm; omega, hr, by simp [g1], fun i hi k1 k2 => ?_⟩
  have hi' : i < len := by simpa using hi
  obtain ⟨q1, q2⟩ := g2 i hi'
  obtain ⟨s1, s2⟩ := hS i hi'
  rw [s1] at q1 q2
  rw [List.getElem?_eq_getElem k1] at q1
  rw [List.getElem?_eq_getElem k2] at q2
  simp only [List.getElem?_cons_zero, Option.some.injEq, List.getElem?_cons_succ] at q1 q2
  simp only [List.getElem_map, List.getElem_range]
  rw [q1, q2]
  exact ⟨rfl, s2⟩
end
end Go.Proofs.YtkioddmhjbaleaaDoor
/- Walk: code.Gather tells the first rows of any so many. -/
namespace Go.Proofs.YtkioddmhjbaleaaDoor
open Go.RowKit
set_option linter.unusedVariables false

/-- what is wrong with share number i, behind those ahead of it -/
def faultAt (lo hi : Nat) (ss : List Sh) (i : Nat) : Int :=
  if (ss.getD i default).at_.toNat < lo ∨ hi < (ss.getD i default).at_.toNat then 2
  else if (ss.getD i default).at_ ∈ (ss.take i).map (·.at_) then 7
  else if (ss.getD i default).data.length ≠ (ss.headD default).data.length then 3 else 0
/-- what is wrong with the first n shares, one by one -/
def sharesF (lo hi : Nat) (ss : List Sh) : Nat → Int
  | 0 => 0
  | n + 1 => if sharesF lo hi ss n ≠ 0 then sharesF lo hi ss n else faultAt lo hi ss n
theorem sharesF_stop {lo hi : Nat} {ss : List Sh} {n m : Nat} (h : sharesF lo hi ss n ≠ 0) (hm : n ≤ m) : sharesF lo hi ss m = sharesF lo hi ss n := by
  induction m with
  | zero => obtain rfl : n = 0 := by omega
            rfl
  | succ m ih =>
    by_cases e : n = m + 1
    · rw [e]
    · have := ih (by omega)
      simp only [sharesF]
      rw [if_pos (by rw [this]; exact h), this]
theorem sharesF_zero {lo hi : Nat} {ss : List Sh} {n : Nat} (h : sharesF lo hi ss n = 0) : ∀ i, i < n → faultAt lo hi ss i = 0 := by
  induction n with
  | zero => intro i hin; omega
  | succ n ih =>
    intro i hin
    simp only [sharesF] at h
    by_cases e : sharesF lo hi ss n = 0
    · rw [if_neg (by simpa using e)] at h
      by_cases g : i = n
      · rw [g]; exact h
      · exact ih e i (by omega)
    · rw [if_pos e] at h; exact absurd h e

theorem AreS.datas {E : Nat → TypeId → Prop} {w : World} {ss : List Sh} {vs : List Value} (h : AreS E w ss vs) : AreB E w (ss.map (·.data)) ((List.range ss.length).map fun i => vs.getD (2 * i + 1) undef) := by
  refine ⟨by simp, fun i hi h' => ?_⟩
  have hi' : i < ss.length := by simpa using hi
  have l1 : 2 * i < vs.length := by rw [h.1]; omega
  have l2 : 2 * i + 1 < vs.length := by rw [h.1]; omega
  have := (h.2 i hi' l1 l2).2
  simp only [List.getElem_map, List.getElem_range]
  rw [List.getD_eq_getElem?_getD, List.getElem?_eq_getElem l2]
  exact this

def gatherOf (ss : List Sh) (k : Nat) : List (List UInt8) := (List.range k).map fun i => thrus ((ss.take k).map (·.at_)) ((ss.take k).map (·.data)) (UInt8.ofNat i)

def GatherPost (w : World) (ss : List Sh) (k : Nat) (e : Ending) (w' : World) : Prop :=
  Below w.heap.size w w' ∧ ((sharesF 0 19 ss k = 0 ∧ ∃ a cap vs, e = .returned (.tuple #[.slice a k cap, .nilIface]) ∧ Rd w' a 67 vs ∧ AreB (fun b e => e = 5 ∧ w.heap.size ≤ b) w' (gatherOf ss k) vs) ∨
    (sharesF 0 19 ss k ≠ 0 ∧ e = .returned (.tuple #[.slice none 0 0, .iface 41 (.int .i64 (sharesF 0 19 ss k))])))

theorem gatherOf_take (ss : List Sh) (k m : Nat) (h : m < k) : (gatherOf ss k).take (m + 1) = (gatherOf ss k).take m ++ [thrus ((ss.take k).map (·.at_)) ((ss.take k).map (·.data)) (UInt8.ofNat m)] := by
  rw [List.take_succ_eq_append_getElem (by simp [gatherOf]; exact h)]
  simp [gatherOf]
theorem Through_at2 (at_ : List UInt8) (rows : List (List UInt8)) (x : UInt8) (y : Int) (hy : y = x.toNat) (a b : Option Addr) (ca ea cb eb L n n2 : Nat) (vs : List Value) (w : World) (ha : Rd w a ea (at_.map vB)) (hb : Rd w b eb vs) (hv : AreB (fun _ _ => True) w rows vs)
    (hn : n = at_.length) (hn2 : n2 = rows.length) (h1 : 0 < rows.length) (hal : at_.length = rows.length) (hr : rows.length ≤ 1000) (hL : L ≤ 140737488355328) (hall : ∀ r ∈ rows, r.length = L) :
    Calls Tryd.prog 61 #[.slice a n ca, .slice b n2 cb, .int .u8 y] w (RetB w (thrus at_ rows x)) := by
  subst hy hn hn2; exact Through_calls at_ rows x a b ca ea cb eb L vs w ha hb hv h1 hal hr hL hall
theorem Contains_at (xs : List UInt8) (v : UInt8) (n : Nat) (hn : n = xs.length) (a : Option Addr) (ca ea : Nat) (w : World) (ha : Rd w a ea (xs.map vB)) (hx : xs.length ≤ 9223372036854775806) :
    Calls Tryd.prog 60 #[.slice a n ca, .int .u8 v.toNat] w fun e w' => e = .returned (.bool (decide (v ∈ xs))) ∧ w = w' := by
  subst hn; exact Contains_calls xs v a ca ea w ha hx

end Go.Proofs.YtkioddmhjbaleaaDoor
/- REED AND SOLOMON: of the rows that some were spread to any as many as those tell those again. No walk here. -/
namespace Go.Proofs.YtkioddmhjbaleaaDoor

/-- the rows at some places, as shares -/
def picked (all : List (List UInt8)) (which : List Nat) : List Sh := which.map fun j => ⟨UInt8.ofNat j, all.getD j []⟩
theorem picked_length (all : List (List UInt8)) (which : List Nat) : (picked all which).length = which.length := by simp [picked]
theorem picked_at (all : List (List UInt8)) (which : List Nat) : (picked all which).map (·.at_) = which.map UInt8.ofNat := by simp [picked, Function.comp_def]
theorem picked_data (all : List (List UInt8)) (which : List Nat) : (picked all which).map (·.data) = which.map fun j => all.getD j [] := by simp [picked, Function.comp_def]

theorem gather_spread (rows : List (List UInt8)) (n L : Nat) (which : List Nat) (h0 : 0 < rows.length) (hk : rows.length ≤ n) (hn : n ≤ 256) (hall : ∀ r ∈ rows, r.length = L) (hw : which.length = rows.length) (hnd : which.Nodup) (hlt : ∀ j ∈ which, j < n) :
    gatherOf (picked (spreadOf rows n) which) rows.length = rows := by
  have hh : (rows.headD []).length = L := by cases rows with | nil => simp at h0 | cons r rs => exact hall r (List.mem_cons_self ..)
  have hpl : (picked (spreadOf rows n) which).length = rows.length := by rw [picked_length, hw]
  have hsl := spreadOf_length rows n hk
  have hrl := spread_row_length rows n L hh hall
  unfold gatherOf
  rw [List.take_of_length_le (by omega), picked_at, picked_data]
  refine list_ext_getD (d := []) (by simp) fun i hi => ?_
  have hi' : i < rows.length := by simpa using hi
  rw [List.getD_eq_getElem?_getD, List.getElem?_map, List.getElem?_range hi']
  simp only [Option.map_some, Option.getD_some]
  have hhd : ((which.map fun j => (spreadOf rows n).getD j []).headD []).length = L := by
    cases which with
    | nil => simp at hw; omega
    | cons j js => exact hrl _ (getD_mem (by rw [hsl]; exact hlt j (List.mem_cons_self ..)))
  have hri := hall _ (getD_mem (d := []) hi')
  refine list_ext_getD (d := 0) (by rw [thrus_length, hhd, hri]) fun q hq => ?_
  rw [thrus_length, hhd] at hq
  rw [thrus_getD _ _ _ _ (by rw [hhd]; exact hq)]
  have hcol : col (which.map fun j => (spreadOf rows n).getD j []) q = (which.map UInt8.ofNat).map (Gf.thro (ats rows.length) (col rows q)) := by
    unfold col
    rw [List.map_map, List.map_map]
    refine List.map_congr_left fun j hj => ?_
    exact spread_val rows n (by omega) j q (hlt j hj) (by omega)
  have hp : Gf.IsPoly rows.length (Gf.thro (ats rows.length) (col rows q)) := by
    have := Gf.thro_poly (ats rows.length) (col rows q)
    rwa [ats_length] at this
  rw [hcol, Gf.lagrange hp _ (map_nodup hnd (fun j hj => by have := hlt j hj; omega)) (by simp; omega)]
  have h2 := spread_val rows n (by omega) i q (by omega) (by omega)
  rw [← h2]
  congr 1
  unfold spreadOf
  rw [List.getD_eq_getElem?_getD, List.getElem?_append_left hi', List.getD_eq_getElem?_getD]

theorem picked_fault (rows : List (List UInt8)) (n L : Nat) (which : List Nat) (h0 : 0 < rows.length) (hk : rows.length ≤ n) (hn : n ≤ 20) (hall : ∀ r ∈ rows, r.length = L) (hnd : which.Nodup) (hlt : ∀ j ∈ which, j < n) :
    ∀ m, m ≤ which.length → sharesF 0 19 (picked (spreadOf rows n) which) m = 0 := by
  have hh : (rows.headD []).length = L := by cases rows with | nil => simp at h0 | cons r rs => exact hall r (List.mem_cons_self ..)
  have hsl := spreadOf_length rows n hk
  have hrl := spread_row_length rows n L hh hall
  intro m
  induction m with
  | zero => intro _; rfl
  | succ m ih =>
    intro hm
    simp only [sharesF]
    rw [if_neg (by simpa using ih (by omega))]
    have hg : (picked (spreadOf rows n) which).getD m default = ⟨UInt8.ofNat which[m], (spreadOf rows n).getD which[m] []⟩ := by
      unfold picked
      rw [List.getD_eq_getElem?_getD, List.getElem?_map, List.getElem?_eq_getElem (by omega)]; rfl
    have hl := hlt which[m] (List.getElem_mem _)
    unfold faultAt
    rw [hg]
    have hb : (UInt8.ofNat which[m]).toNat = which[m] := by simp; omega
    rw [if_neg (by simp only [hb]; omega), if_neg, if_neg]
    · simp only [ne_eq, Decidable.not_not]
      rw [hrl _ (getD_mem (by omega))]
      have : (picked (spreadOf rows n) which).headD default = ⟨UInt8.ofNat which[0], (spreadOf rows n).getD which[0] []⟩ := by
        cases which with
        | nil => simp at hm
        | cons j js => rfl
      rw [this, hrl _ (getD_mem (by have := hlt which[0] (List.getElem_mem _); omega))]
    · simp only [List.map_take, picked_at]
      rw [← List.map_take]
      intro hmem
      obtain ⟨j, hj, he⟩ := List.mem_map.1 hmem
      obtain ⟨i, hi, rfl⟩ := List.mem_iff_getElem.1 hj
      have hi' : i < m := by simp at hi; omega
      rw [List.getElem_take] at he
      have h1 := hlt which[i] (List.getElem_mem _)
      have := ofNat_inj (by omega) (by omega) he
      have := (List.getElem_inj hnd).1 this
      omega
end Go.Proofs.YtkioddmhjbaleaaDoor
/- The cells of shares that are picked. No walk here. -/
namespace Go.Proofs.YtkioddmhjbaleaaDoor
theorem info_share : (Tryd.prog.info? 71).map (fun i => (i.zero, i.size, i.bytes)) = some (some (.agg #[.int .u8 0, .slice none 0 0]), 2, 32) := by kernel_rfl

/-- the cells of the shares that are picked -/
def cellsOf (xvs : List Value) (which : List Int) (k : Nat) : List Value := (List.range k).flatMap fun i => [.int .u8 (which.getD i 0), xvs.getD (which.getD i 0).toNat undef]
theorem cellsOf_succ (xvs : List Value) (which : List Int) (k : Nat) : cellsOf xvs which (k + 1) = cellsOf xvs which k ++ [.int .u8 (which.getD k 0), xvs.getD (which.getD k 0).toNat undef] := by
  simp [cellsOf, List.range_succ]
theorem AreB.isB {E : Nat → TypeId → Prop} {w : World} {rows : List (List UInt8)} {vs : List Value} (h : AreB E w rows vs) {i : Nat} (hi : i < rows.length) : IsB E w (rows.getD i []) (vs.getD i undef) := by
  have hv : i < vs.length := by rw [h.1]; exact hi
  have := h.2 i hi hv
  rw [List.getD_eq_getElem?_getD, List.getElem?_eq_getElem hi, List.getD_eq_getElem?_getD, List.getElem?_eq_getElem hv]
  exact this
theorem picked_snoc (all : List (List UInt8)) (js : List Nat) (j : Nat) : picked all (js ++ [j]) = picked all js ++ [⟨UInt8.ofNat j, all.getD j []⟩] := by
  simp only [picked, List.map_append, List.map_cons, List.map_nil]
theorem cellsOf_are {w : World} {all : List (List UInt8)} {xvs : List Value} {which : List Int} {n : Nat} (hA : AreB (fun _ _ => True) w all xvs) (hn : all.length = n) (hn2 : n ≤ 256) : ∀ k, (∀ i, i < k → 0 ≤ which.getD i 0 ∧ which.getD i 0 < n) → k ≤ which.length →
    AreS (fun _ _ => True) w (picked all ((which.take k).map Int.toNat)) (cellsOf xvs which k) := by
  intro k
  induction k with
  | zero => intro _ _; exact AreS.nil
  | succ k ih =>
    intro h hk
    have h1 := h k (by omega)
    have e1 : which.getD k 0 = which[k]'(by omega) := by rw [List.getD_eq_getElem?_getD, List.getElem?_eq_getElem (by omega)]; rfl
    have e2 : picked all ((which.take (k + 1)).map Int.toNat) = picked all ((which.take k).map Int.toNat) ++ [⟨UInt8.ofNat (which.getD k 0).toNat, all.getD (which.getD k 0).toNat []⟩] := by
      rw [List.take_succ_eq_append_getElem (by omega), e1, List.map_append]
      exact picked_snoc _ _ _
    rw [e2, cellsOf_succ]
    have hz : (which.getD k 0).toNat < all.length := by omega
    have := (ih (fun i hi => h i (by omega)) (by omega)).snoc (s := ⟨UInt8.ofNat (which.getD k 0).toNat, all.getD (which.getD k 0).toNat []⟩) (v := xvs.getD (which.getD k 0).toNat undef) (hA.isB hz)
    have e3 : vB (UInt8.ofNat (which.getD k 0).toNat) = .int .u8 (which.getD k 0) := by
      obtain ⟨z, hz⟩ : ∃ z : Nat, which.getD k 0 = z := ⟨(which.getD k 0).toNat, by omega⟩
      rw [hz] at h1 ⊢
      have h2 : z < 256 := by omega
      unfold vB
      simp [Nat.mod_eq_of_lt h2]
    rw [e3] at this
    exact this
theorem toNat_nodup {l : List Int} (h : l.Nodup) (hl : ∀ i ∈ l, 0 ≤ i) : (l.map Int.toNat).Nodup := by
  induction l with
  | nil => simp
  | cons a l ih =>
    rw [List.nodup_cons] at h
    rw [List.map_cons, List.nodup_cons]
    refine ⟨fun hm => ?_, ih h.2 (fun i hi => hl i (List.mem_cons_of_mem _ hi))⟩
    obtain ⟨b, hb, he⟩ := List.mem_map.1 hm
    have h1 := hl b (List.mem_cons_of_mem _ hb)
    have h2 := hl a (List.mem_cons_self ..)
    have : b = a := by omega
    exact h.1 (this ▸ hb)
theorem take_mem {l : List Int} {k : Nat} {P : Int → Prop} (h : ∀ i, i < k → P (l.getD i 0)) : ∀ i ∈ l.take k, P i := by
  intro i hi
  obtain ⟨j, hj, rfl⟩ := List.mem_iff_getElem.1 hi
  have hj' : j < k ∧ j < l.length := by simp at hj; omega
  have := h j hj'.1
  rw [List.getD_eq_getElem?_getD, List.getElem?_eq_getElem hj'.2] at this
  rw [List.getElem_take]
  exact this
theorem own_cap {w : World} {base : Nat} {e : TypeId} {size : Nat} {a : Option Addr} {n cap : Nat} {xs : List Value} (h : w.ownsRow base e size (.slice a n cap) n xs) : n ≤ cap ∧ cap ≤ 9223372036854775807 := by
  rcases h.2 with ⟨h1, h2⟩ | ⟨g, cap', cur, hv, _, _, h1, h2, _⟩
  · simp only [Value.slice.injEq] at h1
    omega
  · simp only [Value.slice.injEq] at hv
    simp only [maxLen] at h2
    omega
end Go.Proofs.YtkioddmhjbaleaaDoor
/- What shares of a secret are, and rows that a walk owns. No walk here. -/
namespace Go.Proofs.YtkioddmhjbaleaaDoor
open Go.RowKit
/-- the polynomial of a place of the secret -/
def coefs (secret : List UInt8) (more : List (List UInt8)) (i : Nat) : List UInt8 := secret.getD i 0 :: more.map (·.getD i 0)
def shareOf (secret : List UInt8) (more : List (List UInt8)) (x : UInt8) : Sh := ⟨x, (List.range secret.length).map fun i => Gf.val (coefs secret more i) x⟩
def splitOf (secret : List UInt8) (n : Nat) (more : List (List UInt8)) : List Sh := (List.range n).map fun k => shareOf secret more (UInt8.ofNat (k + 1))
theorem splitOf_length (secret : List UInt8) (n : Nat) (more : List (List UInt8)) : (splitOf secret n more).length = n := by simp [splitOf]
theorem splitOf_take (secret : List UInt8) (n : Nat) (more : List (List UInt8)) (k : Nat) (h : k < n) : (splitOf secret n more).take (k + 1) = (splitOf secret n more).take k ++ [shareOf secret more (UInt8.ofNat (k + 1))] := by
  rw [List.take_succ_eq_append_getElem (by rw [splitOf_length]; exact h)]
  simp [splitOf]
/-- what is wrong with what is to be split -/
def splitF (secret : List UInt8) (n : Int) (more : List (List UInt8)) : Int :=
  if n < 1 ∨ 20 < n then 2 else if 100 < secret.length ∨ 20 < more.length then 4 else if ∃ r ∈ more, r.length ≠ secret.length then 3 else 0
theorem splitF_zero {secret : List UInt8} {n : Int} {more : List (List UInt8)} (h : splitF secret n more = 0) : 1 ≤ n ∧ n ≤ 20 ∧ secret.length ≤ 100 ∧ more.length ≤ 20 ∧ ∀ r ∈ more, r.length = secret.length := by
  unfold splitF at h
  split at h
  · cases h
  · split at h
    · cases h
    · split at h
      · cases h
      · rename_i h1 h2 h3
        refine ⟨by omega, by omega, by omega, by omega, fun r hr => ?_⟩
        by_cases e : r.length = secret.length
        · exact e
        · exact absurd ⟨r, hr, e⟩ h3

/-- a row that is made with all of its elements -/
theorem own_new1 (w : World) (base : Nat) (e : TypeId) (v : Value) (hb : base ≤ w.heap.size) : (w.alloc (.cells #[v] e)).ownsRow base e 1 (.slice (some ⟨w.heap.size, 0, none⟩) 1 1) 1 [v] :=
  ⟨by simp, .inr ⟨w.heap.size, 1, #[v], rfl, hb, heap_alloc_new w _, Nat.le_refl _, by simp [maxLen], by simp, by simp⟩⟩
/-- a store elsewhere -/
theorem own_setOther {w : World} {base : Nat} {e : TypeId} {size : Nat} {v : Value} {n : Nat} {xs : List Value} (h : w.ownsRow base e size v n xs) (p : Addr) (u : Value) (hp : ∀ g, v.ownBlock = some g → g ≠ p.block) : (w.setCell p u).ownsRow base e size v n xs := by
  refine ⟨h.1, ?_⟩
  rcases h.2 with h2 | ⟨g, cap, cur, hv, hb, hg, r⟩
  · exact .inl h2
  · refine .inr ⟨g, cap, cur, hv, hb, ?_, r⟩
    rw [Below.heap_setCell _ _ _ _ (hp g (by rw [hv]; rfl))]
    exact hg
theorem own_ne {w : World} {base : Nat} {e : TypeId} {size : Nat} {v : Value} {n : Nat} {xs : List Value} (h : w.ownsRow base e size v n xs) {b : Nat} (hb : b < base) : ∀ g, v.ownBlock = some g → g ≠ b := by
  intro g hg; have := (h.lt g hg).1; omega
end Go.Proofs.YtkioddmhjbaleaaDoor
/- A call of a function, as a step of a region that draws its order. It says nothing of the program. -/
namespace Go.Proofs.YtkioddmhjbaleaaDoor
open Go.RowKit
section
variable {P : Program} {w : World} {ops : Array Oper} {o : Oper} {a : Act} {K : Act → World → Prop} {Q : Exit → Act → World → Prop} {E : Prop}
theorem stepCall2 (f : FuncId) {fn : Func} (hf : P.funcs[f]? = some fn) (hn : (fn.name == "runtime.NumGoroutine") = false) (hb : fn.body.isNone = false) (x y : Operand) (tys : Array TypeId) (hgd : o.guard = none) (ho : o.op = .call { callee := .value (.func f), args := #[x, y], argTypes := tys }) (u v : Value) (hx : a.eval x = u) (hy : a.eval y = v) {Post : Value → World → Prop}
    (hc : Calls P f #[u, v] w fun e w' => ∃ r, e = .returned r ∧ Post r w') (h : ∀ r w', Post r w' → K (a.put o.dst r) w') :
    if Region.wanted o (yielded ops a.tmps) = true then Oper.wp P o a w K Q else E := by
  have hw : Region.wanted o (yielded ops a.tmps) = true := by simp [Region.wanted, hgd]
  rw [if_pos hw]
  unfold Oper.wp execOp
  have e1 : a.eval (.func f) = .func (.func f) #[] #[] := rfl
  have e2 : Sem.run P program w = .ok P w := rfl
  simp only [ho, resolve, e1, hx, hy, List.map_toArray, List.map_cons, List.map_nil, Deferred.ofValue, Sem.run_bind, Sem.run_pure, Result.andThen_ok, invoke, callFunc, Array.append_empty, e2, hf, hn, hb, Bool.false_eq_true, if_false, Oper.upon_enter, Array.empty_append]
  refine hc.mono ?_
  rintro e w' ⟨r, rfl, hp⟩
  exact h r w' hp
end
end Go.Proofs.YtkioddmhjbaleaaDoor
/- Walks: slices.Backward over a list of bytes, and the value of a polynomial, which ranges over it. -/
namespace Go.Proofs.YtkioddmhjbaleaaDoor
open Go.RowKit Go.Shelf
set_option linter.unusedVariables false
attribute [local go_sem] Oper.semAt_some

/-- what has come when k rounds are over: from the list's end on -/
def bk (xs : List UInt8) (k : Nat) : List (Nat × UInt8) := (List.range k).map fun j => (xs.length - 1 - j, xs.getD (xs.length - 1 - j) 0)
theorem bk_succ (xs : List UInt8) (k : Nat) : bk xs (k + 1) = bk xs k ++ [(xs.length - 1 - k, xs.getD (xs.length - 1 - k) 0)] := by simp [bk, List.range_succ]
theorem bk_length (xs : List UInt8) (k : Nat) : (bk xs k).length = k := by simp [bk]

/-- below a number all is as it was, and one block beside -/
def KeepB (n₀ Bs : Nat) (A B : World) : Prop := Below n₀ A B ∧ B.heap[Bs]? = A.heap[Bs]?
theorem KeepB.refl (n₀ Bs : Nat) (A : World) : KeepB n₀ Bs A A := ⟨Below.refl _ _, rfl⟩
theorem KeepB.trans {n₀ Bs : Nat} {A B C : World} (h : KeepB n₀ Bs A B) (k : KeepB n₀ Bs B C) : KeepB n₀ Bs A C := ⟨h.1.trans k.1, k.2.trans h.2⟩
theorem keepB_b {n₀ Bs : Nat} {w : World} (hn : n₀ ≤ w.heap.size) (hB : Bs < w.heap.size) (W : World) (l : Nat) (o o' : Obj) (hl : w.heap.size ≤ l) (h : W.heap[l]? = some o) (hc : o.isCells = false) (hw : o.isWalk = false) : KeepB n₀ Bs W (W.putObj l o') :=
  ⟨belowK_b hn W l o o' hl h hc hw, World.putObj_heap_other (by omega)⟩

set_option maxRecDepth 100000 in
set_option maxHeartbeats 2000000 in
theorem back1_in (F : Fence) (n : Nat) (h8 : F.fn 122) (hro : F.round = none) (hn : 1 ≤ n) (l Bs n₀ cap : Nat) (a : Option Addr) (e : TypeId) (xs : List UInt8) (hx : xs.length ≤ 9223372036854775807) (J Jx : List (Nat × UInt8) → World → Prop)
    (hY : ∀ pre x W, J pre W → pre.length < xs.length → YieldAt F (n - 1) Tryd.prog l #[.int .i64 (x.1 : Int), .int .u8 (x.2.toNat : Int)] W fun e W' =>
      (e = .returned (.bool true) ∧ J (pre ++ [x]) W' ∧ KeepB n₀ Bs W W') ∨ (e = .returned (.bool false) ∧ Jx (pre ++ [x]) W'))
    (W : World) (hBs : W.cell? ⟨Bs, 0, none⟩ = some (.slice a xs.length cap)) (hr : Rd W a e (xs.map vB)) (hrn : ∀ x, a = some x → xs ≠ [] → x.block < n₀) (h0 : J [] W) :
    CallsIn F n Tryd.prog 122 #[.func (.yield l) #[] #[], .pointer (some ⟨Bs, 0, none⟩)] W fun e W' => (∃ v, e = .returned v) ∧
      ((∃ ys, ys = bk xs xs.length ∧ J ys W') ∨ (∃ pre, (∃ k, k ≤ xs.length ∧ pre = bk xs k) ∧ Jx pre W')) := by
  refine callsIn_of_wp Tryd.func122 rfl h8 ?_ hro
  simp only [Tryd.ntmps122, List.size_toArray, List.length_cons, List.length_nil, Nat.reduceAdd, Nat.reduceSub, Array.replicate_succ, Array.replicate_zero, List.push_toArray, List.append_toArray, List.nil_append, List.cons_append]
  gi_wp2
  gi_loopw [3] (fun i wr => ∃ k : Nat, k ≤ xs.length ∧ i = .int .i64 ((xs.length : Int) - 1 - k) ∧ J (bk xs k) wr ∧ KeepB n₀ Bs W wr)
    (fun i _ => (intOf i + 1).toNat)
  case atStart => exact ⟨0, Nat.zero_le _, by go_num, h0, KeepB.refl _ _ _⟩
  case round =>
    obtain ⟨k, hk, rfl, hJs, hnx⟩ := hrel
    by_cases hlt : k < xs.length
    · obtain ⟨m, hm⟩ : ∃ m : Nat, m = xs.length - 1 - k := ⟨_, rfl⟩
      have hml : m < xs.length := by omega
      have hmi : (xs.length : Int) - 1 - (k : Int) = (m : Int) := by omega
      rw [hmi]
      obtain ⟨b, o, rfl, _, hc⟩ := hr.bytes hml
      have hbn : b < n₀ := hrn _ rfl (fun h => by rw [h] at hml; simp at hml)
      have hcx : wr.cell? ⟨b, o + m, none⟩ = some (.int .u8 (xs[m].toNat : Int)) := (hnx.1.cell (p := ⟨b, o + m, none⟩) hbn).trans (hc m hml)
      have hBx : wr.cell? ⟨Bs, 0, none⟩ = some (.slice (some ⟨b, o, none⟩) xs.length cap) := (World.cell?_of_block (w := W) (a := ⟨Bs, 0, none⟩) hnx.2).trans hBs
      obtain ⟨fn, tmps, assign, body, hy, hR⟩ := hY _ (m, xs[m]) wr hJs (by rw [bk_length]; exact hlt)
      dsimp only at hy
      have hsucc : bk xs k ++ [(m, xs[m])] = bk xs (k + 1) := by
        rw [bk_succ, ← hm, List.getD_eq_getElem?_getD, List.getElem?_eq_getElem hml]; rfl
      have Hs := Lib.hid hsucc
      have Hm := Lib.hid hm
      clear hsucc hm hc hmi
      gi_wp2
      refine hR.mono ?_
      rintro e' W3 (⟨rfl, hJ3, hk3⟩ | ⟨rfl, hJx3⟩)
      · gi_wp2
        go_roundw
        case rel => exact ⟨k + 1, by omega, by have := Hm.out; go_num, by rw [← Hs.out]; exact hJ3, hnx.trans hk3⟩
        case measure => simp [intOf] <;> omega
      · gi_wp2
        refine bodyPost_ret (results_none rfl _ _ _) rfl ?_
        exact ⟨⟨_, rfl⟩, .inr ⟨_, ⟨k + 1, by omega, Hs.out⟩, hJx3⟩⟩
    · obtain rfl : k = xs.length := by omega
      have e1 : (xs.length : Int) - 1 - (xs.length : Int) = -1 := by omega
      rw [e1]
      gi_wp2
      go_end0
      exact ⟨⟨_, rfl⟩, .inl ⟨_, rfl, hJs⟩⟩

theorem Backward_in (F : Fence) (n : Nat) (h6 : F.fn 94) (hro : F.round = none) (a : Option Addr) (len cap : Nat) (w : World) :
    CallsIn F n Tryd.prog 94 #[.slice a len cap] w fun e w' => e = .returned (.func (.func 122) #[] #[.pointer (some ⟨w.heap.size, 0, none⟩)]) ∧ w' = w.alloc (.cells #[.slice a len cap] 67) := by
  refine callsIn_of_wp Tryd.func94 rfl h6 ?_ hro
  simp only [Tryd.ntmps94, List.size_toArray, List.length_cons, List.length_nil, Nat.reduceAdd, Nat.reduceSub, Array.replicate_succ, Array.replicate_zero, List.push_toArray, List.append_toArray, List.nil_append, List.cons_append]
  gi_wp2
  go_ret
  exact ⟨rfl, rfl⟩

theorem back_stops (F : Fence) (n : Nat) (h8 : F.fn 122) (hro : F.round = none) (hn : 1 ≤ n) (Bs n₀ cap : Nat) (a : Option Addr) (e : TypeId) (xs : List UInt8) (hx : xs.length ≤ 9223372036854775807) (w : World) (hBs : Bs < w.heap.size)
    (hc : w.cell? ⟨Bs, 0, none⟩ = some (.slice a xs.length cap)) (hr : Rd w a e (xs.map vB)) (hrn : ∀ x, a = some x → xs ≠ [] → x.block < n₀) :
    SeqStopsK F n Tryd.prog 122 #[.pointer (some ⟨Bs, 0, none⟩)] (fun x : Nat × UInt8 => #[Value.int .i64 (x.1 : Int), Value.int .u8 (x.2.toNat : Int)]) (KeepB n₀ Bs) (fun ys => ys = bk xs xs.length)
      (fun pre => ∃ k, k ≤ xs.length ∧ pre = bk xs k) xs.length w := fun l J Jx W hW _ _ hY h0 => by
  have hc' := (hW.cell (p := ⟨Bs, 0, none⟩) hBs).trans hc
  exact back1_in F n h8 hro hn l Bs n₀ cap a e xs hx J Jx hY W hc' (hr.below hW) hrn h0

/-- the value of what has come, from the end on -/
def valP (x : UInt8) : List (Nat × UInt8) → UInt8 := List.foldl (fun v p => Gf.add (Gf.mul v x) p.2) 0
theorem valP_snoc (x : UInt8) (pre : List (Nat × UInt8)) (p : Nat × UInt8) : valP x (pre ++ [p]) = Gf.add (Gf.mul (valP x pre) x) p.2 := by simp [valP]
theorem valP_bk (x : UInt8) (xs : List UInt8) : ∀ k, k ≤ xs.length → valP x (bk xs k) = Gf.val (xs.drop (xs.length - k)) x := by
  intro k
  induction k with
  | zero => intro _; simp [bk, valP, Gf.val]
  | succ k ih =>
    intro hk
    rw [bk_succ, valP_snoc, ih (by omega)]
    have h1 : xs.length - (k + 1) < xs.length := by omega
    rw [List.drop_eq_getElem_cons h1, Gf.val]
    have h2 : xs.length - (k + 1) + 1 = xs.length - k := by omega
    have h3 : xs.length - 1 - k = xs.length - (k + 1) := by omega
    unfold Gf.add
    rw [h2]
    simp only [h3]
    rw [List.getD_eq_getElem?_getD, List.getElem?_eq_getElem h1]; rfl

set_option maxRecDepth 100000 in
set_option maxHeartbeats 2000000 in
theorem Value_calls (xs : List UInt8) (x : UInt8) (a : Option Addr) (cap e : Nat) (w : World) (hr : Rd w a e (xs.map vB)) (hx : xs.length ≤ 9223372036854775807) :
    Calls Tryd.prog 59 #[.slice a xs.length cap, .int .u8 x.toNat] w fun e W' => e = .returned (.int .u8 (Gf.val xs x).toNat) ∧ Below w.heap.size w W' := by
  refine (callsIn_wide (n := 6)).1 ?_
  refine callsIn_of_wp_marks Tryd.func59 rfl trivial ?_ rfl
  simp only [Tryd.ntmps59, List.size_toArray, List.length_cons, List.length_nil, Nat.reduceAdd, Nat.reduceSub, Array.replicate_succ, Array.replicate_zero, List.push_toArray, List.append_toArray, List.nil_append, List.cons_append]
  gi_wp2_with (refine ⟨trivial, ?_⟩; gi_at_call 94; refine (Backward_in _ _ trivial rfl _ _ _ _).mono ?_; rintro e w' ⟨rfl, rfl⟩)
  have bX := Boxed.new w 5 (.int .u8 x.toNat)
  have bV := Boxed.new (w.alloc (.cells #[.int .u8 x.toNat] 5)) 5 (.int .u8 0)
  have bS := Boxed.new ((w.alloc (.cells #[.int .u8 x.toNat] 5)).alloc (.cells #[.int .u8 0] 5)) 67 (.slice a xs.length cap)
  simp only [World.size_alloc] at bV bS
  have hB0 : Below w.heap.size w (((w.alloc (.cells #[.int .u8 x.toNat] 5)).alloc (.cells #[.int .u8 0] 5)).alloc (.cells #[.slice a xs.length cap] 67)) := (((Below.refl _ w).alloc (Nat.le_refl _) _).alloc (by simp) _).alloc (by simp; omega) _
  obtain ⟨W0, hW0⟩ : ∃ W0, (((w.alloc (.cells #[.int .u8 x.toNat] 5)).alloc (.cells #[.int .u8 0] 5)).alloc (.cells #[.slice a xs.length cap] 67)) = W0 := ⟨_, rfl⟩
  have hsz : W0.heap.size = w.heap.size + 3 := by rw [← hW0]; simp
  rw [hW0] at bS hB0 ⊢
  have bX0 : Boxed W0 w.heap.size 5 (.int .u8 x.toNat) := by rw [← hW0]; exact (bX.alloc _).alloc _
  have bV0 : Boxed W0 (w.heap.size + 1) 5 (.int .u8 0) := by rw [← hW0]; exact bV.alloc _
  refine wpIn_rangeFunc_ownG rfl (by omega) (gf := 122) (lb := #[.pointer (some ⟨w.heap.size + 2, 0, none⟩)]) rfl trivial (enters_of Tryd.func122 (by kernel_rfl) rfl)
    (back_stops Fence.wide (6 - 1) trivial rfl (by omega) (w.heap.size + 2) w.heap.size cap a e xs hx W0 (by omega) bS.cell (hr.below hB0) (fun y hy hne => by
      rcases hr with h | ⟨b, o, cur, fr, h, hc, _⟩
      · exact absurd (by simpa using h) hne
      · rw [hy] at h; cases h; exact lt_of_heap hc)) KeepB.trans (keepB_b (by omega) (by omega)) (Below.refl _ _) (fun _ => rfl)
    (fun pre W => (W.cell? ⟨w.heap.size, 0, none⟩ = some (.int .u8 x.toNat) ∧ W.cell? ⟨w.heap.size + 1, 0, none⟩ = some (.int .u8 (valP x pre).toNat) ∧ W.frozen? ⟨w.heap.size + 1, 0, none⟩ = false) ∧ Below w.heap.size w W)
    (fun _ _ _ => False)
    (OwnFrom.and (Own.from (fun s A B row hs hg hr => ⟨cell_kept hs.1 hg hr, cell_kept hs.2.1 hg hr, (frozen_kept hs.2.1 hg hr).trans hs.2.2⟩) _) (ownFrom_below (Nat.le_refl _) (by omega)))
    (fun _ _ _ _ _ hs _ _ => hs)
    ⟨⟨bX0.cell, bV0.cell, bV0.frozen⟩, hB0⟩
    (fun p => { tmps := #[.slice a xs.length cap, .int .u8 x.toNat, undef, .pointer (some ⟨w.heap.size, 0, none⟩), .int .u8 0, .pointer (some ⟨w.heap.size + 1, 0, none⟩), undef, .int .u8 p.2.toNat, .slice a xs.length cap, .func (.func 122) #[] #[.pointer (some ⟨w.heap.size + 2, 0, none⟩)], .int .i64 (p.1 : Int), .int .u8 p.2.toNat, undef, undef, undef, undef, undef, undef], defers := [] }) ?assign ?body ?done ?stop
  case assign =>
    intro l p W K hK
    gi_wp2
    exact hK
  case body =>
    rintro l pre p W ⟨⟨hcx, hcv, hfv⟩, hB⟩ _
    gi_wp2_with fail
    refine ⟨trivial, ?_⟩
    refine (CallsIn.inRound l (callsIn_wide.2 (Mul_calls _ _ _))).mono ?_
    rintro e w' ⟨rfl, rfl⟩
    gi_wp2_with fail
    refine ⟨trivial, ?_⟩
    refine (CallsIn.inRound l (callsIn_wide.2 (Add_calls _ _ _))).mono ?_
    rintro e w' ⟨rfl, rfl⟩
    gi_wp2
    exact ⟨(KeepsOthers.setCell _ _ _).from _, ⟨(Below.refl w.heap.size W).setCell (p := ⟨w.heap.size + 1, 0, none⟩) (by simp) _, Below.heap_setCell _ _ _ _ (by simp)⟩, ⟨(World.cell?_setCell_other _ _ _ _ (by simp)).trans hcx, by rw [valP_snoc]; exact World.cell?_setCell_same' _ _ _ (by rw [hcv]; rfl), by rw [World.frozen?_setCell]; exact hfv⟩, hB.setCell (p := ⟨w.heap.size + 1, 0, none⟩) (by simp) _⟩
  case done =>
    rintro D ys W hD rfl ⟨⟨_, hcv, _⟩, hB⟩ hK
    gi_wp2
    refine ⟨by simp, .inl ⟨_, _, rfl, run_takeDeferred hK, ?_⟩⟩
    refine ⟨_, results_tmp rfl _ _ _, ?_, hB.trans (belowK_b (w := w) (Nat.le_refl _) W D _ _ (by omega) hK rfl rfl)⟩
    rw [valP_bk x xs _ (Nat.le_refl _), Nat.sub_self]
    rfl
  case stop =>
    rintro D c pre W _ _ h _
    exact h.elim
end Go.Proofs.YtkioddmhjbaleaaDoor
