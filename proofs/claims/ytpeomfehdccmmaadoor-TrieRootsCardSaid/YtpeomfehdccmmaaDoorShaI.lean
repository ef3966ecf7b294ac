/- Law: words of 32 bits as integers of 64. Plain: no program is in sight. -/
import Derived.Test.YtpeomfehdccmmaaDoorShaLaw
namespace Go.Proofs.YtpeomfehdccmmaaDoor
open Go.RowKit
set_option linter.unusedVariables false
theorem ofInt_i64' (a : Nat) (ha : a < 9223372036854775808) : (BitVec.ofInt 64 (a : Int)).toNat = a := by
  rw [BitVec.ofInt_natCast, BitVec.toNat_ofNat]; exact Nat.mod_eq_of_lt (by omega)
theorem i64_and_nat (a b : Nat) (ha : a < 9223372036854775808) (hb : b < 9223372036854775808) : bits .and .i64 (a : Int) (b : Int) = ((a &&& b : Nat) : Int) := by
  have hx : a &&& b < 2 ^ 63 := Nat.and_lt_two_pow _ (by omega)
  show IntKind.i64.wrap ((BitVec.ofInt 64 (a : Int) &&& BitVec.ofInt 64 (b : Int)).toNat : Int) = _
  rw [BitVec.toNat_and, ofInt_i64' a ha, ofInt_i64' b hb, IntKind.wrap_i64]
  omega
theorem i64_or_nat (a b : Nat) (ha : a < 9223372036854775808) (hb : b < 9223372036854775808) : bits .or .i64 (a : Int) (b : Int) = ((a ||| b : Nat) : Int) := by
  have hx : a ||| b < 2 ^ 63 := Nat.or_lt_two_pow (by omega) (by omega)
  show IntKind.i64.wrap ((BitVec.ofInt 64 (a : Int) ||| BitVec.ofInt 64 (b : Int)).toNat : Int) = _
  rw [BitVec.toNat_or, ofInt_i64' a ha, ofInt_i64' b hb, IntKind.wrap_i64]
  omega
theorem i64_xor_nat (a b : Nat) (ha : a < 9223372036854775808) (hb : b < 9223372036854775808) : bits .xor .i64 (a : Int) (b : Int) = ((a ^^^ b : Nat) : Int) := by
  have hx : a ^^^ b < 2 ^ 63 := Nat.xor_lt_two_pow (by omega) (by omega)
  show IntKind.i64.wrap ((BitVec.ofInt 64 (a : Int) ^^^ BitVec.ofInt 64 (b : Int)).toNat : Int) = _
  rw [BitVec.toNat_xor, ofInt_i64' a ha, ofInt_i64' b hb, IntKind.wrap_i64]
  omega
theorem ri_xor (a b : UInt32) : bits .xor .i64 (a.toNat : Int) (b.toNat : Int) = ((xr a b).toNat : Int) := by
  rw [i64_xor_nat _ _ (by have := w_lt a; omega) (by have := w_lt b; omega)]; unfold xr; rw [UInt32.toNat_xor]
theorem ri_and (a b : UInt32) : bits .and .i64 (a.toNat : Int) (b.toNat : Int) = ((an a b).toNat : Int) := by
  rw [i64_and_nat _ _ (by have := w_lt a; omega) (by have := w_lt b; omega)]; unfold an; rw [UInt32.toNat_and]
theorem ri_or (a b : UInt32) : bits .or .i64 (a.toNat : Int) (b.toNat : Int) = ((ou a b).toNat : Int) := by
  rw [i64_or_nat _ _ (by have := w_lt a; omega) (by have := w_lt b; omega)]; unfold ou; rw [UInt32.toNat_or]
theorem ri_low (n : Nat) (h : n < 9223372036854775808) : bits .and .i64 (n : Int) 4294967295 = ((UInt32.ofNat n).toNat : Int) := by
  have := i64_and_nat n 4294967295 h (by omega)
  rw [show (4294967295 : Int) = ((4294967295 : Nat) : Int) from rfl, this, UInt32.toNat_ofNat']
  congr 1
  exact Nat.and_two_pow_sub_one_eq_mod n 32
theorem add_n (m n : Nat) (h : m + n < 9223372036854775808) : IntKind.i64.wrap ((m : Int) + (n : Int)) = ((m + n : Nat) : Int) := by
  rw [IntWalk.i64_in _ (by omega)]; omega
theorem sums4 (a b c d : UInt32) : a.toNat + b.toNat < 9223372036854775808 ∧ a.toNat + b.toNat + c.toNat < 9223372036854775808 ∧ a.toNat + b.toNat + c.toNat + d.toNat < 9223372036854775808 := by
  have := w_lt a; have := w_lt b; have := w_lt c; have := w_lt d; omega
theorem ou_comm (a b : UInt32) : ou a b = ou b a := by unfold ou; exact UInt32.or_comm a b
theorem rot_other (a : UInt32) (n : Nat) : ou (shr a n) (UInt32.ofNat (a.toNat * 2 ^ (32 - n))) = rot a n := by
  unfold rot shl; exact ou_comm _ _
theorem of_add (a b : Nat) : UInt32.ofNat (a + b) = ad (UInt32.ofNat a) (UInt32.ofNat b) := by unfold ad; exact UInt32.ofNat_add a b
theorem of_toNat (a : UInt32) : UInt32.ofNat a.toNat = a := UInt32.ofNat_toNat
end Go.Proofs.YtpeomfehdccmmaaDoor
