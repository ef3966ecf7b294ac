/- Walk: oathbookref1.turn: a word turned down. -/
import Derived.Test.YtpeomfehdccmmaaDoorShaI
import Derived.Test.YtpeomfehdccmmaaDoorChecked
import Derived.BigQuiet
import Derived.WalkSmall
namespace Go.Proofs.YtpeomfehdccmmaaDoor
open Go.RowKit
set_option linter.unusedVariables false
set_option linter.unusedSimpArgs false
theorem RTurn_calls (x : UInt32) (n : Nat) (h0 : 0 < n) (h : n < 32) (w : World) : Calls Tryd.prog 95 #[.int .i64 x.toNat, .int .i64 n] w fun e w' => e = .returned (.int .i64 (rot x n).toNat) ∧ ∃ m, w' = w.drewN m := by
  obtain ⟨m, hm⟩ : ∃ m, m = 32 - n := ⟨_, rfl⟩
  have m0 : (0 : Int) ≤ (m : Int) := by omega
  have m1 : (m : Int) ≤ 64 := by omega
  have n0 : (0 : Int) ≤ (n : Int) := by omega
  have n1 : (n : Int) ≤ 64 := by omega
  have hs : IntKind.i64.wrap (32 - (n : Int)) = (m : Int) := by rw [IntWalk.i64_in _ (by omega)]; omega
  have hs2 : (32 : Int) - (n : Int) = (m : Int) := by omega
  have hpow : 2 ^ m ≤ 2 ^ 31 := Nat.pow_le_pow_right (by omega) (by omega)
  have hxm : x.toNat * 2 ^ m < 9223372036854775808 := by
    have h1 := w_lt x
    have : x.toNat * 2 ^ m ≤ 4294967295 * 2 ^ 31 := Nat.mul_le_mul (by omega) hpow
    exact Nat.lt_of_le_of_lt this (by decide)
  have RS : IntKind.i64.wrap ((x.toNat : Int) * 2 ^ m) = ((x.toNat * 2 ^ m : Nat) : Int) := by
    have e : ((x.toNat : Int) * 2 ^ m) = ((x.toNat * 2 ^ m : Nat) : Int) := by rw [Int.natCast_mul, Int.natCast_pow]; rfl
    rw [e]
    obtain ⟨y, hy⟩ : ∃ y, y = x.toNat * 2 ^ m := ⟨_, rfl⟩
    rw [← hy] at hxm ⊢
    exact IntWalk.i64_in _ (by omega)
  have RL := ri_low (x.toNat * 2 ^ m) hxm
  have RR := r_shr x n
  have RO := ri_or (shr x n) (UInt32.ofNat (x.toNat * 2 ^ m))
  have hfin : ou (shr x n) (UInt32.ofNat (x.toNat * 2 ^ m)) = rot x n := by rw [hm]; exact rot_other x n
  rw [hfin] at RO
  obtain ⟨y, hy⟩ : ∃ y, y = x.toNat * 2 ^ m := ⟨_, rfl⟩
  rw [← hy] at RS RL RO
  obtain ⟨z, hz⟩ : ∃ z, z = UInt32.ofNat y := ⟨_, rfl⟩
  rw [← hz] at RL RO
  clear hfin hm hpow hxm hy hz
  go_enter Tryd.func95, Tryd.ntmps95
  go_wp2_with fail
  go_quiet (fail)
  go_wp2_with fail
  go_ret
  exact ⟨rfl, nq, rfl⟩
end Go.Proofs.YtpeomfehdccmmaaDoor
