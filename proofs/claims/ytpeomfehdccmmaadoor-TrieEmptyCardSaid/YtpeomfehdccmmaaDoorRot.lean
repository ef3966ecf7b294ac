/- Walks: bits.RotateLeft32 at a place that is known, and sha.turned. -/
import Derived.Test.YtpeomfehdccmmaaDoorChecked
import Derived.Test.YtpeomfehdccmmaaDoorShaLaw
import Derived.BigQuiet
import Derived.WalkSmall
namespace Go.Proofs.YtpeomfehdccmmaaDoor
open Go.RowKit
set_option linter.unusedVariables false
set_option linter.unusedSimpArgs false
theorem rot_place : ∀ n : Fin 32, 0 < n.val → bits .and .u64 (IntKind.u64.wrap (-(n.val : Int))) 31 = ((32 - n.val : Nat) : Int) := by decide +kernel
theorem Rot_calls (x : UInt32) (n : Nat) (h0 : 0 < n) (h : n < 32) (w : World) : Calls Tryd.prog 104 #[.int .u32 x.toNat, .int .i64 (-(n : Int))] w fun e w' => e = .returned (.int .u32 (rot x n).toNat) ∧ w = w' := by
  have he := rot_place ⟨n, h⟩ h0
  dsimp only at he
  obtain ⟨m, hm⟩ : ∃ m, m = 32 - n := ⟨_, rfl⟩
  rw [← hm] at he
  have hm0 : 0 < m := by omega
  have hm1 : m < 32 := by omega
  have m0 : (0 : Int) ≤ (m : Int) := by omega
  have m1 : (m : Int) ≤ 32 := by omega
  have n0 : (0 : Int) ≤ (n : Int) := by omega
  have n1 : (n : Int) ≤ 32 := by omega
  have hs : IntKind.u64.wrap (32 - (m : Int)) = (n : Int) := by rw [IntKind.wrap_u64]; omega
  have hs2 : (32 : Int) - (m : Int) = (n : Int) := by omega
  have RS := r_shl x m
  have RR := r_shr x n
  have RO := r_or (shl x m) (shr x n)
  have hfin : ou (shl x m) (shr x n) = rot x n := by rw [hm]; rfl
  have HF := Lib.hid hfin
  clear hfin hm
  go_enter Tryd.func104, Tryd.ntmps104
  go_wp2_with fail
  go_ret
  exact ⟨by rw [← HF.out]; rfl, rfl⟩
theorem turned_calls (x : UInt32) (a b c : Nat) (a0 : 0 < a) (a1 : a < 32) (b0 : 0 < b) (b1 : b < 32) (c0 : 0 < c) (c1 : c < 32) (w : World) :
    Calls Tryd.prog 105 #[.int .u32 x.toNat, .int .i64 a, .int .i64 b, .int .i64 c] w fun e w' => e = .returned (.int .u32 (turn3 x a b c).toNat) ∧ w = w' := by
  have RA := Rot_calls x a a0 a1
  have RB := Rot_calls x b b0 b1
  have RC := Rot_calls x c c0 c1
  have X1 := r_xor (rot x a) (rot x b)
  have X2 := r_xor (xr (rot x a) (rot x b)) (rot x c)
  have na : IntKind.i64.wrap (-(a : Int)) = -(a : Int) := IntWalk.i64_in _ (by omega)
  have nb : IntKind.i64.wrap (-(b : Int)) = -(b : Int) := IntWalk.i64_in _ (by omega)
  have nc : IntKind.i64.wrap (-(c : Int)) = -(c : Int) := IntWalk.i64_in _ (by omega)
  go_enter Tryd.func105, Tryd.ntmps105
  go_wp2_with fail
  refine (RA _).mono ?_; rintro e w' ⟨rfl, rfl⟩
  go_wp2_with fail
  refine (RB _).mono ?_; rintro e w' ⟨rfl, rfl⟩
  go_wp2_with fail
  refine (RC _).mono ?_; rintro e w' ⟨rfl, rfl⟩
  go_wp2_with fail
  go_ret
  exact ⟨rfl, rfl⟩
end Go.Proofs.YtpeomfehdccmmaaDoor
