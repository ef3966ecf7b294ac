/- The library's bits.Len, laid by the shelf's own form; Half. -/
import Derived.Test.YtkioddmhjbaleaaDoorTreeLaw
import Derived.Test.YtkioddmhjbaleaaDoorChecked
import Derived.Shelf.Small.Bits
import Derived.Lib.ItoaNum
import Derived.WalkKit
import Derived.Below
namespace Go.Proofs.YtkioddmhjbaleaaDoor
open Go.RowKit
set_option linter.unusedVariables false
def Lay.len_ren : Go.Shelf.Ren := ⟨fun | 125 => 115 | 128 => 137 | 129 => 138 | n => n, fun | 3 => 3 | 4 => 4 | 5 => 5 | 9 => 9 | 46 => 117 | 51 => 201 | 53 => 120 | n => n, fun | n => n⟩
theorem Lay.len : Go.Proofs.Lays.n125 Tryd.prog Lay.len_ren := {
  mixed := by kernel_rfl,
  f125 := Tryd.func115.trans (congrArg some (by kernel_rfl)),
  f128 := Tryd.func137.trans (congrArg some (by kernel_rfl)),
  f129 := Tryd.func138.trans (congrArg some (by kernel_rfl)),
  t3 := Tryd.underlying3,
  a3 := Tryd.isAgg3,
  z3 := Tryd.sizeOf3,
  v3 := Tryd.zeroValue3,
  t4 := Tryd.underlying4,
  a4 := Tryd.isAgg4,
  z4 := Tryd.sizeOf4,
  v4 := Tryd.zeroValue4,
  t5 := Tryd.underlying5,
  a5 := Tryd.isAgg5,
  z5 := Tryd.sizeOf5,
  v5 := Tryd.zeroValue5,
  t9 := Tryd.underlying9,
  a9 := Tryd.isAgg9,
  z9 := Tryd.sizeOf9,
  v9 := Tryd.zeroValue9,
  t46 := Tryd.underlying117,
  a46 := Tryd.isAgg117,
  z46 := Tryd.sizeOf117,
  v46 := Tryd.zeroValue117,
  t51 := Tryd.underlying201,
  a51 := Tryd.isAgg201,
  z51 := Tryd.sizeOf201,
  v51 := Tryd.zeroValue201,
  t53 := Tryd.underlying120,
  a53 := Tryd.isAgg120,
  z53 := Tryd.sizeOf120,
  v53 := Tryd.zeroValue120 }
theorem BLen_calls (x : Nat) (hx : x ≤ 18446744073709551615) (w : World) : Calls Tryd.prog 115 #[.int .u64 (x : Int)] w fun e w' => e = .returned (.int .i64 ((Lib.bitLen x : Nat) : Int)) ∧ w = w' := by
  have := Any.bits_Len Lay.len (x : Int) w (by omega) (by omega)
  rw [Int.toNat_natCast] at this
  exact this.mono fun e w' h => ⟨h.1, h.2.symm⟩
theorem len_log (x : Nat) (h0 : x ≠ 0) (h : x < 2 ^ 64) : Lib.bitLen x = Nat.log2 x + 1 := by
  obtain ⟨h1, h2, h3⟩ := Lib.bitLenAux_bounds 64 x h h0
  have e : Lib.bitLenAux 64 x = Lib.bitLen x := rfl
  rw [e] at h1 h2 h3
  have a1 : Nat.log2 x < Lib.bitLen x := (Nat.log2_lt h0).2 h3
  have a2 : Lib.bitLen x - 1 ≤ Nat.log2 x := (Nat.le_log2 h0).2 h2
  omega
set_option maxHeartbeats 1000000 in
theorem Half_calls (n : Nat) (h2 : 2 ≤ n) (hn : n ≤ 256) (w : World) : Calls Tryd.prog 79 #[.int .i64 (n : Int)] w fun e w' => e = .returned (.int .i64 ((hf n : Nat) : Int)) ∧ w = w' := by
  obtain ⟨m, hm⟩ : ∃ m, m = n - 1 := ⟨_, rfl⟩
  obtain ⟨j, hj⟩ : ∃ j, j = Nat.log2 m := ⟨_, rfl⟩
  have hj8 : j ≤ 7 := by
    have := Nat.log2_self_le (n := m) (by omega)
    rw [← hj] at this
    rcases Nat.lt_or_ge j 8 with h | h
    · omega
    · have := Nat.pow_le_pow_right (n := 2) (by omega) h; omega
  have e1 : IntKind.i64.wrap ((n : Int) - 1) = (m : Int) := by rw [IntWalk.i64_in _ (by omega)]; omega
  have e2 : IntKind.u64.wrap (m : Int) = (m : Int) := by simp [IntKind.wrap, IntKind.bits, IntKind.signed]; omega
  have BC := BLen_calls m (by omega) w
  rw [len_log m (by omega) (by omega), ← hj] at BC
  have hh : hf n = 2 ^ j := by unfold hf; rw [← hm, ← hj]
  rw [hh]
  have HB := Lib.hid BC
  have m0 : (0 : Int) ≤ (m : Int) := by omega
  have e3 : IntKind.i64.wrap ((2 : Int) ^ j) = ((2 ^ j : Nat) : Int) := by
    rw [IntKind.wrap_i64]
    obtain rfl | rfl | rfl | rfl | rfl | rfl | rfl | rfl : j = 0 ∨ j = 1 ∨ j = 2 ∨ j = 3 ∨ j = 4 ∨ j = 5 ∨ j = 6 ∨ j = 7 := by omega
    all_goals rfl
  obtain ⟨J, hJ⟩ : ∃ J, J = 2 ^ j := ⟨_, rfl⟩
  have E5 := Lib.hid (show (2 : Int) ^ j = (J : Int) by rw [hJ, Int.natCast_pow]; rfl)
  rw [← hJ] at e3 ⊢
  clear BC hh hj hm
  go_enter Tryd.func79, Tryd.ntmps79
  go_wp2_with (go_at_call 115; refine HB.out.mono ?_; rintro e w' ⟨rfl, rfl⟩)
  go_ret
  exact ⟨by rw [← E5.out]; rfl, rfl⟩
set_option maxHeartbeats 1000000 in
theorem RHalf_calls (n : Nat) (h2 : 2 ≤ n) (hn : n ≤ 4611686018427387904) (w : World) : Calls Tryd.prog 51 #[.int .i64 (n : Int)] w fun e w' => e = .returned (.int .i64 ((hf n : Nat) : Int)) ∧ w = w' := by
  go_enter Tryd.func51, Tryd.ntmps51
  go_wp2_with fail
  go_loop [3] (fun k => ∃ j : Nat, k = .int .i64 ((2 ^ j : Nat) : Int) ∧ 2 ^ j < n) (fun k => n - (intOf k).toNat)
  case atStart => exact ⟨0, rfl, by omega⟩
  case round =>
    obtain ⟨j, rfl, hlt⟩ := hrel
    obtain ⟨k, hk⟩ : ∃ k, k = 2 ^ j := ⟨_, rfl⟩
    have hk0 : 0 < k := by rw [hk]; exact Nat.two_pow_pos j
    have hs : 2 ^ (j + 1) = 2 * k := by rw [hk, Nat.pow_succ]; omega
    rw [← hk] at hlt ⊢
    have e1 : IntKind.i64.wrap (2 * (k : Int)) = 2 * (k : Int) := IntWalk.i64_in _ (by omega)
    have HK := Lib.hid hk
    have HS := Lib.hid hs
    clear hk hs
    by_cases h : 2 * k < n
    · have z1 : decide (2 * (k : Int) < (n : Int)) = true := decide_eq_true (by omega)
      have z2 : decide (2 * k < n) = true := decide_eq_true h
      have z3 : 2 * (k : Int) < (n : Int) := by omega
      go_wp2_with fail
      go_round
      case rel => exact ⟨j + 1, by rw [HS.out]; simp, by rw [HS.out]; exact h⟩
      case measure => simp [intOf]; omega
    · have z1 : decide (2 * (k : Int) < (n : Int)) = false := decide_eq_false (by omega)
      have z2 : decide (2 * k < n) = false := decide_eq_false h
      have z3 : ¬ 2 * (k : Int) < (n : Int) := by omega
      go_wp2_with fail
      go_ret
      exact ⟨by rw [hf_of (n := n) (j := j) (by rw [← HK.out]; exact hlt) (by rw [← HK.out]; omega), HK.out]; rfl, rfl⟩
end Go.Proofs.YtkioddmhjbaleaaDoor
