/- Walk of the document's Pow: it is the field's power. -/
import Derived.Test.YtalbmcidlalicaaDoorRefMul2
namespace Go.Proofs.YtalbmcidlalicaaDoor
open Go.RowKit
set_option linter.unusedVariables false
theorem Gf.pow_mod (a : UInt8) (h : a ≠ 0) (n : Nat) : Gf.pow a n = Gf.pow a (n % 255) := by
  have e : n = 255 * (n / 255) + n % 255 := by omega
  conv => lhs; rw [e, Gf.pow_add, Gf.pow_mul, Gf.pow255 a h, Gf.one_pow, Gf.one_mul]
theorem RefPow_calls (a : UInt8) (n : Nat) (hn : n ≤ 9223372036854775807) (w : World) : Calls Tryd.prog 14 #[.int .u8 a.toNat, .int .i64 n] w fun e w' => e = .returned (.int .u8 (Gf.pow a n).toNat) ∧ w = w' := by
  by_cases ha : a = 0
  · subst ha
    by_cases h0 : n = 0
    · subst h0
      go_enter Tryd.func14, Tryd.ntmps14
      go_wp2_with fail
      go_ret
      exact ⟨rfl, rfl⟩
    · have hp := Gf.pow_zero_base n (by omega)
      have t : ((n : Int) == 0) = false := by rw [beq_eq_false_iff_ne]; omega
      have HP := Lib.hid hp
      clear hp h0
      go_enter Tryd.func14, Tryd.ntmps14
      go_wp2_with fail
      go_ret
      exact ⟨by rw [HP.out]; rfl, rfl⟩
  · have t : ((a.toNat : Int) == 0) = false := by
      rw [beq_eq_false_iff_ne]; intro h; exact ha (UInt8.toNat_inj.1 (by have h1 : a.toNat = 0 := by omega
                                                                         rw [h1]; rfl))
    have hm := Gf.pow_mod a ha n
    have HM := Lib.hid hm
    clear hm ha
    obtain ⟨m, hmm⟩ : ∃ m, m = n % 255 := ⟨_, rfl⟩
    rw [← hmm] at HM
    have hml : m < 255 := by omega
    have hmi : (n : Int) % 255 = (m : Int) := by omega
    clear hmm
    go_enter Tryd.func14, Tryd.ntmps14
    go_wp2_with fail
    go_loop [5, 6] (fun p k => ∃ j : Nat, j ≤ m ∧ k = .int .i64 j ∧ p = .int .u8 (Gf.pow a j).toNat) (fun _ k => m - (intOf k).toNat)
    case atStart => exact ⟨0, Nat.zero_le _, rfl, rfl⟩
    case round =>
      obtain ⟨j, hj, rfl, rfl⟩ := hrel
      have hs : Gf.pow a (j + 1) = Gf.mul (Gf.pow a j) a := rfl
      have HS := Lib.hid hs
      clear hs
      by_cases hlt : j < m
      · generalize Gf.pow a j = p at *
        go_wp2_with (go_at_call 10; (with_reducible refine (RefMul_calls _ _ _).mono ?_); rintro e w' ⟨rfl, rfl⟩)
        go_round
        case rel => exact ⟨j + 1, by omega, by go_num, by rw [HS.out]⟩
        case measure => simp [intOf]; omega
      · obtain rfl : j = m := by omega
        go_wp2_with fail
        go_ret
        exact ⟨by rw [HM.out]; rfl, rfl⟩
end Go.Proofs.YtalbmcidlalicaaDoor
