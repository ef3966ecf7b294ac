/- Walks of the document's Mul and Inv: they are the field's. -/
import Derived.Test.YtalbmcidlalicaaDoorRefGf
import Derived.Test.YtalbmcidlalicaaDoorField
import Derived.Deep.QuietTactic
import Derived.BigQuiet
import Derived.IntWalk
namespace Go.Proofs.YtalbmcidlalicaaDoor
open Go.RowKit
set_option linter.unusedVariables false

def bI (b : Bool) : Int := if b then 1 else 0
theorem ret_i64 {a b : Int} (h : a = b) : Ending.returned (.int .i64 a) = .returned (.int .i64 b) := by rw [h]
theorem bit_calls (n i : Nat) (hn : n ≤ 9223372036854775807) (hi : i ≤ 1000) (w : World) : Calls Tryd.prog 31 #[.int .i64 n, .int .i64 i] w fun e w' => e = .returned (.int .i64 (bI (Gf.tb n i))) ∧ w = w' := by
  go_enter Tryd.func31, Tryd.ntmps31
  go_wp2
  go_loop [0, 5] (fun x y => ∃ k : Nat, k ≤ i ∧ y = .int .i64 k ∧ x = .int .i64 ((n / 2 ^ k : Nat) : Int)) (fun _ y => i - (intOf y).toNat)
  case atStart => exact ⟨0, Nat.zero_le _, rfl, by simp⟩
  case round =>
    obtain ⟨k, hk, rfl, rfl⟩ := hrel
    have hp : n / 2 ^ (k + 1) = n / 2 ^ k / 2 := by rw [Nat.pow_succ, Nat.div_div_eq_div_mul]
    have hb : n / 2 ^ k ≤ 9223372036854775807 := Nat.le_trans (Nat.div_le_self _ _) hn
    have H := Lib.hid hp
    have ht := Gf.tb_eq n k
    have HT := Lib.hid ht
    clear hp ht
    by_cases h0 : k < i
    · generalize hm : n / 2 ^ k = m at *
      have HM := Lib.hid hm
      clear hm
      go_wp2
      go_round
      case rel => exact ⟨k + 1, by omega, by go_num, by rw [H.out]; go_num⟩
      case measure => simp [intOf]; omega
    · obtain rfl : k = i := by omega
      generalize hm : n / 2 ^ k = m at *
      have HM := Lib.hid hm
      clear hm
      go_wp2
      go_ret
      have h3 : ((m : Int) % 2) = ((m % 2 : Nat) : Int) := by omega
      exact ⟨ret_i64 (h3.trans (by rw [HT.out]; cases Gf.tb n k <;> rfl)), rfl⟩

theorem flip_calls (n i : Nat) (hn : n ≤ 4611686018427387903) (hi : i ≤ 40) (w : World) : Calls Tryd.prog 32 #[.int .i64 n, .int .i64 i] w fun e w' => e = .returned (.int .i64 ((n ^^^ 2 ^ i : Nat) : Int)) ∧ w = w' := by
  have BC := bit_calls n i (by omega) (by omega)
  have hpi : 2 ^ i ≤ 2 ^ 40 := Nat.pow_le_pow_right (by decide) hi
  have hpi' : 2 ^ i ≤ 1099511627776 := hpi
  clear hpi
  cases ht : Gf.tb n i with
  | true =>
    obtain ⟨e1, e2⟩ := Gf.flip_yes n i ht
    simp only [ht] at BC
    simp only [show bI true = 1 from rfl] at BC
    have E1 := Lib.hid e1
    clear e1 ht
    go_enter Tryd.func32, Tryd.ntmps32
    go_wp2
    go_loop [5, 6] (fun x y => ∃ k : Nat, k ≤ i ∧ y = .int .i64 k ∧ x = .int .i64 ((2 ^ k : Nat) : Int)) (fun _ y => i - (intOf y).toNat)
    case atStart => exact ⟨0, Nat.zero_le _, rfl, by simp⟩
    case round =>
      obtain ⟨k, hk, rfl, rfl⟩ := hrel
      have hp : 2 ^ (k + 1) = 2 * 2 ^ k := by rw [Nat.pow_succ, Nat.mul_comm]
      have hb : 2 ^ k ≤ 1099511627776 := Nat.le_trans (Nat.pow_le_pow_right (by decide) hk) hpi'
      have H := Lib.hid hp
      clear hp
      by_cases h0 : k < i
      · generalize hm : 2 ^ k = m at *
        have HM := Lib.hid hm
        clear hm
        go_wp2_with fail
        go_round
        case rel => exact ⟨k + 1, by omega, by go_num, by rw [H.out]; go_num⟩
        case measure => simp [intOf]; omega
      · obtain rfl : k = i := by omega
        generalize hm : 2 ^ k = m at *
        have HM := Lib.hid hm
        clear hm
        go_wp2_with (go_at_call 31; refine (BC _).mono ?_; rintro e w' ⟨rfl, rfl⟩)
        go_ret
        exact ⟨ret_i64 (by rw [HM.out, ← E1.out]; omega), rfl⟩
  | false =>
    have e1 := Gf.flip_no n i ht
    simp only [ht] at BC
    simp only [show bI false = 0 from rfl] at BC
    have E1 := Lib.hid e1
    clear e1 ht
    go_enter Tryd.func32, Tryd.ntmps32
    go_wp2
    go_loop [5, 6] (fun x y => ∃ k : Nat, k ≤ i ∧ y = .int .i64 k ∧ x = .int .i64 ((2 ^ k : Nat) : Int)) (fun _ y => i - (intOf y).toNat)
    case atStart => exact ⟨0, Nat.zero_le _, rfl, by simp⟩
    case round =>
      obtain ⟨k, hk, rfl, rfl⟩ := hrel
      have hp : 2 ^ (k + 1) = 2 * 2 ^ k := by rw [Nat.pow_succ, Nat.mul_comm]
      have hb : 2 ^ k ≤ 1099511627776 := Nat.le_trans (Nat.pow_le_pow_right (by decide) hk) hpi'
      have H := Lib.hid hp
      clear hp
      by_cases h0 : k < i
      · generalize hm : 2 ^ k = m at *
        have HM := Lib.hid hm
        clear hm
        go_wp2_with fail
        go_round
        case rel => exact ⟨k + 1, by omega, by go_num, by rw [H.out]; go_num⟩
        case measure => simp [intOf]; omega
      · obtain rfl : k = i := by omega
        generalize hm : 2 ^ k = m at *
        have HM := Lib.hid hm
        clear hm
        go_wp2_with (go_at_call 31; refine (BC _).mono ?_; rintro e w' ⟨rfl, rfl⟩)
        go_ret
        exact ⟨ret_i64 (by rw [HM.out, ← E1.out]; omega), rfl⟩
end Go.Proofs.YtalbmcidlalicaaDoor
