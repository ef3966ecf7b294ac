/- Walk: oathbookref1.Num of fewer than eight bytes. -/
import Derived.Test.YtpeomfehdccmmaaDoorWordLaw
import Derived.Test.YtpeomfehdccmmaaDoorChecked
import Derived.BigQuiet
import Derived.WalkSmall
namespace Go.Proofs.YtpeomfehdccmmaaDoor
open Go.RowKit
set_option linter.unusedVariables false
set_option linter.unusedSimpArgs false
theorem RNum_calls (b : List UInt8) (h1 : 0 < b.length) (h7 : b.length ≤ 7) (a : Option Addr) (cap e : Nat) (w : World) (hr : Rd w a e (b.map vB)) : Calls Tryd.prog 94 #[.slice a b.length cap] w fun e w' => e = .returned (.tuple #[.int .i64 (numB b), .bool true]) ∧ w = w' := by
  have z1 : ((b.length : Int) == 0) = false := by rw [beq_eq_false_iff_ne]; omega
  have z2 : ((b.length : Int) == 8) = false := by rw [beq_eq_false_iff_ne]; omega
  have z3 : decide ((8 : Int) < (b.length : Int)) = false := decide_eq_false (by omega)
  have z4 : decide (8 < b.length) = false := decide_eq_false (by omega)
  go_enter Tryd.func94, Tryd.ntmps94
  go_wp2_with fail
  go_loopw [4, 5] (fun n i wr => ∃ k : Nat, k ≤ b.length ∧ i = .int .i64 k ∧ n = .int .i64 (numB (b.take k)) ∧ wr = w) (fun _ i _ => b.length - (intOf i).toNat)
  case atStart => exact ⟨0, Nat.zero_le _, rfl, rfl, rfl⟩
  case round =>
    obtain ⟨k, hk, rfl, rfl, rfl⟩ := hrel
    by_cases hlt : k < b.length
    · obtain ⟨ba, oa, hBa, _, hca⟩ := hr.bytes hlt
      obtain rfl := hBa
      have c1 := hca k hlt
      have ht := List.take_succ_eq_append_getElem hlt
      obtain ⟨y, hy⟩ : ∃ y, y = b[k] := ⟨_, rfl⟩
      rw [← hy] at c1 ht
      have hn := numB_snoc (b.take k) y
      rw [← ht] at hn
      have hlt2 : numB (b.take k) < 281474976710656 := by
        have h := numB_lt (b.take k)
        rw [List.length_take, Nat.min_eq_left (by omega)] at h
        exact Nat.lt_of_lt_of_le h (Nat.le_trans (Nat.pow_le_pow_right (by omega) (show k ≤ 6 by omega)) (by decide))
      obtain ⟨m, hm⟩ : ∃ m, m = numB (b.take k) := ⟨_, rfl⟩
      obtain ⟨m2, hm2⟩ : ∃ m2, m2 = numB (b.take (k + 1)) := ⟨_, rfl⟩
      rw [← hm] at hlt2 hn ⊢
      rw [← hm2] at hn
      have hyl := y.toNat_lt
      have e1 : IntKind.i64.wrap ((m : Int) * 256) = (m : Int) * 256 := IntWalk.i64_in _ (by omega)
      have e2 : IntKind.i64.wrap ((m : Int) * 256 + (y.toNat : Int)) = (m2 : Int) := by rw [IntWalk.i64_in _ (by omega)]; omega
      have e3 : (m : Int) * 256 + (y.toNat : Int) = (m2 : Int) := by omega
      have i0 : (0 : Int) ≤ (k : Int) := by omega
      have i1 : (k : Int) < (b.length : Int) := by omega
      have HM2 := Lib.hid hm2
      clear hca hr hy ht hn hm hm2
      go_wp2_with fail
      go_roundw
      case rel => exact ⟨k + 1, by omega, by go_num, by rw [HM2.out], trivial⟩
      case measure => simp [intOf] <;> omega
    · obtain rfl : k = b.length := by omega
      rw [List.take_length]
      go_wp2_with fail
      go_ret2
      exact ⟨rfl, rfl⟩
end Go.Proofs.YtpeomfehdccmmaaDoor
