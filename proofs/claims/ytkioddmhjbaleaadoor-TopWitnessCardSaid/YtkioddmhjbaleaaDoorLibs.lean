/- Walks: slices.Index and slices.Contains at lists of bytes. -/
import Derived.Test.YtkioddmhjbaleaaDoorSame0
import Derived.Test.YtkioddmhjbaleaaDoorClone
namespace Go.Proofs.YtkioddmhjbaleaaDoor
open Go.RowKit
set_option linter.unusedVariables false

theorem Index_calls (xs : List UInt8) (v : UInt8) (a : Option Addr) (ca ea : Nat) (w : World) (ha : Rd w a ea (xs.map vB)) (hx : xs.length ≤ 9223372036854775806) :
    Calls Tryd.prog 97 #[.slice a xs.length ca, .int .u8 v.toNat] w fun e w' => ∃ n : Int, decide (0 ≤ n) = decide (v ∈ xs) ∧ e = .returned (.int .i64 n) ∧ w = w' := by
  go_enter Tryd.func97, Tryd.ntmps97
  go_wp2
  go_loop [8] (fun i => ∃ k : Nat, k ≤ xs.length ∧ i = .int .i64 k ∧ v ∉ xs.take k) (fun i => xs.length - (intOf i).toNat)
  case atStart => exact ⟨0, Nat.zero_le _, rfl, by simp⟩
  case round =>
    obtain ⟨k, hk, rfl, ht⟩ := hrel
    have Ht := Lib.hid ht
    clear ht
    by_cases hlt : k < xs.length
    · obtain ⟨ba, oa, rfl, _, hca⟩ := ha.bytes hlt
      have c1 := hca k hlt
      clear hca ha
      by_cases hxy : v = xs[k]
      · have t : ((v.toNat : Int) == ((xs[k]).toNat : Int)) = true := by rw [hxy]; simp
        have Hxy := Lib.hid hxy
        clear hxy
        go_wp2
        go_ret
        refine ⟨k, ?_, rfl, rfl⟩
        have h1 : v ∈ xs := by have := Hxy.out; rw [this]; exact List.getElem_mem _
        simp [h1]
      · have t : ((v.toNat : Int) == ((xs[k]).toNat : Int)) = false := by rw [beq_eq_false_iff_ne]; intro h; exact hxy ((byte_eq _ _).1 h)
        have Hxy := Lib.hid hxy
        clear hxy
        go_wp2
        go_round
        case rel => exact ⟨k + 1, by omega, by go_num, by rw [List.take_succ_eq_append_getElem hlt]; intro h; rcases List.mem_append.1 h with h | h; exact Ht.out h; exact Hxy.out (by simpa using h)⟩
        case measure => simp [intOf] <;> omega
    · obtain rfl : k = xs.length := by omega
      go_wp2
      go_ret
      refine ⟨-1, ?_, rfl, rfl⟩
      have := Ht.out
      rw [List.take_of_length_le (Nat.le_refl _)] at this
      simp [this]

theorem Contains_calls (xs : List UInt8) (v : UInt8) (a : Option Addr) (ca ea : Nat) (w : World) (ha : Rd w a ea (xs.map vB)) (hx : xs.length ≤ 9223372036854775806) :
    Calls Tryd.prog 60 #[.slice a xs.length ca, .int .u8 v.toNat] w fun e w' => e = .returned (.bool (decide (v ∈ xs))) ∧ w = w' := by
  go_enter Tryd.func60, Tryd.ntmps60
  go_wp2_with fail
  refine (Index_calls xs v a ca ea _ ha hx).mono ?_; rintro e w' ⟨n, hn, rfl, rfl⟩
  have Hn := Lib.hid hn
  clear hn
  go_wp2_with fail
  go_ret
  rw [← Hn.out]
  exact ⟨rfl, rfl⟩

end Go.Proofs.YtkioddmhjbaleaaDoor
