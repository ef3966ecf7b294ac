/- Law: how bytes are filled up. Plain: no program is in sight. -/
import Derived.Test.YtpeomfehdccmmaaDoorShaLaw
namespace Go.Proofs.YtpeomfehdccmmaaDoor
set_option linter.unusedVariables false
theorem zeros_lt (n : Nat) : zeros n < 64 := by unfold zeros; omega
/-- zeros are missing, or no more -/
theorem zeros_more (n k : Nat) (h : k < zeros n) : (n % 64 + 1 + k) % 64 ≠ 56 := by unfold zeros at h; omega
theorem zeros_done (n : Nat) : (n % 64 + 1 + zeros n) % 64 = 56 := by unfold zeros; omega
theorem pad_length (n : Nat) : (pad n).length = zeros n + 9 := by simp [pad, be8]
theorem be8_length (n : Nat) : (be8 n).length = 8 := by simp [be8]
theorem filled_length (n : Nat) (r : List UInt8) (h : r.length = n % 64) : (r ++ pad n).length % 64 = 0 ∧ (r ++ pad n).length ≤ 136 := by
  rw [List.length_append, pad_length, h]
  have := zeros_done n
  have := zeros_lt n
  omega
end Go.Proofs.YtpeomfehdccmmaaDoor
