/- Law: four bytes are one word. Plain: no program is in sight. -/
import Derived.Test.YtpeomfehdccmmaaDoorShaI
namespace Go.Proofs.YtpeomfehdccmmaaDoor
set_option linter.unusedVariables false
/-- the number of bytes -/
def numB (l : List UInt8) : Nat := l.foldl (fun n x => n * 256 + x.toNat) 0
theorem numB_snoc (l : List UInt8) (x : UInt8) : numB (l ++ [x]) = numB l * 256 + x.toNat := by unfold numB; rw [List.foldl_append]; rfl
theorem fold_lt : ∀ (l : List UInt8) (n : Nat), l.foldl (fun n x => n * 256 + x.toNat) n < (n + 1) * 256 ^ l.length := by
  intro l
  induction l with
  | nil => intro n; simp
  | cons x l ih =>
    intro n
    rw [List.foldl_cons, List.length_cons, Nat.pow_succ, Nat.mul_comm (256 ^ l.length) 256, ← Nat.mul_assoc]
    have h1 := ih (n * 256 + x.toNat)
    have h2 := x.toNat_lt
    exact Nat.lt_of_lt_of_le h1 (Nat.mul_le_mul_right _ (by omega))
theorem numB_lt (l : List UInt8) : numB l < 256 ^ l.length := by
  have := fold_lt l 0
  rw [Nat.zero_add, Nat.one_mul] at this
  exact this
theorem word_num (y0 y1 y2 y3 : UInt8) : (ou (ou (ou (shl (wb y0) 24) (shl (wb y1) 16)) (shl (wb y2) 8)) (wb y3)).toNat = numB [y0, y1, y2, y3] := by
  have h0 := y0.toNat_lt
  have h1 := y1.toNat_lt
  have h2 := y2.toNat_lt
  have h3 := y3.toNat_lt
  have e : ∀ (a b : UInt32), (ou a b).toNat = a.toNat ||| b.toNat := fun a b => by unfold ou; exact UInt32.toNat_or a b
  have s : ∀ (y : UInt8) (n : Nat), y.toNat * 2 ^ n < 4294967296 → (shl (wb y) n).toNat = y.toNat * 2 ^ n := fun y n h => by
    unfold shl
    rw [wb_toNat, UInt32.toNat_ofNat_of_lt' (by exact h)]
  rw [e, e, e, s y0 24 (by omega), s y1 16 (by omega), s y2 8 (by omega), wb_toNat]
  have a1 : y0.toNat * 2 ^ 24 ||| y1.toNat * 2 ^ 16 = 2 ^ 24 * y0.toNat + y1.toNat * 2 ^ 16 := by rw [Nat.mul_comm, Nat.two_pow_add_eq_or_of_lt (by omega)]
  rw [a1]
  have a2 : 2 ^ 24 * y0.toNat + y1.toNat * 2 ^ 16 ||| y2.toNat * 2 ^ 8 = 2 ^ 16 * (2 ^ 8 * y0.toNat + y1.toNat) + y2.toNat * 2 ^ 8 := by
    have k : 2 ^ 24 * y0.toNat + y1.toNat * 2 ^ 16 = 2 ^ 16 * (2 ^ 8 * y0.toNat + y1.toNat) := by omega
    rw [k]
    exact (Nat.two_pow_add_eq_or_of_lt (i := 16) (by omega) _).symm
  rw [a2]
  have a3 : 2 ^ 16 * (2 ^ 8 * y0.toNat + y1.toNat) + y2.toNat * 2 ^ 8 ||| y3.toNat = 2 ^ 8 * (2 ^ 8 * (2 ^ 8 * y0.toNat + y1.toNat) + y2.toNat) + y3.toNat := by
    have k : 2 ^ 16 * (2 ^ 8 * y0.toNat + y1.toNat) + y2.toNat * 2 ^ 8 = 2 ^ 8 * (2 ^ 8 * (2 ^ 8 * y0.toNat + y1.toNat) + y2.toNat) := by omega
    rw [k]
    exact (Nat.two_pow_add_eq_or_of_lt (i := 8) (by omega) _).symm
  rw [a3]
  simp only [numB, List.foldl_cons, List.foldl_nil]
  omega
end Go.Proofs.YtpeomfehdccmmaaDoor
