/- Law: a number that a digest picks, and the order that it draws. No walk is in it. -/
import Derived.Test.YteikbbdkpeecaaaDoorRPut
import Derived.Laws.BitsAllLaws
namespace Go.Proofs.YteikbbdkpeecaaaDoor
open Go.RowKit
set_option linter.unusedVariables false
/-- a number below n, picked by a digest -/
def pickN (d : List UInt8) (n : Nat) : Nat := numB (d.take 4) * n / 4294967296
theorem num4_lt (d : List UInt8) : numB (d.take 4) < 4294967296 := by
  have h := numB_lt (d.take 4)
  have : (d.take 4).length ≤ 4 := by rw [List.length_take]; omega
  exact Nat.lt_of_lt_of_le h (Nat.le_trans (Nat.pow_le_pow_right (by omega) this) (by decide))
theorem pickN_lt (d : List UInt8) (n : Nat) (h : 0 < n) : pickN d n < n := by
  unfold pickN
  rw [Nat.div_lt_iff_lt_mul (by omega), Nat.mul_comm n]
  exact Nat.mul_lt_mul_of_pos_right (num4_lt d) h
theorem take4 (d : List UInt8) (h : d.length = 32) : d.take 4 = [d[0], d[1], d[2], d[3]] := by
  match d, h with
  | a :: b :: c :: e :: r, _ => rfl
/-- four bytes as one number, as it is reckoned in 64 bits -/
theorem num_walk (y0 y1 y2 y3 : UInt8) : ∃ A0 A1 A2 B1 B2 N : Nat, N = numB [y0, y1, y2, y3] ∧ N < 4294967296 ∧
    IntKind.u64.wrap ((y0.toNat : Int) * 16777216) = (A0 : Int) ∧ IntKind.u64.wrap ((y1.toNat : Int) * 65536) = (A1 : Int) ∧ IntKind.u64.wrap ((y2.toNat : Int) * 256) = (A2 : Int) ∧
    bits .or .u64 (A0 : Int) (A1 : Int) = (B1 : Int) ∧ bits .or .u64 (B1 : Int) (A2 : Int) = (B2 : Int) ∧ bits .or .u64 (B2 : Int) (y3.toNat : Int) = (N : Int) := by
  have h0 := y0.toNat_lt
  have h1 := y1.toNat_lt
  have h2 := y2.toNat_lt
  have h3 := y3.toNat_lt
  have a1 : y0.toNat * 2 ^ 24 ||| y1.toNat * 2 ^ 16 = 2 ^ 24 * y0.toNat + y1.toNat * 2 ^ 16 := by rw [Nat.mul_comm, Nat.two_pow_add_eq_or_of_lt (by omega)]
  have a2 : 2 ^ 24 * y0.toNat + y1.toNat * 2 ^ 16 ||| y2.toNat * 2 ^ 8 = 2 ^ 16 * (2 ^ 8 * y0.toNat + y1.toNat) + y2.toNat * 2 ^ 8 := by
    have k : 2 ^ 24 * y0.toNat + y1.toNat * 2 ^ 16 = 2 ^ 16 * (2 ^ 8 * y0.toNat + y1.toNat) := by omega
    rw [k]
    exact (Nat.two_pow_add_eq_or_of_lt (i := 16) (by omega) _).symm
  have a3 : 2 ^ 16 * (2 ^ 8 * y0.toNat + y1.toNat) + y2.toNat * 2 ^ 8 ||| y3.toNat = 2 ^ 8 * (2 ^ 8 * (2 ^ 8 * y0.toNat + y1.toNat) + y2.toNat) + y3.toNat := by
    have k : 2 ^ 16 * (2 ^ 8 * y0.toNat + y1.toNat) + y2.toNat * 2 ^ 8 = 2 ^ 8 * (2 ^ 8 * (2 ^ 8 * y0.toNat + y1.toNat) + y2.toNat) := by omega
    rw [k]
    exact (Nat.two_pow_add_eq_or_of_lt (i := 8) (by omega) _).symm
  refine ⟨y0.toNat * 2 ^ 24, y1.toNat * 2 ^ 16, y2.toNat * 2 ^ 8, 2 ^ 24 * y0.toNat + y1.toNat * 2 ^ 16, 2 ^ 16 * (2 ^ 8 * y0.toNat + y1.toNat) + y2.toNat * 2 ^ 8, 2 ^ 8 * (2 ^ 8 * (2 ^ 8 * y0.toNat + y1.toNat) + y2.toNat) + y3.toNat, ?_, by omega, ?_, ?_, ?_, ?_, ?_, ?_⟩
  · simp only [numB, List.foldl_cons, List.foldl_nil]; omega
  · rw [IntKind.wrap_u64]; omega
  · rw [IntKind.wrap_u64]; omega
  · rw [IntKind.wrap_u64]; omega
  · rw [u64_or_nat _ _ (by omega) (by omega), a1]
  · rw [u64_or_nat _ _ (by omega) (by omega), a2]
  · rw [u64_or_nat _ _ (by omega) (by omega), a3]
/-- two of a list's places changed for each other -/
def swp (l : List Nat) (i j : Nat) : List Nat := (l.set i (l.getD j 0)).set j (l.getD i 0)
theorem swp_length (l : List Nat) (i j : Nat) : (swp l i j).length = l.length := by simp [swp]
theorem swp_perm (l : List Nat) (i j : Nat) (hi : i < l.length) (hj : j < l.length) : (swp l i j).Perm l := by
  unfold swp
  rw [List.getD_eq_getElem?_getD, List.getD_eq_getElem?_getD, List.getElem?_eq_getElem hi, List.getElem?_eq_getElem hj]
  exact List.set_set_perm hi hj
/-- the text by which place i is drawn -/
def ordText (d : List UInt8) (i : Nat) : List UInt8 := 16 :: (d ++ beS 4 i)
theorem ordText_length (d : List UInt8) (i : Nat) (h : d.length = 32) : (ordText d i).length = 37 := by simp [ordText, h, beS_length]
/-- the place that goes to place i -/
def ordAt (d : List UInt8) (i : Nat) : Nat := pickN (shaOf (ordText d i)) (i + 1)
theorem ordAt_lt (d : List UInt8) (i : Nat) : ordAt d i < i + 1 := pickN_lt _ _ (by omega)
/-- the places from i on down are drawn -/
def ordGo (d : List UInt8) : Nat → List Nat → List Nat
  | 0, l => l
  | i + 1, l => ordGo d i (swp l (i + 1) (ordAt d (i + 1)))
theorem ordGo_perm (d : List UInt8) : ∀ (i : Nat) (l : List Nat), i < l.length ∨ i = 0 → (ordGo d i l).Perm l
  | 0, l, _ => List.Perm.refl _
  | i + 1, l, h => by
    have h1 : i + 1 < l.length := by omega
    have := ordAt_lt d (i + 1)
    refine (ordGo_perm d i _ (.inl (by rw [swp_length]; omega))).trans (swp_perm l _ _ h1 ?_)
    rcases h with h | h <;> omega
def orderOf (d : List UInt8) (n : Nat) : List Nat := ordGo d (n - 1) (List.range n)
theorem orderOf_perm (d : List UInt8) (n : Nat) : (orderOf d n).Perm (List.range n) := ordGo_perm d _ _ (by rw [List.length_range]; omega)
theorem orderOf_length (d : List UInt8) (n : Nat) : (orderOf d n).length = n := by rw [(orderOf_perm d n).length_eq, List.length_range]
theorem orderOf_lt (d : List UInt8) (n : Nat) : ∀ x ∈ orderOf d n, x < n := fun x hx => List.mem_range.1 ((orderOf_perm d n).mem_iff.1 hx)
theorem orderOf_nodup (d : List UInt8) (n : Nat) : (orderOf d n).Nodup := (orderOf_perm d n).nodup_iff.2 List.nodup_range
end Go.Proofs.YteikbbdkpeecaaaDoor
