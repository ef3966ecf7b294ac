/- Walk: oathbookref1.Put: a number in so many bytes, as the document reckons it. -/
import Derived.Test.YtkioddmhjbaleaaDoorOpenA
import Derived.Test.YtkioddmhjbaleaaDoorShaBase
import Derived.WalkKit
import Derived.WalkSmall
namespace Go.Proofs.YtkioddmhjbaleaaDoor
open Go.RowKit
set_option linter.unusedVariables false
set_option linter.unusedSimpArgs false
/-- byte number j of so many -/
def beB (size n j : Nat) : UInt8 := UInt8.ofNat (n / 2 ^ (8 * (size - 1 - j)))
/-- a number in so many bytes -/
def beS (size n : Nat) : List UInt8 := (List.range size).map (beB size n)
/-- .. of which the last k are there -/
def beM (size n k : Nat) : List UInt8 := (List.range size).map fun t => if size - k ≤ t then beB size n t else 0
theorem beS_length (size n : Nat) : (beS size n).length = size := by simp [beS]
theorem beM_length (size n k : Nat) : (beM size n k).length = size := by simp [beM]
theorem beM_zero (size n : Nat) : (beM size n 0).map vB = List.replicate size (.int .u8 0) := by
  apply List.ext_getElem
  · simp [beM]
  · intro i h1 h2
    have : i < size := by simpa [beM] using h1
    simp [beM, vB, show ¬ size ≤ i by omega]
theorem beM_full (size n : Nat) : beM size n size = beS size n := by
  apply List.ext_getElem
  · simp [beM, beS]
  · intro i h1 h2
    simp [beM, beS]
theorem beM_at (size n k i : Nat) (hi : i < size) : (beM size n k)[i]? = some (if size - k ≤ i then beB size n i else 0) := by
  unfold beM
  rw [List.getElem?_map, List.getElem?_range hi]
  rfl
theorem beM_succ (size n k : Nat) (hk : k < size) : (beM size n k).set (size - 1 - k) (beB size n (size - 1 - k)) = beM size n (k + 1) := by
  apply List.ext_getElem?
  intro i
  by_cases hi : i < size
  · rw [List.getElem?_set, beM_at _ _ _ _ hi, beM_at _ _ _ _ hi]
    by_cases e : size - 1 - k = i
    · rw [if_pos e, if_pos (by rw [beM_length]; omega), if_pos (by omega), e]
    · rw [if_neg e]
      by_cases e2 : size - k ≤ i
      · rw [if_pos e2, if_pos (by omega)]
      · rw [if_neg e2, if_neg (by omega)]
  · rw [List.getElem?_eq_none (by rw [List.length_set, beM_length]; omega), List.getElem?_eq_none (by rw [beM_length]; omega)]
theorem RPut_neg (n : Int) (size : Nat) (h1 : 1 ≤ size) (h8 : size ≤ 8) (hn : n < 0) (w : World) :
    Calls Tryd.prog 89 #[.int .i64 n, .int .i64 size] w fun e w' => e = .returned (.tuple #[.slice none 0 0, .bool false]) ∧ w = w' := by
  have z1 : decide ((size : Int) < 1) = false := decide_eq_false (by omega)
  have z2 : decide ((8 : Int) < (size : Int)) = false := decide_eq_false (by omega)
  have z3 : decide (n < 0) = true := decide_eq_true hn
  have z4 : decide (8 < size) = false := decide_eq_false (by omega)
  go_enter Tryd.func89, Tryd.ntmps89
  go_wp2_with fail
  go_ret2
  exact ⟨rfl, rfl⟩
theorem RPut_calls (n size : Nat) (h1 : 1 ≤ size) (h8 : size ≤ 8) (hn : n ≤ 9223372036854775807) (w : World) :
    Calls Tryd.prog 89 #[.int .i64 n, .int .i64 size] w fun e w' => ∃ a cap, e = .returned (.tuple #[.slice a size cap, .bool (decide (n < 2 ^ (8 * size)))]) ∧ w'.ownsRow w.heap.size 5 1 (.slice a size cap) size ((beS size n).map vB) ∧ Below w.heap.size w w' := by
  obtain ⟨i0, hi0, hz0, hs0, hb0⟩ := info_parts info_byte
  have z1 : decide ((size : Int) < 1) = false := decide_eq_false (by omega)
  have z2 : decide ((8 : Int) < (size : Int)) = false := decide_eq_false (by omega)
  have z3 : decide ((n : Int) < 0) = false := decide_eq_false (by omega)
  have z4 : decide (8 < size) = false := decide_eq_false (by omega)
  have m1 : IntKind.i64.wrap ((size : Int) - 1) = (size : Int) - 1 := IntWalk.i64_in _ (by omega)
  go_enter Tryd.func89, Tryd.ntmps89
  go_wp2_with (at_make; refine wpList_make_full _ rfl _ _ 67 rfl w.heap.size 5 i0 (.int .u8 0) 1 Tryd.underlying67 hi0 hz0 hs0 _ _ _ _ size rfl rfl rfl rfl ?c1 ?c2 ?c3 ?_)
  case c1 => rw [hb0]; omega
  case c2 => simp only [maxLen]; omega
  case c3 => exact Nat.le_refl _
  intro w2 hown2 hgrow2
  rw [made_one, ← beM_zero size n] at hown2
  have hb2 : Below w.heap.size w w2 := (Below.refl _ w).grown hgrow2 (Nat.le_refl _) (fun k hk => by cases hk)
  obtain ⟨W, hW⟩ : ∃ W, W = w.heap.size := ⟨_, rfl⟩
  rw [← hW] at hown2 hb2 ⊢
  have HW := Lib.hid hW
  have HOWN := Lib.hid hown2
  have HB2 := Lib.hid hb2
  clear hW hgrow2 hown2 hb2
  go_wp2_with fail
  go_loopw [0, 7] (fun q i wr => ∃ k : Nat, k ≤ size ∧ q = .int .i64 ((n / 2 ^ (8 * k) : Nat) : Int) ∧ i = .int .i64 ((size : Int) - 1 - (k : Int)) ∧ wr.ownsRow W 5 1 (.slice (some ⟨W, 0, none⟩) size size) size ((beM size n k).map vB) ∧ Below W w wr) (fun _ i _ => (intOf i + 1).toNat)
  case atStart => exact ⟨0, Nat.zero_le _, by simp, by simp, HOWN.out, HB2.out⟩
  case round =>
    clear HOWN HB2
    obtain ⟨k, hk, rfl, rfl, hown, hbl⟩ := hrel
    obtain ⟨M, hM⟩ : ∃ M, M = n / 2 ^ (8 * k) := ⟨_, rfl⟩
    rw [← hM]
    by_cases hlt : k < size
    · obtain ⟨m, hm⟩ : ∃ m : Nat, m = size - 1 - k := ⟨_, rfl⟩
      have hmi : (size : Int) - 1 - (k : Int) = (m : Int) := by omega
      rw [hmi]
      obtain ⟨c0, cf⟩ := own_cell hown (k := m) (by rw [List.length_map, beM_length]; omega)
      obtain ⟨c1, hc1⟩ : ∃ c, c = ((beM size n k).map vB)[m]'(by rw [List.length_map, beM_length]; omega) := ⟨_, rfl⟩
      rw [← hc1] at c0
      have hX : M / 2 ^ 0 % 256 = (beB size n m).toNat := by
        unfold beB
        rw [UInt8.toNat_ofNat', hM, hm, show size - 1 - (size - 1 - k) = k by omega]
        simp
      obtain ⟨X, hXX⟩ : ∃ X, X = beB size n m := ⟨_, rfl⟩
      rw [← hXX] at hX
      have e1 : (M : Int) % 256 = (X.toNat : Int) := by
        rw [Nat.pow_zero, Nat.div_one] at hX; omega
      obtain ⟨M2, hM2⟩ : ∃ M2, M2 = n / 2 ^ (8 * (k + 1)) := ⟨_, rfl⟩
      have e2 : (M : Int) / 256 = (M2 : Int) := by
        have : M / 256 = M2 := by rw [hM, hM2, Nat.div_div_eq_div_mul, Nat.mul_add, Nat.pow_add]
        omega
      have hMn : M ≤ n := by rw [hM]; exact Nat.div_le_self _ _
      have hown5 := own_set hown m (.int .u8 X.toNat)
      have b5 := hbl.setCell (p := ⟨W, m, none⟩) (Nat.le_refl _) (.int .u8 X.toNat)
      have e5 : (((beM size n k).map vB).set m (.int .u8 X.toNat)) = (beM size n (k + 1)).map vB := by
        rw [← beM_succ size n k hlt, List.map_set, hXX, hm]; rfl
      rw [e5] at hown5
      have H5 := Lib.hid hown5
      have HB5 := Lib.hid b5
      have HM2 := Lib.hid hM2
      have hji : (m : Int) - 1 = (size : Int) - 1 - ((k + 1 : Nat) : Int) := by omega
      have HJI := Lib.hid hji
      have k0 : (0 : Int) ≤ (m : Int) := by omega
      have k1 : (m : Int) < (size : Int) := by omega
      have M0 : (0 : Int) ≤ (M : Int) := by omega
      have M1 : (M : Int) ≤ 9223372036854775807 := by omega
      clear hown5 b5 e5 hown hbl hX hXX hM hM2 hm hmi hc1 hji
      go_wp2_with fail
      go_roundw
      case rel => exact ⟨k + 1, hlt, by rw [← HM2.out], by rw [HJI.out], H5.out, HB5.out⟩
      case measure => simp only [intOf]; omega
    · obtain rfl : k = size := by omega
      rw [beM_full] at hown
      have hq : ((M : Int) == 0) = decide (n < 2 ^ (8 * k)) := by
        have hp : 0 < 2 ^ (8 * k) := Nat.two_pow_pos _
        rw [Bool.eq_iff_iff, beq_iff_eq, decide_eq_true_iff, ← Nat.div_eq_zero_iff_lt hp, ← hM]
        omega
      obtain ⟨B, hB⟩ : ∃ B, B = decide (n < 2 ^ (8 * k)) := ⟨_, rfl⟩
      rw [← hB] at hq
      have HBB := Lib.hid hB
      have HO := Lib.hid hown
      have HBL := Lib.hid hbl
      have hm1 : (k : Int) - 1 - (k : Int) = -1 := by omega
      rw [hm1]
      clear hown hbl hB hM hm1
      go_wp2_with fail
      go_ret2
      rw [← HW.out]
      exact ⟨_, _, by rw [HBB.out]; rfl, HO.out, HBL.out⟩
end Go.Proofs.YtkioddmhjbaleaaDoor
