/- Law: a round of a block, in integers. Plain: no program is in sight. -/
import Derived.Test.YtpeomfehdccmmaaDoorShaI
import Derived.Test.YtpeomfehdccmmaaDoorWords
namespace Go.Proofs.YtpeomfehdccmmaaDoor
open Go.RowKit
set_option linter.unusedVariables false
/-- the state, its words from 0 on moved on down to place j -/
def shf (v : List UInt32) (j : Nat) : List UInt32 := (List.range 8).map fun t => if t ≤ j then g v t else g v (t - 1)
theorem shf_length (v : List UInt32) (j : Nat) : (shf v j).length = 8 := by simp [shf]
theorem g_shf (v : List UInt32) (j t : Nat) (ht : t < 8) : g (shf v j) t = if t ≤ j then g v t else g v (t - 1) := by
  unfold g shf
  rw [List.getD_eq_getElem?_getD, List.getElem?_map, List.getElem?_range ht]
  rfl
theorem shf_7 (v : List UInt32) (h : v.length = 8) : shf v 7 = v := by
  apply list8 _ _ (shf_length _ _) h
  intro i hi
  rw [g_shf _ _ _ hi, if_pos (by omega)]
theorem shf_set (v : List UInt32) (j : Nat) (h : 0 < j) (hj : j < 8) : (shf v j).set j (g v (j - 1)) = shf v (j - 1) := by
  apply list8 _ _ (by rw [List.length_set]; exact shf_length _ _) (shf_length _ _)
  intro i hi
  rw [g_set _ _ _ _ (by rw [shf_length]; exact hj), g_shf _ _ _ hi, g_shf _ _ _ hi]
  by_cases e : i = j
  · subst e; rw [if_pos rfl, if_neg (by omega)]
  · rw [if_neg e]
    by_cases e2 : i ≤ j
    · rw [if_pos e2, if_pos (by omega)]
    · rw [if_neg e2, if_neg (by omega)]
theorem shf_end (v : List UInt32) (k w : UInt32) : ((shf v 0).set 4 (ad (g v 3) (pOf v k w))).set 0 (ad (pOf v k w) (qOf v)) = rnd v k w := by
  apply list8 _ _ (by rw [List.length_set, List.length_set]; exact shf_length _ _) rfl
  intro i hi
  rw [g_set _ _ _ _ (by rw [List.length_set, shf_length]; omega), g_set _ _ _ _ (by rw [shf_length]; omega), g_shf _ _ _ hi]
  have h8 : i = 0 ∨ i = 1 ∨ i = 2 ∨ i = 3 ∨ i = 4 ∨ i = 5 ∨ i = 6 ∨ i = 7 := by omega
  rcases h8 with rfl | rfl | rfl | rfl | rfl | rfl | rfl | rfl <;> rfl
/-- the sum of five words -/
theorem p_sum (a b c d e : UInt32) : UInt32.ofNat (a.toNat + b.toNat + c.toNat + d.toNat + e.toNat) = ad (ad (ad (ad a b) c) d) e := by
  rw [of_add, of_add, of_add, of_add, of_toNat, of_toNat, of_toNat, of_toNat, of_toNat]
theorem of_two (a : UInt32) (n : Nat) : UInt32.ofNat (a.toNat + n) = ad a (UInt32.ofNat n) := by rw [of_add, of_toNat]
theorem in_n (n : Nat) (h : n < 9223372036854775808) : IntKind.i64.wrap (n : Int) = (n : Int) := IntWalk.i64_in _ (by omega)
/-- what is added, in integers -/
theorem p_walk (a b c d e : UInt32) : ∃ P : Nat, P < 21474836480 ∧ UInt32.ofNat P = ad (ad (ad (ad a b) c) d) e ∧
    IntKind.i64.wrap ((a.toNat : Int) + (b.toNat : Int)) = (a.toNat : Int) + (b.toNat : Int) ∧
    IntKind.i64.wrap ((a.toNat : Int) + (b.toNat : Int) + (c.toNat : Int)) = (a.toNat : Int) + (b.toNat : Int) + (c.toNat : Int) ∧
    IntKind.i64.wrap ((a.toNat : Int) + (b.toNat : Int) + (c.toNat : Int) + (d.toNat : Int)) = (a.toNat : Int) + (b.toNat : Int) + (c.toNat : Int) + (d.toNat : Int) ∧
    IntKind.i64.wrap ((a.toNat : Int) + (b.toNat : Int) + (c.toNat : Int) + (d.toNat : Int) + (e.toNat : Int)) = (P : Int) ∧
    (a.toNat : Int) + (b.toNat : Int) + (c.toNat : Int) + (d.toNat : Int) + (e.toNat : Int) = (P : Int) := by
  have := w_lt a; have := w_lt b; have := w_lt c; have := w_lt d; have := w_lt e
  refine ⟨a.toNat + b.toNat + c.toNat + d.toNat + e.toNat, by omega, p_sum a b c d e, IntWalk.i64_in _ (by omega), IntWalk.i64_in _ (by omega), IntWalk.i64_in _ (by omega), ?_, by omega⟩
  rw [IntWalk.i64_in _ (by omega)]; omega
theorem q_walk (a b : UInt32) : ∃ Q : Nat, Q < 8589934592 ∧ UInt32.ofNat Q = ad a b ∧ IntKind.i64.wrap ((a.toNat : Int) + (b.toNat : Int)) = (Q : Int) ∧ (a.toNat : Int) + (b.toNat : Int) = (Q : Int) := by
  have := w_lt a; have := w_lt b
  refine ⟨a.toNat + b.toNat, by omega, by rw [of_add, of_toNat, of_toNat], ?_, by omega⟩
  rw [IntWalk.i64_in _ (by omega)]; omega
theorem low_sum (m n : Nat) (hm : m < 4611686018427387904) (hn : n < 4611686018427387904) : IntKind.i64.wrap ((m : Int) + (n : Int)) = (m : Int) + (n : Int) ∧ bits .and .i64 ((m : Int) + (n : Int)) 4294967295 = ((ad (UInt32.ofNat m) (UInt32.ofNat n)).toNat : Int) := by
  refine ⟨IntWalk.i64_in _ (by omega), ?_⟩
  have := ri_low (m + n) (by omega)
  rw [of_add, Int.natCast_add] at this
  exact this
theorem ri_not (a : UInt32) : IntKind.i64.wrap (4294967295 - (a.toNat : Int)) = ((nt a).toNat : Int) ∧ (4294967295 : Int) - (a.toNat : Int) = ((nt a).toNat : Int) := by
  have := w_lt a
  exact ⟨by rw [IntWalk.i64_in _ (by omega)]; exact r_not a, r_not a⟩
end Go.Proofs.YtpeomfehdccmmaaDoor
