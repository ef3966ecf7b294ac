/- Chains and short keys: plain. No walk is here. -/
import Derived.Test.YtkioddmhjbaleaaGreatDoorMacLaw
namespace Go.Proofs.YtkioddmhjbaleaaGreatDoor
set_option linter.unusedVariables false
def stepD (d : List UInt8) : List UInt8 := shaOf (8 :: d)
theorem stepD_length (d : List UInt8) : (stepD d).length = 32 := shaOf_length _
/-- so many steps on -/
def walkD (d : List UInt8) : Nat → List UInt8
  | 0 => d
  | n + 1 => stepD (walkD d n)
theorem walkD_length {d : List UInt8} (h : d.length = 32) : ∀ n, (walkD d n).length = 32
  | 0 => h
  | n + 1 => stepD_length _
theorem walkD_add (d : List UInt8) (m : Nat) : ∀ n, walkD (walkD d m) n = walkD d (m + n)
  | 0 => rfl
  | n + 1 => by rw [walkD, walkD_add d m n]; rfl
/-- half bytes: the first 64 -/
def nibA (m : List UInt8) (i : Nat) : Nat := if i % 2 = 1 then (m.getD (i / 2) 0).toNat % 16 else (m.getD (i / 2) 0).toNat / 16
def lackK (m : List UInt8) : Nat → Nat
  | 0 => 0
  | k + 1 => lackK m k + (15 - nibA m k)
/-- all 67 -/
def nibs (m : List UInt8) : List Nat := (List.range 64).map (nibA m) ++ [lackK m 64 / 256, lackK m 64 / 16 % 16, lackK m 64 % 16]
theorem nibA_le (m : List UInt8) (i : Nat) : nibA m i ≤ 15 := by
  unfold nibA
  have := (m.getD (i / 2) 0).toNat_lt
  split <;> omega
theorem lackK_le (m : List UInt8) : ∀ k, lackK m k ≤ 15 * k
  | 0 => Nat.le_refl _
  | k + 1 => by have := lackK_le m k; rw [lackK]; omega
theorem nibs_length (m : List UInt8) : (nibs m).length = 67 := by simp [nibs]
theorem nibs_le (m : List UInt8) : ∀ n ∈ nibs m, n ≤ 15 := by
  intro n hn
  have hl := lackK_le m 64
  unfold nibs at hn
  rcases List.mem_append.1 hn with h | h
  · obtain ⟨i, _, rfl⟩ := List.mem_map.1 h
    exact nibA_le m i
  · simp only [List.mem_cons, List.not_mem_nil, or_false] at h
    rcases h with rfl | rfl | rfl <;> omega
/-- the secrets of a seed -/
def secD (seed : List UInt8) (i : Nat) : List UInt8 := macOf seed [5, UInt8.ofNat i]
theorem secD_length (seed : List UInt8) (i : Nat) : (secD seed i).length = 32 := macOf_length _ _
def wpub (seed : List UInt8) : List UInt8 := shaOf (7 :: ((List.range 67).map fun i => walkD (secD seed i) 15).flatten)
def wsig (seed m : List UInt8) : List (List UInt8) := (List.range 67).map fun i => walkD (secD seed i) ((nibs m).getD i 0)
def wkey (m : List UInt8) (sig : List (List UInt8)) : List UInt8 := shaOf (7 :: ((List.range 67).map fun i => walkD (sig.getD i []) (15 - (nibs m).getD i 0)).flatten)
theorem wpub_length (seed : List UInt8) : (wpub seed).length = 32 := shaOf_length _
theorem wkey_length (m : List UInt8) (sig : List (List UInt8)) : (wkey m sig).length = 32 := shaOf_length _
theorem wsig_length (seed m : List UInt8) : (wsig seed m).length = 67 := by simp [wsig]
theorem wsig_dig (seed m : List UInt8) : ∀ d ∈ wsig seed m, d.length = 32 := by
  intro d hd
  obtain ⟨i, _, rfl⟩ := List.mem_map.1 hd
  exact walkD_length (secD_length _ _) _
/-- a signature tells the public key -/
theorem wkey_sig (seed m : List UInt8) : wkey m (wsig seed m) = wpub seed := by
  unfold wkey wpub
  congr 3
  refine List.map_congr_left fun i hi => ?_
  have h67 : i < 67 := List.mem_range.1 hi
  have hn : (nibs m).getD i 0 ≤ 15 := by
    rw [List.getD_eq_getElem?_getD, List.getElem?_eq_getElem (by rw [nibs_length]; exact h67)]
    exact nibs_le m _ (List.getElem_mem _)
  have e : (wsig seed m).getD i [] = walkD (secD seed i) ((nibs m).getD i 0) := by
    rw [List.getD_eq_getElem?_getD, List.getElem?_eq_getElem (by rw [wsig_length]; exact h67)]
    simp [wsig]
  rw [e, walkD_add]
  congr 1
  omega
/-- the keys of a stamp, and what signs -/
def skey (seed : List UInt8) (i : Nat) : List UInt8 := macOf seed [11, UInt8.ofNat i]
theorem skey_length (seed : List UInt8) (i : Nat) : (skey seed i).length = 32 := macOf_length _ _
def leavesK (seed : List UInt8) (n : Nat) : List (List UInt8) := (List.range n).map fun i => wpub (skey seed i)
theorem leavesK_length (seed : List UInt8) (n : Nat) : (leavesK seed n).length = n := by simp [leavesK]
theorem leavesK_dig (seed : List UInt8) (n : Nat) : ∀ d ∈ leavesK seed n, d.length = 32 := by
  intro d hd
  obtain ⟨i, _, rfl⟩ := List.mem_map.1 hd
  exact wpub_length _
theorem leavesK_get (seed : List UInt8) (n i : Nat) (h : i < n) : (leavesK seed n)[i]? = some (wpub (skey seed i)) := by
  unfold leavesK
  rw [List.getElem?_map, List.getElem?_range h]; rfl
theorem leavesK_succ (seed : List UInt8) (n : Nat) : leavesK seed (n + 1) = leavesK seed n ++ [wpub (skey seed n)] := by
  unfold leavesK
  rw [List.range_succ, List.map_append]; rfl
end Go.Proofs.YtkioddmhjbaleaaGreatDoor
