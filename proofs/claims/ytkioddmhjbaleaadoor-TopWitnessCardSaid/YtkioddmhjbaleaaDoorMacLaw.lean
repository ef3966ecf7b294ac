/- Digests with a key, chains, short keys, stamps: plain. No walk is here. -/
import Derived.Test.YtkioddmhjbaleaaDoorShaBase
namespace Go.Proofs.YtkioddmhjbaleaaDoor
set_option linter.unusedVariables false
/-- a byte with another one's bits turned; a name of its own, which no simplification opens -/
def tw (a b : UInt8) : UInt8 := a ^^^ b
def keyOf (key : List UInt8) : List UInt8 := if 64 < key.length then shaOf key else key
def padK (c : UInt8) (key : List UInt8) : List UInt8 := (List.range 64).map fun i => tw (key.getD i 0) c
def macOf (key b : List UInt8) : List UInt8 := shaOf (padK 92 (keyOf key) ++ shaOf (padK 54 (keyOf key) ++ b))
theorem padK_length (c : UInt8) (key : List UInt8) : (padK c key).length = 64 := by simp [padK]
theorem macOf_length (key b : List UInt8) : (macOf key b).length = 32 := shaOf_length _
theorem keyOf_length (key : List UInt8) : (keyOf key).length ≤ 64 := by
  unfold keyOf
  split
  · rw [shaOf_length]; omega
  · omega
theorem keyOf_short {key : List UInt8} (h : key.length ≤ 64) : keyOf key = key := by unfold keyOf; rw [if_neg (by omega)]
theorem keyOf_long {key : List UInt8} (h : 64 < key.length) : keyOf key = shaOf key := by unfold keyOf; rw [if_pos h]
theorem padK_take (c : UInt8) (key : List UInt8) (k : Nat) (h : k < 64) : (padK c key).take (k + 1) = (padK c key).take k ++ [tw (key.getD k 0) c] := by
  rw [List.take_succ_eq_append_getElem (by rw [padK_length]; exact h)]
  simp [padK]
end Go.Proofs.YtkioddmhjbaleaaDoor
