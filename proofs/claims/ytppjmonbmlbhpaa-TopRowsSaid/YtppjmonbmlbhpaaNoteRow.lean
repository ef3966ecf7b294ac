/- A note in a row of 90 bytes. Plain: no program is in sight. -/
import Derived.Test.YtppjmonbmlbhpaaNoteRead
namespace Go.Proofs.Ytppjmonbmlbhpaa
set_option linter.unusedVariables false
/-- a note that is written -/
def NtOk (c : Ct) : Prop := named c.name = true ∧ 0 ≤ c.lvl ∧ c.lvl < 4294967296
/-- its length, its bytes, and k zeros -/
def rowK (c : Ct) (k : Nat) : List UInt8 := UInt8.ofNat (c.name.size + 37) :: (noteB c.name c.key c.lvl.toNat ++ List.replicate k 0)
def nrow (c : Ct) : List UInt8 := rowK c (52 - c.name.size)
theorem rowK_length {c : Ct} (hk : c.key.length = 32) (k : Nat) : (rowK c k).length = c.name.size + 38 + k := by
  unfold rowK
  rw [List.length_cons, List.length_append, noteB_length _ _ _ hk, List.length_replicate]
  omega
theorem rowK_succ (c : Ct) (k : Nat) : rowK c (k + 1) = rowK c k ++ [0] := by
  unfold rowK
  rw [List.replicate_succ', List.cons_append, List.append_assoc]
theorem rowK_zero (c : Ct) : rowK c 0 = UInt8.ofNat (c.name.size + 37) :: noteB c.name c.key c.lvl.toNat := by
  unfold rowK
  rw [List.replicate_zero, List.append_nil]
theorem nrow_length {c : Ct} (hk : c.key.length = 32) (h : NtOk c) : (nrow c).length = 90 := by
  unfold nrow
  have := (named_size h.1).2
  rw [rowK_length hk]
  omega
theorem nrow_zero {c : Ct} (hk : c.key.length = 32) (h : NtOk c) (h0 : 0 < (nrow c).length) : (nrow c)[0] = UInt8.ofNat (c.name.size + 37) := rfl
theorem nrow_head {c : Ct} (h : NtOk c) : (UInt8.ofNat (c.name.size + 37)).toNat = c.name.size + 37 := by
  have := (named_size h.1).2
  simp
  omega
/-- what lies behind the length is the note -/
theorem nrow_note {c : Ct} (hk : c.key.length = 32) (h : NtOk c) : ((nrow c).drop 1).take (c.name.size + 37) = noteB c.name c.key c.lvl.toNat := by
  unfold nrow rowK
  rw [List.drop_succ_cons, List.drop_zero, List.take_append_of_le_length (by rw [noteB_length _ _ _ hk]; exact Nat.le_refl _), List.take_of_length_le (by rw [noteB_length _ _ _ hk]; exact Nat.le_refl _)]
theorem nrow_rows (b : List Ct) (k : Nat) (hk : k < b.length) : (b.take (k + 1)).map nrow = (b.take k).map nrow ++ [nrow b[k]] := by
  rw [List.take_succ_eq_append_getElem hk, List.map_append]; rfl
end Go.Proofs.Ytppjmonbmlbhpaa
