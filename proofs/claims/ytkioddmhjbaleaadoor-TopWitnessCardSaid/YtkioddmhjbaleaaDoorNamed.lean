/- Walk: book.Named tells if it is a name. -/
import Derived.Test.YtkioddmhjbaleaaDoorChecked
import Derived.Shelf.GgClosure.StringsIndexFuncTop
import Derived.WalkKit
import Derived.ProofKit
import Derived.Lib.Hide
namespace Go.Proofs.YtkioddmhjbaleaaDoor
open Go.RowKit Go.Shelf
set_option linter.unusedVariables false

def nmRen : Ren := ⟨fun | 15 => 143 | 17 => 125 | 20 => 154 | n => n, fun | 0 => 0 | 3 => 3 | 4 => 4 | 9 => 9 | 21 => 21 | 23 => 192 | n => n, fun n => n⟩
theorem nmLays : LaysGw.n17 Tryd.prog nmRen := { mixed := by kernel_rfl, f15 := by kernel_rfl, f17 := by kernel_rfl, f20 := by kernel_rfl, t0 := by kernel_rfl, a0 := fun _ => by kernel_rfl, z0 := fun _ => by kernel_rfl, v0 := fun _ => by kernel_rfl, i0 := by kernel_rfl, t3 := by kernel_rfl, a3 := fun _ => by kernel_rfl, z3 := fun _ => by kernel_rfl, v3 := fun _ => by kernel_rfl, i3 := by kernel_rfl, t4 := by kernel_rfl, a4 := fun _ => by kernel_rfl, z4 := fun _ => by kernel_rfl, v4 := fun _ => by kernel_rfl, i4 := by kernel_rfl, t9 := by kernel_rfl, a9 := fun _ => by kernel_rfl, z9 := fun _ => by kernel_rfl, v9 := fun _ => by kernel_rfl, i9 := by kernel_rfl, t21 := by kernel_rfl, a21 := fun _ => by kernel_rfl, z21 := fun _ => by kernel_rfl, v21 := fun _ => by kernel_rfl, i21 := by kernel_rfl, t23 := by kernel_rfl, a23 := fun _ => by kernel_rfl, z23 := fun _ => by kernel_rfl, v23 := fun _ => by kernel_rfl, i23 := by kernel_rfl }
/-- a letter that no name has -/
def badRune (r : Nat) : Bool := (decide (r < 97) || decide (122 < r)) && (decide (r < 48) || decide (57 < r)) && decide (r ≠ 45)
theorem badAt (w : World) : PredAt Tryd.prog 126 #[] encR badRune w := fun W r _ => by
  unfold FnGives
  by_cases h1 : r < 97 <;> by_cases h2 : 122 < r <;> by_cases h3 : r < 48 <;> by_cases h4 : 57 < r <;> by_cases h5 : r = 45
  all_goals
    have z1 : decide ((r : Int) < 97) = decide (r < 97) := by congr 1; apply propext; omega
    have z2 : decide ((122 : Int) < (r : Int)) = decide (122 < r) := by congr 1; apply propext; omega
    have z3 : decide ((r : Int) < 48) = decide (r < 48) := by congr 1; apply propext; omega
    have z4 : decide ((57 : Int) < (r : Int)) = decide (57 < r) := by congr 1; apply propext; omega
    have z5 : ((r : Int) != 45) = decide (r ≠ 45) := by by_cases h : r = 45 <;> simp [h] <;> omega
    simp only [h1, h2, h3, h4, h5, decide_true, decide_false, ne_eq, not_true, not_false_iff] at z1 z2 z3 z4 z5
    have hb : badRune r = badRune r := rfl
    go_enter Tryd.func126, Tryd.ntmps126
    go_wp2
    all_goals first | (exfalso; omega) | (go_ret; exact ⟨by simp [badRune, h1, h2, h3, h4, h5], 0, rfl⟩)
/-- is it a name? -/
def named (s : ByteArray) : Bool := !(s.toList == []) && decide (s.size ≤ 30) && !(decide (0 ≤ Lib.idxFunc badRune true s))
theorem Named_calls (s : ByteArray) (hs : s.size ≤ 9223372036854775807) (w : World) : Calls Tryd.prog 100 #[.string s] w fun e w' => e = .returned (.bool (named s)) ∧ Below w.heap.size w w' := by
  have hC := Any.strings_ContainsFunc nmLays 126 #[] (enters_of Tryd.func126 (by kernel_rfl) rfl) badRune s w (badAt w)
  change Calls Tryd.prog 125 _ _ _ at hC
  obtain ⟨b0, hb0⟩ : ∃ b, (s.toList == []) = b := ⟨_, rfl⟩
  have hb1 : (s.toList == (ByteArray.mk #[]).toList) = b0 := by rw [show (ByteArray.mk #[]).toList = [] by decide +kernel]; exact hb0
  obtain ⟨b2, hb2⟩ : ∃ b, decide (0 ≤ Lib.idxFunc badRune true s) = b := ⟨_, rfl⟩
  rw [hb2] at hC
  cases b0 with
  | true =>
    have hn : named s = false := by unfold named; rw [hb0]; rfl
    have Hn := Lib.hid hn
    clear hn hC hb2
    go_enter Tryd.func100, Tryd.ntmps100
    go_wp2_with fail
    go_ret
    exact ⟨by rw [Hn.out]; try rfl, Below.refl _ _⟩
  | false =>
    by_cases h1 : 30 < s.size
    · have hn : named s = false := by unfold named; rw [decide_eq_false (show ¬ s.size ≤ 30 by omega)]; simp
      have Hn := Lib.hid hn
      have q1 : decide ((30 : Int) < (s.size : Int)) = true := by rw [decide_eq_true_eq]; omega
      clear hn hC hb2 h1
      go_enter Tryd.func100, Tryd.ntmps100
      go_wp2_with fail
      go_ret
      exact ⟨by rw [Hn.out]; try rfl, Below.refl _ _⟩
    · have hn : named s = !b2 := by unfold named; rw [hb0, decide_eq_true (show s.size ≤ 30 by omega), hb2]; rfl
      have Hn := Lib.hid hn
      have q1 : decide ((30 : Int) < (s.size : Int)) = false := by rw [decide_eq_false]; omega
      clear hn hb2 h1
      go_enter Tryd.func100, Tryd.ntmps100
      go_wp2_with fail
      refine hC.mono ?_; rintro e w1 ⟨rfl, hb⟩
      clear hC
      go_wp2_with fail
      go_ret
      exact ⟨by rw [Hn.out]; try rfl, hb⟩
end Go.Proofs.YtkioddmhjbaleaaDoor
