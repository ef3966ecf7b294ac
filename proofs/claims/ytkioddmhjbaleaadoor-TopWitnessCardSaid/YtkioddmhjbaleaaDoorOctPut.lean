/- Walk: octet.Put of four bytes. -/
import Derived.Test.YtkioddmhjbaleaaDoorArrA
import Derived.Test.YtkioddmhjbaleaaDoorRPut
import Derived.WalkKit
import Derived.ProofKit
import Derived.Lib.Hide
namespace Go.Proofs.YtkioddmhjbaleaaDoor
open Go.RowKit
set_option linter.unusedVariables false

def ocE (n j : Nat) : UInt8 := UInt8.ofNat (n / 2 ^ (8 * (3 - j)))
def oc4 (n : Nat) : List UInt8 := (List.range 4).map (ocE n)
def oc4M (n k : Nat) : List UInt8 := (List.range 4).map fun j => if 4 - k ≤ j then ocE n j else 0
theorem oc4M_length (n k : Nat) : (oc4M n k).length = 4 := by simp [oc4M]
theorem oc4_length (n : Nat) : (oc4 n).length = 4 := by simp [oc4]

theorem OPut_ok (n : Nat) (hn : n < 4294967296) (w : World) :
    Calls Tryd.prog 65 #[.int .i64 n, .int .i64 4] w fun e w' => ∃ a cap, e = .returned (.tuple #[.slice a 4 cap, .nilIface]) ∧ w'.ownsRow w.heap.size 5 1 (.slice a 4 cap) 4 ((oc4 n).map vB) ∧ Below w.heap.size w w' := by
  obtain ⟨i0, hi0, hz0, hs0, hb0⟩ := info_parts info_byte
  have q1 : decide ((n : Int) < 0) = false := by rw [decide_eq_false]; omega
  have q2 : decide (0 < (n : Int) / 4294967296) = false := by rw [decide_eq_false]; omega
  go_enter Tryd.func65, Tryd.ntmps65
  go_wp2_with (at_make; refine wpList_make_full _ rfl _ _ 67 rfl w.heap.size 5 i0 (.int .u8 0) 1 Tryd.underlying67 hi0 hz0 hs0 _ _ _ _ 4 rfl rfl rfl rfl ?c1 ?c2 ?c3 ?_)
  case c1 => rw [hb0]; omega
  case c2 => simp only [maxLen]; omega
  case c3 => exact Nat.le_refl _
  intro w2 hown2 hgrow2
  rw [made_one] at hown2
  have e0 : (oc4M n 0).map vB = List.replicate 4 (.int .u8 0) := by rfl
  rw [← e0] at hown2
  have hb2 : Below w.heap.size w w2 := (Below.refl _ w).grown hgrow2 (Nat.le_refl _) (fun k hk => by cases hk)
  obtain ⟨W, hW⟩ : ∃ W, W = w.heap.size := ⟨_, rfl⟩
  rw [← hW] at hown2 hb2 ⊢
  have HW := Lib.hid hW
  clear hW hgrow2 e0
  go_wp2_with fail
  go_loopw [34] (fun q wr => ∃ k : Nat, k ≤ 4 ∧ q = .int .i64 k ∧ wr.ownsRow W 5 1 (.slice (some ⟨W, 0, none⟩) 4 4) 4 ((oc4M n k).map vB) ∧ Below W w wr) (fun q _ => 4 - (intOf q).toNat)
  case atStart => exact ⟨0, Nat.zero_le _, rfl, hown2, hb2⟩
  case round =>
    clear hown2 hb2
    obtain ⟨k, hk, rfl, hown, hbl⟩ := hrel
    by_cases hlt : k < 4
    · have hk4 : k = 0 ∨ k = 1 ∨ k = 2 ∨ k = 3 := by omega
      rcases hk4 with rfl | rfl | rfl | rfl
      · have g := own_cell hown (k := 3) (by rw [List.length_map, oc4M_length]; omega)
        have g1 := g.1
        have g2 := g.2
        have hv : (n : Int) % 256 = ((ocE n 3).toNat : Int) := by simp [ocE] <;> omega
        have hown5 := own_set hown 3 (.int .u8 (ocE n 3).toNat)
        have b5 := hbl.setCell (p := ⟨W, 3, none⟩) (Nat.le_refl _) (.int .u8 (ocE n 3).toNat)
        have e5 : (((oc4M n 0).map vB).set 3 (.int .u8 (ocE n 3).toNat)) = (oc4M n (0 + 1)).map vB := by rfl
        rw [e5] at hown5
        clear g e5
        go_wp2_with fail
        go_roundw
        case rel => exact ⟨0 + 1, by omega, by go_num, hown5, b5⟩
        case measure => simp [intOf] <;> omega
      · have g := own_cell hown (k := 2) (by rw [List.length_map, oc4M_length]; omega)
        have g1 := g.1
        have g2 := g.2
        have hv : (n : Int) / 256 % 256 = ((ocE n 2).toNat : Int) := by simp [ocE] <;> omega
        have hown5 := own_set hown 2 (.int .u8 (ocE n 2).toNat)
        have b5 := hbl.setCell (p := ⟨W, 2, none⟩) (Nat.le_refl _) (.int .u8 (ocE n 2).toNat)
        have e5 : (((oc4M n 1).map vB).set 2 (.int .u8 (ocE n 2).toNat)) = (oc4M n (1 + 1)).map vB := by rfl
        rw [e5] at hown5
        clear g e5
        go_wp2_with fail
        go_roundw
        case rel => exact ⟨1 + 1, by omega, by go_num, hown5, b5⟩
        case measure => simp [intOf] <;> omega
      · have g := own_cell hown (k := 1) (by rw [List.length_map, oc4M_length]; omega)
        have g1 := g.1
        have g2 := g.2
        have hv : (n : Int) / 65536 % 256 = ((ocE n 1).toNat : Int) := by simp [ocE] <;> omega
        have hown5 := own_set hown 1 (.int .u8 (ocE n 1).toNat)
        have b5 := hbl.setCell (p := ⟨W, 1, none⟩) (Nat.le_refl _) (.int .u8 (ocE n 1).toNat)
        have e5 : (((oc4M n 2).map vB).set 1 (.int .u8 (ocE n 1).toNat)) = (oc4M n (2 + 1)).map vB := by rfl
        rw [e5] at hown5
        clear g e5
        go_wp2_with fail
        go_roundw
        case rel => exact ⟨2 + 1, by omega, by go_num, hown5, b5⟩
        case measure => simp [intOf] <;> omega
      · have g := own_cell hown (k := 0) (by rw [List.length_map, oc4M_length]; omega)
        have g1 := g.1
        have g2 := g.2
        have hv : (n : Int) / 16777216 = ((ocE n 0).toNat : Int) := by simp [ocE] <;> omega
        have hown5 := own_set hown 0 (.int .u8 (ocE n 0).toNat)
        have b5 := hbl.setCell (p := ⟨W, 0, none⟩) (Nat.le_refl _) (.int .u8 (ocE n 0).toNat)
        have e5 : (((oc4M n 3).map vB).set 0 (.int .u8 (ocE n 0).toNat)) = (oc4M n (3 + 1)).map vB := by rfl
        rw [e5] at hown5
        clear g e5
        go_wp2_with fail
        go_roundw
        case rel => exact ⟨3 + 1, by omega, by go_num, hown5, b5⟩
        case measure => simp [intOf] <;> omega
    · obtain rfl : k = 4 := by omega
      have e4 : oc4M n 4 = oc4 n := by rfl
      rw [e4] at hown
      go_wp2_with fail
      go_ret2
      exact ⟨some ⟨W, 0, none⟩, 4, rfl, by rw [HW.out] at hown ⊢; exact hown, by rw [HW.out] at hbl; exact hbl⟩
theorem OPut_no (n : Int) (hn : n < 0 ∨ 4294967296 ≤ n) (h : n ≤ 9223372036854775807) (w : World) :
    Calls Tryd.prog 65 #[.int .i64 n, .int .i64 4] w fun e w' => e = .returned (.tuple #[.slice none 0 0, .iface 41 (.int .i64 2)]) ∧ w = w' := by
  by_cases h0 : n < 0
  · go_enter Tryd.func65, Tryd.ntmps65
    go_wp2
    go_ret2
    exact ⟨rfl, rfl⟩
  · have q1 : decide (n < 0) = false := by rw [decide_eq_false]; omega
    have q2 : decide (0 < n / 4294967296) = true := by rw [decide_eq_true_eq]; omega
    go_enter Tryd.func65, Tryd.ntmps65
    go_wp2
    go_ret2
    exact ⟨rfl, rfl⟩
end Go.Proofs.YtkioddmhjbaleaaDoor
