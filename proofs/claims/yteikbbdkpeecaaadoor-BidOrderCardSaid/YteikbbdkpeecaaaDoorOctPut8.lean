/- Walk: octet.Put of a number in 8 bytes; and what it tells in 4, in the words of the document. -/
import Derived.Test.YteikbbdkpeecaaaDoorOctPut
namespace Go.Proofs.YteikbbdkpeecaaaDoor
open Go.RowKit
set_option linter.unusedVariables false
set_option linter.unusedSimpArgs false
theorem oc4_be (n : Nat) : oc4 n = beS 4 n := rfl
set_option maxHeartbeats 1000000 in
theorem OPut8_ok (n : Nat) (hn : n ≤ 9223372036854775807) (w : World) :
    Calls Tryd.prog 43 #[.int .i64 n, .int .i64 8] w fun e w' => ∃ a cap, e = .returned (.tuple #[.slice a 8 cap, .nilIface]) ∧ w'.ownsRow w.heap.size 5 1 (.slice a 8 cap) 8 ((beS 8 n).map vB) ∧ Below w.heap.size w w' := by
  obtain ⟨i0, hi0, hz0, hs0, hb0⟩ := info_parts info_byte
  have q1 : decide ((n : Int) < 0) = false := by rw [decide_eq_false]; omega
  go_enter Tryd.func43, Tryd.ntmps43
  go_wp2_with (at_make; refine wpList_make_full _ rfl _ _ 22 rfl w.heap.size 5 i0 (.int .u8 0) 1 Tryd.underlying22 hi0 hz0 hs0 _ _ _ _ 8 rfl rfl rfl rfl ?c1 ?c2 ?c3 ?_)
  case c1 => rw [hb0]; omega
  case c2 => simp only [maxLen]; omega
  case c3 => exact Nat.le_refl _
  intro w2 hown2 hgrow2
  rw [made_one] at hown2
  have e0 : (beM 8 n 0).map vB = List.replicate 8 (.int .u8 0) := by rfl
  rw [← e0] at hown2
  have hb2 : Below w.heap.size w w2 := (Below.refl _ w).grown hgrow2 (Nat.le_refl _) (fun k hk => by cases hk)
  obtain ⟨W, hW⟩ : ∃ W, W = w.heap.size := ⟨_, rfl⟩
  rw [← hW] at hown2 hb2 ⊢
  have HW := Lib.hid hW
  clear hW hgrow2 e0
  go_wp2_with fail
  go_loopw [34] (fun q wr => ∃ k : Nat, k ≤ 8 ∧ q = .int .i64 k ∧ wr.ownsRow W 5 1 (.slice (some ⟨W, 0, none⟩) 8 8) 8 ((beM 8 n k).map vB) ∧ Below W w wr) (fun q _ => 8 - (intOf q).toNat)
  case atStart => exact ⟨0, Nat.zero_le _, rfl, hown2, hb2⟩
  case round =>
    clear hown2 hb2
    obtain ⟨k, hk, rfl, hown, hbl⟩ := hrel
    by_cases hlt : k < 8
    · have hk4 : k = 0 ∨ k = 1 ∨ k = 2 ∨ k = 3 ∨ k = 4 ∨ k = 5 ∨ k = 6 ∨ k = 7 := by omega
      rcases hk4 with rfl | rfl | rfl | rfl | rfl | rfl | rfl | rfl
      · have g := own_cell hown (k := 7) (by rw [List.length_map, beM_length]; omega)
        have g1 := g.1
        have g2 := g.2
        have hv : (n : Int) % 256 = ((beB 8 n 7).toNat : Int) := by simp [beB] <;> omega
        have hown5 := own_set hown 7 (.int .u8 (beB 8 n 7).toNat)
        have b5 := hbl.setCell (p := ⟨W, 7, none⟩) (Nat.le_refl _) (.int .u8 (beB 8 n 7).toNat)
        have e5 : (((beM 8 n 0).map vB).set 7 (.int .u8 (beB 8 n 7).toNat)) = (beM 8 n (0 + 1)).map vB := by rfl
        rw [e5] at hown5
        clear g e5
        go_wp2_with fail
        go_roundw
        case rel => exact ⟨0 + 1, by omega, by go_num, hown5, b5⟩
        case measure => simp [intOf] <;> omega
      · have g := own_cell hown (k := 6) (by rw [List.length_map, beM_length]; omega)
        have g1 := g.1
        have g2 := g.2
        have hv : (n : Int) / 256 % 256 = ((beB 8 n 6).toNat : Int) := by simp [beB] <;> omega
        have hown5 := own_set hown 6 (.int .u8 (beB 8 n 6).toNat)
        have b5 := hbl.setCell (p := ⟨W, 6, none⟩) (Nat.le_refl _) (.int .u8 (beB 8 n 6).toNat)
        have e5 : (((beM 8 n 1).map vB).set 6 (.int .u8 (beB 8 n 6).toNat)) = (beM 8 n (1 + 1)).map vB := by rfl
        rw [e5] at hown5
        clear g e5
        go_wp2_with fail
        go_roundw
        case rel => exact ⟨1 + 1, by omega, by go_num, hown5, b5⟩
        case measure => simp [intOf] <;> omega
      · have g := own_cell hown (k := 5) (by rw [List.length_map, beM_length]; omega)
        have g1 := g.1
        have g2 := g.2
        have hv : (n : Int) / 65536 % 256 = ((beB 8 n 5).toNat : Int) := by simp [beB] <;> omega
        have hown5 := own_set hown 5 (.int .u8 (beB 8 n 5).toNat)
        have b5 := hbl.setCell (p := ⟨W, 5, none⟩) (Nat.le_refl _) (.int .u8 (beB 8 n 5).toNat)
        have e5 : (((beM 8 n 2).map vB).set 5 (.int .u8 (beB 8 n 5).toNat)) = (beM 8 n (2 + 1)).map vB := by rfl
        rw [e5] at hown5
        clear g e5
        go_wp2_with fail
        go_roundw
        case rel => exact ⟨2 + 1, by omega, by go_num, hown5, b5⟩
        case measure => simp [intOf] <;> omega
      · have g := own_cell hown (k := 4) (by rw [List.length_map, beM_length]; omega)
        have g1 := g.1
        have g2 := g.2
        have hv : (n : Int) / 16777216 % 256 = ((beB 8 n 4).toNat : Int) := by simp [beB] <;> omega
        have hown5 := own_set hown 4 (.int .u8 (beB 8 n 4).toNat)
        have b5 := hbl.setCell (p := ⟨W, 4, none⟩) (Nat.le_refl _) (.int .u8 (beB 8 n 4).toNat)
        have e5 : (((beM 8 n 3).map vB).set 4 (.int .u8 (beB 8 n 4).toNat)) = (beM 8 n (3 + 1)).map vB := by rfl
        rw [e5] at hown5
        clear g e5
        go_wp2_with fail
        go_roundw
        case rel => exact ⟨3 + 1, by omega, by go_num, hown5, b5⟩
        case measure => simp [intOf] <;> omega
      · have g := own_cell hown (k := 3) (by rw [List.length_map, beM_length]; omega)
        have g1 := g.1
        have g2 := g.2
        have hv : (n : Int) / 4294967296 % 256 = ((beB 8 n 3).toNat : Int) := by simp [beB] <;> omega
        have hown5 := own_set hown 3 (.int .u8 (beB 8 n 3).toNat)
        have b5 := hbl.setCell (p := ⟨W, 3, none⟩) (Nat.le_refl _) (.int .u8 (beB 8 n 3).toNat)
        have e5 : (((beM 8 n 4).map vB).set 3 (.int .u8 (beB 8 n 3).toNat)) = (beM 8 n (4 + 1)).map vB := by rfl
        rw [e5] at hown5
        clear g e5
        go_wp2_with fail
        go_roundw
        case rel => exact ⟨4 + 1, by omega, by go_num, hown5, b5⟩
        case measure => simp [intOf] <;> omega
      · have g := own_cell hown (k := 2) (by rw [List.length_map, beM_length]; omega)
        have g1 := g.1
        have g2 := g.2
        have hv : (n : Int) / 1099511627776 % 256 = ((beB 8 n 2).toNat : Int) := by simp [beB] <;> omega
        have hown5 := own_set hown 2 (.int .u8 (beB 8 n 2).toNat)
        have b5 := hbl.setCell (p := ⟨W, 2, none⟩) (Nat.le_refl _) (.int .u8 (beB 8 n 2).toNat)
        have e5 : (((beM 8 n 5).map vB).set 2 (.int .u8 (beB 8 n 2).toNat)) = (beM 8 n (5 + 1)).map vB := by rfl
        rw [e5] at hown5
        clear g e5
        go_wp2_with fail
        go_roundw
        case rel => exact ⟨5 + 1, by omega, by go_num, hown5, b5⟩
        case measure => simp [intOf] <;> omega
      · have g := own_cell hown (k := 1) (by rw [List.length_map, beM_length]; omega)
        have g1 := g.1
        have g2 := g.2
        have hv : (n : Int) / 281474976710656 % 256 = ((beB 8 n 1).toNat : Int) := by simp [beB] <;> omega
        have hown5 := own_set hown 1 (.int .u8 (beB 8 n 1).toNat)
        have b5 := hbl.setCell (p := ⟨W, 1, none⟩) (Nat.le_refl _) (.int .u8 (beB 8 n 1).toNat)
        have e5 : (((beM 8 n 6).map vB).set 1 (.int .u8 (beB 8 n 1).toNat)) = (beM 8 n (6 + 1)).map vB := by rfl
        rw [e5] at hown5
        clear g e5
        go_wp2_with fail
        go_roundw
        case rel => exact ⟨6 + 1, by omega, by go_num, hown5, b5⟩
        case measure => simp [intOf] <;> omega
      · have g := own_cell hown (k := 0) (by rw [List.length_map, beM_length]; omega)
        have g1 := g.1
        have g2 := g.2
        have hv : (n : Int) / 72057594037927936 = ((beB 8 n 0).toNat : Int) := by simp [beB] <;> omega
        have hown5 := own_set hown 0 (.int .u8 (beB 8 n 0).toNat)
        have b5 := hbl.setCell (p := ⟨W, 0, none⟩) (Nat.le_refl _) (.int .u8 (beB 8 n 0).toNat)
        have e5 : (((beM 8 n 7).map vB).set 0 (.int .u8 (beB 8 n 0).toNat)) = (beM 8 n (7 + 1)).map vB := by rfl
        rw [e5] at hown5
        clear g e5
        go_wp2_with fail
        go_roundw
        case rel => exact ⟨7 + 1, by omega, by go_num, hown5, b5⟩
        case measure => simp [intOf] <;> omega
    · obtain rfl : k = 8 := by omega
      have e4 : beM 8 n 8 = beS 8 n := by rfl
      rw [e4] at hown
      go_wp2_with fail
      go_ret2
      exact ⟨some ⟨W, 0, none⟩, 8, rfl, by rw [HW.out] at hown ⊢; exact hown, by rw [HW.out] at hbl; exact hbl⟩
theorem OPut8_no (n : Int) (hn : n < 0) (w : World) :
    Calls Tryd.prog 43 #[.int .i64 n, .int .i64 8] w fun e w' => e = .returned (.tuple #[.slice none 0 0, .iface 25 (.int .i64 2)]) ∧ w = w' := by
  have q1 : decide (n < 0) = true := decide_eq_true hn
  go_enter Tryd.func43, Tryd.ntmps43
  go_wp2
  go_ret2
  exact ⟨rfl, rfl⟩
end Go.Proofs.YteikbbdkpeecaaaDoor
