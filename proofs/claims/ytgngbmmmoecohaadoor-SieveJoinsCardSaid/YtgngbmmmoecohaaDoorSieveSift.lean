/- Walks: the law's 'sifted': a sieve has what was added, and nothing before. -/
import Derived.Test.YtgngbmmmoecohaaDoorSieveFill
namespace Go.Proofs.YtgngbmmmoecohaaDoor
open Go.RowKit Go.Shelf
set_option linter.unusedVariables false
set_option linter.unusedSimpArgs false
theorem rd_one (w : World) (b : UInt8) : Rd (w.alloc (.cells #[.int .u8 (b.toNat : Int)] 5)) (some ⟨w.heap.size, 0, none⟩) 5 ([b].map vB) := Rd.of_own (own_byte1 w b w.heap.size (Nat.le_refl _))
set_option maxRecDepth 100000 in
set_option maxHeartbeats 8000000 in
theorem Sifted_calls (w : World) (hro : RoundsAt w) : Calls Tryd.prog 19 #[] w fun e w' => e = .returned (.bool true) ∧ Below w.heap.size w w' := by
  have NC := New_ok 8 (by omega) (by omega) 2 (by omega) (by omega) w
  rw [show ((8 * 8 : Nat) : Int) = 64 from rfl] at NC
  have HNC := Lib.hid NC
  have HRO := Lib.hid hro
  clear NC hro
  go_enter Tryd.func19, Tryd.ntmps19
  go_wp2_with fail
  refine HNC.out.mono ?_
  rintro e1 w1 ⟨a1, c1, ek1, rfl, hr1, hb1⟩
  obtain ⟨S1, hS1⟩ : ∃ S, S = w1.heap.size := ⟨_, rfl⟩
  obtain ⟨w2, hw2⟩ : ∃ z, z = w1.alloc (.cells #[.slice a1 8 c1, .int .i64 2] 33) := ⟨_, rfl⟩
  obtain ⟨w3, hw3⟩ : ∃ z, z = w2.alloc (.cells #[.int .u8 1] 5) := ⟨_, rfl⟩
  have q2 : w2.heap.size = S1 + 1 := by rw [hw2, hS1]; exact World.size_alloc _ _
  have q3 : w3.heap.size = S1 + 1 + 1 := by rw [hw3, World.size_alloc, q2]
  have b12 : Below S1 w1 w2 := by rw [hw2, hS1]; exact (Below.refl _ _).alloc (Nat.le_refl _) _
  have b23 : Below (S1 + 1) w2 w3 := by rw [hw3, ← q2]; exact (Below.refl _ _).alloc (Nat.le_refl _) _
  have g2 : w2.heap[S1]? = some (.cells #[.slice a1 8 c1, .int .i64 2] 33 (0, 0)) := by rw [hw2, hS1]; exact heap_alloc_new _ _
  have hw1s : w.heap.size ≤ S1 := by rw [hS1]; exact hb1.size
  have hr3 : Rd w3 a1 ek1 ((List.replicate 8 (0 : UInt8)).map vB) := hr1.below (by rw [← hS1]; exact b12.trans (b23.mono (by omega)))
  have rb3 : Rd w3 (some ⟨S1 + 1, 0, none⟩) 5 ([(1 : UInt8)].map vB) := by rw [hw3, ← q2]; exact rd_one w2 1
  have b13 : Below S1 w1 w3 := b12.trans (b23.mono (by omega))
  have b03 : Below w.heap.size w w3 := hb1.trans (b13.mono hw1s)
  have AO := Add_ok (List.replicate 8 (0 : UInt8)) (by simp) (by simp) 2 (by omega) (by omega) [1] (by simp) a1 c1 ek1 (some ⟨S1 + 1, 0, none⟩) 1 5 w3 ⟨hr3, rb3, HRO.out.at_ b03⟩
  have g3 : w3.heap[S1]? = some (.cells #[.slice a1 8 c1, .int .i64 2] 33 (0, 0)) := (b23.block _ (by omega)).trans g2
  have HAO := Lib.hid AO
  have HW2 := Lib.hid hw2
  have HW3 := Lib.hid hw3
  have HS1 := Lib.hid hS1
  have G3 := Lib.hid g3
  have HR3 := Lib.hid hr3
  have HB3 := Lib.hid b03
  have Q3 := Lib.hid q3
  clear AO hw2 hw3 hS1 g2 g3 hr3 b03 b13 b12 b23 q2 q3 rb3 hr1 hb1 HNC
  go_wp2_with fail
  rw [← HS1.out, ← HW2.out, ← HW3.out]
  refine HAO.out.mono ?_
  rintro e4 w4 ⟨a4, c4, ek4, rfl, hr4, hb4⟩
  rw [show (List.replicate 8 (0 : UInt8)).length = 8 from rfl] at *
  obtain ⟨S4, hS4⟩ : ∃ S, S = w4.heap.size := ⟨_, rfl⟩
  have hs34 : S1 + 1 + 1 ≤ S4 := by rw [hS4, ← Q3.out]; exact hb4.size
  obtain ⟨w5, hw5⟩ : ∃ z, z = w4.alloc (.cells #[.slice a4 8 c4, .int .i64 2] 33) := ⟨_, rfl⟩
  obtain ⟨w6, hw6⟩ : ∃ z, z = w5.alloc (.cells #[.int .u8 1] 5) := ⟨_, rfl⟩
  have q5 : w5.heap.size = S4 + 1 := by rw [hw5, hS4]; exact World.size_alloc _ _
  have q6 : w6.heap.size = S4 + 1 + 1 := by rw [hw6, World.size_alloc, q5]
  have b45 : Below S4 w4 w5 := by rw [hw5, hS4]; exact (Below.refl _ _).alloc (Nat.le_refl _) _
  have b56 : Below (S4 + 1) w5 w6 := by rw [hw6, ← q5]; exact (Below.refl _ _).alloc (Nat.le_refl _) _
  have b46 : Below S4 w4 w6 := b45.trans (b56.mono (by omega))
  have b36 : Below w3.heap.size w3 w6 := hb4.trans (b46.mono (by rw [Q3.out]; exact hs34))
  have hr6 := HR3.out.below b36
  have hr46 : Rd w6 a4 ek4 ((addAll (List.replicate 8 (0 : UInt8)) (placesOf 8 2 [1])).map vB) := hr4.below (by rw [← hS4]; exact b46)
  have rb6 : Rd w6 (some ⟨S4 + 1, 0, none⟩) 5 ([(1 : UInt8)].map vB) := by rw [hw6, ← q5]; exact rd_one w5 1
  have g5 : w5.heap[S4]? = some (.cells #[.slice a4 8 c4, .int .i64 2] 33 (0, 0)) := by rw [hw5, hS4]; exact heap_alloc_new _ _
  have g6 : w6.heap[S4]? = some (.cells #[.slice a4 8 c4, .int .i64 2] 33 (0, 0)) := (b56.block _ (by omega)).trans g5
  have gs4 : w4.heap[S1]? = some (.cells #[.slice a1 8 c1, .int .i64 2] 33 (0, 0)) := (hb4.block S1 (by rw [Q3.out]; omega)).trans G3.out
  have s40 : w4.cell? ⟨S1, 0, none⟩ = some (.slice a1 8 c1) := by rw [cell_of_row _ _ _ _ _ _ gs4]; rfl
  have s41 : w4.cell? ⟨S1, 1, none⟩ = some (.int .i64 2) := by rw [cell_of_row _ _ _ _ _ _ gs4]; rfl
  have s50 : (w4.alloc (.cells #[.slice a4 8 c4, .int .i64 2] 33)).cell? ⟨S1, 0, none⟩ = some (.slice a1 8 c1) := by rw [← hw5]; exact (b45.cell (p := ⟨S1, 0, none⟩) (by show S1 < S4; omega)).trans s40
  have s51 : (w4.alloc (.cells #[.slice a4 8 c4, .int .i64 2] 33)).cell? ⟨S1, 1, none⟩ = some (.int .i64 2) := by rw [← hw5]; exact (b45.cell (p := ⟨S1, 1, none⟩) (by show S1 < S4; omega)).trans s41
  have b06 : Below w.heap.size w w6 := HB3.out.trans (b36.mono HB3.out.size)
  have H1 := Has_ok (List.replicate 8 (0 : UInt8)) (by simp) (by simp) 2 (by omega) (by omega) [1] (by simp) a1 c1 ek1 (some ⟨S4 + 1, 0, none⟩) 1 5 w6 ⟨hr6, rb6, HRO.out.at_ b06⟩
  rw [show hasAll (List.replicate 8 (0 : UInt8)) (placesOf (List.replicate 8 (0 : UInt8)).length 2 [1]) = false by unfold hasAll; rw [List.all_eq_false]; exact ⟨sAt 8 [1] 0, by simp only [placesOf, List.mem_map, List.mem_range]; exact ⟨0, by omega, rfl⟩, by rw [bit_zero]; decide⟩] at H1
  have HH1 := Lib.hid H1
  have HW5 := Lib.hid hw5
  have HW6 := Lib.hid hw6
  have HS4 := Lib.hid hS4
  have G6 := Lib.hid g6
  have HR46 := Lib.hid hr46
  have HB6 := Lib.hid b06
  have Q6 := Lib.hid q6
  clear H1 hw5 hw6 hS4 g5 g6 hr46 b06 b36 b46 b45 b56 q5 q6 rb6 hr6 hr4 hb4 HAO gs4
  go_wp2_with fail
  rw [← HS4.out, ← HW5.out, ← HW6.out]
  refine HH1.out.mono ?_
  rintro e7 w7 ⟨rfl, hb7⟩
  obtain ⟨S7, hS7⟩ : ∃ S, S = w7.heap.size := ⟨_, rfl⟩
  have hs67 : S4 + 1 + 1 ≤ S7 := by rw [hS7, ← Q6.out]; exact hb7.size
  obtain ⟨w8, hw8⟩ : ∃ z, z = w7.alloc (.cells #[.int .u8 1] 5) := ⟨_, rfl⟩
  have b78 : Below S7 w7 w8 := by rw [hw8, hS7]; exact (Below.refl _ _).alloc (Nat.le_refl _) _
  have b68 : Below w6.heap.size w6 w8 := hb7.trans (b78.mono (by rw [Q6.out]; exact hs67))
  have hr8 := HR46.out.below b68
  have rb8 : Rd w8 (some ⟨S7, 0, none⟩) 5 ([(1 : UInt8)].map vB) := by rw [hw8, hS7]; exact rd_one w7 1
  have g7 : w7.heap[S4]? = some (.cells #[.slice a4 8 c4, .int .i64 2] 33 (0, 0)) := (hb7.block S4 (by rw [Q6.out]; omega)).trans G6.out
  have s70 : w7.cell? ⟨S4, 0, none⟩ = some (.slice a4 8 c4) := by rw [cell_of_row _ _ _ _ _ _ g7]; rfl
  have s71 : w7.cell? ⟨S4, 1, none⟩ = some (.int .i64 2) := by rw [cell_of_row _ _ _ _ _ _ g7]; rfl
  have b08 : Below w.heap.size w w8 := HB6.out.trans (b68.mono HB6.out.size)
  have hl8 : (addAll (List.replicate 8 (0 : UInt8)) (placesOf 8 2 [1])).length = 8 := by rw [addAll_length]; rfl
  have H2 := Has_ok (addAll (List.replicate 8 (0 : UInt8)) (placesOf 8 2 [1])) (by rw [hl8]; omega) (by rw [hl8]; omega) 2 (by omega) (by omega) [1] (by simp) a4 c4 ek4 (some ⟨S7, 0, none⟩) 1 5 w8 ⟨hr8, rb8, HRO.out.at_ b08⟩
  rw [hl8, show hasAll (addAll (List.replicate 8 (0 : UInt8)) (placesOf 8 2 [1])) (placesOf 8 2 [1]) = true by
    have := has_fill 2 (List.replicate 8 (0 : UInt8)) (by simp) [[1]] [1] (by simp)
    exact this] at H2
  have HH2 := Lib.hid H2
  have HW8 := Lib.hid hw8
  have HS7 := Lib.hid hS7
  have HB8 := Lib.hid b08
  clear H2 hw8 hS7 hr8 rb8 g7 b08 b68 b78 hb7 HH1 hl8 s40 s41 s50 s51
  go_wp2_with fail
  rw [← HS7.out, ← HW8.out]
  refine HH2.out.mono ?_
  rintro e9 w9 ⟨rfl, hb9⟩
  have HB9 := Lib.hid (HB8.out.trans (hb9.mono HB8.out.size))
  clear HH2 hb9 s70 s71
  go_wp2_with fail
  go_ret
  exact ⟨rfl, HB9.out⟩
end Go.Proofs.YtgngbmmmoecohaaDoor
