/- ONE VALUE AT A KEY: oathbooklaw2.TrieSound answers true at every input. -/
import Derived.Test.YtpeomfehdccmmaaDoorRows
import Derived.Test.YtpeomfehdccmmaaDoorTrieClash
import Derived.Test.YtpeomfehdccmmaaDoorTrieLeafed
import Derived.Test.YtpeomfehdccmmaaDoorLaidR
import Derived.WalkKit
import Derived.ProofKit
import Derived.OpenShut
import Derived.ShutString
import Derived.ChangeOld
import Derived.Below
namespace Go.Proofs.YtpeomfehdccmmaaDoor
open Go.ChangeShapes Go.WideShapes Go.ChangeAt Go.RowKit
open Go.ChangeMaps (open_string shut_string)
set_option linter.unusedVariables false
namespace trieSound

theorem Fold_x (k : Int) (l : List UInt8) (hl : l.length = 32) (ps : List (List UInt8)) (hp : ∀ p ∈ ps, p.length = 32) (a : Option Addr) (cap e : Nat) (w : World) (hr : Rd w a e (ps.flatten.map vB)) (hro : RoundsAt w) :
    Calls Tryd.prog 16 #[.int .i64 k, .agg (dV l), .slice a ps.length cap] w fun e w' => (∃ R v, e = .returned (.tuple #[.agg (dV R), v]) ∧ R.length = 32) ∧ Below w.heap.size w w' := by
  by_cases hk : KeyOk k
  · by_cases hn : ps.length = 32
    · obtain ⟨q, rfl⟩ : ∃ q : Nat, k = (q : Int) := ⟨k.toNat, by have := hk.1; omega⟩
      rw [hn]
      exact (Fold_calls q (by have := hk.2; omega) l hl ps hn hp a cap e w hr hro).mono fun e w' h => ⟨⟨_, _, h.1, foldD_length q ps l hl⟩, h.2⟩
    · exact (Fold_len k hk l a ps.length hn cap w).mono fun e w' h => ⟨⟨_, _, h.1, rfl⟩, h.2⟩
  · exact (Fold_bad k hk l a ps.length cap w).mono fun e w' h => ⟨⟨_, _, h.1, rfl⟩, h.2⟩
theorem Fold_e (k : Int) (l : List UInt8) (ps : List (List UInt8)) (h : ¬ (KeyOk k ∧ ps.length = 32)) (a : Option Addr) (cap : Nat) (w : World) :
    Calls Tryd.prog 16 #[.int .i64 k, .agg (dV l), .slice a ps.length cap] w fun e w' => (∃ n, e = .returned (.tuple #[.agg (dV nz), .iface 25 (.int .i64 n)])) ∧ Below w.heap.size w w' := by
  by_cases hk : KeyOk k
  · exact (Fold_len k hk l a ps.length (fun e => h ⟨hk, e⟩) cap w).mono fun e w' h => ⟨⟨_, h.1⟩, h.2⟩
  · exact (Fold_bad k hk l a ps.length cap w).mono fun e w' h => ⟨⟨_, h.1⟩, h.2⟩
-- HOLE: the walk
set_option maxRecDepth 20000 in
set_option maxHeartbeats 8000000 in
theorem walk (a0 : Int) (x1 : List UInt8) (x2 : List (List UInt8)) (a2 : Option Addr) (c2 e2 : Nat) (x3 : List UInt8) (x4 : List (List UInt8)) (a4 : Option Addr) (c4 e4 : Nat) (w : World) (h0 : -9223372036854775808 ≤ a0 ∧ a0 ≤ 9223372036854775807) (n1 : x1.length = 32) (l2 : x2.length * 32 ≤ 140737488351232) (n2 : ∀ d ∈ x2, d.length = 32) (r2 : Rd w a2 e2 (x2.flatten.map vB)) (n3 : x3.length = 32) (l4 : x4.length * 32 ≤ 140737488351232) (n4 : ∀ d ∈ x4, d.length = 32) (r4 : Rd w a4 e4 (x4.flatten.map vB)) (hro : RoundsAt w) :
    Calls Tryd.prog 4 #[.int .i64 a0, .agg (dV x1), .slice a2 x2.length c2, .agg (dV x3), .slice a4 x4.length c4] w fun e w' => e = .returned (.bool true) ∧ Below w.heap.size w w' := by
  obtain ⟨H, hH⟩ : ∃ H, H = w.heap.size := ⟨_, rfl⟩
  obtain ⟨w0, hw0⟩ : ∃ z, z = w.alloc (.cells (dV x1) 23) := ⟨_, rfl⟩
  obtain ⟨w1, hw1⟩ : ∃ z, z = w0.alloc (.cells (dV x3) 23) := ⟨_, rfl⟩
  have q0 : w0.heap.size = H + 1 := by rw [hw0, hH]; exact World.size_alloc _ _
  have q1 : w1.heap.size = H + 1 + 1 := by rw [hw1, World.size_alloc, q0]
  have s0 : Below (H) w w0 := by rw [hw0, hH]; exact (Below.refl _ _).alloc (Nat.le_refl _) _
  have s1 : Below (H + 1) w0 w1 := by rw [hw1, ← q0]; exact (Below.refl _ _).alloc (Nat.le_refl _) _
  have t1 : Below (H + 1 + 1) w1 w1 := Below.refl _ _
  have t0 : Below (H + 1) w0 w1 := s1.trans (t1.mono (by omega))
  have bL : Below H w w1 := s0.trans (t0.mono (by omega))
  have g0 : w1.heap[H]? = some (.cells (dV x1) 23 (0, 0)) := by
    have g : w0.heap[H]? = some (.cells (dV x1) 23 (0, 0)) := by rw [hw0, hH]; exact heap_alloc_new _ _
    exact (t0.block _ (by omega)).trans g
  have g1 : w1.heap[H + 1]? = some (.cells (dV x3) 23 (0, 0)) := by
    have g : w1.heap[H + 1]? = some (.cells (dV x3) 23 (0, 0)) := by rw [hw1, ← q0]; exact heap_alloc_new _ _
    exact (t1.block _ (by omega)).trans g
  have bW : Below w.heap.size w w1 := by rw [← hH]; exact bL
  have hsz : H + 1 < w1.heap.size := by omega
  have HH := Lib.hid hH
  have HW0 := Lib.hid hw0
  have HW1 := Lib.hid hw1
  have BL := Lib.hid bL
  have BW := Lib.hid bW
  have QL := Lib.hid q1
  have G0 := Lib.hid g0
  have G1 := Lib.hid g1
  clear hH hw0 hw1 q0 q1 s0 s1 t0 t1 g0 g1 bL bW
  have RO := Lib.hid (hro.at_ BW.out)
  have RP := Lib.hid (r2.below BW.out)
  have RQ := Lib.hid (r4.below BW.out)
  have LE := Lib.hid (Leafed_calls w1 RO.out)
  have N1 := Lib.hid n1
  have N2 := Lib.hid n2
  have N3 := Lib.hid n3
  have N4 := Lib.hid n4
  clear hro r2 r4 n1 n2 n3 n4 l2 l4 h0
  by_cases hg1 : KeyOk a0 ∧ x2.length = 32
  · by_cases hg2 : x4.length = 32
    · obtain ⟨hk, hp32⟩ := hg1
      obtain ⟨k, rfl⟩ : ∃ k : Nat, a0 = (k : Int) := ⟨a0.toNat, by have := hk.1; omega⟩
      have hk2 : k < 4294967296 := by have := hk.2; omega
      rw [hp32, hg2]
      obtain ⟨R1, hR1⟩ : ∃ R, R = foldD k x1 x2 := ⟨_, rfl⟩
      obtain ⟨R2, hR2⟩ : ∃ R, R = foldD k x3 x4 := ⟨_, rfl⟩
      have R1L := Lib.hid (show R1.length = 32 by rw [hR1]; exact foldD_length k x2 x1 N1.out)
      have R2L := Lib.hid (show R2.length = 32 by rw [hR2]; exact foldD_length k x4 x3 N3.out)
      have HP32 := Lib.hid hp32
      have HQ32 := Lib.hid hg2
      have HR1 := Lib.hid hR1
      have HR2 := Lib.hid hR2
      clear hp32 hg2 hR1 hR2 hk
      by_cases hne : R1 = R2
      · have eq1 : (R1 == R2) = true := by rw [hne]; simp
        have EQ1 := Lib.hid eq1
        have HNE := Lib.hid hne
        clear eq1 hne
        by_cases hab : x1 = x3
        · have EQ2 := Lib.hid (show (x1 == x3) = true by rw [hab]; simp)
          clear hab
          go_enter Tryd.func4, Tryd.ntmps4
          go_upto_region 1 with fail
          rw [← HH.out, ← HW0.out, ← HW1.out]
          go_wp2_with fail
          refine LE.out.mono ?_
          rintro e w2 ⟨rfl, hb2⟩
          have B2 := Lib.hid hb2
          clear hb2 LE
          go_wp2_with (first
            | ((refine ld_digG rfl (.tmp 6) rfl (H) 0 (by rfl) x1 N1.out (range_low (range_of_row G0.out) B2.out (by omega)) ?_); simp only [Act.put, List.setIfInBounds_toArray, List.set_cons_zero, List.set_cons_succ]))
          refine ((by rw [HR1.out]; exact Fold_calls k hk2 x1 N1.out x2 HP32.out N2.out a2 c2 e2 w2 (RP.out.below B2.out) (RO.out.at_ B2.out) : Calls Tryd.prog 16 #[.int .i64 (k : Int), .agg (dV x1), .slice a2 32 c2] w2 fun e w' => e = .returned (.tuple #[.agg (dV R1), .nilIface]) ∧ Below w2.heap.size w2 w')).mono ?_
          rintro e w3 ⟨rfl, hb3⟩
          have p3 := B2.out.trans (hb3.mono B2.out.size)
          obtain ⟨X, hX⟩ : ∃ z, z = w3.heap.size := ⟨_, rfl⟩
          obtain ⟨w4, hw4⟩ : ∃ z, z = w3.alloc (.cells (dV R1) 23) := ⟨_, rfl⟩
          have g4 : w4.heap[X]? = some (.cells (dV R1) 23 (0, 0)) := by rw [hw4, hX]; exact heap_alloc_new _ _
          have b4 : Below w1.heap.size w1 w4 := by rw [hw4]; exact p3.alloc (Below.size p3) _
          have HX := Lib.hid hX
          have Hw4 := Lib.hid hw4
          have G4 := Lib.hid g4
          have B4 := Lib.hid b4
          have l4 := lt_of_heap g4
          clear p3 hb3 hX hw4 g4 b4
          go_wp2_with (first
            | ((refine st_new rfl (.tmp 12) (.tmp 25) rfl R1 R1L.out (by rfl) _ _ (by rfl) (by rfl) ?_); rw [← HX.out, ← Hw4.out])
            | ((refine ld_digG rfl (.tmp 8) rfl (H + 1) 0 (by rfl) x3 N3.out (range_low (range_of_row G1.out) B4.out hsz) ?_); simp only [Act.put, List.setIfInBounds_toArray, List.set_cons_zero, List.set_cons_succ]))
          refine ((by rw [HR2.out]; exact Fold_calls k hk2 x3 N3.out x4 HQ32.out N4.out a4 c4 e4 w4 (RQ.out.below B4.out) (RO.out.at_ B4.out) : Calls Tryd.prog 16 #[.int .i64 (k : Int), .agg (dV x3), .slice a4 32 c4] w4 fun e w' => e = .returned (.tuple #[.agg (dV R2), .nilIface]) ∧ Below w4.heap.size w4 w')).mono ?_
          rintro e w5 ⟨rfl, hb5⟩
          have p5 := B4.out.trans (hb5.mono B4.out.size)
          have G4' := Lib.hid ((hb5.block X l4).trans G4.out)
          have l4' := Nat.lt_of_lt_of_le l4 hb5.size
          obtain ⟨Y, hY⟩ : ∃ z, z = w5.heap.size := ⟨_, rfl⟩
          obtain ⟨w6, hw6⟩ : ∃ z, z = w5.alloc (.cells (dV R2) 23) := ⟨_, rfl⟩
          have g6 : w6.heap[Y]? = some (.cells (dV R2) 23 (0, 0)) := by rw [hw6, hY]; exact heap_alloc_new _ _
          have b6 : Below w1.heap.size w1 w6 := by rw [hw6]; exact p5.alloc (Below.size p5) _
          have HY := Lib.hid hY
          have Hw6 := Lib.hid hw6
          have G6 := Lib.hid g6
          have B6 := Lib.hid b6
          have l6 := lt_of_heap g6
          have G46 := Lib.hid (show w6.heap[X]? = some (.cells (dV R1) 23 (0, 0)) by rw [hw6]; exact (Below.heap_alloc w5 _ X l4').trans G4'.out)
          clear p5 hb5 hY hw6 g6 b6
          go_wp2_with (first
            | ((refine st_new rfl (.tmp 14) (.tmp 32) rfl R2 R2L.out (by rfl) _ _ (by rfl) (by rfl) ?_); rw [← HY.out, ← Hw6.out])
            | ((refine ld_digG rfl (.tmp 12) rfl (X) 0 (by rfl) R1 R1L.out (range_of_row G46.out) ?_); simp only [Act.put, List.setIfInBounds_toArray, List.set_cons_zero, List.set_cons_succ])
            | ((refine ld_digG rfl (.tmp 14) rfl (Y) 0 (by rfl) R2 R2L.out (range_of_row G6.out) ?_); simp only [Act.put, List.setIfInBounds_toArray, List.set_cons_zero, List.set_cons_succ])
            | ((refine neq_digG rfl (.tmp 41) (.tmp 42) _ rfl R1 R2 (by rfl) (by rfl) R1L.out R2L.out ?_); rw [EQ1.out]; simp only [Act.put, List.setIfInBounds_toArray, List.set_cons_zero, List.set_cons_succ])
            | ((refine ld_digG rfl (.tmp 6) rfl (H) 0 (by rfl) x1 N1.out (range_low (range_of_row G0.out) B6.out (by omega)) ?_); simp only [Act.put, List.setIfInBounds_toArray, List.set_cons_zero, List.set_cons_succ])
            | ((refine ld_digG rfl (.tmp 8) rfl (H + 1) 0 (by rfl) x3 N3.out (range_low (range_of_row G1.out) B6.out hsz) ?_); simp only [Act.put, List.setIfInBounds_toArray, List.set_cons_zero, List.set_cons_succ])
            | ((refine eq_digG rfl (.tmp 46) (.tmp 47) _ rfl x1 x3 (by rfl) (by rfl) N1.out N3.out ?_); rw [EQ2.out]; simp only [Act.put, List.setIfInBounds_toArray, List.set_cons_zero, List.set_cons_succ]))
          go_ret
          exact ⟨rfl, by rw [← HH.out]; exact BL.out.trans (B6.out.mono (by omega))⟩
        · have EQ2 := Lib.hid (show (x1 == x3) = false by rw [beq_eq_false_iff_ne]; exact hab)
          have HAB := Lib.hid hab
          clear hab
          go_enter Tryd.func4, Tryd.ntmps4
          go_upto_region 1 with fail
          rw [← HH.out, ← HW0.out, ← HW1.out]
          go_wp2_with fail
          refine LE.out.mono ?_
          rintro e w2 ⟨rfl, hb2⟩
          have B2 := Lib.hid hb2
          clear hb2 LE
          go_wp2_with (first
            | ((refine ld_digG rfl (.tmp 6) rfl (H) 0 (by rfl) x1 N1.out (range_low (range_of_row G0.out) B2.out (by omega)) ?_); simp only [Act.put, List.setIfInBounds_toArray, List.set_cons_zero, List.set_cons_succ]))
          refine ((by rw [HR1.out]; exact Fold_calls k hk2 x1 N1.out x2 HP32.out N2.out a2 c2 e2 w2 (RP.out.below B2.out) (RO.out.at_ B2.out) : Calls Tryd.prog 16 #[.int .i64 (k : Int), .agg (dV x1), .slice a2 32 c2] w2 fun e w' => e = .returned (.tuple #[.agg (dV R1), .nilIface]) ∧ Below w2.heap.size w2 w')).mono ?_
          rintro e w3 ⟨rfl, hb3⟩
          have p3 := B2.out.trans (hb3.mono B2.out.size)
          obtain ⟨X, hX⟩ : ∃ z, z = w3.heap.size := ⟨_, rfl⟩
          obtain ⟨w4, hw4⟩ : ∃ z, z = w3.alloc (.cells (dV R1) 23) := ⟨_, rfl⟩
          have g4 : w4.heap[X]? = some (.cells (dV R1) 23 (0, 0)) := by rw [hw4, hX]; exact heap_alloc_new _ _
          have b4 : Below w1.heap.size w1 w4 := by rw [hw4]; exact p3.alloc (Below.size p3) _
          have HX := Lib.hid hX
          have Hw4 := Lib.hid hw4
          have G4 := Lib.hid g4
          have B4 := Lib.hid b4
          have l4 := lt_of_heap g4
          clear p3 hb3 hX hw4 g4 b4
          go_wp2_with (first
            | ((refine st_new rfl (.tmp 12) (.tmp 25) rfl R1 R1L.out (by rfl) _ _ (by rfl) (by rfl) ?_); rw [← HX.out, ← Hw4.out])
            | ((refine ld_digG rfl (.tmp 8) rfl (H + 1) 0 (by rfl) x3 N3.out (range_low (range_of_row G1.out) B4.out hsz) ?_); simp only [Act.put, List.setIfInBounds_toArray, List.set_cons_zero, List.set_cons_succ]))
          refine ((by rw [HR2.out]; exact Fold_calls k hk2 x3 N3.out x4 HQ32.out N4.out a4 c4 e4 w4 (RQ.out.below B4.out) (RO.out.at_ B4.out) : Calls Tryd.prog 16 #[.int .i64 (k : Int), .agg (dV x3), .slice a4 32 c4] w4 fun e w' => e = .returned (.tuple #[.agg (dV R2), .nilIface]) ∧ Below w4.heap.size w4 w')).mono ?_
          rintro e w5 ⟨rfl, hb5⟩
          have p5 := B4.out.trans (hb5.mono B4.out.size)
          have G4' := Lib.hid ((hb5.block X l4).trans G4.out)
          have l4' := Nat.lt_of_lt_of_le l4 hb5.size
          obtain ⟨Y, hY⟩ : ∃ z, z = w5.heap.size := ⟨_, rfl⟩
          obtain ⟨w6, hw6⟩ : ∃ z, z = w5.alloc (.cells (dV R2) 23) := ⟨_, rfl⟩
          have g6 : w6.heap[Y]? = some (.cells (dV R2) 23 (0, 0)) := by rw [hw6, hY]; exact heap_alloc_new _ _
          have b6 : Below w1.heap.size w1 w6 := by rw [hw6]; exact p5.alloc (Below.size p5) _
          have HY := Lib.hid hY
          have Hw6 := Lib.hid hw6
          have G6 := Lib.hid g6
          have B6 := Lib.hid b6
          have l6 := lt_of_heap g6
          have G46 := Lib.hid (show w6.heap[X]? = some (.cells (dV R1) 23 (0, 0)) by rw [hw6]; exact (Below.heap_alloc w5 _ X l4').trans G4'.out)
          clear p5 hb5 hY hw6 g6 b6
          go_wp2_with (first
            | ((refine st_new rfl (.tmp 14) (.tmp 32) rfl R2 R2L.out (by rfl) _ _ (by rfl) (by rfl) ?_); rw [← HY.out, ← Hw6.out])
            | ((refine ld_digG rfl (.tmp 12) rfl (X) 0 (by rfl) R1 R1L.out (range_of_row G46.out) ?_); simp only [Act.put, List.setIfInBounds_toArray, List.set_cons_zero, List.set_cons_succ])
            | ((refine ld_digG rfl (.tmp 14) rfl (Y) 0 (by rfl) R2 R2L.out (range_of_row G6.out) ?_); simp only [Act.put, List.setIfInBounds_toArray, List.set_cons_zero, List.set_cons_succ])
            | ((refine neq_digG rfl (.tmp 41) (.tmp 42) _ rfl R1 R2 (by rfl) (by rfl) R1L.out R2L.out ?_); rw [EQ1.out]; simp only [Act.put, List.setIfInBounds_toArray, List.set_cons_zero, List.set_cons_succ])
            | ((refine ld_digG rfl (.tmp 6) rfl (H) 0 (by rfl) x1 N1.out (range_low (range_of_row G0.out) B6.out (by omega)) ?_); simp only [Act.put, List.setIfInBounds_toArray, List.set_cons_zero, List.set_cons_succ])
            | ((refine ld_digG rfl (.tmp 8) rfl (H + 1) 0 (by rfl) x3 N3.out (range_low (range_of_row G1.out) B6.out hsz) ?_); simp only [Act.put, List.setIfInBounds_toArray, List.set_cons_zero, List.set_cons_succ])
            | ((refine eq_digG rfl (.tmp 46) (.tmp 47) _ rfl x1 x3 (by rfl) (by rfl) N1.out N3.out ?_); rw [EQ2.out]; simp only [Act.put, List.setIfInBounds_toArray, List.set_cons_zero, List.set_cons_succ]))
          refine (Clash_calls k hk2 x1 x3 N1.out N3.out HAB.out x2 x4 HP32.out HQ32.out N2.out N4.out (by rw [← HR1.out, ← HR2.out]; exact HNE.out) a2 c2 e2 a4 c4 e4 w6 (RP.out.below B6.out) (RQ.out.below B6.out)).mono ?_
          rintro e w7 ⟨rfl, hb7⟩
          have B7 := Lib.hid (B6.out.trans (hb7.mono B6.out.size))
          clear hb7
          go_wp2_with fail
          go_ret
          exact ⟨rfl, by rw [← HH.out]; exact BL.out.trans (B7.out.mono (by omega))⟩
      · have eq1 : (R1 == R2) = false := by rw [beq_eq_false_iff_ne]; exact hne
        have EQ1 := Lib.hid eq1
        clear eq1 hne
        go_enter Tryd.func4, Tryd.ntmps4
        go_upto_region 1 with fail
        rw [← HH.out, ← HW0.out, ← HW1.out]
        go_wp2_with fail
        refine LE.out.mono ?_
        rintro e w2 ⟨rfl, hb2⟩
        have B2 := Lib.hid hb2
        clear hb2 LE
        go_wp2_with (first
          | ((refine ld_digG rfl (.tmp 6) rfl (H) 0 (by rfl) x1 N1.out (range_low (range_of_row G0.out) B2.out (by omega)) ?_); simp only [Act.put, List.setIfInBounds_toArray, List.set_cons_zero, List.set_cons_succ]))
        refine ((by rw [HR1.out]; exact Fold_calls k hk2 x1 N1.out x2 HP32.out N2.out a2 c2 e2 w2 (RP.out.below B2.out) (RO.out.at_ B2.out) : Calls Tryd.prog 16 #[.int .i64 (k : Int), .agg (dV x1), .slice a2 32 c2] w2 fun e w' => e = .returned (.tuple #[.agg (dV R1), .nilIface]) ∧ Below w2.heap.size w2 w')).mono ?_
        rintro e w3 ⟨rfl, hb3⟩
        have p3 := B2.out.trans (hb3.mono B2.out.size)
        obtain ⟨X, hX⟩ : ∃ z, z = w3.heap.size := ⟨_, rfl⟩
        obtain ⟨w4, hw4⟩ : ∃ z, z = w3.alloc (.cells (dV R1) 23) := ⟨_, rfl⟩
        have g4 : w4.heap[X]? = some (.cells (dV R1) 23 (0, 0)) := by rw [hw4, hX]; exact heap_alloc_new _ _
        have b4 : Below w1.heap.size w1 w4 := by rw [hw4]; exact p3.alloc (Below.size p3) _
        have HX := Lib.hid hX
        have Hw4 := Lib.hid hw4
        have G4 := Lib.hid g4
        have B4 := Lib.hid b4
        have l4 := lt_of_heap g4
        clear p3 hb3 hX hw4 g4 b4
        go_wp2_with (first
          | ((refine st_new rfl (.tmp 12) (.tmp 25) rfl R1 R1L.out (by rfl) _ _ (by rfl) (by rfl) ?_); rw [← HX.out, ← Hw4.out])
          | ((refine ld_digG rfl (.tmp 8) rfl (H + 1) 0 (by rfl) x3 N3.out (range_low (range_of_row G1.out) B4.out hsz) ?_); simp only [Act.put, List.setIfInBounds_toArray, List.set_cons_zero, List.set_cons_succ]))
        refine ((by rw [HR2.out]; exact Fold_calls k hk2 x3 N3.out x4 HQ32.out N4.out a4 c4 e4 w4 (RQ.out.below B4.out) (RO.out.at_ B4.out) : Calls Tryd.prog 16 #[.int .i64 (k : Int), .agg (dV x3), .slice a4 32 c4] w4 fun e w' => e = .returned (.tuple #[.agg (dV R2), .nilIface]) ∧ Below w4.heap.size w4 w')).mono ?_
        rintro e w5 ⟨rfl, hb5⟩
        have p5 := B4.out.trans (hb5.mono B4.out.size)
        have G4' := Lib.hid ((hb5.block X l4).trans G4.out)
        have l4' := Nat.lt_of_lt_of_le l4 hb5.size
        obtain ⟨Y, hY⟩ : ∃ z, z = w5.heap.size := ⟨_, rfl⟩
        obtain ⟨w6, hw6⟩ : ∃ z, z = w5.alloc (.cells (dV R2) 23) := ⟨_, rfl⟩
        have g6 : w6.heap[Y]? = some (.cells (dV R2) 23 (0, 0)) := by rw [hw6, hY]; exact heap_alloc_new _ _
        have b6 : Below w1.heap.size w1 w6 := by rw [hw6]; exact p5.alloc (Below.size p5) _
        have HY := Lib.hid hY
        have Hw6 := Lib.hid hw6
        have G6 := Lib.hid g6
        have B6 := Lib.hid b6
        have l6 := lt_of_heap g6
        have G46 := Lib.hid (show w6.heap[X]? = some (.cells (dV R1) 23 (0, 0)) by rw [hw6]; exact (Below.heap_alloc w5 _ X l4').trans G4'.out)
        clear p5 hb5 hY hw6 g6 b6
        go_wp2_with (first
          | ((refine st_new rfl (.tmp 14) (.tmp 32) rfl R2 R2L.out (by rfl) _ _ (by rfl) (by rfl) ?_); rw [← HY.out, ← Hw6.out])
          | ((refine ld_digG rfl (.tmp 12) rfl (X) 0 (by rfl) R1 R1L.out (range_of_row G46.out) ?_); simp only [Act.put, List.setIfInBounds_toArray, List.set_cons_zero, List.set_cons_succ])
          | ((refine ld_digG rfl (.tmp 14) rfl (Y) 0 (by rfl) R2 R2L.out (range_of_row G6.out) ?_); simp only [Act.put, List.setIfInBounds_toArray, List.set_cons_zero, List.set_cons_succ])
          | ((refine neq_digG rfl (.tmp 41) (.tmp 42) _ rfl R1 R2 (by rfl) (by rfl) R1L.out R2L.out ?_); rw [EQ1.out]; simp only [Act.put, List.setIfInBounds_toArray, List.set_cons_zero, List.set_cons_succ]))
        go_ret
        exact ⟨rfl, by rw [← HH.out]; exact BL.out.trans (B6.out.mono (by omega))⟩
    · have HG2 := Lib.hid (show ¬ (KeyOk a0 ∧ x4.length = 32) from fun h => hg2 h.2)
      obtain ⟨R2, hR2⟩ : ∃ R, R = nz := ⟨_, rfl⟩
      have R2L := Lib.hid (show R2.length = 32 by rw [hR2]; rfl)
      have HR2 := Lib.hid hR2
      obtain ⟨hk, hp32⟩ := hg1
      obtain ⟨k, rfl⟩ : ∃ k : Nat, a0 = (k : Int) := ⟨a0.toNat, by have := hk.1; omega⟩
      have hk2 : k < 4294967296 := by have := hk.2; omega
      rw [hp32]
      obtain ⟨R1, hR1⟩ : ∃ R, R = foldD k x1 x2 := ⟨_, rfl⟩
      have R1L := Lib.hid (show R1.length = 32 by rw [hR1]; exact foldD_length k x2 x1 N1.out)
      have HP32 := Lib.hid hp32
      have HR1 := Lib.hid hR1
      clear hp32 hg2 hR1 hk hR2
      go_enter Tryd.func4, Tryd.ntmps4
      go_upto_region 1 with fail
      rw [← HH.out, ← HW0.out, ← HW1.out]
      go_wp2_with fail
      refine LE.out.mono ?_
      rintro e w2 ⟨rfl, hb2⟩
      have B2 := Lib.hid hb2
      clear hb2 LE
      go_wp2_with (first
        | ((refine ld_digG rfl (.tmp 6) rfl (H) 0 (by rfl) x1 N1.out (range_low (range_of_row G0.out) B2.out (by omega)) ?_); simp only [Act.put, List.setIfInBounds_toArray, List.set_cons_zero, List.set_cons_succ]))
      refine ((by rw [HR1.out]; exact Fold_calls k hk2 x1 N1.out x2 HP32.out N2.out a2 c2 e2 w2 (RP.out.below B2.out) (RO.out.at_ B2.out) : Calls Tryd.prog 16 #[.int .i64 (k : Int), .agg (dV x1), .slice a2 32 c2] w2 fun e w' => e = .returned (.tuple #[.agg (dV R1), .nilIface]) ∧ Below w2.heap.size w2 w')).mono ?_
      rintro e w3 ⟨rfl, hb3⟩
      have p3 := B2.out.trans (hb3.mono B2.out.size)
      obtain ⟨X, hX⟩ : ∃ z, z = w3.heap.size := ⟨_, rfl⟩
      obtain ⟨w4, hw4⟩ : ∃ z, z = w3.alloc (.cells (dV R1) 23) := ⟨_, rfl⟩
      have g4 : w4.heap[X]? = some (.cells (dV R1) 23 (0, 0)) := by rw [hw4, hX]; exact heap_alloc_new _ _
      have b4 : Below w1.heap.size w1 w4 := by rw [hw4]; exact p3.alloc (Below.size p3) _
      have HX := Lib.hid hX
      have Hw4 := Lib.hid hw4
      have G4 := Lib.hid g4
      have B4 := Lib.hid b4
      have l4 := lt_of_heap g4
      clear p3 hb3 hX hw4 g4 b4
      go_wp2_with (first
        | ((refine st_new rfl (.tmp 12) (.tmp 25) rfl R1 R1L.out (by rfl) _ _ (by rfl) (by rfl) ?_); rw [← HX.out, ← Hw4.out])
        | ((refine ld_digG rfl (.tmp 8) rfl (H + 1) 0 (by rfl) x3 N3.out (range_low (range_of_row G1.out) B4.out hsz) ?_); simp only [Act.put, List.setIfInBounds_toArray, List.set_cons_zero, List.set_cons_succ]))
      refine ((by rw [HR2.out]; exact Fold_e (k : Int) x3 x4 HG2.out a4 c4 w4 : Calls Tryd.prog 16 #[.int .i64 (k : Int), .agg (dV x3), .slice a4 x4.length c4] w4 fun e w' => (∃ n, e = .returned (.tuple #[.agg (dV R2), .iface 25 (.int .i64 n)])) ∧ Below w4.heap.size w4 w')).mono ?_
      rintro e w5 ⟨⟨n5, rfl⟩, hb5⟩
      have p5 := B4.out.trans (hb5.mono B4.out.size)
      have G4' := Lib.hid ((hb5.block X l4).trans G4.out)
      have l4' := Nat.lt_of_lt_of_le l4 hb5.size
      obtain ⟨Y, hY⟩ : ∃ z, z = w5.heap.size := ⟨_, rfl⟩
      obtain ⟨w6, hw6⟩ : ∃ z, z = w5.alloc (.cells (dV R2) 23) := ⟨_, rfl⟩
      have g6 : w6.heap[Y]? = some (.cells (dV R2) 23 (0, 0)) := by rw [hw6, hY]; exact heap_alloc_new _ _
      have b6 : Below w1.heap.size w1 w6 := by rw [hw6]; exact p5.alloc (Below.size p5) _
      have HY := Lib.hid hY
      have Hw6 := Lib.hid hw6
      have G6 := Lib.hid g6
      have B6 := Lib.hid b6
      have l6 := lt_of_heap g6
      have G46 := Lib.hid (show w6.heap[X]? = some (.cells (dV R1) 23 (0, 0)) by rw [hw6]; exact (Below.heap_alloc w5 _ X l4').trans G4'.out)
      clear p5 hb5 hY hw6 g6 b6
      go_wp2_with (first
        | ((refine st_new rfl (.tmp 14) (.tmp 32) rfl R2 R2L.out (by rfl) _ _ (by rfl) (by rfl) ?_); rw [← HY.out, ← Hw6.out]))
      go_ret
      exact ⟨rfl, by rw [← HH.out]; exact BL.out.trans (B6.out.mono (by omega))⟩
  · have HG1 := Lib.hid hg1
    obtain ⟨R1, hR1⟩ : ∃ R, R = nz := ⟨_, rfl⟩
    have R1L := Lib.hid (show R1.length = 32 by rw [hR1]; rfl)
    have HR1 := Lib.hid hR1
    clear hg1 hR1
    go_enter Tryd.func4, Tryd.ntmps4
    go_upto_region 1 with fail
    rw [← HH.out, ← HW0.out, ← HW1.out]
    go_wp2_with fail
    refine LE.out.mono ?_
    rintro e w2 ⟨rfl, hb2⟩
    have B2 := Lib.hid hb2
    clear hb2 LE
    go_wp2_with (first
      | ((refine ld_digG rfl (.tmp 6) rfl (H) 0 (by rfl) x1 N1.out (range_low (range_of_row G0.out) B2.out (by omega)) ?_); simp only [Act.put, List.setIfInBounds_toArray, List.set_cons_zero, List.set_cons_succ]))
    refine ((by rw [HR1.out]; exact Fold_e a0 x1 x2 HG1.out a2 c2 w2 : Calls Tryd.prog 16 #[.int .i64 a0, .agg (dV x1), .slice a2 x2.length c2] w2 fun e w' => (∃ n, e = .returned (.tuple #[.agg (dV R1), .iface 25 (.int .i64 n)])) ∧ Below w2.heap.size w2 w')).mono ?_
    rintro e w3 ⟨⟨n3, rfl⟩, hb3⟩
    have p3 := B2.out.trans (hb3.mono B2.out.size)
    obtain ⟨X, hX⟩ : ∃ z, z = w3.heap.size := ⟨_, rfl⟩
    obtain ⟨w4, hw4⟩ : ∃ z, z = w3.alloc (.cells (dV R1) 23) := ⟨_, rfl⟩
    have g4 : w4.heap[X]? = some (.cells (dV R1) 23 (0, 0)) := by rw [hw4, hX]; exact heap_alloc_new _ _
    have b4 : Below w1.heap.size w1 w4 := by rw [hw4]; exact p3.alloc (Below.size p3) _
    have HX := Lib.hid hX
    have Hw4 := Lib.hid hw4
    have G4 := Lib.hid g4
    have B4 := Lib.hid b4
    have l4 := lt_of_heap g4
    clear p3 hb3 hX hw4 g4 b4
    go_wp2_with (first
      | ((refine st_new rfl (.tmp 12) (.tmp 25) rfl R1 R1L.out (by rfl) _ _ (by rfl) (by rfl) ?_); rw [← HX.out, ← Hw4.out])
      | ((refine ld_digG rfl (.tmp 8) rfl (H + 1) 0 (by rfl) x3 N3.out (range_low (range_of_row G1.out) B4.out hsz) ?_); simp only [Act.put, List.setIfInBounds_toArray, List.set_cons_zero, List.set_cons_succ]))
    refine (Fold_x a0 x3 N3.out x4 N4.out a4 c4 e4 w4 (RQ.out.below B4.out) (RO.out.at_ B4.out)).mono ?_
    rintro e w5 ⟨⟨R2, v5, rfl, r2l⟩, hb5⟩
    have R2L := Lib.hid r2l
    clear r2l
    have p5 := B4.out.trans (hb5.mono B4.out.size)
    have G4' := Lib.hid ((hb5.block X l4).trans G4.out)
    have l4' := Nat.lt_of_lt_of_le l4 hb5.size
    obtain ⟨Y, hY⟩ : ∃ z, z = w5.heap.size := ⟨_, rfl⟩
    obtain ⟨w6, hw6⟩ : ∃ z, z = w5.alloc (.cells (dV R2) 23) := ⟨_, rfl⟩
    have g6 : w6.heap[Y]? = some (.cells (dV R2) 23 (0, 0)) := by rw [hw6, hY]; exact heap_alloc_new _ _
    have b6 : Below w1.heap.size w1 w6 := by rw [hw6]; exact p5.alloc (Below.size p5) _
    have HY := Lib.hid hY
    have Hw6 := Lib.hid hw6
    have G6 := Lib.hid g6
    have B6 := Lib.hid b6
    have l6 := lt_of_heap g6
    have G46 := Lib.hid (show w6.heap[X]? = some (.cells (dV R1) 23 (0, 0)) by rw [hw6]; exact (Below.heap_alloc w5 _ X l4').trans G4'.out)
    clear p5 hb5 hY hw6 g6 b6
    go_wp2_with (first
      | ((refine st_new rfl (.tmp 14) (.tmp 32) rfl R2 R2L.out (by rfl) _ _ (by rfl) (by rfl) ?_); rw [← HY.out, ← Hw6.out]))
    go_ret
    exact ⟨rfl, by rw [← HH.out]; exact BL.out.trans (B6.out.mono (by omega))⟩

set_option maxRecDepth 100000 in
theorem lifted (os : Os) (started : os.Started) (H : Type) (enc : TypeId × Value → H) :
    ReturnsInHanded {} Tryd.checked os 4 .any (fun w args => (Rows.trieSoundSpec.pre enc Tryd.prog Tryd.f4 Rows.trieSoundRow.domain false w args ∧ laidMetH Tryd.prog Laid.list w) ∧ sizedMet enc Tryd.prog Tryd.f4 (OpenSpec.ofChange Rows.trieSoundSpec) false w args) (Rows.trieSoundSpec.post enc Tryd.prog Tryd.f4 false true false false) := by
  refine returnsInHanded_of_change_and (C := Tryd.checked) (X := fun w _ => laidMetH Tryd.prog Laid.list w) (fun _ _ _ hh h => h.of_heap hh) Laid.own started (by kernel_rfl) Tryd.func4
    (ChangeSpec.witness_at (enc := enc) (C := Tryd.checked) (os := os) (X := fun w _ => laidMetH Tryd.prog Laid.list w) false (laidWorld os) #[.int .i64 0, .agg #[.int .u8 0, .int .u8 0, .int .u8 0, .int .u8 0, .int .u8 0, .int .u8 0, .int .u8 0, .int .u8 0, .int .u8 0, .int .u8 0, .int .u8 0, .int .u8 0, .int .u8 0, .int .u8 0, .int .u8 0, .int .u8 0, .int .u8 0, .int .u8 0, .int .u8 0, .int .u8 0, .int .u8 0, .int .u8 0, .int .u8 0, .int .u8 0, .int .u8 0, .int .u8 0, .int .u8 0, .int .u8 0, .int .u8 0, .int .u8 0, .int .u8 0, .int .u8 0], .slice none 0 0, .agg #[.int .u8 0, .int .u8 0, .int .u8 0, .int .u8 0, .int .u8 0, .int .u8 0, .int .u8 0, .int .u8 0, .int .u8 0, .int .u8 0, .int .u8 0, .int .u8 0, .int .u8 0, .int .u8 0, .int .u8 0, .int .u8 0, .int .u8 0, .int .u8 0, .int .u8 0, .int .u8 0, .int .u8 0, .int .u8 0, .int .u8 0, .int .u8 0, .int .u8 0, .int .u8 0, .int .u8 0, .int .u8 0, .int .u8 0, .int .u8 0, .int .u8 0, .int .u8 0], .slice none 0 0] 8 rfl (by kernel_rfl) (by kernel_rfl) (by kernel_rfl) (by kernel_rfl) (by kernel_rfl) (laidWorld_met os _)) ?_
  intro W base args ds gs before hval0 hW _ hsz hL _
  have hro := rounds_of_laid hL
  have hval : ∀ (j : Nat) t v, Tryd.f4.params[j]? = some t → args[j]? = some v → Value.okWide Tryd.prog W .any base t v := hval0
  have hW' := hW
  obtain ⟨p, q, hA0, hV, rfl, hfz, hnd⟩ := hW
  have hA : DataW.TrodAll enc Tryd.prog W 0 (fun _ => true) true Tryd.f4.params.toList args.toList ds p := hA0
  rw [Tryd.params4] at hA hval
  obtain ⟨v0, vs0, d0, ds0, p0, q0, hargs, rfl, rfl, h0, r0⟩ := trodAll_cons hA
  obtain ⟨v1, vs1, d1, ds1, p1, q1, rfl, rfl, rfl, h1, r1⟩ := trodAll_cons r0
  obtain ⟨v2, vs2, d2, ds2, p2, q2, rfl, rfl, rfl, h2, r2⟩ := trodAll_cons r1
  obtain ⟨v3, vs3, d3, ds3, p3, q3, rfl, rfl, rfl, h3, r3⟩ := trodAll_cons r2
  obtain ⟨v4, vs4, d4, ds4, p4, q4, rfl, rfl, rfl, h4, r4⟩ := trodAll_cons r3
  obtain ⟨rfl, rfl, rfl⟩ := trodAll_nil r4
  obtain rfl : args = #[v0, v1, v2, v3, v4] := by cases args; simp_all
  obtain ⟨rfl, rfl⟩ := trodVars_none hV
  have k0 := h0
  have lt0 : ∀ x ∈ p0, x.block < W.heap.size := by obtain ⟨m, hm⟩ := k0; exact DataW.trod_lt m _ _ _ hm
  obtain ⟨a0, rfl, _, _, w0⟩ := open_int Tryd.underlying3 (hval 0 3 v0 rfl rfl) h0
  have b0 := bounds_i64 w0
  have k1 := h1
  have lt1 : ∀ x ∈ p1, x.block < W.heap.size := by obtain ⟨m, hm⟩ := k1; exact DataW.trod_lt m _ _ _ hm
  obtain ⟨x1, n1, rfl⟩ := open_digest Tryd.underlying23 Tryd.underlying5 (by kernel_rfl) (by kernel_rfl) (hval 1 23 v1 rfl rfl) h1
  have k2 := h2
  have lt2 : ∀ x ∈ p2, x.block < W.heap.size := by obtain ⟨m, hm⟩ := k2; exact DataW.trod_lt m _ _ _ hm
  obtain ⟨x2, a2, c2, e2, rfl, g2, g_2, n2, r_2⟩ := open_digests Tryd.underlying24 Tryd.underlying23 Tryd.underlying5 (by kernel_rfl) (by kernel_rfl) (hval 2 24 v2 rfl rfl) h2
  have l2 : x2.length * 32 ≤ 140737488351232 := by have := trod_len (B := reachBytes) Tryd.underlying24 h2 (fun n hn => of_decide_eq_true (List.all_eq_true.1 hsz n (DataW.weights_mem_each (j := 2) (by first | rfl | kernel_rfl) rfl n hn))); rw [show Tryd.prog.bytesOf 23 = 32 by kernel_rfl] at this; exact this
  have k3 := h3
  have lt3 : ∀ x ∈ p3, x.block < W.heap.size := by obtain ⟨m, hm⟩ := k3; exact DataW.trod_lt m _ _ _ hm
  obtain ⟨x3, n3, rfl⟩ := open_digest Tryd.underlying23 Tryd.underlying5 (by kernel_rfl) (by kernel_rfl) (hval 3 23 v3 rfl rfl) h3
  have k4 := h4
  have lt4 : ∀ x ∈ p4, x.block < W.heap.size := by obtain ⟨m, hm⟩ := k4; exact DataW.trod_lt m _ _ _ hm
  obtain ⟨x4, a4, c4, e4, rfl, g4, g_4, n4, r_4⟩ := open_digests Tryd.underlying24 Tryd.underlying23 Tryd.underlying5 (by kernel_rfl) (by kernel_rfl) (hval 4 24 v4 rfl rfl) h4
  have l4 : x4.length * 32 ≤ 140737488351232 := by have := trod_len (B := reachBytes) Tryd.underlying24 h4 (fun n hn => of_decide_eq_true (List.all_eq_true.1 hsz n (DataW.weights_mem_each (j := 4) (by first | rfl | kernel_rfl) rfl n hn))); rw [show Tryd.prog.bytesOf 23 = 32 by kernel_rfl] at this; exact this
  clear hA0 hval0
  refine (walk a0 x1 x2 a2 c2 e2 x3 x4 a4 c4 e4 W b0 n1 l2 n2 r_2 n3 l4 n4 r_4 hro).mono fun e W' ⟨he, bel⟩ => ?_
  subst he
  exact ⟨_, rfl, _, _, _, [], _, [], hW', trodAll_mk1 (shut_bool Tryd.underlying4 _), (trodAll_cons_mk (Below.trod Laid.laidOut (by kernel_rfl) (of_decide_eq_true (by kernel_rfl)) k0 bel lt0) (trodAll_cons_mk (Below.trod Laid.laidOut (by kernel_rfl) (of_decide_eq_true (by kernel_rfl)) k1 bel lt1) (trodAll_cons_mk (Below.trod Laid.laidOut (by kernel_rfl) (of_decide_eq_true (by kernel_rfl)) k2 bel lt2) (trodAll_cons_mk (Below.trod Laid.laidOut (by kernel_rfl) (of_decide_eq_true (by kernel_rfl)) k3 bel lt3) (trodAll_cons_mk (Below.trod Laid.laidOut (by kernel_rfl) (of_decide_eq_true (by kernel_rfl)) k4 bel lt4) trodAll_mk0))))), rfl, bel.frame _, fun h => by cases h⟩

theorem over : Rows.trieSoundRow.holds Tryd.pinned (OpenSpec.ofChange Rows.trieSoundSpec) :=
  OpenClaim.holds_of_wide 4 Tryd.f4 rfl rfl rfl rfl rfl rfl rfl ⟨rfl, rfl, rfl, rfl, rfl⟩ rfl rfl rfl rfl rfl (by kernel_rfl) Tryd.func4 (by kernel_rfl)
    (of_decide_eq_true (by kernel_rfl)) (by unfold Func.isWrapper; first | (rw [if_pos (by decide +kernel)]; kernel_rfl) | (rw [if_neg (by decide +kernel)]; exact ⟨rfl, rfl⟩))
    (fun os started H enc _ => lifted os started H enc)

theorem proved : Rows.TrieSoundCardSaid :=
  Claim7.holds_tied_plain_at .later [] [.data] true (true, "dc8737acee50ade5d9e6156f300c62d149993f3a6545deb441f0e2b50ff31829") true
    over (fun _ h => by cases h) (by kernel_rfl) (fun _ h => by cases h) trieSound_row_tie rfl ⟨rfl, rfl⟩ (by kernel_rfl) rfl
    (fun f fn hf hfn => by
      obtain rfl : f = 4 := Option.some.inj ((show Tryd.prog.funcNamed "oathbook/oathbooklaw2.TrieSound" = some 4 by kernel_rfl).symm.trans hf) |>.symm
      obtain rfl : fn = Tryd.f4 := (Option.some.inj (Tryd.func4.symm.trans hfn)).symm
      exact ⟨by kernel_rfl, stand_of_all (by kernel_rfl)⟩)
    (by kernel_rfl)
#print axioms proved
end trieSound
end Go.Proofs.YtpeomfehdccmmaaDoor
