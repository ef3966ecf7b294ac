/- Walks: sieve.Join where it tells an error. -/
import Derived.Test.YteikbbdkpeecaaaDoorSieveBoth
namespace Go.Proofs.YteikbbdkpeecaaaDoor
open Go.RowKit
set_option linter.unusedVariables false
set_option linter.unusedSimpArgs false
set_option maxRecDepth 20000 in
set_option maxHeartbeats 4000000 in
theorem Join_no1 (L M : Nat) (K J : Int) (h1 : ¬ SvOk L K) (a : Option Addr) (c : Nat) (b : Option Addr) (d : Nat) (w : World) :
    Calls Tryd.prog 18 #[.agg #[.slice a L c, .int .i64 K], .agg #[.slice b M d, .int .i64 J]] w fun e w' => e = .returned (.tuple #[.agg #[.slice none 0 0, .int .i64 0], .iface 25 (.int .i64 2)]) ∧ Below w.heap.size w w' := by
  obtain ⟨H, hH⟩ : ∃ H, H = w.heap.size := ⟨_, rfl⟩
  obtain ⟨w0, hw0⟩ : ∃ z, z = w.alloc (.cells #[.slice a L c, .int .i64 K] 24) := ⟨_, rfl⟩
  obtain ⟨w1, hw1⟩ : ∃ z, z = w0.alloc (.cells #[.slice b M d, .int .i64 J] 24) := ⟨_, rfl⟩
  obtain ⟨w2, hw2⟩ : ∃ z, z = w1.alloc (.cells #[.slice none 0 0, .int .i64 0] 24) := ⟨_, rfl⟩
  have q0 : w0.heap.size = H + 1 := by rw [hw0, hH]; exact World.size_alloc _ _
  have q1 : w1.heap.size = H + 1 + 1 := by rw [hw1, World.size_alloc, q0]
  have q2 : w2.heap.size = H + 1 + 1 + 1 := by rw [hw2, World.size_alloc, q1]
  have s0 : Below (H) w w0 := by rw [hw0, hH]; exact (Below.refl _ _).alloc (Nat.le_refl _) _
  have s1 : Below (H + 1) w0 w1 := by rw [hw1, ← q0]; exact (Below.refl _ _).alloc (Nat.le_refl _) _
  have s2 : Below (H + 1 + 1) w1 w2 := by rw [hw2, ← q1]; exact (Below.refl _ _).alloc (Nat.le_refl _) _
  have t2 : Below (H + 1 + 1 + 1) w2 w2 := Below.refl _ _
  have t1 : Below (H + 1 + 1) w1 w2 := s2.trans (t2.mono (by omega))
  have t0 : Below (H + 1) w0 w2 := s1.trans (t1.mono (by omega))
  have bL : Below H w w2 := s0.trans (t0.mono (by omega))
  have g0 : w2.heap[H]? = some (.cells #[.slice a L c, .int .i64 K] 24 (0, 0)) := by
    have g : w0.heap[H]? = some (.cells #[.slice a L c, .int .i64 K] 24 (0, 0)) := by rw [hw0, hH]; exact heap_alloc_new _ _
    exact (t0.block _ (by omega)).trans g
  have g1 : w2.heap[H + 1]? = some (.cells #[.slice b M d, .int .i64 J] 24 (0, 0)) := by
    have g : w1.heap[H + 1]? = some (.cells #[.slice b M d, .int .i64 J] 24 (0, 0)) := by rw [hw1, ← q0]; exact heap_alloc_new _ _
    exact (t1.block _ (by omega)).trans g
  have g2 : w2.heap[H + 1 + 1]? = some (.cells #[.slice none 0 0, .int .i64 0] 24 (0, 0)) := by
    have g : w2.heap[H + 1 + 1]? = some (.cells #[.slice none 0 0, .int .i64 0] 24 (0, 0)) := by rw [hw2, ← q1]; exact heap_alloc_new _ _
    exact (t2.block _ (by omega)).trans g
  have bW : Below w.heap.size w w2 := by rw [← hH]; exact bL
  have hsz : H + 1 + 1 < w2.heap.size := by omega
  have HH := Lib.hid hH
  have HW0 := Lib.hid hw0
  have HW1 := Lib.hid hw1
  have HW2 := Lib.hid hw2
  have BL := Lib.hid bL
  have BW := Lib.hid bW
  have QL := Lib.hid q2
  have G0 := Lib.hid g0
  have G1 := Lib.hid g1
  have G2 := Lib.hid g2
  clear hH hw0 hw1 hw2 q0 q1 q2 s0 s1 s2 t0 t1 t2 g0 g1 g2 bL bW
  have HC1 := Lib.hid (Check_no a L c K h1 w2)
  have c0 : w2.cell? ⟨H, 0, none⟩ = some (.slice a L c) := by rw [cell_of_row _ _ _ _ _ _ G0.out]; rfl
  have c1 : w2.cell? ⟨H, 1, none⟩ = some (.int .i64 K) := by rw [cell_of_row _ _ _ _ _ _ G0.out]; rfl
  go_enter Tryd.func18, Tryd.ntmps18
  go_upto_region 1 with fail
  rw [← HH.out, ← HW0.out, ← HW1.out, ← HW2.out]
  go_wp2_with fail
  refine HC1.out.mono ?_
  rintro e w3 ⟨rfl, hb3⟩
  have GZ := Lib.hid ((hb3.block _ hsz).trans G2.out)
  have B3 := Lib.hid (BL.out.trans (hb3.mono (by omega)))
  clear hb3 HC1 c0 c1
  have e1 : w3.heap[H + 1 + 1]? = some (.cells #[.slice none 0 0, .int .i64 0] 24 (0, 0)) := GZ.out
  have d1 : w3.cell? ⟨H + 1 + 1, 0, none⟩ = some (.slice none 0 0) := by rw [cell_of_row _ _ _ _ _ _ e1]; rfl
  have d2 : w3.cell? ⟨H + 1 + 1, 1, none⟩ = some (.int .i64 0) := by rw [cell_of_row _ _ _ _ _ _ e1]; rfl
  have f1 : w3.frozen? ⟨H + 1 + 1, 0, none⟩ = false := frozen_of_row _ _ _ _ _ e1
  have f2 : w3.frozen? ⟨H + 1 + 1, 1, none⟩ = false := frozen_of_row _ _ _ _ _ e1
  clear e1
  go_wp2_with fail
  have g1 : ((w3.setCell ⟨H + 1 + 1, 0, none⟩ (.slice none 0 0)).setCell ⟨H + 1 + 1, 1, none⟩ (.int .i64 0)).heap[H + 1 + 1]? = some (.cells #[.slice none 0 0, .int .i64 0] 24 (0, 0)) := heap_set_one (i := 1) (heap_set_one (i := 0) GZ.out _) _
  have m1 : ((w3.setCell ⟨H + 1 + 1, 0, none⟩ (.slice none 0 0)).setCell ⟨H + 1 + 1, 1, none⟩ (.int .i64 0)).cell? ⟨H + 1 + 1, 0, none⟩ = some (.slice none 0 0) := by rw [cell_of_row _ _ _ _ _ _ g1]; rfl
  have m2 : ((w3.setCell ⟨H + 1 + 1, 0, none⟩ (.slice none 0 0)).setCell ⟨H + 1 + 1, 1, none⟩ (.int .i64 0)).cell? ⟨H + 1 + 1, 1, none⟩ = some (.int .i64 0) := by rw [cell_of_row _ _ _ _ _ _ g1]; rfl
  try simp only [Exit.inBlock, Exit.then]
  refine bodyPost_ret (v := .tuple #[.agg #[.slice none 0 0, .int .i64 0], .iface 25 (.int .i64 2)]) (by simp [results, Tryd.f18, go_sem, m1, m2]) rfl ?_
  exact ⟨rfl, by rw [← HH.out]; exact (B3.out.setCell (p := ⟨H + 1 + 1, 0, none⟩) (by show H ≤ H + 1 + 1; omega) _).setCell (p := ⟨H + 1 + 1, 1, none⟩) (by show H ≤ H + 1 + 1; omega) _⟩
set_option maxRecDepth 20000 in
set_option maxHeartbeats 4000000 in
theorem Join_no2 (L M : Nat) (K J : Int) (h1 : SvOk L K) (h2 : ¬ SvOk M J) (a : Option Addr) (c : Nat) (b : Option Addr) (d : Nat) (w : World) :
    Calls Tryd.prog 18 #[.agg #[.slice a L c, .int .i64 K], .agg #[.slice b M d, .int .i64 J]] w fun e w' => e = .returned (.tuple #[.agg #[.slice none 0 0, .int .i64 0], .iface 25 (.int .i64 2)]) ∧ Below w.heap.size w w' := by
  obtain ⟨H, hH⟩ : ∃ H, H = w.heap.size := ⟨_, rfl⟩
  obtain ⟨w0, hw0⟩ : ∃ z, z = w.alloc (.cells #[.slice a L c, .int .i64 K] 24) := ⟨_, rfl⟩
  obtain ⟨w1, hw1⟩ : ∃ z, z = w0.alloc (.cells #[.slice b M d, .int .i64 J] 24) := ⟨_, rfl⟩
  obtain ⟨w2, hw2⟩ : ∃ z, z = w1.alloc (.cells #[.slice none 0 0, .int .i64 0] 24) := ⟨_, rfl⟩
  have q0 : w0.heap.size = H + 1 := by rw [hw0, hH]; exact World.size_alloc _ _
  have q1 : w1.heap.size = H + 1 + 1 := by rw [hw1, World.size_alloc, q0]
  have q2 : w2.heap.size = H + 1 + 1 + 1 := by rw [hw2, World.size_alloc, q1]
  have s0 : Below (H) w w0 := by rw [hw0, hH]; exact (Below.refl _ _).alloc (Nat.le_refl _) _
  have s1 : Below (H + 1) w0 w1 := by rw [hw1, ← q0]; exact (Below.refl _ _).alloc (Nat.le_refl _) _
  have s2 : Below (H + 1 + 1) w1 w2 := by rw [hw2, ← q1]; exact (Below.refl _ _).alloc (Nat.le_refl _) _
  have t2 : Below (H + 1 + 1 + 1) w2 w2 := Below.refl _ _
  have t1 : Below (H + 1 + 1) w1 w2 := s2.trans (t2.mono (by omega))
  have t0 : Below (H + 1) w0 w2 := s1.trans (t1.mono (by omega))
  have bL : Below H w w2 := s0.trans (t0.mono (by omega))
  have g0 : w2.heap[H]? = some (.cells #[.slice a L c, .int .i64 K] 24 (0, 0)) := by
    have g : w0.heap[H]? = some (.cells #[.slice a L c, .int .i64 K] 24 (0, 0)) := by rw [hw0, hH]; exact heap_alloc_new _ _
    exact (t0.block _ (by omega)).trans g
  have g1 : w2.heap[H + 1]? = some (.cells #[.slice b M d, .int .i64 J] 24 (0, 0)) := by
    have g : w1.heap[H + 1]? = some (.cells #[.slice b M d, .int .i64 J] 24 (0, 0)) := by rw [hw1, ← q0]; exact heap_alloc_new _ _
    exact (t1.block _ (by omega)).trans g
  have g2 : w2.heap[H + 1 + 1]? = some (.cells #[.slice none 0 0, .int .i64 0] 24 (0, 0)) := by
    have g : w2.heap[H + 1 + 1]? = some (.cells #[.slice none 0 0, .int .i64 0] 24 (0, 0)) := by rw [hw2, ← q1]; exact heap_alloc_new _ _
    exact (t2.block _ (by omega)).trans g
  have bW : Below w.heap.size w w2 := by rw [← hH]; exact bL
  have hsz : H + 1 + 1 < w2.heap.size := by omega
  have HH := Lib.hid hH
  have HW0 := Lib.hid hw0
  have HW1 := Lib.hid hw1
  have HW2 := Lib.hid hw2
  have BL := Lib.hid bL
  have BW := Lib.hid bW
  have QL := Lib.hid q2
  have G0 := Lib.hid g0
  have G1 := Lib.hid g1
  have G2 := Lib.hid g2
  clear hH hw0 hw1 hw2 q0 q1 q2 s0 s1 s2 t0 t1 t2 g0 g1 g2 bL bW
  have HC1 := Lib.hid (Check_ok a L c K h1 w2)
  have c0 : w2.cell? ⟨H, 0, none⟩ = some (.slice a L c) := by rw [cell_of_row _ _ _ _ _ _ G0.out]; rfl
  have c1 : w2.cell? ⟨H, 1, none⟩ = some (.int .i64 K) := by rw [cell_of_row _ _ _ _ _ _ G0.out]; rfl
  go_enter Tryd.func18, Tryd.ntmps18
  go_upto_region 1 with fail
  rw [← HH.out, ← HW0.out, ← HW1.out, ← HW2.out]
  go_wp2_with fail
  refine HC1.out.mono ?_
  rintro e w3 ⟨rfl, hb3⟩
  have G13 := Lib.hid ((hb3.block _ (by omega)).trans G1.out)
  have GZ3 := Lib.hid ((hb3.block _ hsz).trans G2.out)
  have B3 := Lib.hid (BL.out.trans (hb3.mono (by omega)))
  have l3 := Nat.lt_of_lt_of_le hsz hb3.size
  have c0b : w3.cell? ⟨H + 1, 0, none⟩ = some (.slice b M d) := by rw [cell_of_row _ _ _ _ _ _ G13.out]; rfl
  have c1b : w3.cell? ⟨H + 1, 1, none⟩ = some (.int .i64 J) := by rw [cell_of_row _ _ _ _ _ _ G13.out]; rfl
  have HC2 := Lib.hid (Check_no b M d J h2 w3)
  clear hb3 HC1 c0 c1
  go_wp2_with fail
  refine HC2.out.mono ?_
  rintro e w4 ⟨rfl, hb4⟩
  have GZ := Lib.hid ((hb4.block _ l3).trans GZ3.out)
  have B4 := Lib.hid (B3.out.trans (hb4.mono (by omega)))
  clear hb4 HC2 c0b c1b
  have e1 : w4.heap[H + 1 + 1]? = some (.cells #[.slice none 0 0, .int .i64 0] 24 (0, 0)) := GZ.out
  have d1 : w4.cell? ⟨H + 1 + 1, 0, none⟩ = some (.slice none 0 0) := by rw [cell_of_row _ _ _ _ _ _ e1]; rfl
  have d2 : w4.cell? ⟨H + 1 + 1, 1, none⟩ = some (.int .i64 0) := by rw [cell_of_row _ _ _ _ _ _ e1]; rfl
  have f1 : w4.frozen? ⟨H + 1 + 1, 0, none⟩ = false := frozen_of_row _ _ _ _ _ e1
  have f2 : w4.frozen? ⟨H + 1 + 1, 1, none⟩ = false := frozen_of_row _ _ _ _ _ e1
  clear e1
  go_wp2_with fail
  have g1 : ((w4.setCell ⟨H + 1 + 1, 0, none⟩ (.slice none 0 0)).setCell ⟨H + 1 + 1, 1, none⟩ (.int .i64 0)).heap[H + 1 + 1]? = some (.cells #[.slice none 0 0, .int .i64 0] 24 (0, 0)) := heap_set_one (i := 1) (heap_set_one (i := 0) GZ.out _) _
  have m1 : ((w4.setCell ⟨H + 1 + 1, 0, none⟩ (.slice none 0 0)).setCell ⟨H + 1 + 1, 1, none⟩ (.int .i64 0)).cell? ⟨H + 1 + 1, 0, none⟩ = some (.slice none 0 0) := by rw [cell_of_row _ _ _ _ _ _ g1]; rfl
  have m2 : ((w4.setCell ⟨H + 1 + 1, 0, none⟩ (.slice none 0 0)).setCell ⟨H + 1 + 1, 1, none⟩ (.int .i64 0)).cell? ⟨H + 1 + 1, 1, none⟩ = some (.int .i64 0) := by rw [cell_of_row _ _ _ _ _ _ g1]; rfl
  try simp only [Exit.inBlock, Exit.then]
  refine bodyPost_ret (v := .tuple #[.agg #[.slice none 0 0, .int .i64 0], .iface 25 (.int .i64 2)]) (by simp [results, Tryd.f18, go_sem, m1, m2]) rfl ?_
  exact ⟨rfl, by rw [← HH.out]; exact (B4.out.setCell (p := ⟨H + 1 + 1, 0, none⟩) (by show H ≤ H + 1 + 1; omega) _).setCell (p := ⟨H + 1 + 1, 1, none⟩) (by show H ≤ H + 1 + 1; omega) _⟩
set_option maxRecDepth 20000 in
set_option maxHeartbeats 4000000 in
theorem Join_no3 (L M : Nat) (K J : Int) (h1 : SvOk L K) (h2 : SvOk M J) (h3 : ¬ (L = M ∧ K = J)) (a : Option Addr) (c : Nat) (b : Option Addr) (d : Nat) (w : World) :
    Calls Tryd.prog 18 #[.agg #[.slice a L c, .int .i64 K], .agg #[.slice b M d, .int .i64 J]] w fun e w' => e = .returned (.tuple #[.agg #[.slice none 0 0, .int .i64 0], .iface 25 (.int .i64 3)]) ∧ Below w.heap.size w w' := by
  obtain ⟨H, hH⟩ : ∃ H, H = w.heap.size := ⟨_, rfl⟩
  obtain ⟨w0, hw0⟩ : ∃ z, z = w.alloc (.cells #[.slice a L c, .int .i64 K] 24) := ⟨_, rfl⟩
  obtain ⟨w1, hw1⟩ : ∃ z, z = w0.alloc (.cells #[.slice b M d, .int .i64 J] 24) := ⟨_, rfl⟩
  obtain ⟨w2, hw2⟩ : ∃ z, z = w1.alloc (.cells #[.slice none 0 0, .int .i64 0] 24) := ⟨_, rfl⟩
  have q0 : w0.heap.size = H + 1 := by rw [hw0, hH]; exact World.size_alloc _ _
  have q1 : w1.heap.size = H + 1 + 1 := by rw [hw1, World.size_alloc, q0]
  have q2 : w2.heap.size = H + 1 + 1 + 1 := by rw [hw2, World.size_alloc, q1]
  have s0 : Below (H) w w0 := by rw [hw0, hH]; exact (Below.refl _ _).alloc (Nat.le_refl _) _
  have s1 : Below (H + 1) w0 w1 := by rw [hw1, ← q0]; exact (Below.refl _ _).alloc (Nat.le_refl _) _
  have s2 : Below (H + 1 + 1) w1 w2 := by rw [hw2, ← q1]; exact (Below.refl _ _).alloc (Nat.le_refl _) _
  have t2 : Below (H + 1 + 1 + 1) w2 w2 := Below.refl _ _
  have t1 : Below (H + 1 + 1) w1 w2 := s2.trans (t2.mono (by omega))
  have t0 : Below (H + 1) w0 w2 := s1.trans (t1.mono (by omega))
  have bL : Below H w w2 := s0.trans (t0.mono (by omega))
  have g0 : w2.heap[H]? = some (.cells #[.slice a L c, .int .i64 K] 24 (0, 0)) := by
    have g : w0.heap[H]? = some (.cells #[.slice a L c, .int .i64 K] 24 (0, 0)) := by rw [hw0, hH]; exact heap_alloc_new _ _
    exact (t0.block _ (by omega)).trans g
  have g1 : w2.heap[H + 1]? = some (.cells #[.slice b M d, .int .i64 J] 24 (0, 0)) := by
    have g : w1.heap[H + 1]? = some (.cells #[.slice b M d, .int .i64 J] 24 (0, 0)) := by rw [hw1, ← q0]; exact heap_alloc_new _ _
    exact (t1.block _ (by omega)).trans g
  have g2 : w2.heap[H + 1 + 1]? = some (.cells #[.slice none 0 0, .int .i64 0] 24 (0, 0)) := by
    have g : w2.heap[H + 1 + 1]? = some (.cells #[.slice none 0 0, .int .i64 0] 24 (0, 0)) := by rw [hw2, ← q1]; exact heap_alloc_new _ _
    exact (t2.block _ (by omega)).trans g
  have bW : Below w.heap.size w w2 := by rw [← hH]; exact bL
  have hsz : H + 1 + 1 < w2.heap.size := by omega
  have HH := Lib.hid hH
  have HW0 := Lib.hid hw0
  have HW1 := Lib.hid hw1
  have HW2 := Lib.hid hw2
  have BL := Lib.hid bL
  have BW := Lib.hid bW
  have QL := Lib.hid q2
  have G0 := Lib.hid g0
  have G1 := Lib.hid g1
  have G2 := Lib.hid g2
  clear hH hw0 hw1 hw2 q0 q1 q2 s0 s1 s2 t0 t1 t2 g0 g1 g2 bL bW
  have HC1 := Lib.hid (Check_ok a L c K h1 w2)
  have c0 : w2.cell? ⟨H, 0, none⟩ = some (.slice a L c) := by rw [cell_of_row _ _ _ _ _ _ G0.out]; rfl
  have c1 : w2.cell? ⟨H, 1, none⟩ = some (.int .i64 K) := by rw [cell_of_row _ _ _ _ _ _ G0.out]; rfl
  go_enter Tryd.func18, Tryd.ntmps18
  go_upto_region 1 with fail
  rw [← HH.out, ← HW0.out, ← HW1.out, ← HW2.out]
  go_wp2_with fail
  refine HC1.out.mono ?_
  rintro e w3 ⟨rfl, hb3⟩
  have G03 := Lib.hid ((hb3.block _ (by omega)).trans G0.out)
  have G13 := Lib.hid ((hb3.block _ (by omega)).trans G1.out)
  have GZ3 := Lib.hid ((hb3.block _ hsz).trans G2.out)
  have B3 := Lib.hid (BL.out.trans (hb3.mono (by omega)))
  have l3 := Nat.lt_of_lt_of_le hsz hb3.size
  have c0b : w3.cell? ⟨H + 1, 0, none⟩ = some (.slice b M d) := by rw [cell_of_row _ _ _ _ _ _ G13.out]; rfl
  have c1b : w3.cell? ⟨H + 1, 1, none⟩ = some (.int .i64 J) := by rw [cell_of_row _ _ _ _ _ _ G13.out]; rfl
  have HC2 := Lib.hid (Check_ok b M d J h2 w3)
  clear hb3 HC1 c0 c1
  go_wp2_with fail
  refine HC2.out.mono ?_
  rintro e w4 ⟨rfl, hb4⟩
  have G04 := Lib.hid ((hb4.block _ (by omega)).trans G03.out)
  have G14 := Lib.hid ((hb4.block _ (by omega)).trans G13.out)
  have GZ := Lib.hid ((hb4.block _ l3).trans GZ3.out)
  have B4 := Lib.hid (B3.out.trans (hb4.mono (by omega)))
  clear hb4 HC2 c0b c1b
  have y0 : w4.cell? ⟨H, 0, none⟩ = some (.slice a L c) := by rw [cell_of_row _ _ _ _ _ _ G04.out]; rfl
  have y1 : w4.cell? ⟨H, 1, none⟩ = some (.int .i64 K) := by rw [cell_of_row _ _ _ _ _ _ G04.out]; rfl
  have y2 : w4.cell? ⟨H + 1, 0, none⟩ = some (.slice b M d) := by rw [cell_of_row _ _ _ _ _ _ G14.out]; rfl
  have y3 : w4.cell? ⟨H + 1, 1, none⟩ = some (.int .i64 J) := by rw [cell_of_row _ _ _ _ _ _ G14.out]; rfl
  by_cases hLM : L = M
  · have hKJ : K ≠ J := fun h => h3 ⟨hLM, h⟩
    have z1 : ((L : Int) != (M : Int)) = false := by rw [hLM]; simp
    have z1b : (L != M) = false := by rw [hLM]; simp
    have z2 : (K != J) = true := by simpa using hKJ
    clear h3 hLM hKJ
    have e1 : w4.heap[H + 1 + 1]? = some (.cells #[.slice none 0 0, .int .i64 0] 24 (0, 0)) := GZ.out
    have d1 : w4.cell? ⟨H + 1 + 1, 0, none⟩ = some (.slice none 0 0) := by rw [cell_of_row _ _ _ _ _ _ e1]; rfl
    have d2 : w4.cell? ⟨H + 1 + 1, 1, none⟩ = some (.int .i64 0) := by rw [cell_of_row _ _ _ _ _ _ e1]; rfl
    have f1 : w4.frozen? ⟨H + 1 + 1, 0, none⟩ = false := frozen_of_row _ _ _ _ _ e1
    have f2 : w4.frozen? ⟨H + 1 + 1, 1, none⟩ = false := frozen_of_row _ _ _ _ _ e1
    clear e1
    go_wp2_with fail
    have g1 : ((w4.setCell ⟨H + 1 + 1, 0, none⟩ (.slice none 0 0)).setCell ⟨H + 1 + 1, 1, none⟩ (.int .i64 0)).heap[H + 1 + 1]? = some (.cells #[.slice none 0 0, .int .i64 0] 24 (0, 0)) := heap_set_one (i := 1) (heap_set_one (i := 0) GZ.out _) _
    have m1 : ((w4.setCell ⟨H + 1 + 1, 0, none⟩ (.slice none 0 0)).setCell ⟨H + 1 + 1, 1, none⟩ (.int .i64 0)).cell? ⟨H + 1 + 1, 0, none⟩ = some (.slice none 0 0) := by rw [cell_of_row _ _ _ _ _ _ g1]; rfl
    have m2 : ((w4.setCell ⟨H + 1 + 1, 0, none⟩ (.slice none 0 0)).setCell ⟨H + 1 + 1, 1, none⟩ (.int .i64 0)).cell? ⟨H + 1 + 1, 1, none⟩ = some (.int .i64 0) := by rw [cell_of_row _ _ _ _ _ _ g1]; rfl
    try simp only [Exit.inBlock, Exit.then]
    refine bodyPost_ret (v := .tuple #[.agg #[.slice none 0 0, .int .i64 0], .iface 25 (.int .i64 3)]) (by simp [results, Tryd.f18, go_sem, m1, m2]) rfl ?_
    exact ⟨rfl, by rw [← HH.out]; exact (B4.out.setCell (p := ⟨H + 1 + 1, 0, none⟩) (by show H ≤ H + 1 + 1; omega) _).setCell (p := ⟨H + 1 + 1, 1, none⟩) (by show H ≤ H + 1 + 1; omega) _⟩
  · have z1 : ((L : Int) != (M : Int)) = true := by simp; omega
    have z1b : (L != M) = true := by simpa using hLM
    clear h3 hLM
    have e1 : w4.heap[H + 1 + 1]? = some (.cells #[.slice none 0 0, .int .i64 0] 24 (0, 0)) := GZ.out
    have d1 : w4.cell? ⟨H + 1 + 1, 0, none⟩ = some (.slice none 0 0) := by rw [cell_of_row _ _ _ _ _ _ e1]; rfl
    have d2 : w4.cell? ⟨H + 1 + 1, 1, none⟩ = some (.int .i64 0) := by rw [cell_of_row _ _ _ _ _ _ e1]; rfl
    have f1 : w4.frozen? ⟨H + 1 + 1, 0, none⟩ = false := frozen_of_row _ _ _ _ _ e1
    have f2 : w4.frozen? ⟨H + 1 + 1, 1, none⟩ = false := frozen_of_row _ _ _ _ _ e1
    clear e1
    go_wp2_with fail
    have g1 : ((w4.setCell ⟨H + 1 + 1, 0, none⟩ (.slice none 0 0)).setCell ⟨H + 1 + 1, 1, none⟩ (.int .i64 0)).heap[H + 1 + 1]? = some (.cells #[.slice none 0 0, .int .i64 0] 24 (0, 0)) := heap_set_one (i := 1) (heap_set_one (i := 0) GZ.out _) _
    have m1 : ((w4.setCell ⟨H + 1 + 1, 0, none⟩ (.slice none 0 0)).setCell ⟨H + 1 + 1, 1, none⟩ (.int .i64 0)).cell? ⟨H + 1 + 1, 0, none⟩ = some (.slice none 0 0) := by rw [cell_of_row _ _ _ _ _ _ g1]; rfl
    have m2 : ((w4.setCell ⟨H + 1 + 1, 0, none⟩ (.slice none 0 0)).setCell ⟨H + 1 + 1, 1, none⟩ (.int .i64 0)).cell? ⟨H + 1 + 1, 1, none⟩ = some (.int .i64 0) := by rw [cell_of_row _ _ _ _ _ _ g1]; rfl
    try simp only [Exit.inBlock, Exit.then]
    refine bodyPost_ret (v := .tuple #[.agg #[.slice none 0 0, .int .i64 0], .iface 25 (.int .i64 3)]) (by simp [results, Tryd.f18, go_sem, m1, m2]) rfl ?_
    exact ⟨rfl, by rw [← HH.out]; exact (B4.out.setCell (p := ⟨H + 1 + 1, 0, none⟩) (by show H ≤ H + 1 + 1; omega) _).setCell (p := ⟨H + 1 + 1, 1, none⟩) (by show H ≤ H + 1 + 1; omega) _⟩
end Go.Proofs.YteikbbdkpeecaaaDoor
