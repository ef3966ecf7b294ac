/- Walks: sieve.New, sieve.Join, and what Has, Add, Join tell of no sieve. -/
import Derived.Test.YteikbbdkpeecaaaDoorSieveAdd
namespace Go.Proofs.YteikbbdkpeecaaaDoor
open Go.RowKit Go.Shelf
set_option linter.unusedVariables false
set_option linter.unusedSimpArgs false
def NewOk (n k : Int) : Prop := 8 ≤ n ∧ n ≤ 8192 ∧ n % 8 = 0 ∧ 1 ≤ k ∧ k ≤ 8
theorem zeros_map (n : Nat) : List.replicate n (Value.int .u8 0) = (List.replicate n (0 : UInt8)).map vB := by
  rw [List.map_replicate]; rfl
theorem Has_no (L : Nat) (K : Int) (a : Option Addr) (c : Nat) (ab : Option Addr) (n cb : Nat) (h : ¬ SvOk L K) (w : World) :
    Calls Tryd.prog 17 #[.agg #[.slice a L c, .int .i64 K], .slice ab n cb] w fun e w' => e = .returned (.tuple #[.bool false, .iface 25 (.int .i64 2)]) ∧ Below w.heap.size w w' := by
  obtain ⟨H, hH⟩ : ∃ H, H = w.heap.size := ⟨_, rfl⟩
  obtain ⟨w0, hw0⟩ : ∃ x, x = w.alloc (.cells #[.slice a L c, .int .i64 K] 24) := ⟨_, rfl⟩
  obtain ⟨w1, hw1⟩ : ∃ x, x = w0.alloc (.cells #[.bool false] 4) := ⟨_, rfl⟩
  obtain ⟨w2, hw2⟩ : ∃ x, x = w1.alloc (.cells #[.nilIface] 27) := ⟨_, rfl⟩
  have q0 : w0.heap.size = H + 1 := by rw [hw0, hH]; exact World.size_alloc _ _
  have q1 : w1.heap.size = H + 1 + 1 := by rw [hw1, World.size_alloc, q0]
  have q2 : w2.heap.size = H + 1 + 1 + 1 := by rw [hw2, World.size_alloc, q1]
  have b0 : Below H w w0 := by rw [hw0, hH]; exact (Below.refl _ _).alloc (Nat.le_refl _) _
  have b01 : Below (H + 1) w0 w1 := by rw [hw1, ← q0]; exact (Below.refl _ _).alloc (Nat.le_refl _) _
  have b12 : Below (H + 1 + 1) w1 w2 := by rw [hw2, ← q1]; exact (Below.refl _ _).alloc (Nat.le_refl _) _
  have b2 : Below H w w2 := b0.trans ((b01.trans (b12.mono (by omega))).mono (by omega))
  have g1 : w2.heap[H + 1]? = some (.cells #[.bool false] 4 (0, 0)) := by
    have g : w1.heap[H + 1]? = some (.cells #[.bool false] 4 (0, 0)) := by rw [hw1, ← q0]; exact heap_alloc_new _ _
    exact (b12.block _ (by omega)).trans g
  have g2 : w2.heap[H + 1 + 1]? = some (.cells #[.nilIface] 27 (0, 0)) := by rw [hw2, ← q1]; exact heap_alloc_new _ _
  have CK := Check_no a L c K h w2
  have HW0 := Lib.hid hw0
  have HW1 := Lib.hid hw1
  have HW2 := Lib.hid hw2
  have HH := Lib.hid hH
  have B2 := Lib.hid b2
  have G1 := Lib.hid g1
  have G2 := Lib.hid g2
  have HCK := Lib.hid CK
  have Q2 := Lib.hid q2
  clear q0 q1 q2 b0 b01 b12 b2 g1 g2 CK hw0 hw1 hw2 hH h
  refine (callsIn_wide (n := 6)).1 (callsIn_of_wp_marks Tryd.func17 rfl trivial ?_ rfl)
  simp only [Tryd.ntmps17, List.size_toArray, List.length_cons, List.length_nil, Nat.reduceAdd, Nat.reduceSub, Array.replicate_succ, Array.replicate_zero, List.push_toArray, List.append_toArray, List.nil_append, List.cons_append]
  refine wpIn_wide.2 ?_
  go_wp2_with fail
  rw [← HH.out, ← HW0.out, ← HW1.out, ← HW2.out]
  refine HCK.out.mono ?_
  rintro e3 w3 ⟨rfl, hb3⟩
  have e1 : w3.heap[H + 1]? = some (.cells #[.bool false] 4 (0, 0)) := (hb3.block (H + 1) (by rw [Q2.out]; omega)).trans G1.out
  have e2 : w3.heap[H + 1 + 1]? = some (.cells #[.nilIface] 27 (0, 0)) := (hb3.block (H + 1 + 1) (by rw [Q2.out]; omega)).trans G2.out
  have d1 : w3.cell? ⟨H + 1, 0, none⟩ = some (.bool false) := by rw [cell_of_row _ _ _ _ _ _ e1]; rfl
  have d2 : w3.cell? ⟨H + 1 + 1, 0, none⟩ = some .nilIface := by rw [cell_of_row _ _ _ _ _ _ e2]; rfl
  have f1 : w3.frozen? ⟨H + 1, 0, none⟩ = false := frozen_of_row _ _ _ _ _ e1
  have f2 : w3.frozen? ⟨H + 1 + 1, 0, none⟩ = false := frozen_of_row _ _ _ _ _ e2
  have hB := B2.out.trans (hb3.mono (by rw [Q2.out]; omega))
  have HB := Lib.hid hB
  have HE := Lib.hid (And.intro e1 e2)
  clear hb3 HCK hB e1 e2 G1 G2 B2
  go_wp2_with fail
  have m1 : ((w3.setCell ⟨H + 1, 0, none⟩ (.bool false)).setCell ⟨H + 1 + 1, 0, none⟩ (.iface 25 (.int .i64 2))).cell? ⟨H + 1, 0, none⟩ = some (.bool false) := by
    rw [World.cell?_setCell_far _ _ _ _ (by show H + 1 + 1 ≠ H + 1; omega)]
    exact World.cell?_setCell_same' _ _ _ (by rw [d1]; rfl)
  have m2 : ((w3.setCell ⟨H + 1, 0, none⟩ (.bool false)).setCell ⟨H + 1 + 1, 0, none⟩ (.iface 25 (.int .i64 2))).cell? ⟨H + 1 + 1, 0, none⟩ = some (.iface 25 (.int .i64 2)) :=
    World.cell?_setCell_same' _ _ _ (by rw [World.cell?_setCell_far _ _ _ _ (by show H + 1 ≠ H + 1 + 1; omega), d2]; rfl)
  refine ⟨.tuple #[.bool false, .iface 25 (.int .i64 2)], ?_, rfl, (by rw [← HH.out]; exact (HB.out.setCell (p := ⟨H + 1, 0, none⟩) (by show H ≤ H + 1; omega) _).setCell (p := ⟨H + 1 + 1, 0, none⟩) (by show H ≤ H + 1 + 1; omega) _)⟩
  simp [results, Tryd.f17, go_sem, m1, m2]
theorem Add_no (L : Nat) (K : Int) (a : Option Addr) (c : Nat) (ab : Option Addr) (n cb : Nat) (h : ¬ SvOk L K) (w : World) :
    Calls Tryd.prog 16 #[.agg #[.slice a L c, .int .i64 K], .slice ab n cb] w fun e w' => e = .returned (.tuple #[.agg #[.slice none 0 0, .int .i64 0], .iface 25 (.int .i64 2)]) ∧ Below w.heap.size w w' := by
  obtain ⟨H, hH⟩ : ∃ H, H = w.heap.size := ⟨_, rfl⟩
  obtain ⟨w0, hw0⟩ : ∃ x, x = w.alloc (.cells #[.slice a L c, .int .i64 K] 24) := ⟨_, rfl⟩
  obtain ⟨w1, hw1⟩ : ∃ x, x = w0.alloc (.cells #[.slice none 0 0, .int .i64 0] 24) := ⟨_, rfl⟩
  have q0 : w0.heap.size = H + 1 := by rw [hw0, hH]; exact World.size_alloc _ _
  have q1 : w1.heap.size = H + 1 + 1 := by rw [hw1, World.size_alloc, q0]
  have b0 : Below H w w0 := by rw [hw0, hH]; exact (Below.refl _ _).alloc (Nat.le_refl _) _
  have b01 : Below (H + 1) w0 w1 := by rw [hw1, ← q0]; exact (Below.refl _ _).alloc (Nat.le_refl _) _
  have b2 : Below H w w1 := b0.trans (b01.mono (by omega))
  have g1 : w1.heap[H + 1]? = some (.cells #[.slice none 0 0, .int .i64 0] 24 (0, 0)) := by rw [hw1, ← q0]; exact heap_alloc_new _ _
  have CK := Check_no a L c K h w1
  have HW0 := Lib.hid hw0
  have HW1 := Lib.hid hw1
  have HH := Lib.hid hH
  have B2 := Lib.hid b2
  have G1 := Lib.hid g1
  have HCK := Lib.hid CK
  have Q2 := Lib.hid q1
  clear q0 q1 b0 b01 b2 g1 CK hw0 hw1 hH h
  refine (callsIn_wide (n := 6)).1 (callsIn_of_wp_marks Tryd.func16 rfl trivial ?_ rfl)
  simp only [Tryd.ntmps16, List.size_toArray, List.length_cons, List.length_nil, Nat.reduceAdd, Nat.reduceSub, Array.replicate_succ, Array.replicate_zero, List.push_toArray, List.append_toArray, List.nil_append, List.cons_append]
  refine wpIn_wide.2 ?_
  go_wp2_with fail
  rw [← HH.out, ← HW0.out, ← HW1.out]
  refine HCK.out.mono ?_
  rintro e3 w3 ⟨rfl, hb3⟩
  have e1 : w3.heap[H + 1]? = some (.cells #[.slice none 0 0, .int .i64 0] 24 (0, 0)) := (hb3.block (H + 1) (by rw [Q2.out]; omega)).trans G1.out
  have d1 : w3.cell? ⟨H + 1, 0, none⟩ = some (.slice none 0 0) := by rw [cell_of_row _ _ _ _ _ _ e1]; rfl
  have d2 : w3.cell? ⟨H + 1, 1, none⟩ = some (.int .i64 0) := by rw [cell_of_row _ _ _ _ _ _ e1]; rfl
  have f1 : w3.frozen? ⟨H + 1, 0, none⟩ = false := frozen_of_row _ _ _ _ _ e1
  have f2 : w3.frozen? ⟨H + 1, 1, none⟩ = false := frozen_of_row _ _ _ _ _ e1
  have hB := B2.out.trans (hb3.mono (by rw [Q2.out]; omega))
  have HB := Lib.hid hB
  have HE := Lib.hid e1
  clear hb3 HCK hB e1 G1 B2
  go_wp2_with fail
  have g1 : ((w3.setCell ⟨H + 1, 0, none⟩ (.slice none 0 0)).setCell ⟨H + 1, 1, none⟩ (.int .i64 0)).heap[H + 1]? = some (.cells #[.slice none 0 0, .int .i64 0] 24 (0, 0)) := heap_set_one (i := 1) (heap_set_one (i := 0) HE.out _) _
  have m1 : ((w3.setCell ⟨H + 1, 0, none⟩ (.slice none 0 0)).setCell ⟨H + 1, 1, none⟩ (.int .i64 0)).cell? ⟨H + 1, 0, none⟩ = some (.slice none 0 0) := by rw [cell_of_row _ _ _ _ _ _ g1]; rfl
  have m2 : ((w3.setCell ⟨H + 1, 0, none⟩ (.slice none 0 0)).setCell ⟨H + 1, 1, none⟩ (.int .i64 0)).cell? ⟨H + 1, 1, none⟩ = some (.int .i64 0) := by rw [cell_of_row _ _ _ _ _ _ g1]; rfl
  refine ⟨.tuple #[.agg #[.slice none 0 0, .int .i64 0], .iface 25 (.int .i64 2)], ?_, rfl, (by rw [← HH.out]; exact (HB.out.setCell (p := ⟨H + 1, 0, none⟩) (by show H ≤ H + 1; omega) _).setCell (p := ⟨H + 1, 1, none⟩) (by show H ≤ H + 1; omega) _)⟩
  simp [results, Tryd.f16, go_sem, m1, m2]
set_option maxRecDepth 100000 in
set_option maxHeartbeats 4000000 in
theorem New_ok (L : Nat) (hL0 : 1 ≤ L) (hL : L ≤ 1024) (k : Int) (h1 : 1 ≤ k) (h2 : k ≤ 8) (w : World) :
    Calls Tryd.prog 8 #[.int .i64 ((8 * L : Nat) : Int), .int .i64 k] w fun e w' => ∃ a c e', e = .returned (.tuple #[.agg #[.slice a L c, .int .i64 k], .nilIface]) ∧ Rd w' a e' ((List.replicate L (0 : UInt8)).map vB) ∧ Below w.heap.size w w' := by
  obtain ⟨N, hN⟩ : ∃ N : Int, N = ((8 * L : Nat) : Int) := ⟨_, rfl⟩
  have z1 : decide (N < 8) = false := decide_eq_false (by omega)
  have z2 : decide (8192 < N) = false := decide_eq_false (by omega)
  have z3 : N % 8 = 0 := by omega
  have z3t : N.tmod 8 = 0 := by rw [Int.tmod_eq_emod_of_nonneg (by omega)]; exact z3
  have z4 : decide (k < 1) = false := decide_eq_false (by omega)
  have z5 : decide (8 < k) = false := decide_eq_false (by omega)
  have z6 : N / 8 = (L : Int) := by omega
  have z6t : N.tdiv 8 = (L : Int) := by rw [Int.tdiv_eq_ediv_of_nonneg (by omega)]; exact z6
  have z7 : IntKind.i64.wrap (L : Int) = (L : Int) := IntWalk.i64_in _ (by omega)
  rw [← hN]
  have HN := Lib.hid hN
  clear hN
  obtain ⟨H, hH⟩ : ∃ H, H = w.heap.size := ⟨_, rfl⟩
  obtain ⟨w0, hw0⟩ : ∃ x, x = w.alloc (.cells #[.slice none 0 0, .int .i64 0] 24) := ⟨_, rfl⟩
  have q0 : w0.heap.size = H + 1 := by rw [hw0, hH]; exact World.size_alloc _ _
  have b0 : Below H w w0 := by rw [hw0, hH]; exact (Below.refl _ _).alloc (Nat.le_refl _) _
  have g0 : w0.heap[H]? = some (.cells #[.slice none 0 0, .int .i64 0] 24 (0, 0)) := by rw [hw0, hH]; exact heap_alloc_new _ _
  have HW0 := Lib.hid hw0
  have HH := Lib.hid hH
  have B0 := Lib.hid b0
  have G0 := Lib.hid g0
  have Q0 := Lib.hid q0
  clear hw0 hH b0 g0 q0
  obtain ⟨i0, hi0, hz0, hs0, hb0⟩ := info_parts info_u8
  go_enter Tryd.func8, Tryd.ntmps8
  go_wp2_with (at_make; rw [← HH.out, ← HW0.out]; refine wpList_make_full _ rfl _ _ 22 rfl w0.heap.size 5 i0 (.int .u8 0) 1 Tryd.underlying22 hi0 hz0 hs0 _ _ _ _ L rfl rfl rfl rfl ?c1 ?c2 ?c3 ?_)
  case c1 => rw [hb0]; omega
  case c2 => simp only [maxLen]; omega
  case c3 => exact Nat.le_refl _
  intro w2 hown2 hgrow2
  rw [made_one, zeros_map L] at hown2
  have hb2 : Below w0.heap.size w0 w2 := (Below.refl _ w0).grown hgrow2 (Nat.le_refl _) (fun k hk => by cases hk)
  have hZ : H < w0.heap.size := by rw [Q0.out]; omega
  obtain ⟨Z, hZe⟩ : ∃ Z, Z = w0.heap.size := ⟨_, rfl⟩
  rw [← hZe] at hown2 hb2 hZ ⊢
  have e1 : w2.heap[H]? = some (.cells #[.slice none 0 0, .int .i64 0] 24 (0, 0)) := (hb2.block H hZ).trans G0.out
  have d1 : w2.cell? ⟨H, 0, none⟩ = some (.slice none 0 0) := by rw [cell_of_row _ _ _ _ _ _ e1]; rfl
  have d2 : w2.cell? ⟨H, 1, none⟩ = some (.int .i64 0) := by rw [cell_of_row _ _ _ _ _ _ e1]; rfl
  have f1 : w2.frozen? ⟨H, 0, none⟩ = false := frozen_of_row _ _ _ _ _ e1
  have f2 : w2.frozen? ⟨H, 1, none⟩ = false := frozen_of_row _ _ _ _ _ e1
  have HB := Lib.hid (B0.out.trans (hb2.mono (by omega)))
  have HO := Lib.hid hown2
  have HE := Lib.hid e1
  clear hown2 hb2 hgrow2 e1 B0 G0 hZe
  go_wp2_with fail
  have g1 : ((w2.setCell ⟨H, 0, none⟩ (.slice (some ⟨Z, 0, none⟩) L L)).setCell ⟨H, 1, none⟩ (.int .i64 k)).heap[H]? = some (.cells #[.slice (some ⟨Z, 0, none⟩) L L, .int .i64 k] 24 (0, 0)) := heap_set_one (i := 1) (heap_set_one (i := 0) HE.out _) _
  have m1 : ((w2.setCell ⟨H, 0, none⟩ (.slice (some ⟨Z, 0, none⟩) L L)).setCell ⟨H, 1, none⟩ (.int .i64 k)).cell? ⟨H, 0, none⟩ = some (.slice (some ⟨Z, 0, none⟩) L L) := by rw [cell_of_row _ _ _ _ _ _ g1]; rfl
  have m2 : ((w2.setCell ⟨H, 0, none⟩ (.slice (some ⟨Z, 0, none⟩) L L)).setCell ⟨H, 1, none⟩ (.int .i64 k)).cell? ⟨H, 1, none⟩ = some (.int .i64 k) := by rw [cell_of_row _ _ _ _ _ _ g1]; rfl
  have HM := Lib.hid (And.intro (Rd.of_own (own_far (own_far HO.out ⟨H, 0, none⟩ (.slice (some ⟨Z, 0, none⟩) L L) (by show Z ≠ H; omega)) ⟨H, 1, none⟩ (.int .i64 k) (by show Z ≠ H; omega))) ((HB.out.setCell (p := ⟨H, 0, none⟩) (Nat.le_refl H) (.slice (some ⟨Z, 0, none⟩) L L)).setCell (p := ⟨H, 1, none⟩) (Nat.le_refl H) (.int .i64 k)))
  clear HO HB HE g1
  refine bodyPost_ret (v := .tuple #[.agg #[.slice (some ⟨Z, 0, none⟩) L L, .int .i64 k], .nilIface]) (by simp [results, Tryd.f8, go_sem, m1, m2]) rfl ?_
  exact ⟨some ⟨Z, 0, none⟩, L, 5, rfl, HM.out.1, by rw [← HH.out]; exact HM.out.2⟩
set_option maxRecDepth 100000 in
set_option maxHeartbeats 4000000 in
theorem New_no (n k : Int) (h : ¬ NewOk n k) (w : World) :
    Calls Tryd.prog 8 #[.int .i64 n, .int .i64 k] w fun e w' => e = .returned (.tuple #[.agg #[.slice none 0 0, .int .i64 0], .iface 25 (.int .i64 2)]) ∧ Below w.heap.size w w' := by
  have fin : Below w.heap.size w (w.alloc (.cells #[.slice none 0 0, .int .i64 0] 24)) := (Below.refl _ w).alloc (Nat.le_refl _) _
  have HF := Lib.hid fin
  clear fin
  by_cases h1 : n < 8
  · have z1 : decide (n < 8) = true := decide_eq_true h1
    clear h h1
    go_enter Tryd.func8, Tryd.ntmps8
    go_wp2_with fail
    refine bodyPost_ret (v := .tuple #[.agg #[.slice none 0 0, .int .i64 0], .iface 25 (.int .i64 2)]) (by simp [results, Tryd.f8, go_sem]) rfl ?_
    exact ⟨rfl, HF.out⟩
  · have z1 : decide (n < 8) = false := decide_eq_false h1
    by_cases h2 : 8192 < n
    · have z2 : decide (8192 < n) = true := decide_eq_true h2
      clear h h1 h2
      go_enter Tryd.func8, Tryd.ntmps8
      go_wp2_with fail
      refine bodyPost_ret (v := .tuple #[.agg #[.slice none 0 0, .int .i64 0], .iface 25 (.int .i64 2)]) (by simp [results, Tryd.f8, go_sem]) rfl ?_
      exact ⟨rfl, HF.out⟩
    · have z2 : decide (8192 < n) = false := decide_eq_false h2
      by_cases h3 : n % 8 = 0
      · have z3 : n.tmod 8 = 0 := by rw [Int.tmod_eq_emod_of_nonneg (by omega)]; exact h3
        by_cases h4 : k < 1
        · have z4 : decide (k < 1) = true := decide_eq_true h4
          clear h h1 h2 h4
          go_enter Tryd.func8, Tryd.ntmps8
          go_wp2_with fail
          refine bodyPost_ret (v := .tuple #[.agg #[.slice none 0 0, .int .i64 0], .iface 25 (.int .i64 2)]) (by simp [results, Tryd.f8, go_sem]) rfl ?_
          exact ⟨rfl, HF.out⟩
        · have z4 : decide (k < 1) = false := decide_eq_false h4
          have z5 : decide (8 < k) = true := decide_eq_true (by unfold NewOk at h; omega)
          clear h h1 h2 h4
          go_enter Tryd.func8, Tryd.ntmps8
          go_wp2_with fail
          refine bodyPost_ret (v := .tuple #[.agg #[.slice none 0 0, .int .i64 0], .iface 25 (.int .i64 2)]) (by simp [results, Tryd.f8, go_sem]) rfl ?_
          exact ⟨rfl, HF.out⟩
      · have z3 : (n.tmod 8 == 0) = false := by rw [Int.tmod_eq_emod_of_nonneg (by omega)]; simpa using h3
        have z3b : (n % 8 == 0) = false := by simpa using h3
        have z3c : (n.tmod 8 != 0) = true := by rw [bne, z3]; rfl
        have z3d : (n % 8 != 0) = true := by rw [bne, z3b]; rfl
        have z3e : IntKind.i64.wrap (n.tmod 8) = n.tmod 8 := IntWalk.i64_in _ (by rw [Int.tmod_eq_emod_of_nonneg (by omega)]; omega)
        have z3f : IntKind.i64.wrap (n % 8) = n % 8 := IntWalk.i64_in _ (by omega)
        clear h h1 h2 h3
        go_enter Tryd.func8, Tryd.ntmps8
        go_wp2_with fail
        refine bodyPost_ret (v := .tuple #[.agg #[.slice none 0 0, .int .i64 0], .iface 25 (.int .i64 2)]) (by simp [results, Tryd.f8, go_sem]) rfl ?_
        exact ⟨rfl, HF.out⟩
end Go.Proofs.YteikbbdkpeecaaaDoor
