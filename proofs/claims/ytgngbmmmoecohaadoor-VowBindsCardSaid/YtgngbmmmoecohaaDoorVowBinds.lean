/- Who opens one vow in two ways shows two unlike texts with one digest: for any digests and any bytes. -/
import Derived.Test.YtgngbmmmoecohaaDoorRows
import Derived.Test.YtgngbmmmoecohaaDoorVow
import Derived.Test.YtgngbmmmoecohaaDoorLaidR
import Derived.Test.YtgngbmmmoecohaaDoorDigG
import Derived.Test.YtgngbmmmoecohaaDoorSame
import Derived.Test.YtgngbmmmoecohaaDoorWeigh
import Derived.WalkKit
import Derived.ProofKit
import Derived.OpenShut
import Derived.ShutString
import Derived.ChangeOld
import Derived.Below
namespace Go.Proofs.YtgngbmmmoecohaaDoor
open Go.ChangeShapes Go.WideShapes Go.ChangeAt Go.RowKit
open Go.ChangeMaps (open_string shut_string)
set_option linter.unusedVariables false
namespace vowBinds

-- HOLE: the walk
theorem vowText_inj {s b s' b' : List UInt8} (h1 : s.length = 32) (h2 : s'.length = 32) (h : vowText s b = vowText s' b') : s = s' ∧ b = b' := by
  unfold vowText at h
  exact List.append_inj (List.cons.inj h).2 (by rw [h1, h2])
set_option maxRecDepth 20000 in
set_option maxHeartbeats 8000000 in
theorem walk (x0 : List UInt8) (x1 : List UInt8) (x2 : List UInt8) (a2 : Option Addr) (c2 e2 : Nat) (x3 : List UInt8) (x4 : List UInt8) (a4 : Option Addr) (c4 e4 : Nat) (w : World) (n0 : x0.length = 32) (n1 : x1.length = 32) (l2 : x2.length ≤ 140737488351232) (r2 : Rd w a2 e2 (x2.map vB)) (n3 : x3.length = 32) (l4 : x4.length ≤ 140737488351232) (r4 : Rd w a4 e4 (x4.map vB)) (hro : RoundsAt w) :
    Calls Tryd.prog 4 #[.agg (dV x0), .agg (dV x1), .slice a2 x2.length c2, .agg (dV x3), .slice a4 x4.length c4] w fun e w' => e = .returned (.bool true) ∧ Below w.heap.size w w' := by
  obtain ⟨H, hH⟩ : ∃ H, H = w.heap.size := ⟨_, rfl⟩
  obtain ⟨w0, hw0⟩ : ∃ x, x = w.alloc (.cells (dV x0) 23) := ⟨_, rfl⟩
  obtain ⟨w1, hw1⟩ : ∃ x, x = w0.alloc (.cells (dV x1) 23) := ⟨_, rfl⟩
  obtain ⟨w3, hw3⟩ : ∃ x, x = w1.alloc (.cells (dV x3) 23) := ⟨_, rfl⟩
  have q0 : w0.heap.size = H + 1 := by rw [hw0, hH]; exact World.size_alloc _ _
  have q1 : w1.heap.size = H + 1 + 1 := by rw [hw1, World.size_alloc, q0]
  have q3 : w3.heap.size = H + 1 + 1 + 1 := by rw [hw3, World.size_alloc, q1]
  have b0 : Below H w w0 := by rw [hw0, hH]; exact (Below.refl _ _).alloc (Nat.le_refl _) _
  have b01 : Below (H + 1) w0 w1 := by rw [hw1, ← q0]; exact (Below.refl _ _).alloc (Nat.le_refl _) _
  have b13 : Below (H + 1 + 1) w1 w3 := by rw [hw3, ← q1]; exact (Below.refl _ _).alloc (Nat.le_refl _) _
  have b3 : Below H w w3 := b0.trans ((b01.trans (b13.mono (by omega))).mono (by omega))
  have g0 : w3.heap[H]? = some (.cells (dV x0) 23 (0, 0)) := by
    have g : w0.heap[H]? = some (.cells (dV x0) 23 (0, 0)) := by rw [hw0, hH]; exact heap_alloc_new _ _
    exact (b13.block _ (by omega)).trans ((b01.block _ (by omega)).trans g)
  have g1 : w3.heap[H + 1]? = some (.cells (dV x1) 23 (0, 0)) := by
    have g : w1.heap[H + 1]? = some (.cells (dV x1) 23 (0, 0)) := by rw [hw1, ← q0]; exact heap_alloc_new _ _
    exact (b13.block _ (by omega)).trans g
  have g3 : w3.heap[H + 1 + 1]? = some (.cells (dV x3) 23 (0, 0)) := by rw [hw3, ← q1]; exact heap_alloc_new _ _
  have hH3 : H ≤ w3.heap.size := by omega
  have G0 : Hid (∀ w', InB w3.heap.size w3 w' → w'.rangeAt H 0 (x0.map vB)) := Lib.hid fun w' h => h.range (by omega) (range_of_row g0)
  have G1 : Hid (∀ w', InB w3.heap.size w3 w' → w'.rangeAt (H + 1) 0 (x1.map vB)) := Lib.hid fun w' h => h.range (by omega) (range_of_row g1)
  have G3 : Hid (∀ w', InB w3.heap.size w3 w' → w'.rangeAt (H + 1 + 1) 0 (x3.map vB)) := Lib.hid fun w' h => h.range (by omega) (range_of_row g3)
  have R2 := Lib.hid (r2.below (show Below w.heap.size w w3 by rw [← hH]; exact b3))
  have R4 := Lib.hid (r4.below (show Below w.heap.size w w3 by rw [← hH]; exact b3))
  have RO := Lib.hid (hro.at_ (show Below w.heap.size w w3 by rw [← hH]; exact b3))
  have HW0 := Lib.hid hw0
  have HW1 := Lib.hid hw1
  have HW3 := Lib.hid hw3
  have HH := Lib.hid hH
  have B3 := Lib.hid b3
  have N0 := Lib.hid n0
  have N1 := Lib.hid n1
  have N3 := Lib.hid n3
  obtain ⟨D, hD⟩ : ∃ D, D = shaOf (vowText x1 x2) := ⟨_, rfl⟩
  have hDl : D.length = 32 := by rw [hD]; exact shaOf_length _
  have hDD : (D == D) = true := by simp
  have SL : ∀ w', InB w3.heap.size w3 w' → Calls Tryd.prog 16 #[.agg (dV x1), .slice a2 x2.length c2] w' fun e w'' => e = .returned (.agg (dV D)) ∧ InB w3.heap.size w3 w'' :=
    fun w' h => InB.call h (Nat.le_refl _) (by rw [hD]; exact Seal_calls x1 N1.out x2 a2 c2 e2 w' (R2.out.below h) l2 (RO.out.at_ h))
  have OC : ∀ w', InB w3.heap.size w3 w' → Calls Tryd.prog 17 #[.agg (dV D), .agg (dV x1), .slice a2 x2.length c2] w' fun e w'' => e = .returned (.bool true) ∧ InB w3.heap.size w3 w'' :=
    fun w' h => InB.call h (Nat.le_refl _) (by have k := Open_calls _ (shaOf_length (vowText x1 x2)) x1 N1.out x2 a2 c2 e2 w' (R2.out.below h) l2 (RO.out.at_ h); rw [beq_self_eq_true] at k; rw [hD]; exact k)
  have HSL := Lib.hid SL
  have HOC := Lib.hid OC
  have hex := inB_ex w3.heap.size w3
  clear q0 q1 q3 b0 b01 b13 b3 g0 g1 g3 hw0 hw1 hw3 hH r2 r4 hro n0 n1 n3 SL OC hD hDl hDD
  go_enter Tryd.func4, Tryd.ntmps4
  go_wp2_with fail
  rw [← HH.out, ← HW0.out, ← HW1.out, ← HW3.out]
  refine wp_region_inB w3.heap.size (by kernel_rfl) (by kernel_rfl) ?_
  refine quiet_dig rfl (.tmp 6) rfl (H + 1) 0 (by rfl) x1 N1.out (fun w' hw' => G1.out w' hw') ?_
  simp only [Act.put, List.setIfInBounds_toArray, List.set_cons_zero, List.set_cons_succ]
  go_big_quiet_step ((intro _; rfl))
  go_big_quiet_step ((intro hw'; exact HSL.out _ hw'))
  refine quiet_dig rfl (.tmp 6) rfl (H + 1) 0 (by rfl) x1 N1.out (fun w' hw' => G1.out w' hw') ?_
  simp only [Act.put, List.setIfInBounds_toArray, List.set_cons_zero, List.set_cons_succ]
  go_big_quiet_step ((intro _; rfl))
  go_big_quiet_step ((intro hw'; exact HOC.out _ hw'))
  go_big_quiet_step ((intro _; rfl))
  refine wpQuiet_nil ?_
  intro w4 I4
  have BC := Bytes_calls x2 x4 a2 a4 c2 c4 e2 e4 w4 (R2.out.below I4) (R4.out.below I4) (by omega)
  obtain ⟨sm, hsm⟩ : ∃ sm, sm = decide (x2 = x4) := ⟨_, rfl⟩
  rw [← hsm] at BC
  have HBC := Lib.hid BC
  have HSM := Lib.hid hsm
  clear BC hsm HSL HOC hex
  go_wp2_with fail
  refine HBC.out.mono ?_
  rintro e w5 ⟨rfl, n5, h5⟩
  have I5 : InB w3.heap.size w3 w5 := by rw [h5]; exact below_drewN I4 _
  clear h5 HBC
  obtain ⟨eq, heq⟩ : ∃ eq, eq = (x1 == x3) := ⟨_, rfl⟩
  cases eq with
  | true =>
    have HE := Lib.hid heq.symm
    clear heq
    cases sm with
    | true =>
      go_wp2_with (first
        | ((refine ld_digG rfl (.tmp 6) rfl (H + 1) 0 (by rfl) x1 N1.out (G1.out _ I5) ?_); simp only [Act.put, List.setIfInBounds_toArray, List.set_cons_zero, List.set_cons_succ])
        | ((refine ld_digG rfl (.tmp 8) rfl (H + 1 + 1) 0 (by rfl) x3 N3.out (G3.out _ I5) ?_); simp only [Act.put, List.setIfInBounds_toArray, List.set_cons_zero, List.set_cons_succ])
        | ((refine ld_digG rfl (.tmp 5) rfl (H) 0 (by rfl) x0 N0.out (G0.out _ I5) ?_); simp only [Act.put, List.setIfInBounds_toArray, List.set_cons_zero, List.set_cons_succ])
        | ((refine eq_digG rfl (.tmp 25) (.tmp 26) _ rfl x1 x3 (by rfl) (by rfl) N1.out N3.out ?_); rw [HE.out]; simp only [Act.put, List.setIfInBounds_toArray, List.set_cons_zero, List.set_cons_succ]))
      go_ret
      exact ⟨rfl, by rw [← HH.out]; exact B3.out.trans (Below.mono I5 hH3)⟩
    | false =>
      have HNE : Hid (¬ (x1 = x3 ∧ x2 = x4)) := Lib.hid fun h => by have := HSM.out; rw [decide_eq_true h.2] at this; cases this
      go_wp2_with (first
        | ((refine ld_digG rfl (.tmp 6) rfl (H + 1) 0 (by rfl) x1 N1.out (G1.out _ I5) ?_); simp only [Act.put, List.setIfInBounds_toArray, List.set_cons_zero, List.set_cons_succ])
        | ((refine ld_digG rfl (.tmp 8) rfl (H + 1 + 1) 0 (by rfl) x3 N3.out (G3.out _ I5) ?_); simp only [Act.put, List.setIfInBounds_toArray, List.set_cons_zero, List.set_cons_succ])
        | ((refine ld_digG rfl (.tmp 5) rfl (H) 0 (by rfl) x0 N0.out (G0.out _ I5) ?_); simp only [Act.put, List.setIfInBounds_toArray, List.set_cons_zero, List.set_cons_succ])
        | ((refine eq_digG rfl (.tmp 25) (.tmp 26) _ rfl x1 x3 (by rfl) (by rfl) N1.out N3.out ?_); rw [HE.out]; simp only [Act.put, List.setIfInBounds_toArray, List.set_cons_zero, List.set_cons_succ]))
      refine ((Open_calls x0 N0.out x1 N1.out x2 a2 c2 e2 w5 (R2.out.below I5) l2 (RO.out.at_ I5))).mono ?_
      rintro e w6 ⟨rfl, hb6⟩
      have I6 : InB w3.heap.size w3 w6 := Below.trans I5 (hb6.mono (Below.size I5))
      clear hb6
      obtain ⟨q1, hq1⟩ : ∃ q1, q1 = (x0 == shaOf (vowText x1 x2)) := ⟨_, rfl⟩
      rw [← hq1]
      have HQ1 := Lib.hid hq1
      clear hq1
      cases q1 with
      | false =>
        go_wp2_with fail
        go_ret
        exact ⟨rfl, by rw [← HH.out]; exact B3.out.trans (Below.mono I6 hH3)⟩
      | true =>
        go_wp2_with (first
          | ((refine ld_digG rfl (.tmp 5) rfl (H) 0 (by rfl) x0 N0.out (G0.out _ I6) ?_); simp only [Act.put, List.setIfInBounds_toArray, List.set_cons_zero, List.set_cons_succ])
          | ((refine ld_digG rfl (.tmp 8) rfl (H + 1 + 1) 0 (by rfl) x3 N3.out (G3.out _ I6) ?_); simp only [Act.put, List.setIfInBounds_toArray, List.set_cons_zero, List.set_cons_succ]))
        refine ((Open_calls x0 N0.out x3 N3.out x4 a4 c4 e4 w6 (R4.out.below I6) l4 (RO.out.at_ I6))).mono ?_
        rintro e w7 ⟨rfl, hb7⟩
        have I7 : InB w3.heap.size w3 w7 := Below.trans I6 (hb7.mono (Below.size I6))
        clear hb7
        obtain ⟨q2, hq2⟩ : ∃ q2, q2 = (x0 == shaOf (vowText x3 x4)) := ⟨_, rfl⟩
        rw [← hq2]
        have HQ2 := Lib.hid hq2
        clear hq2
        cases q2 with
        | false =>
          go_wp2_with fail
          go_ret
          exact ⟨rfl, by rw [← HH.out]; exact B3.out.trans (Below.mono I7 hH3)⟩
        | true =>
          have D12 : (shaOf (vowText x1 x2) == shaOf (vowText x3 x4)) = true := by
            have h1 := beq_iff_eq.1 HQ1.out.symm
            have h2 := beq_iff_eq.1 HQ2.out.symm
            rw [← h1, ← h2]; simp
          have hne : ¬ vowText x1 x2 = vowText x3 x4 := fun h => HNE.out (vowText_inj N1.out N3.out h)
          have HD12 := Lib.hid D12
          have HN := Lib.hid hne
          clear D12 hne
          go_wp2_with (first
            | ((refine ld_digG rfl (.tmp 6) rfl (H + 1) 0 (by rfl) x1 N1.out (G1.out _ I7) ?_); simp only [Act.put, List.setIfInBounds_toArray, List.set_cons_zero, List.set_cons_succ]))
          refine (VowText_calls x1 N1.out x2 a2 c2 e2 w7 (R2.out.below I7) l2).mono ?_
          rintro e w8 ⟨av8, cp8, rfl, hown8, hb8⟩
          have I8 : InB w3.heap.size w3 w8 := Below.trans I7 (hb8.mono (Below.size I7))
          have RX := Lib.hid (Rd.of_own hown8)
          clear hown8 hb8
          go_wp2_with (first
            | ((refine ld_digG rfl (.tmp 8) rfl (H + 1 + 1) 0 (by rfl) x3 N3.out (G3.out _ I8) ?_); simp only [Act.put, List.setIfInBounds_toArray, List.set_cons_zero, List.set_cons_succ]))
          refine (VowText_calls x3 N3.out x4 a4 c4 e4 w8 (R4.out.below I8) l4).mono ?_
          rintro e w9 ⟨av9, cp9, rfl, hown9, hb9⟩
          have I9 : InB w3.heap.size w3 w9 := Below.trans I8 (hb9.mono (Below.size I8))
          have RY := Lib.hid (Rd.of_own hown9)
          have RX9 := Lib.hid (RX.out.below hb9)
          have L1 := vowText_length x1 x2 N1.out
          have L3 := vowText_length x3 x4 N3.out
          have HL1 := Lib.hid L1
          have HL3 := Lib.hid L3
          have BC := Bytes_calls (vowText x1 x2) (vowText x3 x4) av8 av9 cp8 cp9 _ _ w9 RX9.out RY.out (by rw [L1]; omega)
          rw [decide_eq_false HN.out] at BC
          have HBC := Lib.hid BC
          clear hown9 hb9 L1 L3 BC RX
          go_wp2_with fail
          refine HBC.out.mono ?_
          rintro e w10 ⟨rfl, n10, h10⟩
          have I10 : InB w3.heap.size w3 w10 := by rw [h10]; exact below_drewN I9 _
          have RX10 := RX9.out.drewN n10
          have RY10 := RY.out.drewN n10
          rw [← h10] at RX10 RY10
          have S1 := RSum_calls (vowText x1 x2) av8 cp8 _ w10 RX10 (by rw [HL1.out]; omega)
          have HS1 := Lib.hid S1
          have HRY := Lib.hid RY10
          clear h10 RX10 RY10 S1 HBC RX9 RY
          go_wp2_with fail
          refine HS1.out.mono ?_
          rintro e w11 ⟨rfl, hb11⟩
          have I11 : InB w3.heap.size w3 w11 := Below.trans I10 (hb11.mono (Below.size I10))
          have S2 := RSum_calls (vowText x3 x4) av9 cp9 _ w11 (HRY.out.below hb11) (by rw [HL3.out]; omega)
          have HS2 := Lib.hid S2
          clear hb11 S2 HS1 HRY
          go_wp2_with fail
          refine HS2.out.mono ?_
          rintro e w12 ⟨rfl, hb12⟩
          have I12 : InB w3.heap.size w3 w12 := Below.trans I11 (hb12.mono (Below.size I11))
          clear hb12 HS2
          go_wp2_with (first
            | ((refine eq_digG rfl (.tmp 58) (.tmp 60) _ rfl (shaOf (vowText x1 x2)) (shaOf (vowText x3 x4)) (by rfl) (by rfl) (shaOf_length _) (shaOf_length _) ?_); rw [HD12.out]; simp only [Act.put, List.setIfInBounds_toArray, List.set_cons_zero, List.set_cons_succ]))
          go_ret
          exact ⟨rfl, by rw [← HH.out]; exact B3.out.trans (Below.mono I12 hH3)⟩
  | false =>
    have HE := Lib.hid heq.symm
    have HNE : Hid (¬ (x1 = x3 ∧ x2 = x4)) := Lib.hid fun h => by have := heq; rw [h.1] at this; simp at this
    clear heq
    go_wp2_with (first
      | ((refine ld_digG rfl (.tmp 6) rfl (H + 1) 0 (by rfl) x1 N1.out (G1.out _ I5) ?_); simp only [Act.put, List.setIfInBounds_toArray, List.set_cons_zero, List.set_cons_succ])
      | ((refine ld_digG rfl (.tmp 8) rfl (H + 1 + 1) 0 (by rfl) x3 N3.out (G3.out _ I5) ?_); simp only [Act.put, List.setIfInBounds_toArray, List.set_cons_zero, List.set_cons_succ])
      | ((refine ld_digG rfl (.tmp 5) rfl (H) 0 (by rfl) x0 N0.out (G0.out _ I5) ?_); simp only [Act.put, List.setIfInBounds_toArray, List.set_cons_zero, List.set_cons_succ])
      | ((refine eq_digG rfl (.tmp 25) (.tmp 26) _ rfl x1 x3 (by rfl) (by rfl) N1.out N3.out ?_); rw [HE.out]; simp only [Act.put, List.setIfInBounds_toArray, List.set_cons_zero, List.set_cons_succ]))
    refine ((Open_calls x0 N0.out x1 N1.out x2 a2 c2 e2 w5 (R2.out.below I5) l2 (RO.out.at_ I5))).mono ?_
    rintro e w6 ⟨rfl, hb6⟩
    have I6 : InB w3.heap.size w3 w6 := Below.trans I5 (hb6.mono (Below.size I5))
    clear hb6
    obtain ⟨q1, hq1⟩ : ∃ q1, q1 = (x0 == shaOf (vowText x1 x2)) := ⟨_, rfl⟩
    rw [← hq1]
    have HQ1 := Lib.hid hq1
    clear hq1
    cases q1 with
    | false =>
      go_wp2_with fail
      go_ret
      exact ⟨rfl, by rw [← HH.out]; exact B3.out.trans (Below.mono I6 hH3)⟩
    | true =>
      go_wp2_with (first
        | ((refine ld_digG rfl (.tmp 5) rfl (H) 0 (by rfl) x0 N0.out (G0.out _ I6) ?_); simp only [Act.put, List.setIfInBounds_toArray, List.set_cons_zero, List.set_cons_succ])
        | ((refine ld_digG rfl (.tmp 8) rfl (H + 1 + 1) 0 (by rfl) x3 N3.out (G3.out _ I6) ?_); simp only [Act.put, List.setIfInBounds_toArray, List.set_cons_zero, List.set_cons_succ]))
      refine ((Open_calls x0 N0.out x3 N3.out x4 a4 c4 e4 w6 (R4.out.below I6) l4 (RO.out.at_ I6))).mono ?_
      rintro e w7 ⟨rfl, hb7⟩
      have I7 : InB w3.heap.size w3 w7 := Below.trans I6 (hb7.mono (Below.size I6))
      clear hb7
      obtain ⟨q2, hq2⟩ : ∃ q2, q2 = (x0 == shaOf (vowText x3 x4)) := ⟨_, rfl⟩
      rw [← hq2]
      have HQ2 := Lib.hid hq2
      clear hq2
      cases q2 with
      | false =>
        go_wp2_with fail
        go_ret
        exact ⟨rfl, by rw [← HH.out]; exact B3.out.trans (Below.mono I7 hH3)⟩
      | true =>
        have D12 : (shaOf (vowText x1 x2) == shaOf (vowText x3 x4)) = true := by
          have h1 := beq_iff_eq.1 HQ1.out.symm
          have h2 := beq_iff_eq.1 HQ2.out.symm
          rw [← h1, ← h2]; simp
        have hne : ¬ vowText x1 x2 = vowText x3 x4 := fun h => HNE.out (vowText_inj N1.out N3.out h)
        have HD12 := Lib.hid D12
        have HN := Lib.hid hne
        clear D12 hne
        go_wp2_with (first
          | ((refine ld_digG rfl (.tmp 6) rfl (H + 1) 0 (by rfl) x1 N1.out (G1.out _ I7) ?_); simp only [Act.put, List.setIfInBounds_toArray, List.set_cons_zero, List.set_cons_succ]))
        refine (VowText_calls x1 N1.out x2 a2 c2 e2 w7 (R2.out.below I7) l2).mono ?_
        rintro e w8 ⟨av8, cp8, rfl, hown8, hb8⟩
        have I8 : InB w3.heap.size w3 w8 := Below.trans I7 (hb8.mono (Below.size I7))
        have RX := Lib.hid (Rd.of_own hown8)
        clear hown8 hb8
        go_wp2_with (first
          | ((refine ld_digG rfl (.tmp 8) rfl (H + 1 + 1) 0 (by rfl) x3 N3.out (G3.out _ I8) ?_); simp only [Act.put, List.setIfInBounds_toArray, List.set_cons_zero, List.set_cons_succ]))
        refine (VowText_calls x3 N3.out x4 a4 c4 e4 w8 (R4.out.below I8) l4).mono ?_
        rintro e w9 ⟨av9, cp9, rfl, hown9, hb9⟩
        have I9 : InB w3.heap.size w3 w9 := Below.trans I8 (hb9.mono (Below.size I8))
        have RY := Lib.hid (Rd.of_own hown9)
        have RX9 := Lib.hid (RX.out.below hb9)
        have L1 := vowText_length x1 x2 N1.out
        have L3 := vowText_length x3 x4 N3.out
        have HL1 := Lib.hid L1
        have HL3 := Lib.hid L3
        have BC := Bytes_calls (vowText x1 x2) (vowText x3 x4) av8 av9 cp8 cp9 _ _ w9 RX9.out RY.out (by rw [L1]; omega)
        rw [decide_eq_false HN.out] at BC
        have HBC := Lib.hid BC
        clear hown9 hb9 L1 L3 BC RX
        go_wp2_with fail
        refine HBC.out.mono ?_
        rintro e w10 ⟨rfl, n10, h10⟩
        have I10 : InB w3.heap.size w3 w10 := by rw [h10]; exact below_drewN I9 _
        have RX10 := RX9.out.drewN n10
        have RY10 := RY.out.drewN n10
        rw [← h10] at RX10 RY10
        have S1 := RSum_calls (vowText x1 x2) av8 cp8 _ w10 RX10 (by rw [HL1.out]; omega)
        have HS1 := Lib.hid S1
        have HRY := Lib.hid RY10
        clear h10 RX10 RY10 S1 HBC RX9 RY
        go_wp2_with fail
        refine HS1.out.mono ?_
        rintro e w11 ⟨rfl, hb11⟩
        have I11 : InB w3.heap.size w3 w11 := Below.trans I10 (hb11.mono (Below.size I10))
        have S2 := RSum_calls (vowText x3 x4) av9 cp9 _ w11 (HRY.out.below hb11) (by rw [HL3.out]; omega)
        have HS2 := Lib.hid S2
        clear hb11 S2 HS1 HRY
        go_wp2_with fail
        refine HS2.out.mono ?_
        rintro e w12 ⟨rfl, hb12⟩
        have I12 : InB w3.heap.size w3 w12 := Below.trans I11 (hb12.mono (Below.size I11))
        clear hb12 HS2
        go_wp2_with (first
          | ((refine eq_digG rfl (.tmp 58) (.tmp 60) _ rfl (shaOf (vowText x1 x2)) (shaOf (vowText x3 x4)) (by rfl) (by rfl) (shaOf_length _) (shaOf_length _) ?_); rw [HD12.out]; simp only [Act.put, List.setIfInBounds_toArray, List.set_cons_zero, List.set_cons_succ]))
        go_ret
        exact ⟨rfl, by rw [← HH.out]; exact B3.out.trans (Below.mono I12 hH3)⟩

set_option maxRecDepth 100000 in
theorem lifted (os : Os) (started : os.Started) (H : Type) (enc : TypeId × Value → H) :
    ReturnsInHanded {} Tryd.checked os 4 .any (fun w args => (Rows.vowBindsSpec.pre enc Tryd.prog Tryd.f4 Rows.vowBindsRow.domain false w args ∧ laidMetH Tryd.prog Laid.list w) ∧ sizedMet enc Tryd.prog Tryd.f4 (OpenSpec.ofChange Rows.vowBindsSpec) false w args) (Rows.vowBindsSpec.post enc Tryd.prog Tryd.f4 false true false false) := by
  refine returnsInHanded_of_change_and (C := Tryd.checked) (X := fun w _ => laidMetH Tryd.prog Laid.list w) (fun _ _ _ hh h => h.of_heap hh) Laid.own started (by kernel_rfl) Tryd.func4
    (ChangeSpec.witness_at (enc := enc) (C := Tryd.checked) (os := os) (X := fun w _ => laidMetH Tryd.prog Laid.list w) false (laidWorld os) #[.agg #[.int .u8 0, .int .u8 0, .int .u8 0, .int .u8 0, .int .u8 0, .int .u8 0, .int .u8 0, .int .u8 0, .int .u8 0, .int .u8 0, .int .u8 0, .int .u8 0, .int .u8 0, .int .u8 0, .int .u8 0, .int .u8 0, .int .u8 0, .int .u8 0, .int .u8 0, .int .u8 0, .int .u8 0, .int .u8 0, .int .u8 0, .int .u8 0, .int .u8 0, .int .u8 0, .int .u8 0, .int .u8 0, .int .u8 0, .int .u8 0, .int .u8 0, .int .u8 0], .agg #[.int .u8 0, .int .u8 0, .int .u8 0, .int .u8 0, .int .u8 0, .int .u8 0, .int .u8 0, .int .u8 0, .int .u8 0, .int .u8 0, .int .u8 0, .int .u8 0, .int .u8 0, .int .u8 0, .int .u8 0, .int .u8 0, .int .u8 0, .int .u8 0, .int .u8 0, .int .u8 0, .int .u8 0, .int .u8 0, .int .u8 0, .int .u8 0, .int .u8 0, .int .u8 0, .int .u8 0, .int .u8 0, .int .u8 0, .int .u8 0, .int .u8 0, .int .u8 0], .slice none 0 0, .agg #[.int .u8 0, .int .u8 0, .int .u8 0, .int .u8 0, .int .u8 0, .int .u8 0, .int .u8 0, .int .u8 0, .int .u8 0, .int .u8 0, .int .u8 0, .int .u8 0, .int .u8 0, .int .u8 0, .int .u8 0, .int .u8 0, .int .u8 0, .int .u8 0, .int .u8 0, .int .u8 0, .int .u8 0, .int .u8 0, .int .u8 0, .int .u8 0, .int .u8 0, .int .u8 0, .int .u8 0, .int .u8 0, .int .u8 0, .int .u8 0, .int .u8 0, .int .u8 0], .slice none 0 0] 8 rfl (by kernel_rfl) (by kernel_rfl) (by kernel_rfl) (by kernel_rfl) (by kernel_rfl) (laidWorld_met os _)) ?_
  intro W base args ds gs before hval0 hW _ hsz hL _
  have hro := rounds_of_laid hL
  have hval : ∀ (j : Nat) t v, Tryd.f4.params[j]? = some t → args[j]? = some v → Value.okWide Tryd.prog W .any base t v := hval0
  have hW' := hW
  obtain ⟨p, q, hA0, hV, rfl, hfz, hnd⟩ := hW
  have hA : DataW.TrodAll enc Tryd.prog W 0 (fun _ => true) true Tryd.f4.params.toList args.toList ds p := hA0
  rw [Tryd.params4] at hA hval
  obtain ⟨v0, vs0, d0, ds0, p0, q0, hargs, rfl, rfl, h0, r0⟩ := trodAll_cons hA
  obtain ⟨v1, vs1, d1, ds1, p1, q1, rfl, rfl, rfl, h1, r1⟩ := trodAll_cons r0
  obtain ⟨v2, vs2, d2, ds2, p2, q2, rfl, rfl, rfl, h2, r2⟩ := trodAll_cons r1
  obtain ⟨v3, vs3, d3, ds3, p3, q3, rfl, rfl, rfl, h3, r3⟩ := trodAll_cons r2
  obtain ⟨v4, vs4, d4, ds4, p4, q4, rfl, rfl, rfl, h4, r4⟩ := trodAll_cons r3
  obtain ⟨rfl, rfl, rfl⟩ := trodAll_nil r4
  obtain rfl : args = #[v0, v1, v2, v3, v4] := by cases args; simp_all
  obtain ⟨rfl, rfl⟩ := trodVars_none hV
  have k0 := h0
  have lt0 : ∀ x ∈ p0, x.block < W.heap.size := by obtain ⟨m, hm⟩ := k0; exact DataW.trod_lt m _ _ _ hm
  obtain ⟨x0, n0, rfl⟩ := open_digest Tryd.underlying23 Tryd.underlying5 (by kernel_rfl) (by kernel_rfl) (hval 0 23 v0 rfl rfl) h0
  have k1 := h1
  have lt1 : ∀ x ∈ p1, x.block < W.heap.size := by obtain ⟨m, hm⟩ := k1; exact DataW.trod_lt m _ _ _ hm
  obtain ⟨x1, n1, rfl⟩ := open_digest Tryd.underlying23 Tryd.underlying5 (by kernel_rfl) (by kernel_rfl) (hval 1 23 v1 rfl rfl) h1
  have k2 := h2
  have lt2 : ∀ x ∈ p2, x.block < W.heap.size := by obtain ⟨m, hm⟩ := k2; exact DataW.trod_lt m _ _ _ hm
  obtain ⟨x2, a2, c2, e2, rfl, l_2, r_2⟩ := open_bytes Tryd.underlying24 Tryd.underlying5 (by kernel_rfl) (hval 2 24 v2 rfl rfl) h2
  have l2 : x2.length ≤ 140737488351232 := by have := trod_len (B := reachBytes) Tryd.underlying24 h2 (fun n hn => of_decide_eq_true (List.all_eq_true.1 hsz n (DataW.weights_mem_each (j := 2) (by first | rfl | kernel_rfl) rfl n hn))); rw [show Tryd.prog.bytesOf 5 = 1 by kernel_rfl, Nat.mul_one] at this; exact this
  have k3 := h3
  have lt3 : ∀ x ∈ p3, x.block < W.heap.size := by obtain ⟨m, hm⟩ := k3; exact DataW.trod_lt m _ _ _ hm
  obtain ⟨x3, n3, rfl⟩ := open_digest Tryd.underlying23 Tryd.underlying5 (by kernel_rfl) (by kernel_rfl) (hval 3 23 v3 rfl rfl) h3
  have k4 := h4
  have lt4 : ∀ x ∈ p4, x.block < W.heap.size := by obtain ⟨m, hm⟩ := k4; exact DataW.trod_lt m _ _ _ hm
  obtain ⟨x4, a4, c4, e4, rfl, l_4, r_4⟩ := open_bytes Tryd.underlying24 Tryd.underlying5 (by kernel_rfl) (hval 4 24 v4 rfl rfl) h4
  have l4 : x4.length ≤ 140737488351232 := by have := trod_len (B := reachBytes) Tryd.underlying24 h4 (fun n hn => of_decide_eq_true (List.all_eq_true.1 hsz n (DataW.weights_mem_each (j := 4) (by first | rfl | kernel_rfl) rfl n hn))); rw [show Tryd.prog.bytesOf 5 = 1 by kernel_rfl, Nat.mul_one] at this; exact this
  clear hA0 hval0
  refine (walk x0 x1 x2 a2 c2 e2 x3 x4 a4 c4 e4 W n0 n1 l2 r_2 n3 l4 r_4 hro).mono fun e W' ⟨he, bel⟩ => ?_
  subst he
  exact ⟨_, rfl, _, _, _, [], _, [], hW', trodAll_mk1 (shut_bool Tryd.underlying4 _), (trodAll_cons_mk (Below.trod Laid.laidOut (by kernel_rfl) (of_decide_eq_true (by kernel_rfl)) k0 bel lt0) (trodAll_cons_mk (Below.trod Laid.laidOut (by kernel_rfl) (of_decide_eq_true (by kernel_rfl)) k1 bel lt1) (trodAll_cons_mk (Below.trod Laid.laidOut (by kernel_rfl) (of_decide_eq_true (by kernel_rfl)) k2 bel lt2) (trodAll_cons_mk (Below.trod Laid.laidOut (by kernel_rfl) (of_decide_eq_true (by kernel_rfl)) k3 bel lt3) (trodAll_cons_mk (Below.trod Laid.laidOut (by kernel_rfl) (of_decide_eq_true (by kernel_rfl)) k4 bel lt4) trodAll_mk0))))), rfl, bel.frame _, fun h => by cases h⟩

theorem over : Rows.vowBindsRow.holds Tryd.pinned (OpenSpec.ofChange Rows.vowBindsSpec) :=
  OpenClaim.holds_of_wide 4 Tryd.f4 rfl rfl rfl rfl rfl rfl rfl ⟨rfl, rfl, rfl, rfl, rfl⟩ rfl rfl rfl rfl rfl (by kernel_rfl) Tryd.func4 (by kernel_rfl)
    (of_decide_eq_true (by kernel_rfl)) (by unfold Func.isWrapper; first | (rw [if_pos (by decide +kernel)]; kernel_rfl) | (rw [if_neg (by decide +kernel)]; exact ⟨rfl, rfl⟩))
    (fun os started H enc _ => lifted os started H enc)

theorem proved : Rows.VowBindsCardSaid :=
  Claim7.holds_tied_plain_at .later [] [.data] true (true, "d9367f1a9ac0cc7a5f16b7a4c9fa57317a5d4c7769de09c3b166420cc346acc4") true
    over (fun _ h => by cases h) (by kernel_rfl) (fun _ h => by cases h) vowBinds_row_tie rfl ⟨rfl, rfl⟩ (by kernel_rfl) rfl
    (fun f fn hf hfn => by
      obtain rfl : f = 4 := Option.some.inj ((show Tryd.prog.funcNamed "oathbook/oathbooklaw4.VowBinds" = some 4 by kernel_rfl).symm.trans hf) |>.symm
      obtain rfl : fn = Tryd.f4 := (Option.some.inj (Tryd.func4.symm.trans hfn)).symm
      exact ⟨by kernel_rfl, stand_of_all (by kernel_rfl)⟩)
    (by kernel_rfl)
#print axioms proved
end vowBinds
end Go.Proofs.YtgngbmmmoecohaaDoor
