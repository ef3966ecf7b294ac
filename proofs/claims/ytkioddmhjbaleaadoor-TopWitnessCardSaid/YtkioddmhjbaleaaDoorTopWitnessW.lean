/- The walk of TopWitness: what the statement's function answers. -/
import Derived.Test.YtkioddmhjbaleaaDoorTeamA
import Derived.Test.YtkioddmhjbaleaaDoorLogAll
import Derived.Test.YtkioddmhjbaleaaDoorLaidR
import Derived.WalkKit
import Derived.StillTailTactics
import Derived.Deep.RegionHeld3
import Derived.Laws.OwnMore
import Derived.BigQuiet
import Derived.Below
namespace Go.Proofs.YtkioddmhjbaleaaDoor
open Go.RowKit
set_option linter.unusedVariables false
set_option linter.unusedSimpArgs false
namespace topWitness
theorem Mark_l (KY : List UInt8) (KU : KY.length ≤ 140737488355328) (ka : Option Addr) (kc ke : Nat) (zi : Int) (dr dt : List UInt8) (hr : dr.length = 32) (ht : dt.length = 32) (w : World) (hk : Rd w ka ke (KY.map vB)) (hro : RoundsAt w) :
    Calls Tryd.prog 36 #[.slice ka KY.length kc, .agg (hdV zi dr nz dt)] w fun e w' => ∃ mk : List UInt8, mk.length = 32 ∧ e = .returned (.agg (dV mk)) ∧ Below w.heap.size w w' := by
  refine (Mark_calls KY KU ka kc ke zi dr nz dt hr nz_length ht w hk hro).mono ?_
  rintro e w' ⟨h1, h2⟩
  exact ⟨_, macOf_length _ _, h1, h2⟩
theorem key_at {w : World} {x1 : List (List UInt8)} {v1 : List Value} {a1 : Option Addr} {e1 : Nat} (r1 : Rd w a1 e1 v1) (m1 : AreB (fun _ _ => True) w x1 v1) (q : Nat) (hq : q < x1.length) :
    ∃ (kb ko : Nat) (ra : Option Addr) (rc re : Nat), a1 = some ⟨kb, ko, none⟩ ∧ kb < w.heap.size ∧ w.cell? ⟨kb, ko + q, none⟩ = some (.slice ra (x1.getD q []).length rc) ∧ Rd w ra re ((x1.getD q []).map vB) := by
  have hvl : q < v1.length := by rw [m1.1]; exact hq
  obtain ⟨kb, ko, h, hkb, hkc⟩ := r1.cell (k := q) hvl
  obtain ⟨ra, rc, re, hrv, hrr, _, _⟩ := m1.2 q hq hvl
  have hgd : x1.getD q [] = x1[q] := by rw [List.getD_eq_getElem?_getD, List.getElem?_eq_getElem hq]; rfl
  refine ⟨kb, ko, ra, rc, re, h, hkb, ?_, ?_⟩
  · rw [hkc q hvl, hrv, hgd]
  · rw [hgd]; exact hrr
theorem num_at {w : World} {x : List Int} {a : Option Addr} {e : Nat} (r : Rd w a e (x.map vI)) (k : Nat) (hk : k < x.length) : ∃ b o, a = some ⟨b, o, none⟩ ∧ b < w.heap.size ∧ w.cell? ⟨b, o + k, none⟩ = some (.int .i64 (x.getD k 0)) := by
  have hvl : k < (x.map vI).length := by rw [List.length_map]; exact hk
  obtain ⟨b, o, h, hb, hc⟩ := r.cell (k := k) hvl
  refine ⟨b, o, h, hb, ?_⟩
  rw [hc k hvl, List.getElem_map, List.getD_eq_getElem?_getD, List.getElem?_eq_getElem hk]; rfl
/-- seals of a row that is made one by one -/
structure SealI (w : World) (N k m : Nat) (xs : List En) (v : Value) (wr : World) : Prop where
  len : xs.length = m
  le : m ≤ k
  val : ∀ e ∈ xs, e.val.length = 32
  own : wr.ownsRow N 80 33 v m (cellsE xs)
  bel : Below N w wr
set_option maxRecDepth 20000 in
set_option maxHeartbeats 8000000 in
theorem walk (x0 : List UInt8) (a0 : Option Addr) (c0 e0 : Nat) (x1 : List (List UInt8)) (a1 : Option Addr) (c1 e1 : Nat) (v1 : List Value) (a2 a3 : Int) (x4 x5 : List UInt8) (x6 : List Int) (a6 : Option Addr) (c6 e6 : Nat) (x7 : List Int) (a7 : Option Addr) (c7 e7 : Nat) (w : World) (l0 : x0.length ≤ 140737488351232) (r0 : Rd w a0 e0 (x0.map vB)) (l1 : x1.length ≤ 9223372036854775807) (r1 : Rd w a1 e1 v1) (m1 : AreB (fun _ _ => True) w x1 v1) (z1 : ∀ i, (h : i < x1.length) → x1[i].length ≤ reachBytes) (h2 : -9223372036854775808 ≤ a2 ∧ a2 ≤ 9223372036854775807) (h3 : -9223372036854775808 ≤ a3 ∧ a3 ≤ 9223372036854775807) (n4 : x4.length = 32) (n5 : x5.length = 32) (l6 : x6.length ≤ 9223372036854775807) (n6 : ∀ n ∈ x6, -9223372036854775808 ≤ n ∧ n ≤ 9223372036854775807) (r6 : Rd w a6 e6 (x6.map vI)) (l7 : x7.length ≤ 9223372036854775807) (n7 : ∀ n ∈ x7, -9223372036854775808 ≤ n ∧ n ≤ 9223372036854775807) (r7 : Rd w a7 e7 (x7.map vI)) (hro : RoundsAt w) :
    Calls Tryd.prog 8 #[.slice a0 x0.length c0, .slice a1 x1.length c1, .int .i64 a2, .int .i64 a3, .agg (dV x4), .agg (dV x5), .slice a6 x6.length c6, .slice a7 x7.length c7] w fun e w' => e = .returned (.bool true) ∧ Below w.heap.size w w' := by
  have PL := Lib.hid n4
  have QL := Lib.hid n5
  have RO := Lib.hid hro
  have R0 := Lib.hid r0
  have R1 := Lib.hid r1
  have M1 := Lib.hid m1
  have Z1 := Lib.hid (show ∀ q, (x1.getD q []).length ≤ 140737488355328 from fun q => by
    by_cases h : q < x1.length
    · rw [List.getD_eq_getElem?_getD, List.getElem?_eq_getElem h]; have := z1 q h; have e : reachBytes = 140737488351232 := rfl; show x1[q].length ≤ _; omega
    · rw [List.getD_eq_getElem?_getD, List.getElem?_eq_none (by omega)]; simp)
  have Z1M := Lib.hid (show ∀ r ∈ x1, r.length ≤ 140737488355328 from fun r hr => by
    obtain ⟨i, hi, rfl⟩ := List.getElem_of_mem hr
    have := z1 i hi; have e : reachBytes = 140737488351232 := rfl; omega)
  have R6 := Lib.hid r6
  have R7 := Lib.hid r7
  have L0 := Lib.hid (show x0.length ≤ 140737488355328 by omega)
  have H3 := Lib.hid h3.2
  clear n4 n5 hro r0 r1 m1 z1 r6 r7 n6 n7 l0 h3
  by_cases g0 : 40 < x1.length
  · obtain ⟨P, hP⟩ : ∃ z, z = w.heap.size := ⟨_, rfl⟩
    obtain ⟨w1, hw1⟩ : ∃ z, z = w.alloc (.cells (dV x4) 23) := ⟨_, rfl⟩
    have st1 : Below w.heap.size w w1 := by rw [hw1]; exact (Below.refl _ _).alloc (Nat.le_refl _) _
    have B1 := Lib.hid (show Below w.heap.size w w1 from Below.trans (Below.refl w.heap.size w) (Below.mono st1 (Below.size (Below.refl w.heap.size w))))
    have GP_1 := Lib.hid (show w1.heap[P]? = some (.cells (dV x4) 23 (0, 0)) by rw [hw1, hP]; exact heap_alloc_new _ _)
    have LP_1 := Lib.hid (lt_of_heap GP_1.out)
    have HP := Lib.hid hP
    have Hw1 := Lib.hid hw1
    clear hP hw1 st1
    have SZP := Lib.hid (show P = w.heap.size from HP.out)
    obtain ⟨Q, hQ⟩ : ∃ z, z = w1.heap.size := ⟨_, rfl⟩
    obtain ⟨w2, hw2⟩ : ∃ z, z = w1.alloc (.cells (dV x5) 23) := ⟨_, rfl⟩
    have st2 : Below w1.heap.size w1 w2 := by rw [hw2]; exact (Below.refl _ _).alloc (Nat.le_refl _) _
    have B2 := Lib.hid (show Below w.heap.size w w2 from Below.trans B1.out (Below.mono st2 (Below.size B1.out)))
    have GP_2 := Lib.hid ((Below.block st2 P LP_1.out).trans GP_1.out)
    have LP_2 := Lib.hid (Nat.lt_of_lt_of_le LP_1.out (Below.size st2))
    have GQ_2 := Lib.hid (show w2.heap[Q]? = some (.cells (dV x5) 23 (0, 0)) by rw [hw2, hQ]; exact heap_alloc_new _ _)
    have LQ_2 := Lib.hid (lt_of_heap GQ_2.out)
    have HQ := Lib.hid hQ
    have Hw2 := Lib.hid hw2
    clear hQ hw2 st2
    have SZQ := Lib.hid (show Q = w.heap.size + 1 by rw [HQ.out, Hw1.out, World.size_alloc, ← HP.out, SZP.out])
    go_enter Tryd.func8, Tryd.ntmps8
    go_upto_region 1 with fail
    rw [← SZQ.out, ← SZP.out, ← Hw1.out, ← Hw2.out]
    go_wp2_with fail
    refine (Added_calls w2 (RO.out.at_ B2.out)).mono ?_
    rintro e w3 ⟨rfl, hb3⟩
    have B3 := Lib.hid (show Below w.heap.size w w3 from Below.trans B2.out (Below.mono hb3 (Below.size B2.out)))
    have GP_3 := Lib.hid ((Below.block hb3 P LP_2.out).trans GP_2.out)
    have LP_3 := Lib.hid (Nat.lt_of_lt_of_le LP_2.out (Below.size hb3))
    have GQ_3 := Lib.hid ((Below.block hb3 Q LQ_2.out).trans GQ_2.out)
    have LQ_3 := Lib.hid (Nat.lt_of_lt_of_le LQ_2.out (Below.size hb3))
    clear hb3
    have q0 : decide ((40 : Int) < (x1.length : Int)) = true := decide_eq_true (by omega)
    go_wp2_with (first
      | ((refine ld_digG rfl (.tmp 12) rfl (P) 0 (by rfl) x4 PL.out (range_of_row GP_3.out) ?_); simp only [Act.put, List.setIfInBounds_toArray, List.set_cons_zero, List.set_cons_succ])
      | ((refine ld_digG rfl (.tmp 13) rfl (Q) 0 (by rfl) x5 QL.out (range_of_row GQ_3.out) ?_); simp only [Act.put, List.setIfInBounds_toArray, List.set_cons_zero, List.set_cons_succ])
      | ((refine eq_digG rfl (.tmp 53) (.tmp 54) _ rfl x4 x5 (by rfl) (by rfl) PL.out QL.out ?_); rw [beq_self_eq_true]; simp only [Act.put, List.setIfInBounds_toArray, List.set_cons_zero, List.set_cons_succ]))
    go_ret
    exact ⟨rfl, B3.out⟩
  · skip
    by_cases g1 : 40 < x6.length
    · obtain ⟨P, hP⟩ : ∃ z, z = w.heap.size := ⟨_, rfl⟩
      obtain ⟨w1, hw1⟩ : ∃ z, z = w.alloc (.cells (dV x4) 23) := ⟨_, rfl⟩
      have st1 : Below w.heap.size w w1 := by rw [hw1]; exact (Below.refl _ _).alloc (Nat.le_refl _) _
      have B1 := Lib.hid (show Below w.heap.size w w1 from Below.trans (Below.refl w.heap.size w) (Below.mono st1 (Below.size (Below.refl w.heap.size w))))
      have GP_1 := Lib.hid (show w1.heap[P]? = some (.cells (dV x4) 23 (0, 0)) by rw [hw1, hP]; exact heap_alloc_new _ _)
      have LP_1 := Lib.hid (lt_of_heap GP_1.out)
      have HP := Lib.hid hP
      have Hw1 := Lib.hid hw1
      clear hP hw1 st1
      have SZP := Lib.hid (show P = w.heap.size from HP.out)
      obtain ⟨Q, hQ⟩ : ∃ z, z = w1.heap.size := ⟨_, rfl⟩
      obtain ⟨w2, hw2⟩ : ∃ z, z = w1.alloc (.cells (dV x5) 23) := ⟨_, rfl⟩
      have st2 : Below w1.heap.size w1 w2 := by rw [hw2]; exact (Below.refl _ _).alloc (Nat.le_refl _) _
      have B2 := Lib.hid (show Below w.heap.size w w2 from Below.trans B1.out (Below.mono st2 (Below.size B1.out)))
      have GP_2 := Lib.hid ((Below.block st2 P LP_1.out).trans GP_1.out)
      have LP_2 := Lib.hid (Nat.lt_of_lt_of_le LP_1.out (Below.size st2))
      have GQ_2 := Lib.hid (show w2.heap[Q]? = some (.cells (dV x5) 23 (0, 0)) by rw [hw2, hQ]; exact heap_alloc_new _ _)
      have LQ_2 := Lib.hid (lt_of_heap GQ_2.out)
      have HQ := Lib.hid hQ
      have Hw2 := Lib.hid hw2
      clear hQ hw2 st2
      have SZQ := Lib.hid (show Q = w.heap.size + 1 by rw [HQ.out, Hw1.out, World.size_alloc, ← HP.out, SZP.out])
      go_enter Tryd.func8, Tryd.ntmps8
      go_upto_region 1 with fail
      rw [← SZQ.out, ← SZP.out, ← Hw1.out, ← Hw2.out]
      go_wp2_with fail
      refine (Added_calls w2 (RO.out.at_ B2.out)).mono ?_
      rintro e w3 ⟨rfl, hb3⟩
      have B3 := Lib.hid (show Below w.heap.size w w3 from Below.trans B2.out (Below.mono hb3 (Below.size B2.out)))
      have GP_3 := Lib.hid ((Below.block hb3 P LP_2.out).trans GP_2.out)
      have LP_3 := Lib.hid (Nat.lt_of_lt_of_le LP_2.out (Below.size hb3))
      have GQ_3 := Lib.hid ((Below.block hb3 Q LQ_2.out).trans GQ_2.out)
      have LQ_3 := Lib.hid (Nat.lt_of_lt_of_le LQ_2.out (Below.size hb3))
      clear hb3
      have q0 : decide ((40 : Int) < (x1.length : Int)) = false := decide_eq_false (by omega)
      have q1 : decide ((40 : Int) < (x6.length : Int)) = true := decide_eq_true (by omega)
      go_wp2_with (first
        | ((refine ld_digG rfl (.tmp 12) rfl (P) 0 (by rfl) x4 PL.out (range_of_row GP_3.out) ?_); simp only [Act.put, List.setIfInBounds_toArray, List.set_cons_zero, List.set_cons_succ])
        | ((refine ld_digG rfl (.tmp 13) rfl (Q) 0 (by rfl) x5 QL.out (range_of_row GQ_3.out) ?_); simp only [Act.put, List.setIfInBounds_toArray, List.set_cons_zero, List.set_cons_succ])
        | ((refine eq_digG rfl (.tmp 53) (.tmp 54) _ rfl x4 x5 (by rfl) (by rfl) PL.out QL.out ?_); rw [beq_self_eq_true]; simp only [Act.put, List.setIfInBounds_toArray, List.set_cons_zero, List.set_cons_succ]))
      go_ret
      exact ⟨rfl, B3.out⟩
    · skip
      by_cases g2 : 40 < x7.length
      · obtain ⟨P, hP⟩ : ∃ z, z = w.heap.size := ⟨_, rfl⟩
        obtain ⟨w1, hw1⟩ : ∃ z, z = w.alloc (.cells (dV x4) 23) := ⟨_, rfl⟩
        have st1 : Below w.heap.size w w1 := by rw [hw1]; exact (Below.refl _ _).alloc (Nat.le_refl _) _
        have B1 := Lib.hid (show Below w.heap.size w w1 from Below.trans (Below.refl w.heap.size w) (Below.mono st1 (Below.size (Below.refl w.heap.size w))))
        have GP_1 := Lib.hid (show w1.heap[P]? = some (.cells (dV x4) 23 (0, 0)) by rw [hw1, hP]; exact heap_alloc_new _ _)
        have LP_1 := Lib.hid (lt_of_heap GP_1.out)
        have HP := Lib.hid hP
        have Hw1 := Lib.hid hw1
        clear hP hw1 st1
        have SZP := Lib.hid (show P = w.heap.size from HP.out)
        obtain ⟨Q, hQ⟩ : ∃ z, z = w1.heap.size := ⟨_, rfl⟩
        obtain ⟨w2, hw2⟩ : ∃ z, z = w1.alloc (.cells (dV x5) 23) := ⟨_, rfl⟩
        have st2 : Below w1.heap.size w1 w2 := by rw [hw2]; exact (Below.refl _ _).alloc (Nat.le_refl _) _
        have B2 := Lib.hid (show Below w.heap.size w w2 from Below.trans B1.out (Below.mono st2 (Below.size B1.out)))
        have GP_2 := Lib.hid ((Below.block st2 P LP_1.out).trans GP_1.out)
        have LP_2 := Lib.hid (Nat.lt_of_lt_of_le LP_1.out (Below.size st2))
        have GQ_2 := Lib.hid (show w2.heap[Q]? = some (.cells (dV x5) 23 (0, 0)) by rw [hw2, hQ]; exact heap_alloc_new _ _)
        have LQ_2 := Lib.hid (lt_of_heap GQ_2.out)
        have HQ := Lib.hid hQ
        have Hw2 := Lib.hid hw2
        clear hQ hw2 st2
        have SZQ := Lib.hid (show Q = w.heap.size + 1 by rw [HQ.out, Hw1.out, World.size_alloc, ← HP.out, SZP.out])
        go_enter Tryd.func8, Tryd.ntmps8
        go_upto_region 1 with fail
        rw [← SZQ.out, ← SZP.out, ← Hw1.out, ← Hw2.out]
        go_wp2_with fail
        refine (Added_calls w2 (RO.out.at_ B2.out)).mono ?_
        rintro e w3 ⟨rfl, hb3⟩
        have B3 := Lib.hid (show Below w.heap.size w w3 from Below.trans B2.out (Below.mono hb3 (Below.size B2.out)))
        have GP_3 := Lib.hid ((Below.block hb3 P LP_2.out).trans GP_2.out)
        have LP_3 := Lib.hid (Nat.lt_of_lt_of_le LP_2.out (Below.size hb3))
        have GQ_3 := Lib.hid ((Below.block hb3 Q LQ_2.out).trans GQ_2.out)
        have LQ_3 := Lib.hid (Nat.lt_of_lt_of_le LQ_2.out (Below.size hb3))
        clear hb3
        have q0 : decide ((40 : Int) < (x1.length : Int)) = false := decide_eq_false (by omega)
        have q1 : decide ((40 : Int) < (x6.length : Int)) = false := decide_eq_false (by omega)
        have q2 : decide ((40 : Int) < (x7.length : Int)) = true := decide_eq_true (by omega)
        go_wp2_with (first
          | ((refine ld_digG rfl (.tmp 12) rfl (P) 0 (by rfl) x4 PL.out (range_of_row GP_3.out) ?_); simp only [Act.put, List.setIfInBounds_toArray, List.set_cons_zero, List.set_cons_succ])
          | ((refine ld_digG rfl (.tmp 13) rfl (Q) 0 (by rfl) x5 QL.out (range_of_row GQ_3.out) ?_); simp only [Act.put, List.setIfInBounds_toArray, List.set_cons_zero, List.set_cons_succ])
          | ((refine eq_digG rfl (.tmp 53) (.tmp 54) _ rfl x4 x5 (by rfl) (by rfl) PL.out QL.out ?_); rw [beq_self_eq_true]; simp only [Act.put, List.setIfInBounds_toArray, List.set_cons_zero, List.set_cons_succ]))
        go_ret
        exact ⟨rfl, B3.out⟩
      · skip
        by_cases g3 : a2 < 1
        · obtain ⟨P, hP⟩ : ∃ z, z = w.heap.size := ⟨_, rfl⟩
          obtain ⟨w1, hw1⟩ : ∃ z, z = w.alloc (.cells (dV x4) 23) := ⟨_, rfl⟩
          have st1 : Below w.heap.size w w1 := by rw [hw1]; exact (Below.refl _ _).alloc (Nat.le_refl _) _
          have B1 := Lib.hid (show Below w.heap.size w w1 from Below.trans (Below.refl w.heap.size w) (Below.mono st1 (Below.size (Below.refl w.heap.size w))))
          have GP_1 := Lib.hid (show w1.heap[P]? = some (.cells (dV x4) 23 (0, 0)) by rw [hw1, hP]; exact heap_alloc_new _ _)
          have LP_1 := Lib.hid (lt_of_heap GP_1.out)
          have HP := Lib.hid hP
          have Hw1 := Lib.hid hw1
          clear hP hw1 st1
          have SZP := Lib.hid (show P = w.heap.size from HP.out)
          obtain ⟨Q, hQ⟩ : ∃ z, z = w1.heap.size := ⟨_, rfl⟩
          obtain ⟨w2, hw2⟩ : ∃ z, z = w1.alloc (.cells (dV x5) 23) := ⟨_, rfl⟩
          have st2 : Below w1.heap.size w1 w2 := by rw [hw2]; exact (Below.refl _ _).alloc (Nat.le_refl _) _
          have B2 := Lib.hid (show Below w.heap.size w w2 from Below.trans B1.out (Below.mono st2 (Below.size B1.out)))
          have GP_2 := Lib.hid ((Below.block st2 P LP_1.out).trans GP_1.out)
          have LP_2 := Lib.hid (Nat.lt_of_lt_of_le LP_1.out (Below.size st2))
          have GQ_2 := Lib.hid (show w2.heap[Q]? = some (.cells (dV x5) 23 (0, 0)) by rw [hw2, hQ]; exact heap_alloc_new _ _)
          have LQ_2 := Lib.hid (lt_of_heap GQ_2.out)
          have HQ := Lib.hid hQ
          have Hw2 := Lib.hid hw2
          clear hQ hw2 st2
          have SZQ := Lib.hid (show Q = w.heap.size + 1 by rw [HQ.out, Hw1.out, World.size_alloc, ← HP.out, SZP.out])
          go_enter Tryd.func8, Tryd.ntmps8
          go_upto_region 1 with fail
          rw [← SZQ.out, ← SZP.out, ← Hw1.out, ← Hw2.out]
          go_wp2_with fail
          refine (Added_calls w2 (RO.out.at_ B2.out)).mono ?_
          rintro e w3 ⟨rfl, hb3⟩
          have B3 := Lib.hid (show Below w.heap.size w w3 from Below.trans B2.out (Below.mono hb3 (Below.size B2.out)))
          have GP_3 := Lib.hid ((Below.block hb3 P LP_2.out).trans GP_2.out)
          have LP_3 := Lib.hid (Nat.lt_of_lt_of_le LP_2.out (Below.size hb3))
          have GQ_3 := Lib.hid ((Below.block hb3 Q LQ_2.out).trans GQ_2.out)
          have LQ_3 := Lib.hid (Nat.lt_of_lt_of_le LQ_2.out (Below.size hb3))
          clear hb3
          have q0 : decide ((40 : Int) < (x1.length : Int)) = false := decide_eq_false (by omega)
          have q1 : decide ((40 : Int) < (x6.length : Int)) = false := decide_eq_false (by omega)
          have q2 : decide ((40 : Int) < (x7.length : Int)) = false := decide_eq_false (by omega)
          have q3 : decide (a2 < (1 : Int)) = true := decide_eq_true (by omega)
          go_wp2_with (first
            | ((refine ld_digG rfl (.tmp 12) rfl (P) 0 (by rfl) x4 PL.out (range_of_row GP_3.out) ?_); simp only [Act.put, List.setIfInBounds_toArray, List.set_cons_zero, List.set_cons_succ])
            | ((refine ld_digG rfl (.tmp 13) rfl (Q) 0 (by rfl) x5 QL.out (range_of_row GQ_3.out) ?_); simp only [Act.put, List.setIfInBounds_toArray, List.set_cons_zero, List.set_cons_succ])
            | ((refine eq_digG rfl (.tmp 53) (.tmp 54) _ rfl x4 x5 (by rfl) (by rfl) PL.out QL.out ?_); rw [beq_self_eq_true]; simp only [Act.put, List.setIfInBounds_toArray, List.set_cons_zero, List.set_cons_succ]))
          go_ret
          exact ⟨rfl, B3.out⟩
        · skip
          by_cases g4 : a2 ≤ (x1.length : Int) / 2
          · obtain ⟨P, hP⟩ : ∃ z, z = w.heap.size := ⟨_, rfl⟩
            obtain ⟨w1, hw1⟩ : ∃ z, z = w.alloc (.cells (dV x4) 23) := ⟨_, rfl⟩
            have st1 : Below w.heap.size w w1 := by rw [hw1]; exact (Below.refl _ _).alloc (Nat.le_refl _) _
            have B1 := Lib.hid (show Below w.heap.size w w1 from Below.trans (Below.refl w.heap.size w) (Below.mono st1 (Below.size (Below.refl w.heap.size w))))
            have GP_1 := Lib.hid (show w1.heap[P]? = some (.cells (dV x4) 23 (0, 0)) by rw [hw1, hP]; exact heap_alloc_new _ _)
            have LP_1 := Lib.hid (lt_of_heap GP_1.out)
            have HP := Lib.hid hP
            have Hw1 := Lib.hid hw1
            clear hP hw1 st1
            have SZP := Lib.hid (show P = w.heap.size from HP.out)
            obtain ⟨Q, hQ⟩ : ∃ z, z = w1.heap.size := ⟨_, rfl⟩
            obtain ⟨w2, hw2⟩ : ∃ z, z = w1.alloc (.cells (dV x5) 23) := ⟨_, rfl⟩
            have st2 : Below w1.heap.size w1 w2 := by rw [hw2]; exact (Below.refl _ _).alloc (Nat.le_refl _) _
            have B2 := Lib.hid (show Below w.heap.size w w2 from Below.trans B1.out (Below.mono st2 (Below.size B1.out)))
            have GP_2 := Lib.hid ((Below.block st2 P LP_1.out).trans GP_1.out)
            have LP_2 := Lib.hid (Nat.lt_of_lt_of_le LP_1.out (Below.size st2))
            have GQ_2 := Lib.hid (show w2.heap[Q]? = some (.cells (dV x5) 23 (0, 0)) by rw [hw2, hQ]; exact heap_alloc_new _ _)
            have LQ_2 := Lib.hid (lt_of_heap GQ_2.out)
            have HQ := Lib.hid hQ
            have Hw2 := Lib.hid hw2
            clear hQ hw2 st2
            have SZQ := Lib.hid (show Q = w.heap.size + 1 by rw [HQ.out, Hw1.out, World.size_alloc, ← HP.out, SZP.out])
            go_enter Tryd.func8, Tryd.ntmps8
            go_upto_region 1 with fail
            rw [← SZQ.out, ← SZP.out, ← Hw1.out, ← Hw2.out]
            go_wp2_with fail
            refine (Added_calls w2 (RO.out.at_ B2.out)).mono ?_
            rintro e w3 ⟨rfl, hb3⟩
            have B3 := Lib.hid (show Below w.heap.size w w3 from Below.trans B2.out (Below.mono hb3 (Below.size B2.out)))
            have GP_3 := Lib.hid ((Below.block hb3 P LP_2.out).trans GP_2.out)
            have LP_3 := Lib.hid (Nat.lt_of_lt_of_le LP_2.out (Below.size hb3))
            have GQ_3 := Lib.hid ((Below.block hb3 Q LQ_2.out).trans GQ_2.out)
            have LQ_3 := Lib.hid (Nat.lt_of_lt_of_le LQ_2.out (Below.size hb3))
            clear hb3
            have q0 : decide ((40 : Int) < (x1.length : Int)) = false := decide_eq_false (by omega)
            have q1 : decide ((40 : Int) < (x6.length : Int)) = false := decide_eq_false (by omega)
            have q2 : decide ((40 : Int) < (x7.length : Int)) = false := decide_eq_false (by omega)
            have q3 : decide (a2 < (1 : Int)) = false := decide_eq_false (by omega)
            have q4 : decide (a2 ≤ (x1.length : Int) / 2) = true := decide_eq_true (by omega)
            go_wp2_with (first
              | ((refine ld_digG rfl (.tmp 12) rfl (P) 0 (by rfl) x4 PL.out (range_of_row GP_3.out) ?_); simp only [Act.put, List.setIfInBounds_toArray, List.set_cons_zero, List.set_cons_succ])
              | ((refine ld_digG rfl (.tmp 13) rfl (Q) 0 (by rfl) x5 QL.out (range_of_row GQ_3.out) ?_); simp only [Act.put, List.setIfInBounds_toArray, List.set_cons_zero, List.set_cons_succ])
              | ((refine eq_digG rfl (.tmp 53) (.tmp 54) _ rfl x4 x5 (by rfl) (by rfl) PL.out QL.out ?_); rw [beq_self_eq_true]; simp only [Act.put, List.setIfInBounds_toArray, List.set_cons_zero, List.set_cons_succ]))
            go_ret
            exact ⟨rfl, B3.out⟩
          · skip
            by_cases g5 : x4 = x5
            · have EQH := Lib.hid (show (x4 == x5) = true by rw [g5]; exact beq_self_eq_true _)
              clear g5
              obtain ⟨P, hP⟩ : ∃ z, z = w.heap.size := ⟨_, rfl⟩
              obtain ⟨w1, hw1⟩ : ∃ z, z = w.alloc (.cells (dV x4) 23) := ⟨_, rfl⟩
              have st1 : Below w.heap.size w w1 := by rw [hw1]; exact (Below.refl _ _).alloc (Nat.le_refl _) _
              have B1 := Lib.hid (show Below w.heap.size w w1 from Below.trans (Below.refl w.heap.size w) (Below.mono st1 (Below.size (Below.refl w.heap.size w))))
              have GP_1 := Lib.hid (show w1.heap[P]? = some (.cells (dV x4) 23 (0, 0)) by rw [hw1, hP]; exact heap_alloc_new _ _)
              have LP_1 := Lib.hid (lt_of_heap GP_1.out)
              have HP := Lib.hid hP
              have Hw1 := Lib.hid hw1
              clear hP hw1 st1
              have SZP := Lib.hid (show P = w.heap.size from HP.out)
              obtain ⟨Q, hQ⟩ : ∃ z, z = w1.heap.size := ⟨_, rfl⟩
              obtain ⟨w2, hw2⟩ : ∃ z, z = w1.alloc (.cells (dV x5) 23) := ⟨_, rfl⟩
              have st2 : Below w1.heap.size w1 w2 := by rw [hw2]; exact (Below.refl _ _).alloc (Nat.le_refl _) _
              have B2 := Lib.hid (show Below w.heap.size w w2 from Below.trans B1.out (Below.mono st2 (Below.size B1.out)))
              have GP_2 := Lib.hid ((Below.block st2 P LP_1.out).trans GP_1.out)
              have LP_2 := Lib.hid (Nat.lt_of_lt_of_le LP_1.out (Below.size st2))
              have GQ_2 := Lib.hid (show w2.heap[Q]? = some (.cells (dV x5) 23 (0, 0)) by rw [hw2, hQ]; exact heap_alloc_new _ _)
              have LQ_2 := Lib.hid (lt_of_heap GQ_2.out)
              have HQ := Lib.hid hQ
              have Hw2 := Lib.hid hw2
              clear hQ hw2 st2
              have SZQ := Lib.hid (show Q = w.heap.size + 1 by rw [HQ.out, Hw1.out, World.size_alloc, ← HP.out, SZP.out])
              go_enter Tryd.func8, Tryd.ntmps8
              go_upto_region 1 with fail
              rw [← SZQ.out, ← SZP.out, ← Hw1.out, ← Hw2.out]
              go_wp2_with fail
              refine (Added_calls w2 (RO.out.at_ B2.out)).mono ?_
              rintro e w3 ⟨rfl, hb3⟩
              have B3 := Lib.hid (show Below w.heap.size w w3 from Below.trans B2.out (Below.mono hb3 (Below.size B2.out)))
              have GP_3 := Lib.hid ((Below.block hb3 P LP_2.out).trans GP_2.out)
              have LP_3 := Lib.hid (Nat.lt_of_lt_of_le LP_2.out (Below.size hb3))
              have GQ_3 := Lib.hid ((Below.block hb3 Q LQ_2.out).trans GQ_2.out)
              have LQ_3 := Lib.hid (Nat.lt_of_lt_of_le LQ_2.out (Below.size hb3))
              clear hb3
              have q0 : decide ((40 : Int) < (x1.length : Int)) = false := decide_eq_false (by omega)
              have q1 : decide ((40 : Int) < (x6.length : Int)) = false := decide_eq_false (by omega)
              have q2 : decide ((40 : Int) < (x7.length : Int)) = false := decide_eq_false (by omega)
              have q3 : decide (a2 < (1 : Int)) = false := decide_eq_false (by omega)
              have q4 : decide (a2 ≤ (x1.length : Int) / 2) = false := decide_eq_false (by omega)
              go_wp2_with (first
                | ((refine ld_digG rfl (.tmp 12) rfl (P) 0 (by rfl) x4 PL.out (range_of_row GP_3.out) ?_); simp only [Act.put, List.setIfInBounds_toArray, List.set_cons_zero, List.set_cons_succ])
                | ((refine ld_digG rfl (.tmp 13) rfl (Q) 0 (by rfl) x5 QL.out (range_of_row GQ_3.out) ?_); simp only [Act.put, List.setIfInBounds_toArray, List.set_cons_zero, List.set_cons_succ])
                | ((refine eq_digG rfl (.tmp 53) (.tmp 54) _ rfl x4 x5 (by rfl) (by rfl) PL.out QL.out ?_); rw [EQH.out]; simp only [Act.put, List.setIfInBounds_toArray, List.set_cons_zero, List.set_cons_succ]))
              go_ret
              exact ⟨rfl, B3.out⟩
            · have NE := Lib.hid (show (x4 == x5) = false by simpa using g5)
              obtain ⟨P, hP⟩ : ∃ z, z = w.heap.size := ⟨_, rfl⟩
              obtain ⟨w1, hw1⟩ : ∃ z, z = w.alloc (.cells (dV x4) 23) := ⟨_, rfl⟩
              have st1 : Below w.heap.size w w1 := by rw [hw1]; exact (Below.refl _ _).alloc (Nat.le_refl _) _
              have B1 := Lib.hid (show Below w.heap.size w w1 from Below.trans (Below.refl w.heap.size w) (Below.mono st1 (Below.size (Below.refl w.heap.size w))))
              have GP_1 := Lib.hid (show w1.heap[P]? = some (.cells (dV x4) 23 (0, 0)) by rw [hw1, hP]; exact heap_alloc_new _ _)
              have LP_1 := Lib.hid (lt_of_heap GP_1.out)
              have HP := Lib.hid hP
              have Hw1 := Lib.hid hw1
              clear hP hw1 st1
              have SZP := Lib.hid (show P = w.heap.size from HP.out)
              obtain ⟨Q, hQ⟩ : ∃ z, z = w1.heap.size := ⟨_, rfl⟩
              obtain ⟨w2, hw2⟩ : ∃ z, z = w1.alloc (.cells (dV x5) 23) := ⟨_, rfl⟩
              have st2 : Below w1.heap.size w1 w2 := by rw [hw2]; exact (Below.refl _ _).alloc (Nat.le_refl _) _
              have B2 := Lib.hid (show Below w.heap.size w w2 from Below.trans B1.out (Below.mono st2 (Below.size B1.out)))
              have GP_2 := Lib.hid ((Below.block st2 P LP_1.out).trans GP_1.out)
              have LP_2 := Lib.hid (Nat.lt_of_lt_of_le LP_1.out (Below.size st2))
              have GQ_2 := Lib.hid (show w2.heap[Q]? = some (.cells (dV x5) 23 (0, 0)) by rw [hw2, hQ]; exact heap_alloc_new _ _)
              have LQ_2 := Lib.hid (lt_of_heap GQ_2.out)
              have HQ := Lib.hid hQ
              have Hw2 := Lib.hid hw2
              clear hQ hw2 st2
              have SZQ := Lib.hid (show Q = w.heap.size + 1 by rw [HQ.out, Hw1.out, World.size_alloc, ← HP.out, SZP.out])
              go_enter Tryd.func8, Tryd.ntmps8
              go_upto_region 1 with fail
              rw [← SZQ.out, ← SZP.out, ← Hw1.out, ← Hw2.out]
              go_wp2_with fail
              refine (Added_calls w2 (RO.out.at_ B2.out)).mono ?_
              rintro e w3 ⟨rfl, hb3⟩
              have B3 := Lib.hid (show Below w.heap.size w w3 from Below.trans B2.out (Below.mono hb3 (Below.size B2.out)))
              have GP_3 := Lib.hid ((Below.block hb3 P LP_2.out).trans GP_2.out)
              have LP_3 := Lib.hid (Nat.lt_of_lt_of_le LP_2.out (Below.size hb3))
              have GQ_3 := Lib.hid ((Below.block hb3 Q LQ_2.out).trans GQ_2.out)
              have LQ_3 := Lib.hid (Nat.lt_of_lt_of_le LQ_2.out (Below.size hb3))
              clear hb3
              have NEX := Lib.hid g5
              have G0 := Lib.hid (show x1.length ≤ 40 by omega)
              have G1 := Lib.hid (show x6.length ≤ 40 by omega)
              have G2 := Lib.hid (show x7.length ≤ 40 by omega)
              have G3 := Lib.hid (show 1 ≤ a2 by omega)
              have G4 := Lib.hid (show (x1.length : Int) / 2 < a2 by omega)
              have q0 : decide ((40 : Int) < (x1.length : Int)) = false := decide_eq_false (by omega)
              have q1 : decide ((40 : Int) < (x6.length : Int)) = false := decide_eq_false (by omega)
              have q2 : decide ((40 : Int) < (x7.length : Int)) = false := decide_eq_false (by omega)
              have q3 : decide (a2 < (1 : Int)) = false := decide_eq_false (by omega)
              have q4 : decide (a2 ≤ (x1.length : Int) / 2) = false := decide_eq_false (by omega)
              clear g5
              go_upto_region 6 with (first
                | ((refine ld_digG rfl (.tmp 12) rfl (P) 0 (by rfl) x4 PL.out (range_of_row GP_3.out) ?_); simp only [Act.put, List.setIfInBounds_toArray, List.set_cons_zero, List.set_cons_succ])
                | ((refine ld_digG rfl (.tmp 13) rfl (Q) 0 (by rfl) x5 QL.out (range_of_row GQ_3.out) ?_); simp only [Act.put, List.setIfInBounds_toArray, List.set_cons_zero, List.set_cons_succ])
                | ((refine eq_digG rfl (.tmp 53) (.tmp 54) _ rfl x4 x5 (by rfl) (by rfl) PL.out QL.out ?_); rw [NE.out]; simp only [Act.put, List.setIfInBounds_toArray, List.set_cons_zero, List.set_cons_succ]))
              clear q0 q1 q2 q3 q4 g0 g1 g2 g3 g4
              obtain ⟨X, hX⟩ : ∃ z, z = w3.heap.size := ⟨_, rfl⟩
              obtain ⟨w4, hw4⟩ : ∃ z, z = w3.alloc (.cells (hdV a3 x4 nz nz) 75) := ⟨_, rfl⟩
              have st4 : Below w3.heap.size w3 w4 := by rw [hw4]; exact (Below.refl _ _).alloc (Nat.le_refl _) _
              have B4 := Lib.hid (show Below w.heap.size w w4 from Below.trans B3.out (Below.mono st4 (Below.size B3.out)))
              have GP_4 := Lib.hid ((Below.block st4 P LP_3.out).trans GP_3.out)
              have LP_4 := Lib.hid (Nat.lt_of_lt_of_le LP_3.out (Below.size st4))
              have GQ_4 := Lib.hid ((Below.block st4 Q LQ_3.out).trans GQ_3.out)
              have LQ_4 := Lib.hid (Nat.lt_of_lt_of_le LQ_3.out (Below.size st4))
              have GX_4 := Lib.hid (show w4.heap[X]? = some (.cells (hdV a3 x4 nz nz) 75 (0, 0)) by rw [hw4, hX]; exact heap_alloc_new _ _)
              have LX_4 := Lib.hid (lt_of_heap GX_4.out)
              have HX := Lib.hid hX
              have Hw4 := Lib.hid hw4
              clear hX hw4 st4
              go_upto_region 7 with (first
                | ((refine ld_digG rfl (.tmp 12) rfl (P) 0 (by rfl) x4 PL.out (range_of_row GP_3.out) ?_); simp only [Act.put, List.setIfInBounds_toArray, List.set_cons_zero, List.set_cons_succ])
                | (refine bld_head rfl (.tmp 57) (.tmp 58) rfl a3 x4 PL.out (by rfl) (by rfl) ?_; simp only [Act.put, List.setIfInBounds_toArray, List.set_cons_zero, List.set_cons_succ])
                | (refine st_headNew rfl (.tmp 18) (.tmp 59) rfl a3 x4 nz nz PL.out nz_length nz_length (by rfl) _ _ (by rfl) (by rfl) ?_))
              rw [← HX.out, ← Hw4.out]
              obtain ⟨Y, hY⟩ : ∃ z, z = w4.heap.size := ⟨_, rfl⟩
              obtain ⟨w5, hw5⟩ : ∃ z, z = w4.alloc (.cells (hdV a3 x5 nz nz) 75) := ⟨_, rfl⟩
              have st5 : Below w4.heap.size w4 w5 := by rw [hw5]; exact (Below.refl _ _).alloc (Nat.le_refl _) _
              have B5 := Lib.hid (show Below w.heap.size w w5 from Below.trans B4.out (Below.mono st5 (Below.size B4.out)))
              have GP_5 := Lib.hid ((Below.block st5 P LP_4.out).trans GP_4.out)
              have LP_5 := Lib.hid (Nat.lt_of_lt_of_le LP_4.out (Below.size st5))
              have GQ_5 := Lib.hid ((Below.block st5 Q LQ_4.out).trans GQ_4.out)
              have LQ_5 := Lib.hid (Nat.lt_of_lt_of_le LQ_4.out (Below.size st5))
              have GX_5 := Lib.hid ((Below.block st5 X LX_4.out).trans GX_4.out)
              have LX_5 := Lib.hid (Nat.lt_of_lt_of_le LX_4.out (Below.size st5))
              have GY_5 := Lib.hid (show w5.heap[Y]? = some (.cells (hdV a3 x5 nz nz) 75 (0, 0)) by rw [hw5, hY]; exact heap_alloc_new _ _)
              have LY_5 := Lib.hid (lt_of_heap GY_5.out)
              have HY := Lib.hid hY
              have Hw5 := Lib.hid hw5
              clear hY hw5 st5
              go_upto_region 8 with (first
                | ((refine ld_digG rfl (.tmp 13) rfl (Q) 0 (by rfl) x5 QL.out (range_of_row GQ_4.out) ?_); simp only [Act.put, List.setIfInBounds_toArray, List.set_cons_zero, List.set_cons_succ])
                | (refine bld_head rfl (.tmp 60) (.tmp 61) rfl a3 x5 QL.out (by rfl) (by rfl) ?_; simp only [Act.put, List.setIfInBounds_toArray, List.set_cons_zero, List.set_cons_succ])
                | (refine st_headNew rfl (.tmp 19) (.tmp 62) rfl a3 x5 nz nz QL.out nz_length nz_length (by rfl) _ _ (by rfl) (by rfl) ?_))
              rw [← HY.out, ← Hw5.out]
              go_wp2_with (first
                | ((refine ld_headG rfl (.tmp 18) rfl X (by rfl) a3 x4 nz nz PL.out nz_length nz_length _ _ GX_5.out ?_); simp only [Act.put, List.setIfInBounds_toArray, List.set_cons_zero, List.set_cons_succ]))
              refine (Tag_calls x0 L0.out a0 c0 e0 a3 H3.out x4 nz nz PL.out nz_length nz_length w5 (R0.out.below B5.out) (RO.out.at_ B5.out)).mono ?_
              rintro e w6 ⟨rfl, hb6⟩
              have B6 := Lib.hid (show Below w.heap.size w w6 from Below.trans B5.out (Below.mono hb6 (Below.size B5.out)))
              have GP_6 := Lib.hid ((Below.block hb6 P LP_5.out).trans GP_5.out)
              have LP_6 := Lib.hid (Nat.lt_of_lt_of_le LP_5.out (Below.size hb6))
              have GQ_6 := Lib.hid ((Below.block hb6 Q LQ_5.out).trans GQ_5.out)
              have LQ_6 := Lib.hid (Nat.lt_of_lt_of_le LQ_5.out (Below.size hb6))
              have GX_6 := Lib.hid ((Below.block hb6 X LX_5.out).trans GX_5.out)
              have LX_6 := Lib.hid (Nat.lt_of_lt_of_le LX_5.out (Below.size hb6))
              have GY_6 := Lib.hid ((Below.block hb6 Y LY_5.out).trans GY_5.out)
              have LY_6 := Lib.hid (Nat.lt_of_lt_of_le LY_5.out (Below.size hb6))
              clear hb6
              obtain ⟨TG, hTG⟩ : ∃ z, z = macOf x0 (tagB a3 ++ (x4 ++ nz)) := ⟨_, rfl⟩
              rw [← hTG]
              have TGL := Lib.hid (show TG.length = 32 by rw [hTG]; exact macOf_length _ _)
              have TGE := Lib.hid hTG
              clear hTG
              obtain ⟨w7, hw7⟩ : ∃ z, z = w6.setCells X 65 (TG.map vB) := ⟨_, rfl⟩
              have B7 := Lib.hid (show Below w.heap.size w w7 by rw [hw7]; exact below_setCells _ _ B6.out (by rw [HX.out]; exact Below.size B3.out))
              have GP_7 := Lib.hid (show w7.heap[P]? = some (.cells (dV x4) 23 (0, 0)) by rw [hw7]; exact (setCells_other (by rw [HX.out]; exact Nat.ne_of_lt LP_3.out) _ _ _).1.trans GP_6.out)
              have LP_7 := Lib.hid (lt_of_heap GP_7.out)
              have GQ_7 := Lib.hid (show w7.heap[Q]? = some (.cells (dV x5) 23 (0, 0)) by rw [hw7]; exact (setCells_other (by rw [HX.out]; exact Nat.ne_of_lt LQ_3.out) _ _ _).1.trans GQ_6.out)
              have LQ_7 := Lib.hid (lt_of_heap GQ_7.out)
              have GX_7 := Lib.hid (show w7.heap[X]? = some (.cells (hdV a3 x4 nz TG) 75 (0, 0)) by rw [hw7]; exact hdV_stored PL.out nz_length nz_length TGL.out GX_6.out)
              have LX_7 := Lib.hid (lt_of_heap GX_7.out)
              have GY_7 := Lib.hid (show w7.heap[Y]? = some (.cells (hdV a3 x5 nz nz) 75 (0, 0)) by rw [hw7]; exact (setCells_other (by rw [HY.out]; exact (Nat.ne_of_lt LX_4.out).symm) _ _ _).1.trans GY_6.out)
              have LY_7 := Lib.hid (lt_of_heap GY_7.out)
              have Hw7 := Lib.hid hw7
              clear hw7
              go_upto_region 9 with (first
                | ((refine st_tag rfl (.tmp 66) (.tmp 65) rfl X a3 x4 nz nz TG PL.out nz_length nz_length TGL.out (by rfl) (by rfl) _ GX_6.out ?_); rw [← Hw7.out]))
              go_wp2_with (first
                | ((refine ld_headG rfl (.tmp 19) rfl Y (by rfl) a3 x5 nz nz QL.out nz_length nz_length _ _ GY_7.out ?_); simp only [Act.put, List.setIfInBounds_toArray, List.set_cons_zero, List.set_cons_succ]))
              refine (Tag_calls x0 L0.out a0 c0 e0 a3 H3.out x5 nz nz QL.out nz_length nz_length w7 (R0.out.below B7.out) (RO.out.at_ B7.out)).mono ?_
              rintro e w8 ⟨rfl, hb8⟩
              have B8 := Lib.hid (show Below w.heap.size w w8 from Below.trans B7.out (Below.mono hb8 (Below.size B7.out)))
              have GP_8 := Lib.hid ((Below.block hb8 P LP_7.out).trans GP_7.out)
              have LP_8 := Lib.hid (Nat.lt_of_lt_of_le LP_7.out (Below.size hb8))
              have GQ_8 := Lib.hid ((Below.block hb8 Q LQ_7.out).trans GQ_7.out)
              have LQ_8 := Lib.hid (Nat.lt_of_lt_of_le LQ_7.out (Below.size hb8))
              have GX_8 := Lib.hid ((Below.block hb8 X LX_7.out).trans GX_7.out)
              have LX_8 := Lib.hid (Nat.lt_of_lt_of_le LX_7.out (Below.size hb8))
              have GY_8 := Lib.hid ((Below.block hb8 Y LY_7.out).trans GY_7.out)
              have LY_8 := Lib.hid (Nat.lt_of_lt_of_le LY_7.out (Below.size hb8))
              clear hb8
              obtain ⟨TH, hTH⟩ : ∃ z, z = macOf x0 (tagB a3 ++ (x5 ++ nz)) := ⟨_, rfl⟩
              rw [← hTH]
              have THL := Lib.hid (show TH.length = 32 by rw [hTH]; exact macOf_length _ _)
              have THE := Lib.hid hTH
              clear hTH
              obtain ⟨w9, hw9⟩ : ∃ z, z = w8.setCells Y 65 (TH.map vB) := ⟨_, rfl⟩
              have B9 := Lib.hid (show Below w.heap.size w w9 by rw [hw9]; exact below_setCells _ _ B8.out (by rw [HY.out]; exact Below.size B4.out))
              have GP_9 := Lib.hid (show w9.heap[P]? = some (.cells (dV x4) 23 (0, 0)) by rw [hw9]; exact (setCells_other (by rw [HY.out]; exact Nat.ne_of_lt LP_4.out) _ _ _).1.trans GP_8.out)
              have LP_9 := Lib.hid (lt_of_heap GP_9.out)
              have GQ_9 := Lib.hid (show w9.heap[Q]? = some (.cells (dV x5) 23 (0, 0)) by rw [hw9]; exact (setCells_other (by rw [HY.out]; exact Nat.ne_of_lt LQ_4.out) _ _ _).1.trans GQ_8.out)
              have LQ_9 := Lib.hid (lt_of_heap GQ_9.out)
              have GX_9 := Lib.hid (show w9.heap[X]? = some (.cells (hdV a3 x4 nz TG) 75 (0, 0)) by rw [hw9]; exact (setCells_other (by rw [HY.out]; exact Nat.ne_of_lt LX_4.out) _ _ _).1.trans GX_8.out)
              have LX_9 := Lib.hid (lt_of_heap GX_9.out)
              have GY_9 := Lib.hid (show w9.heap[Y]? = some (.cells (hdV a3 x5 nz TH) 75 (0, 0)) by rw [hw9]; exact hdV_stored QL.out nz_length nz_length THL.out GY_8.out)
              have LY_9 := Lib.hid (lt_of_heap GY_9.out)
              have Hw9 := Lib.hid hw9
              clear hw9
              go_upto_region 10 with (first
                | ((refine st_tag rfl (.tmp 70) (.tmp 69) rfl Y a3 x5 nz nz TH QL.out nz_length nz_length THL.out (by rfl) (by rfl) _ GY_8.out ?_); rw [← Hw9.out]))
              go_wp2_with (first
                | ((refine ld_headG rfl (.tmp 18) rfl X (by rfl) a3 x4 nz TG PL.out nz_length TGL.out _ _ GX_9.out ?_); simp only [Act.put, List.setIfInBounds_toArray, List.set_cons_zero, List.set_cons_succ])
                | ((refine ld_headG rfl (.tmp 19) rfl Y (by rfl) a3 x5 nz TH QL.out nz_length THL.out _ _ GY_9.out ?_); simp only [Act.put, List.setIfInBounds_toArray, List.set_cons_zero, List.set_cons_succ]))
              refine (Fork_true x0 L0.out a0 c0 e0 a3 H3.out x4 nz TG x5 nz TH PL.out nz_length TGE.out QL.out nz_length THE.out NEX.out w9 (R0.out.below B9.out) (RO.out.at_ B9.out)).mono ?_
              rintro e w10 ⟨rfl, hb10⟩
              have B10 := Lib.hid (show Below w.heap.size w w10 from Below.trans B9.out (Below.mono hb10 (Below.size B9.out)))
              have GP_10 := Lib.hid ((Below.block hb10 P LP_9.out).trans GP_9.out)
              have LP_10 := Lib.hid (Nat.lt_of_lt_of_le LP_9.out (Below.size hb10))
              have GQ_10 := Lib.hid ((Below.block hb10 Q LQ_9.out).trans GQ_9.out)
              have LQ_10 := Lib.hid (Nat.lt_of_lt_of_le LQ_9.out (Below.size hb10))
              have GX_10 := Lib.hid ((Below.block hb10 X LX_9.out).trans GX_9.out)
              have LX_10 := Lib.hid (Nat.lt_of_lt_of_le LX_9.out (Below.size hb10))
              have GY_10 := Lib.hid ((Below.block hb10 Y LY_9.out).trans GY_9.out)
              have LY_10 := Lib.hid (Nat.lt_of_lt_of_le LY_9.out (Below.size hb10))
              clear hb10
              go_wp2_with (first
                | ((refine ld_headG rfl (.tmp 19) rfl Y (by rfl) a3 x5 nz TH QL.out nz_length THL.out _ _ GY_10.out ?_); simp only [Act.put, List.setIfInBounds_toArray, List.set_cons_zero, List.set_cons_succ])
                | ((refine ld_headG rfl (.tmp 18) rfl X (by rfl) a3 x4 nz TG PL.out nz_length TGL.out _ _ GX_10.out ?_); simp only [Act.put, List.setIfInBounds_toArray, List.set_cons_zero, List.set_cons_succ]))
              refine (Fork_true x0 L0.out a0 c0 e0 a3 H3.out x5 nz TH x4 nz TG QL.out nz_length THE.out PL.out nz_length TGE.out (fun e => NEX.out e.symm) w10 (R0.out.below B10.out) (RO.out.at_ B10.out)).mono ?_
              rintro e w11 ⟨rfl, hb11⟩
              have B11 := Lib.hid (show Below w.heap.size w w11 from Below.trans B10.out (Below.mono hb11 (Below.size B10.out)))
              have GP_11 := Lib.hid ((Below.block hb11 P LP_10.out).trans GP_10.out)
              have LP_11 := Lib.hid (Nat.lt_of_lt_of_le LP_10.out (Below.size hb11))
              have GQ_11 := Lib.hid ((Below.block hb11 Q LQ_10.out).trans GQ_10.out)
              have LQ_11 := Lib.hid (Nat.lt_of_lt_of_le LQ_10.out (Below.size hb11))
              have GX_11 := Lib.hid ((Below.block hb11 X LX_10.out).trans GX_10.out)
              have LX_11 := Lib.hid (Nat.lt_of_lt_of_le LX_10.out (Below.size hb11))
              have GY_11 := Lib.hid ((Below.block hb11 Y LY_10.out).trans GY_10.out)
              have LY_11 := Lib.hid (Nat.lt_of_lt_of_le LY_10.out (Below.size hb11))
              clear hb11
              go_wp2_with fail
              have GX0 := Lib.hid GX_11.out
              have GY0 := Lib.hid GY_11.out
              have BW0 := Lib.hid B11.out
              go_loopw [20, 22] (fun v i wr => ∃ (k m : Nat) (av : Option Addr) (cp : Nat) (xs : List En), k ≤ x6.length ∧ i = .int .i64 k ∧ v = .slice av m cp ∧ SealI w11 w11.heap.size k m xs (.slice av m cp) wr) (fun _ i _ => x6.length - (intOf i).toNat)
              case atStart => exact ⟨0, 0, none, 0, [], Nat.zero_le _, rfl, rfl, ⟨rfl, Nat.le_refl _, fun e h => (by cases h), World.ownsRow_nil _ _ _ _, Below.refl _ _⟩⟩
              case round =>
                obtain ⟨k, m, av, cp, xs, hk, rfl, rfl, hsi⟩ := hrel
                have SI := Lib.hid hsi
                have HK := Lib.hid hk
                have hBW : Below w.heap.size w wr := BW0.out.trans (hsi.bel.mono BW0.out.size)
                have BWR := Lib.hid hBW
                clear hsi hBW
                by_cases hlt : k < x6.length
                · obtain ⟨ob, oo, rfl, hob, hco⟩ := num_at R6.out k hlt
                  obtain ⟨z, hz⟩ : ∃ z, z = x6.getD k 0 := ⟨_, rfl⟩
                  rw [← hz] at hco
                  clear hz
                  have OBL := Lib.hid (show ob < w11.heap.size from Nat.lt_of_lt_of_le hob BW0.out.size)
                  have CO := Lib.hid (show w11.cell? ⟨ob, oo + k, none⟩ = some (.int .i64 z) from (BW0.out.cell (p := ⟨ob, oo + k, none⟩) hob).trans hco)
                  have co : wr.cell? ⟨ob, oo + k, none⟩ = some (.int .i64 z) := (BWR.out.cell (p := ⟨ob, oo + k, none⟩) hob).trans hco
                  have i0 : (0 : Int) ≤ (k : Int) := by omega
                  have i1 : (k : Int) < (x6.length : Int) := by omega
                  have e4 : IntKind.i64.wrap ((k : Int) + 1) = (k : Int) + 1 := IntWalk.i64_in _ (by have := G1.out; omega)
                  clear hob hco
                  by_cases hneg : z < 0
                  · have u1 : decide ((0 : Int) ≤ z) = false := decide_eq_false (by omega)
                    go_wp2_with fail
                    go_roundw
                    case rel => exact ⟨k + 1, m, av, cp, xs, by omega, by go_num, rfl, ⟨SI.out.len, by have := SI.out.le; omega, SI.out.val, SI.out.own, SI.out.bel⟩⟩
                    case measure => simp [intOf]; omega
                  · have u1 : decide ((0 : Int) ≤ z) = true := decide_eq_true (by omega)
                    by_cases hbig : (x1.length : Int) ≤ z
                    · have u2 : decide (z < (x1.length : Int)) = false := decide_eq_false (by omega)
                      go_wp2_with fail
                      go_roundw
                      case rel => exact ⟨k + 1, m, av, cp, xs, by omega, by go_num, rfl, ⟨SI.out.len, by have := SI.out.le; omega, SI.out.val, SI.out.own, SI.out.bel⟩⟩
                      case measure => simp [intOf]; omega
                    · obtain ⟨qn, rfl⟩ : ∃ qn : Nat, z = (qn : Int) := ⟨z.toNat, by omega⟩
                      have hql : qn < x1.length := by omega
                      have u2 : decide ((qn : Int) < (x1.length : Int)) = true := decide_eq_true (by omega)
                      have u2n : decide (qn < x1.length) = true := decide_eq_true hql
                      obtain ⟨kb, ko, ra, rc, re, rfl, hkb, hck, hrr⟩ := key_at R1.out M1.out qn hql
                      have hkl := Z1.out qn
                      obtain ⟨KY, hKY⟩ : ∃ z, z = x1.getD qn [] := ⟨_, rfl⟩
                      rw [← hKY] at hck hrr hkl
                      obtain ⟨KL, hKL⟩ : ∃ z, z = KY.length := ⟨_, rfl⟩
                      have KBL := Lib.hid (show kb < w11.heap.size from Nat.lt_of_lt_of_le hkb BW0.out.size)
                      have CK := Lib.hid (show w11.cell? ⟨kb, ko + qn, none⟩ = some (.slice ra KL rc) by rw [hKL]; exact (BW0.out.cell (p := ⟨kb, ko + qn, none⟩) hkb).trans hck)
                      have CM : Hid (∀ wz, Below w11.heap.size w11 wz → Calls Tryd.prog 36 #[.slice ra KL rc, .agg (hdV a3 x4 nz TG)] wz fun e w' => ∃ mk : List UInt8, mk.length = 32 ∧ e = .returned (.agg (dV mk)) ∧ Below wz.heap.size wz w') := Lib.hid fun wz hz => by
                        rw [hKL]
                        exact Mark_l KY hkl ra rc re a3 x4 TG PL.out TGL.out wz (hrr.below (BW0.out.trans (hz.mono BW0.out.size))) (RO.out.at_ (BW0.out.trans (hz.mono BW0.out.size)))
                      clear hkb hck hrr hkl hKY hKL
                      go_upto_region 18 with fail
                      clear co
                      have BR_wd := Lib.hid (show Below w11.heap.size w11 wr.drew from SI.out.bel.drew)
                      have BQ_wd := Lib.hid (show Below wr.heap.size wr wr.drew from (Below.refl _ _).drew)
                      obtain ⟨wd, hwd⟩ : ∃ z, z = wr.drew := ⟨_, rfl⟩
                      refine wp_region_held_drew (S := fun w' => Below w11.heap.size w11 w') (by kernel_rfl) BR_wd.out (fun hHeld => ?_)
                      rw [← hwd] at hHeld BR_wd BQ_wd ⊢
                      clear hwd
                      refine wpAnyH_take (i := 0) (oi := _) (v := .slice av m cp) rfl (by kernel_rfl) (by kernel_rfl) (by kernel_rfl) (fun _ _ _ h => h) (Or.inl ⟨by rfl, fun w hw => by go_simp⟩) hHeld ?_
                      simp only [Act.put, List.getElem_toArray, List.getElem_cons_zero, List.getElem_cons_succ, List.setIfInBounds_toArray, List.set_cons_zero, List.set_cons_succ]
                      refine wpAnyH_take (i := 1) (oi := _) (v := .slice (some ⟨ob, oo, none⟩) x6.length c6) rfl (by kernel_rfl) (by kernel_rfl) (by kernel_rfl) (fun _ _ _ h => h) (Or.inl ⟨by rfl, fun w hw => by go_simp⟩) hHeld ?_
                      simp only [Act.put, List.getElem_toArray, List.getElem_cons_zero, List.getElem_cons_succ, List.setIfInBounds_toArray, List.set_cons_zero, List.set_cons_succ]
                      refine wpAnyH_take (i := 2) (oi := _) (v := .int .i64 (k : Int)) rfl (by kernel_rfl) (by kernel_rfl) (by kernel_rfl) (fun _ _ _ h => h) (Or.inl ⟨by rfl, fun w hw => by go_simp⟩) hHeld ?_
                      simp only [Act.put, List.getElem_toArray, List.getElem_cons_zero, List.getElem_cons_succ, List.setIfInBounds_toArray, List.set_cons_zero, List.set_cons_succ]
                      refine wpAnyH_take (i := 3) (oi := _) (v := .pointer (some ⟨ob, oo + k, none⟩)) rfl (by kernel_rfl) (by kernel_rfl) (by kernel_rfl) (fun _ _ _ h => h) (Or.inl ⟨by rfl, fun w hw => by go_simp⟩) hHeld ?_
                      simp only [Act.put, List.getElem_toArray, List.getElem_cons_zero, List.getElem_cons_succ, List.setIfInBounds_toArray, List.set_cons_zero, List.set_cons_succ]
                      refine wpAnyH_take (i := 4) (oi := _) (v := .int .i64 (qn : Int)) rfl (by kernel_rfl) (by kernel_rfl) (by kernel_rfl) (fun _ _ _ h => h) (Or.inl ⟨by rfl, fun w hw => by have hcc := (hw.cell (p := ⟨ob, oo + k, none⟩) OBL.out).trans CO.out; go_simp⟩) hHeld ?_
                      simp only [Act.put, List.getElem_toArray, List.getElem_cons_zero, List.getElem_cons_succ, List.setIfInBounds_toArray, List.set_cons_zero, List.set_cons_succ]
                      refine wpAnyH_take (i := 5) (oi := _) (v := .slice (some ⟨kb, ko, none⟩) x1.length c1) rfl (by kernel_rfl) (by kernel_rfl) (by kernel_rfl) (fun _ _ _ h => h) (Or.inl ⟨by rfl, fun w hw => by go_simp⟩) hHeld ?_
                      simp only [Act.put, List.getElem_toArray, List.getElem_cons_zero, List.getElem_cons_succ, List.setIfInBounds_toArray, List.set_cons_zero, List.set_cons_succ]
                      refine wpAnyH_take (i := 6) (oi := _) (v := .slice (some ⟨ob, oo, none⟩) x6.length c6) rfl (by kernel_rfl) (by kernel_rfl) (by kernel_rfl) (fun _ _ _ h => h) (Or.inl ⟨by rfl, fun w hw => by go_simp⟩) hHeld ?_
                      simp only [Act.put, List.getElem_toArray, List.getElem_cons_zero, List.getElem_cons_succ, List.setIfInBounds_toArray, List.set_cons_zero, List.set_cons_succ]
                      refine wpAnyH_take (i := 7) (oi := _) (v := .int .i64 (k : Int)) rfl (by kernel_rfl) (by kernel_rfl) (by kernel_rfl) (fun _ _ _ h => h) (Or.inl ⟨by rfl, fun w hw => by go_simp⟩) hHeld ?_
                      simp only [Act.put, List.getElem_toArray, List.getElem_cons_zero, List.getElem_cons_succ, List.setIfInBounds_toArray, List.set_cons_zero, List.set_cons_succ]
                      refine wpAnyH_take (i := 8) (oi := _) (v := .pointer (some ⟨ob, oo + k, none⟩)) rfl (by kernel_rfl) (by kernel_rfl) (by kernel_rfl) (fun _ _ _ h => h) (Or.inl ⟨by rfl, fun w hw => by go_simp⟩) hHeld ?_
                      simp only [Act.put, List.getElem_toArray, List.getElem_cons_zero, List.getElem_cons_succ, List.setIfInBounds_toArray, List.set_cons_zero, List.set_cons_succ]
                      refine wpAnyH_take (i := 9) (oi := _) (v := .int .i64 (qn : Int)) rfl (by kernel_rfl) (by kernel_rfl) (by kernel_rfl) (fun _ _ _ h => h) (Or.inl ⟨by rfl, fun w hw => by have hcc := (hw.cell (p := ⟨ob, oo + k, none⟩) OBL.out).trans CO.out; go_simp⟩) hHeld ?_
                      simp only [Act.put, List.getElem_toArray, List.getElem_cons_zero, List.getElem_cons_succ, List.setIfInBounds_toArray, List.set_cons_zero, List.set_cons_succ]
                      refine wpAnyH_take (i := 10) (oi := _) (v := .pointer (some ⟨kb, ko + qn, none⟩)) rfl (by kernel_rfl) (by kernel_rfl) (by kernel_rfl) (fun _ _ _ h => h) (Or.inl ⟨by rfl, fun w hw => by go_simp⟩) hHeld ?_
                      simp only [Act.put, List.getElem_toArray, List.getElem_cons_zero, List.getElem_cons_succ, List.setIfInBounds_toArray, List.set_cons_zero, List.set_cons_succ]
                      refine wpAnyH_take (i := 11) (oi := _) (v := .slice ra KL rc) rfl (by kernel_rfl) (by kernel_rfl) (by kernel_rfl) (fun _ _ _ h => h) (Or.inl ⟨by rfl, fun w hw => by have hcc := (hw.cell (p := ⟨kb, ko + qn, none⟩) KBL.out).trans CK.out; go_simp⟩) hHeld ?_
                      simp only [Act.put, List.getElem_toArray, List.getElem_cons_zero, List.getElem_cons_succ, List.setIfInBounds_toArray, List.set_cons_zero, List.set_cons_succ]
                      refine wpAnyH_take (i := 12) (oi := _) (v := .agg (hdV a3 x4 nz TG)) rfl (by kernel_rfl) (by kernel_rfl) (by kernel_rfl) (fun _ _ _ h => h) (yieldsIf_head (by rfl) _ rfl X rfl a3 x4 nz TG PL.out nz_length TGL.out _ (fun w hw => (hw.block X (lt_of_heap GX0.out)).trans GX0.out)) hHeld ?_
                      simp only [Act.put, List.getElem_toArray, List.getElem_cons_zero, List.getElem_cons_succ, List.setIfInBounds_toArray, List.set_cons_zero, List.set_cons_succ]
                      refine wpAnyH_ready (rs := [13]) (by kernel_rfl) (by simp) ?_
                      refine AllReadyH.cons (o := _) rfl (fun K hK => ?_) AllReadyH.nil
                      have HK := Lib.hid hK
                      clear hK
                      go_simp
                      go_at_call 36
                      refine (CM.out wd BR_wd.out).mono ?_
                      rintro e we ⟨mk, hmk, rfl, hb⟩
                      have MKL := Lib.hid hmk
                      have BR_we := Lib.hid (show Below w11.heap.size w11 we from BR_wd.out.trans (hb.mono BR_wd.out.size))
                      have BQ_we := Lib.hid (show Below wr.heap.size wr we from BQ_wd.out.trans (hb.mono BQ_wd.out.size))
                      clear hb hmk
                      dsimp only
                      refine HK.out _ _ BR_we.out ?_
                      clear HK K hHeld
                      try simp only [Act.put, List.getElem_toArray, List.getElem_cons_zero, List.getElem_cons_succ, List.setIfInBounds_toArray, List.set_cons_zero, List.set_cons_succ]
                      intro hHeld
                      refine wpAnyH_take (i := 14) (oi := _) (v := .agg (eV (qn : Int) mk)) rfl (by kernel_rfl) (by kernel_rfl) (by kernel_rfl) (fun _ _ _ h => h) (yieldsIf_bldseal (by rfl) _ _ rfl (qn : Int) mk MKL.out rfl rfl) hHeld ?_
                      simp only [Act.put, List.getElem_toArray, List.getElem_cons_zero, List.getElem_cons_succ, List.setIfInBounds_toArray, List.set_cons_zero, List.set_cons_succ]
                      obtain ⟨U, hU⟩ : ∃ z, z = we.heap.size := ⟨_, rfl⟩
                      obtain ⟨wf, hwf⟩ : ∃ z, z = we.alloc (.cells (eV (qn : Int) mk) 80) := ⟨_, rfl⟩
                      have BR_wf := Lib.hid (show Below w11.heap.size w11 wf by rw [hwf]; exact BR_we.out.alloc BR_we.out.size _)
                      have BQ_wf := Lib.hid (show Below wr.heap.size wr wf by rw [hwf]; exact BQ_we.out.alloc BQ_we.out.size _)
                      have GU := Lib.hid (show wf.heap[U]? = some (.cells (eV (qn : Int) mk) 80 (0, 0)) by rw [hwf, hU]; exact heap_alloc_new _ _)
                      have HU := Lib.hid hU
                      have HWF := Lib.hid hwf
                      clear hU hwf
                      refine wpAnyH_ready (rs := [15]) (by kernel_rfl) (by simp) ?_
                      refine AllReadyH.cons (o := _) rfl (fun K hK => ?_) AllReadyH.nil
                      have HK := Lib.hid hK
                      clear hK
                      refine stepBuild1 78 80 _ 33 40 Tryd.underlying78 info_sealz (by omega) (by omega) rfl _ rfl (eV (qn : Int) mk) (by rfl) (eV_size _ _ MKL.out) ?_
                      rw [← HU.out, ← HWF.out]
                      refine HK.out _ _ BR_wf.out ?_
                      clear HK K hHeld
                      try simp only [Act.put, List.getElem_toArray, List.getElem_cons_zero, List.getElem_cons_succ, List.setIfInBounds_toArray, List.set_cons_zero, List.set_cons_succ]
                      intro hHeld
                      have O3 := Lib.hid (own_below SI.out.own BQ_wf.out)
                      have hs3 : w11.heap.size ≤ wf.heap.size := BR_wf.out.size
                      have hm40 : m ≤ 40 := by have := SI.out.le; have := HK.out; have := G1.out; omega
                      refine wpAnyH_ready (rs := [16]) (by kernel_rfl) (by simp) ?_
                      refine AllReadyH.cons (o := _) rfl (fun K hK => ?_) AllReadyH.nil
                      have HK := Lib.hid hK
                      clear hK
                      refine stepAppL 78 80 (.agg (eV 0 nz)) 33 40 Tryd.underlying78 info_sealz (eV_size 0 nz nz_length) (by omega) rfl _ _ rfl (w11.heap.size) _ m _ (by rfl) O3.out ⟨U, 0, none⟩ 1 1 (eL ⟨(qn : Int), mk⟩) (by rfl) _ (rd_cellsL (cs := eL ⟨(qn : Int), mk⟩) GU.out) (by rw [eL_length MKL.out]) (eL_one _) (by omega) (by omega) (by omega) hs3 _ rfl ?_
                      intro g cq w9 hown9 hgrow9 _ _
                      have b39 : Below (w11.heap.size) wf w9 := below_grow (Below.refl _ _) O3.out hgrow9 hs3
                      have B9 := Lib.hid (show Below (w11.heap.size) w11 w9 from BR_wf.out.trans b39)
                      have S9 := Lib.hid (show SealI w11 (w11.heap.size) (k + 1) (m + 1) (xs ++ [⟨(qn : Int), mk⟩]) (.slice (some ⟨g, 0, none⟩) (m + 1) cq) w9 from ⟨by rw [List.length_append, SI.out.len]; rfl, by have := SI.out.le; omega, fun e he => by
                        rcases List.mem_append.1 he with he | he
                        · exact SI.out.val e he
                        · rw [List.mem_singleton] at he; subst he; exact MKL.out, by rw [cellsE_append, cellsE_one]; exact hown9, B9.out⟩)
                      clear hown9 hgrow9 b39 hm40 hs3
                      refine HK.out _ _ B9.out ?_
                      clear HK K hHeld
                      try simp only [Act.put, List.getElem_toArray, List.getElem_cons_zero, List.getElem_cons_succ, List.setIfInBounds_toArray, List.set_cons_zero, List.set_cons_succ]
                      intro hHeld
                      refine wpAnyH_take (i := 17) (oi := _) (v := .slice (some ⟨g, 0, none⟩) (m + 1) cq) rfl (by kernel_rfl) (by kernel_rfl) (by kernel_rfl) (fun _ _ _ h => h) (Or.inl ⟨by rfl, fun w hw => by go_simp⟩) hHeld ?_
                      simp only [Act.put, List.getElem_toArray, List.getElem_cons_zero, List.getElem_cons_succ, List.setIfInBounds_toArray, List.set_cons_zero, List.set_cons_succ]
                      refine wpAnyH_done (by kernel_rfl) ?_ _
                      clear hHeld
                      go_wp2_with fail
                      go_roundw
                      case rel => exact ⟨k + 1, m + 1, some ⟨g, 0, none⟩, cq, xs ++ [⟨(qn : Int), mk⟩], by omega, by go_num, rfl, S9.out⟩
                      case measure => simp [intOf]; omega
                · obtain rfl : k = x6.length := by omega
                  clear hlt
                  obtain ⟨W1, hW1⟩ : ∃ z, z = wr := ⟨_, rfl⟩
                  subst hW1
                  obtain ⟨m1, hm1⟩ : ∃ z, z = m := ⟨_, rfl⟩
                  subst hm1
                  obtain ⟨xs1, hx1⟩ : ∃ z, z = xs := ⟨_, rfl⟩
                  subst hx1
                  obtain ⟨av1, ha1⟩ : ∃ z, z = av := ⟨_, rfl⟩
                  subst ha1
                  obtain ⟨cp1, hc1⟩ : ∃ z, z = cp := ⟨_, rfl⟩
                  subst hc1
                  have SI1 := Lib.hid SI.out
                  have BW1 := Lib.hid BWR.out
                  have RS1 := Lib.hid (Rd.of_own SI.out.own)
                  have RSB := Lib.hid (show ∀ x, av1 = some x → x.block < W1.heap.size from fun x hx => by subst hx; exact (SI.out.own.lt x.block rfl).2)
                  have GX1 := Lib.hid ((SI.out.bel.block X (lt_of_heap GX0.out)).trans GX0.out)
                  have GY1 := Lib.hid ((SI.out.bel.block Y (lt_of_heap GY0.out)).trans GY0.out)
                  clear SI BWR HK hk
                  go_wp2_with fail
                  go_loopw [21, 23] (fun v i wr => ∃ (k m : Nat) (av : Option Addr) (cp : Nat) (xs : List En), k ≤ x7.length ∧ i = .int .i64 k ∧ v = .slice av m cp ∧ SealI W1 W1.heap.size k m xs (.slice av m cp) wr) (fun _ i _ => x7.length - (intOf i).toNat)
                  case atStart => exact ⟨0, 0, none, 0, [], Nat.zero_le _, rfl, rfl, ⟨rfl, Nat.le_refl _, fun e h => (by cases h), World.ownsRow_nil _ _ _ _, Below.refl _ _⟩⟩
                  case round =>
                    obtain ⟨k, m, av, cp, xs, hk, rfl, rfl, hsi⟩ := hrel
                    have SI := Lib.hid hsi
                    have HK := Lib.hid hk
                    have hBW : Below w.heap.size w wr := BW1.out.trans (hsi.bel.mono BW1.out.size)
                    have BWR := Lib.hid hBW
                    clear hsi hBW
                    by_cases hlt : k < x7.length
                    · obtain ⟨ob, oo, rfl, hob, hco⟩ := num_at R7.out k hlt
                      obtain ⟨z, hz⟩ : ∃ z, z = x7.getD k 0 := ⟨_, rfl⟩
                      rw [← hz] at hco
                      clear hz
                      have OBL := Lib.hid (show ob < W1.heap.size from Nat.lt_of_lt_of_le hob BW1.out.size)
                      have CO := Lib.hid (show W1.cell? ⟨ob, oo + k, none⟩ = some (.int .i64 z) from (BW1.out.cell (p := ⟨ob, oo + k, none⟩) hob).trans hco)
                      have co : wr.cell? ⟨ob, oo + k, none⟩ = some (.int .i64 z) := (BWR.out.cell (p := ⟨ob, oo + k, none⟩) hob).trans hco
                      have i0 : (0 : Int) ≤ (k : Int) := by omega
                      have i1 : (k : Int) < (x7.length : Int) := by omega
                      have e4 : IntKind.i64.wrap ((k : Int) + 1) = (k : Int) + 1 := IntWalk.i64_in _ (by have := G2.out; omega)
                      clear hob hco
                      by_cases hneg : z < 0
                      · have u1 : decide ((0 : Int) ≤ z) = false := decide_eq_false (by omega)
                        go_wp2_with fail
                        go_roundw
                        case rel => exact ⟨k + 1, m, av, cp, xs, by omega, by go_num, rfl, ⟨SI.out.len, by have := SI.out.le; omega, SI.out.val, SI.out.own, SI.out.bel⟩⟩
                        case measure => simp [intOf]; omega
                      · have u1 : decide ((0 : Int) ≤ z) = true := decide_eq_true (by omega)
                        by_cases hbig : (x1.length : Int) ≤ z
                        · have u2 : decide (z < (x1.length : Int)) = false := decide_eq_false (by omega)
                          go_wp2_with fail
                          go_roundw
                          case rel => exact ⟨k + 1, m, av, cp, xs, by omega, by go_num, rfl, ⟨SI.out.len, by have := SI.out.le; omega, SI.out.val, SI.out.own, SI.out.bel⟩⟩
                          case measure => simp [intOf]; omega
                        · obtain ⟨qn, rfl⟩ : ∃ qn : Nat, z = (qn : Int) := ⟨z.toNat, by omega⟩
                          have hql : qn < x1.length := by omega
                          have u2 : decide ((qn : Int) < (x1.length : Int)) = true := decide_eq_true (by omega)
                          have u2n : decide (qn < x1.length) = true := decide_eq_true hql
                          obtain ⟨kb, ko, ra, rc, re, rfl, hkb, hck, hrr⟩ := key_at R1.out M1.out qn hql
                          have hkl := Z1.out qn
                          obtain ⟨KY, hKY⟩ : ∃ z, z = x1.getD qn [] := ⟨_, rfl⟩
                          rw [← hKY] at hck hrr hkl
                          obtain ⟨KL, hKL⟩ : ∃ z, z = KY.length := ⟨_, rfl⟩
                          have KBL := Lib.hid (show kb < W1.heap.size from Nat.lt_of_lt_of_le hkb BW1.out.size)
                          have CK := Lib.hid (show W1.cell? ⟨kb, ko + qn, none⟩ = some (.slice ra KL rc) by rw [hKL]; exact (BW1.out.cell (p := ⟨kb, ko + qn, none⟩) hkb).trans hck)
                          have CM : Hid (∀ wz, Below W1.heap.size W1 wz → Calls Tryd.prog 36 #[.slice ra KL rc, .agg (hdV a3 x5 nz TH)] wz fun e w' => ∃ mk : List UInt8, mk.length = 32 ∧ e = .returned (.agg (dV mk)) ∧ Below wz.heap.size wz w') := Lib.hid fun wz hz => by
                            rw [hKL]
                            exact Mark_l KY hkl ra rc re a3 x5 TH QL.out THL.out wz (hrr.below (BW1.out.trans (hz.mono BW1.out.size))) (RO.out.at_ (BW1.out.trans (hz.mono BW1.out.size)))
                          clear hkb hck hrr hkl hKY hKL
                          go_upto_region 23 with fail
                          clear co
                          have BR_wd := Lib.hid (show Below W1.heap.size W1 wr.drew from SI.out.bel.drew)
                          have BQ_wd := Lib.hid (show Below wr.heap.size wr wr.drew from (Below.refl _ _).drew)
                          obtain ⟨wd, hwd⟩ : ∃ z, z = wr.drew := ⟨_, rfl⟩
                          refine wp_region_held_drew (S := fun w' => Below W1.heap.size W1 w') (by kernel_rfl) BR_wd.out (fun hHeld => ?_)
                          rw [← hwd] at hHeld BR_wd BQ_wd ⊢
                          clear hwd
                          refine wpAnyH_take (i := 0) (oi := _) (v := .slice av m cp) rfl (by kernel_rfl) (by kernel_rfl) (by kernel_rfl) (fun _ _ _ h => h) (Or.inl ⟨by rfl, fun w hw => by go_simp⟩) hHeld ?_
                          simp only [Act.put, List.getElem_toArray, List.getElem_cons_zero, List.getElem_cons_succ, List.setIfInBounds_toArray, List.set_cons_zero, List.set_cons_succ]
                          refine wpAnyH_take (i := 1) (oi := _) (v := .slice (some ⟨ob, oo, none⟩) x7.length c7) rfl (by kernel_rfl) (by kernel_rfl) (by kernel_rfl) (fun _ _ _ h => h) (Or.inl ⟨by rfl, fun w hw => by go_simp⟩) hHeld ?_
                          simp only [Act.put, List.getElem_toArray, List.getElem_cons_zero, List.getElem_cons_succ, List.setIfInBounds_toArray, List.set_cons_zero, List.set_cons_succ]
                          refine wpAnyH_take (i := 2) (oi := _) (v := .int .i64 (k : Int)) rfl (by kernel_rfl) (by kernel_rfl) (by kernel_rfl) (fun _ _ _ h => h) (Or.inl ⟨by rfl, fun w hw => by go_simp⟩) hHeld ?_
                          simp only [Act.put, List.getElem_toArray, List.getElem_cons_zero, List.getElem_cons_succ, List.setIfInBounds_toArray, List.set_cons_zero, List.set_cons_succ]
                          refine wpAnyH_take (i := 3) (oi := _) (v := .pointer (some ⟨ob, oo + k, none⟩)) rfl (by kernel_rfl) (by kernel_rfl) (by kernel_rfl) (fun _ _ _ h => h) (Or.inl ⟨by rfl, fun w hw => by go_simp⟩) hHeld ?_
                          simp only [Act.put, List.getElem_toArray, List.getElem_cons_zero, List.getElem_cons_succ, List.setIfInBounds_toArray, List.set_cons_zero, List.set_cons_succ]
                          refine wpAnyH_take (i := 4) (oi := _) (v := .int .i64 (qn : Int)) rfl (by kernel_rfl) (by kernel_rfl) (by kernel_rfl) (fun _ _ _ h => h) (Or.inl ⟨by rfl, fun w hw => by have hcc := (hw.cell (p := ⟨ob, oo + k, none⟩) OBL.out).trans CO.out; go_simp⟩) hHeld ?_
                          simp only [Act.put, List.getElem_toArray, List.getElem_cons_zero, List.getElem_cons_succ, List.setIfInBounds_toArray, List.set_cons_zero, List.set_cons_succ]
                          refine wpAnyH_take (i := 5) (oi := _) (v := .slice (some ⟨kb, ko, none⟩) x1.length c1) rfl (by kernel_rfl) (by kernel_rfl) (by kernel_rfl) (fun _ _ _ h => h) (Or.inl ⟨by rfl, fun w hw => by go_simp⟩) hHeld ?_
                          simp only [Act.put, List.getElem_toArray, List.getElem_cons_zero, List.getElem_cons_succ, List.setIfInBounds_toArray, List.set_cons_zero, List.set_cons_succ]
                          refine wpAnyH_take (i := 6) (oi := _) (v := .slice (some ⟨ob, oo, none⟩) x7.length c7) rfl (by kernel_rfl) (by kernel_rfl) (by kernel_rfl) (fun _ _ _ h => h) (Or.inl ⟨by rfl, fun w hw => by go_simp⟩) hHeld ?_
                          simp only [Act.put, List.getElem_toArray, List.getElem_cons_zero, List.getElem_cons_succ, List.setIfInBounds_toArray, List.set_cons_zero, List.set_cons_succ]
                          refine wpAnyH_take (i := 7) (oi := _) (v := .int .i64 (k : Int)) rfl (by kernel_rfl) (by kernel_rfl) (by kernel_rfl) (fun _ _ _ h => h) (Or.inl ⟨by rfl, fun w hw => by go_simp⟩) hHeld ?_
                          simp only [Act.put, List.getElem_toArray, List.getElem_cons_zero, List.getElem_cons_succ, List.setIfInBounds_toArray, List.set_cons_zero, List.set_cons_succ]
                          refine wpAnyH_take (i := 8) (oi := _) (v := .pointer (some ⟨ob, oo + k, none⟩)) rfl (by kernel_rfl) (by kernel_rfl) (by kernel_rfl) (fun _ _ _ h => h) (Or.inl ⟨by rfl, fun w hw => by go_simp⟩) hHeld ?_
                          simp only [Act.put, List.getElem_toArray, List.getElem_cons_zero, List.getElem_cons_succ, List.setIfInBounds_toArray, List.set_cons_zero, List.set_cons_succ]
                          refine wpAnyH_take (i := 9) (oi := _) (v := .int .i64 (qn : Int)) rfl (by kernel_rfl) (by kernel_rfl) (by kernel_rfl) (fun _ _ _ h => h) (Or.inl ⟨by rfl, fun w hw => by have hcc := (hw.cell (p := ⟨ob, oo + k, none⟩) OBL.out).trans CO.out; go_simp⟩) hHeld ?_
                          simp only [Act.put, List.getElem_toArray, List.getElem_cons_zero, List.getElem_cons_succ, List.setIfInBounds_toArray, List.set_cons_zero, List.set_cons_succ]
                          refine wpAnyH_take (i := 10) (oi := _) (v := .pointer (some ⟨kb, ko + qn, none⟩)) rfl (by kernel_rfl) (by kernel_rfl) (by kernel_rfl) (fun _ _ _ h => h) (Or.inl ⟨by rfl, fun w hw => by go_simp⟩) hHeld ?_
                          simp only [Act.put, List.getElem_toArray, List.getElem_cons_zero, List.getElem_cons_succ, List.setIfInBounds_toArray, List.set_cons_zero, List.set_cons_succ]
                          refine wpAnyH_take (i := 11) (oi := _) (v := .slice ra KL rc) rfl (by kernel_rfl) (by kernel_rfl) (by kernel_rfl) (fun _ _ _ h => h) (Or.inl ⟨by rfl, fun w hw => by have hcc := (hw.cell (p := ⟨kb, ko + qn, none⟩) KBL.out).trans CK.out; go_simp⟩) hHeld ?_
                          simp only [Act.put, List.getElem_toArray, List.getElem_cons_zero, List.getElem_cons_succ, List.setIfInBounds_toArray, List.set_cons_zero, List.set_cons_succ]
                          refine wpAnyH_take (i := 12) (oi := _) (v := .agg (hdV a3 x5 nz TH)) rfl (by kernel_rfl) (by kernel_rfl) (by kernel_rfl) (fun _ _ _ h => h) (yieldsIf_head (by rfl) _ rfl Y rfl a3 x5 nz TH QL.out nz_length THL.out _ (fun w hw => (hw.block Y (lt_of_heap GY1.out)).trans GY1.out)) hHeld ?_
                          simp only [Act.put, List.getElem_toArray, List.getElem_cons_zero, List.getElem_cons_succ, List.setIfInBounds_toArray, List.set_cons_zero, List.set_cons_succ]
                          refine wpAnyH_ready (rs := [13]) (by kernel_rfl) (by simp) ?_
                          refine AllReadyH.cons (o := _) rfl (fun K hK => ?_) AllReadyH.nil
                          have HK := Lib.hid hK
                          clear hK
                          go_simp
                          go_at_call 36
                          refine (CM.out wd BR_wd.out).mono ?_
                          rintro e we ⟨mk, hmk, rfl, hb⟩
                          have MKL := Lib.hid hmk
                          have BR_we := Lib.hid (show Below W1.heap.size W1 we from BR_wd.out.trans (hb.mono BR_wd.out.size))
                          have BQ_we := Lib.hid (show Below wr.heap.size wr we from BQ_wd.out.trans (hb.mono BQ_wd.out.size))
                          clear hb hmk
                          dsimp only
                          refine HK.out _ _ BR_we.out ?_
                          clear HK K hHeld
                          try simp only [Act.put, List.getElem_toArray, List.getElem_cons_zero, List.getElem_cons_succ, List.setIfInBounds_toArray, List.set_cons_zero, List.set_cons_succ]
                          intro hHeld
                          refine wpAnyH_take (i := 14) (oi := _) (v := .agg (eV (qn : Int) mk)) rfl (by kernel_rfl) (by kernel_rfl) (by kernel_rfl) (fun _ _ _ h => h) (yieldsIf_bldseal (by rfl) _ _ rfl (qn : Int) mk MKL.out rfl rfl) hHeld ?_
                          simp only [Act.put, List.getElem_toArray, List.getElem_cons_zero, List.getElem_cons_succ, List.setIfInBounds_toArray, List.set_cons_zero, List.set_cons_succ]
                          obtain ⟨U, hU⟩ : ∃ z, z = we.heap.size := ⟨_, rfl⟩
                          obtain ⟨wf, hwf⟩ : ∃ z, z = we.alloc (.cells (eV (qn : Int) mk) 80) := ⟨_, rfl⟩
                          have BR_wf := Lib.hid (show Below W1.heap.size W1 wf by rw [hwf]; exact BR_we.out.alloc BR_we.out.size _)
                          have BQ_wf := Lib.hid (show Below wr.heap.size wr wf by rw [hwf]; exact BQ_we.out.alloc BQ_we.out.size _)
                          have GU := Lib.hid (show wf.heap[U]? = some (.cells (eV (qn : Int) mk) 80 (0, 0)) by rw [hwf, hU]; exact heap_alloc_new _ _)
                          have HU := Lib.hid hU
                          have HWF := Lib.hid hwf
                          clear hU hwf
                          refine wpAnyH_ready (rs := [15]) (by kernel_rfl) (by simp) ?_
                          refine AllReadyH.cons (o := _) rfl (fun K hK => ?_) AllReadyH.nil
                          have HK := Lib.hid hK
                          clear hK
                          refine stepBuild1 78 80 _ 33 40 Tryd.underlying78 info_sealz (by omega) (by omega) rfl _ rfl (eV (qn : Int) mk) (by rfl) (eV_size _ _ MKL.out) ?_
                          rw [← HU.out, ← HWF.out]
                          refine HK.out _ _ BR_wf.out ?_
                          clear HK K hHeld
                          try simp only [Act.put, List.getElem_toArray, List.getElem_cons_zero, List.getElem_cons_succ, List.setIfInBounds_toArray, List.set_cons_zero, List.set_cons_succ]
                          intro hHeld
                          have O3 := Lib.hid (own_below SI.out.own BQ_wf.out)
                          have hs3 : W1.heap.size ≤ wf.heap.size := BR_wf.out.size
                          have hm40 : m ≤ 40 := by have := SI.out.le; have := HK.out; have := G2.out; omega
                          refine wpAnyH_ready (rs := [16]) (by kernel_rfl) (by simp) ?_
                          refine AllReadyH.cons (o := _) rfl (fun K hK => ?_) AllReadyH.nil
                          have HK := Lib.hid hK
                          clear hK
                          refine stepAppL 78 80 (.agg (eV 0 nz)) 33 40 Tryd.underlying78 info_sealz (eV_size 0 nz nz_length) (by omega) rfl _ _ rfl (W1.heap.size) _ m _ (by rfl) O3.out ⟨U, 0, none⟩ 1 1 (eL ⟨(qn : Int), mk⟩) (by rfl) _ (rd_cellsL (cs := eL ⟨(qn : Int), mk⟩) GU.out) (by rw [eL_length MKL.out]) (eL_one _) (by omega) (by omega) (by omega) hs3 _ rfl ?_
                          intro g cq w9 hown9 hgrow9 _ _
                          have b39 : Below (W1.heap.size) wf w9 := below_grow (Below.refl _ _) O3.out hgrow9 hs3
                          have B9 := Lib.hid (show Below (W1.heap.size) W1 w9 from BR_wf.out.trans b39)
                          have S9 := Lib.hid (show SealI W1 (W1.heap.size) (k + 1) (m + 1) (xs ++ [⟨(qn : Int), mk⟩]) (.slice (some ⟨g, 0, none⟩) (m + 1) cq) w9 from ⟨by rw [List.length_append, SI.out.len]; rfl, by have := SI.out.le; omega, fun e he => by
                            rcases List.mem_append.1 he with he | he
                            · exact SI.out.val e he
                            · rw [List.mem_singleton] at he; subst he; exact MKL.out, by rw [cellsE_append, cellsE_one]; exact hown9, B9.out⟩)
                          clear hown9 hgrow9 b39 hm40 hs3
                          refine HK.out _ _ B9.out ?_
                          clear HK K hHeld
                          try simp only [Act.put, List.getElem_toArray, List.getElem_cons_zero, List.getElem_cons_succ, List.setIfInBounds_toArray, List.set_cons_zero, List.set_cons_succ]
                          intro hHeld
                          refine wpAnyH_take (i := 17) (oi := _) (v := .slice (some ⟨g, 0, none⟩) (m + 1) cq) rfl (by kernel_rfl) (by kernel_rfl) (by kernel_rfl) (fun _ _ _ h => h) (Or.inl ⟨by rfl, fun w hw => by go_simp⟩) hHeld ?_
                          simp only [Act.put, List.getElem_toArray, List.getElem_cons_zero, List.getElem_cons_succ, List.setIfInBounds_toArray, List.set_cons_zero, List.set_cons_succ]
                          refine wpAnyH_done (by kernel_rfl) ?_ _
                          clear hHeld
                          go_wp2_with fail
                          go_roundw
                          case rel => exact ⟨k + 1, m + 1, some ⟨g, 0, none⟩, cq, xs ++ [⟨(qn : Int), mk⟩], by omega, by go_num, rfl, S9.out⟩
                          case measure => simp [intOf]; omega
                    · obtain rfl : k = x7.length := by omega
                      clear hlt
                      have BL2 := Lib.hid (show Below w.heap.size w wr from BWR.out)
                      have RT := Lib.hid (Rd.of_own SI.out.own)
                      have RSS := Lib.hid (RS1.out.of_block fun x hx _ => SI.out.bel.block _ (RSB.out x hx))
                      have GX2 := Lib.hid ((SI.out.bel.block X (lt_of_heap GX1.out)).trans GX1.out)
                      have GY2 := Lib.hid ((SI.out.bel.block Y (lt_of_heap GY1.out)).trans GY1.out)
                      have HM1 := Lib.hid (show m1 ≤ 1000 by have := SI1.out.le; have := G1.out; omega)
                      have HM2 := Lib.hid (show m ≤ 1000 by have := SI.out.le; have := G2.out; omega)
                      clear hk
                      go_wp2_with (first
                        | ((refine ld_headG rfl (.tmp 18) rfl X (by rfl) a3 x4 nz TG PL.out nz_length TGL.out _ _ GX2.out ?_); simp only [Act.put, List.setIfInBounds_toArray, List.set_cons_zero, List.set_cons_succ]))
                      refine (Enough_calls x1 x1.length rfl (by have := G0.out; omega) Z1M.out a1 c1 e1 v1 a2 a3 x4 nz TG PL.out nz_length TGL.out xs1 SI1.out.val av1 cp1 _ m1 SI1.out.len HM1.out wr (R1.out.below BL2.out) (M1.out.below BL2.out) RSS.out (RO.out.at_ BL2.out)).mono ?_
                      rintro e w4 ⟨rfl, hb4⟩
                      have B4 := Lib.hid (BL2.out.trans (hb4.mono BL2.out.size))
                      have GX4 := Lib.hid ((hb4.block X (lt_of_heap GX2.out)).trans GX2.out)
                      have GY4 := Lib.hid ((hb4.block Y (lt_of_heap GY2.out)).trans GY2.out)
                      have RS4 := Lib.hid (RSS.out.below hb4)
                      have RT4 := Lib.hid (RT.out.below hb4)
                      clear hb4
                      obtain ⟨b1, hb1⟩ : ∃ b, b = decide (a2 ≤ ((rightL x1 a3 x4 nz xs1 x1.length).length : Int)) := ⟨_, rfl⟩
                      rw [← hb1]
                      have HE1 := Lib.hid hb1
                      clear hb1
                      cases b1 with
                      | false =>
                        go_wp2_with fail
                        go_ret
                        exact ⟨rfl, B4.out⟩
                      | true =>
                        go_wp2_with (first
                          | ((refine ld_headG rfl (.tmp 19) rfl Y (by rfl) a3 x5 nz TH QL.out nz_length THL.out _ _ GY4.out ?_); simp only [Act.put, List.setIfInBounds_toArray, List.set_cons_zero, List.set_cons_succ]))
                        refine (Enough_calls x1 x1.length rfl (by have := G0.out; omega) Z1M.out a1 c1 e1 v1 a2 a3 x5 nz TH QL.out nz_length THL.out xs SI.out.val av cp _ m SI.out.len HM2.out w4 (R1.out.below B4.out) (M1.out.below B4.out) RT4.out (RO.out.at_ B4.out)).mono ?_
                        rintro e w5 ⟨rfl, hb5⟩
                        have B5 := Lib.hid (B4.out.trans (hb5.mono B4.out.size))
                        have GX5 := Lib.hid ((hb5.block X (lt_of_heap GX4.out)).trans GX4.out)
                        have GY5 := Lib.hid ((hb5.block Y (lt_of_heap GY4.out)).trans GY4.out)
                        have RS5 := Lib.hid (RS4.out.below hb5)
                        have RT5 := Lib.hid (RT4.out.below hb5)
                        clear hb5
                        obtain ⟨b2, hb2⟩ : ∃ b, b = decide (a2 ≤ ((rightL x1 a3 x5 nz xs x1.length).length : Int)) := ⟨_, rfl⟩
                        rw [← hb2]
                        have HE2 := Lib.hid hb2
                        clear hb2
                        cases b2 with
                        | false =>
                          go_wp2_with fail
                          go_ret
                          exact ⟨rfl, B5.out⟩
                        | true =>
                          have hpos := right_meet x1 x1.length a2 a3 a3 x4 nz x5 nz xs1 xs G3.out G4.out (of_decide_eq_true HE1.out.symm) (of_decide_eq_true HE2.out.symm)
                          obtain ⟨r, hr⟩ : ∃ z, z = ((rightL x1 a3 x4 nz xs1 x1.length).filter fun x => decide (x ∈ rightL x1 a3 x5 nz xs x1.length)).length := ⟨_, rfl⟩
                          rw [← hr] at hpos
                          have HR := Lib.hid hr
                          have v1_ : decide ((0 : Int) < (r : Int)) = true := decide_eq_true (by omega)
                          have v2_ : decide (0 < r) = true := decide_eq_true hpos
                          clear hr hpos
                          go_wp2_with (first
                            | ((refine ld_headG rfl (.tmp 18) rfl X (by rfl) a3 x4 nz TG PL.out nz_length TGL.out _ _ GX5.out ?_); simp only [Act.put, List.setIfInBounds_toArray, List.set_cons_zero, List.set_cons_succ])
                            | ((refine ld_headG rfl (.tmp 19) rfl Y (by rfl) a3 x5 nz TH QL.out nz_length THL.out _ _ GY5.out ?_); simp only [Act.put, List.setIfInBounds_toArray, List.set_cons_zero, List.set_cons_succ]))
                          refine (Both_calls x1 x1.length rfl (by have := G0.out; omega) Z1M.out a1 c1 e1 v1 a3 x4 nz TG PL.out nz_length TGL.out xs1 SI1.out.val av1 cp1 _ m1 SI1.out.len HM1.out a3 x5 nz TH QL.out nz_length THL.out xs SI.out.val av cp _ m SI.out.len HM2.out w5 (R1.out.below B5.out) (M1.out.below B5.out) RS5.out RT5.out (RO.out.at_ B5.out)).mono ?_
                          rintro e w6 ⟨fa, fc, rfl, hb6⟩
                          rw [← HR.out]
                          have B6 := Lib.hid (B5.out.trans (hb6.mono B5.out.size))
                          clear hb6
                          go_wp2_with fail
                          go_ret
                          exact ⟨rfl, B6.out⟩
end topWitness
end Go.Proofs.YtkioddmhjbaleaaDoor
