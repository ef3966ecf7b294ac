/- TWO MAPS, TWO ROOTS: oathbooklaw2.TrieBinds answers true at every input. -/
import Derived.Test.YtpeomfehdccmmaaDoorRows
import Derived.Test.YtpeomfehdccmmaaDoorTrieClash
import Derived.Test.YtpeomfehdccmmaaDoorTrieAt
import Derived.Test.YtpeomfehdccmmaaDoorLaidR
import Derived.WalkKit
import Derived.ProofKit
import Derived.OpenShut
import Derived.ShutString
import Derived.ChangeOld
import Derived.Below
namespace Go.Proofs.YtpeomfehdccmmaaDoor
open Go.ChangeShapes Go.WideShapes Go.ChangeAt Go.RowKit
open Go.ChangeMaps (open_string shut_string)
set_option linter.unusedVariables false
namespace trieBinds

theorem Root_x (es : List En) (hw : ∀ e ∈ es, EnW e) (a : Option Addr) (cap ea : Nat) (hc1 : es.length ≤ cap) (hc2 : cap ≤ 9223372036854775807) (w : World) (hr : Rd w a ea (cellsE es)) (hro : RoundsAt w) :
    Calls Tryd.prog 22 #[.slice a es.length cap] w fun e w' => (∃ R v, e = .returned (.tuple #[.agg (dV R), v]) ∧ R.length = 32) ∧ Below w.heap.size w w' := by
  by_cases hf : mapF es = 0
  · exact (TRoot_ok es hw a cap ea hc1 hc2 w hr hf hro).mono fun e w' h => ⟨⟨_, _, h.1, rootD_length es⟩, h.2⟩
  · exact (TRoot_bad es hw a cap ea hc1 hc2 w hr _ rfl hf).mono fun e w' h => ⟨⟨_, _, h.1, rfl⟩, h.2⟩
theorem Path_x (es : List En) (hw : ∀ e ∈ es, EnW e) (a : Option Addr) (cap ea : Nat) (hc1 : es.length ≤ cap) (hc2 : cap ≤ 9223372036854775807) (k : Int) (w : World) (hr : Rd w a ea (cellsE es)) (hro : RoundsAt w) :
    Calls Tryd.prog 23 #[.slice a es.length cap, .int .i64 k] w fun e w' => (∃ p n c v, e = .returned (.tuple #[.slice p n c, v])) ∧ Below w.heap.size w w' := by
  by_cases hf : mapF es = 0
  · by_cases hk : KeyOk k
    · obtain ⟨q, rfl⟩ : ∃ q : Nat, k = (q : Int) := ⟨k.toNat, by have := hk.1; omega⟩
      exact (Path_ok es hw a cap ea hc1 hc2 q (by have := hk.2; omega) w hr hf hro).mono fun e w' ⟨a', c', h, _, hb⟩ => ⟨⟨_, _, _, _, h⟩, hb⟩
    · exact (Path_key es hw a cap ea hc1 hc2 k hk w hr hf).mono fun e w' h => ⟨⟨_, _, _, _, h.1⟩, h.2⟩
  · exact (Path_bad es hw a cap ea hc1 hc2 k w hr _ rfl hf).mono fun e w' h => ⟨⟨_, _, _, _, h.1⟩, h.2⟩
-- HOLE: the walk
set_option maxRecDepth 20000 in
set_option maxHeartbeats 16000000 in
theorem walk (x0 : List En) (a0 : Option Addr) (c0 e0 : Nat) (x1 : List En) (a1 : Option Addr) (c1 e1 : Nat) (a2 : Int) (w : World) (l0 : x0.length ≤ c0) (m0 : c0 ≤ 9223372036854775807) (n0 : ∀ e ∈ x0, EnW e) (r0 : Rd w a0 e0 (cellsE x0)) (l1 : x1.length ≤ c1) (m1 : c1 ≤ 9223372036854775807) (n1 : ∀ e ∈ x1, EnW e) (r1 : Rd w a1 e1 (cellsE x1)) (h2 : -9223372036854775808 ≤ a2 ∧ a2 ≤ 9223372036854775807) (hro : RoundsAt w) :
    Calls Tryd.prog 5 #[.slice a0 x0.length c0, .slice a1 x1.length c1, .int .i64 a2] w fun e w' => e = .returned (.bool true) ∧ Below w.heap.size w w' := by
  obtain ⟨Z, hZ⟩ : ∃ Z, Z = nz := ⟨_, rfl⟩
  have zl : Z.length = 32 := by rw [hZ]; rfl
  have zlit : (#[.int .u8 0, .int .u8 0, .int .u8 0, .int .u8 0, .int .u8 0, .int .u8 0, .int .u8 0, .int .u8 0, .int .u8 0, .int .u8 0, .int .u8 0, .int .u8 0, .int .u8 0, .int .u8 0, .int .u8 0, .int .u8 0, .int .u8 0, .int .u8 0, .int .u8 0, .int .u8 0, .int .u8 0, .int .u8 0, .int .u8 0, .int .u8 0, .int .u8 0, .int .u8 0, .int .u8 0, .int .u8 0, .int .u8 0, .int .u8 0, .int .u8 0, .int .u8 0] : Array Value) = dV Z := by rw [hZ]; exact zdig
  have ZL := Lib.hid zl
  have ZT := Lib.hid zlit
  have HZ := Lib.hid hZ
  clear zl zlit hZ
  have LE := Lib.hid (Leafed_calls w hro)
  have RO := Lib.hid hro
  replace r0 := Lib.hid r0
  replace r1 := Lib.hid r1
  replace n0 := Lib.hid n0
  replace n1 := Lib.hid n1
  clear hro
  by_cases hf0 : mapF x0 = 0
  · have TRO0 := fun w' hr ho => TRoot_ok x0 n0.out a0 c0 e0 l0 m0 w' hr hf0 ho
    obtain ⟨R0, hR0⟩ : ∃ R, R = rootD x0 := ⟨_, rfl⟩
    have R0L := Lib.hid (show R0.length = 32 by rw [hR0]; exact rootD_length x0)
    rw [← hR0] at TRO0
    have HF0 := Lib.hid hf0
    have HR0 := Lib.hid hR0
    clear hR0 hf0
    by_cases hf1 : mapF x1 = 0
    · have TRO1 := fun w' hr ho => TRoot_ok x1 n1.out a1 c1 e1 l1 m1 w' hr hf1 ho
      obtain ⟨R1, hR1⟩ : ∃ R, R = rootD x1 := ⟨_, rfl⟩
      have R1L := Lib.hid (show R1.length = 32 by rw [hR1]; exact rootD_length x1)
      rw [← hR1] at TRO1
      have HF1 := Lib.hid hf1
      have HR1 := Lib.hid hR1
      clear hR1 hf1
      by_cases hk : KeyOk a2
      · obtain ⟨k, rfl⟩ : ∃ k : Nat, a2 = (k : Int) := ⟨a2.toNat, by have := hk.1; omega⟩
        have hk2 : k < 4294967296 := by have := hk.2; omega
        have TP0 := fun w' hr ho => Path_ok x0 n0.out a0 c0 e0 l0 m0 k hk2 w' hr HF0.out ho
        have TP1 := fun w' hr ho => Path_ok x1 n1.out a1 c1 e1 l1 m1 k hk2 w' hr HF1.out ho
        have TA0 := fun w' hr ho => At_calls x0 n0.out a0 c0 e0 k hk2 w' hr HF0.out ho
        have TA1 := fun w' hr ho => At_calls x1 n1.out a1 c1 e1 k hk2 w' hr HF1.out ho
        have f0 := foldD_path (leafF x0) k (by omega)
        have f1 := foldD_path (leafF x1) k (by omega)
        obtain ⟨L0, hL0⟩ : ∃ L, L = leafF x0 k := ⟨_, rfl⟩
        obtain ⟨L1, hL1⟩ : ∃ L, L = leafF x1 k := ⟨_, rfl⟩
        obtain ⟨P0, hP0⟩ : ∃ P, P = pathD (leafF x0) k := ⟨_, rfl⟩
        obtain ⟨P1, hP1⟩ : ∃ P, P = pathD (leafF x1) k := ⟨_, rfl⟩
        have L0L := Lib.hid (show L0.length = 32 by rw [hL0]; exact leafF_length x0 k)
        have L1L := Lib.hid (show L1.length = 32 by rw [hL1]; exact leafF_length x1 k)
        have P0N := Lib.hid (show P0.length = 32 by rw [hP0]; exact pathD_length _ _)
        have P1N := Lib.hid (show P1.length = 32 by rw [hP1]; exact pathD_length _ _)
        have P0D := Lib.hid (show ∀ p ∈ P0, p.length = 32 by rw [hP0, ← sibs_zero]; exact sibs_dig _ (leafF_length x0) k 0)
        have P1D := Lib.hid (show ∀ p ∈ P1, p.length = 32 by rw [hP1, ← sibs_zero]; exact sibs_dig _ (leafF_length x1) k 0)
        rw [← hP0] at TP0 f0
        rw [← hP1] at TP1 f1
        rw [← hL0] at TA0 f0
        rw [← hL1] at TA1 f1
        rw [show treeD 32 (leafF x0) 0 = R0 from HR0.out.symm] at f0
        rw [show treeD 32 (leafF x1) 0 = R1 from HR1.out.symm] at f1
        by_cases he : R0 = R1
        · have EQ1 := Lib.hid (show (R0 == R1) = true by rw [he]; simp)
          have HFOLD := Lib.hid (show foldD k L0 P0 = foldD k L1 P1 by rw [f0, f1, he])
          clear he f0 f1 hL0 hL1 hP0 hP1 hk h2
          by_cases hab : L0 = L1
          · have EQ2 := Lib.hid (show (L0 == L1) = true by rw [hab]; simp)
            clear hab
            go_enter Tryd.func5, Tryd.ntmps5
            go_wp2_with fail
            refine (LE.out).mono ?_
            rintro e w1 ⟨rfl, hb1⟩
            have B1 := Lib.hid (show Below w.heap.size w w1 from hb1)
            clear hb1
            go_wp2_with fail
            refine (TRO0 w1 (r0.out.below B1.out) (RO.out.at_ B1.out)).mono ?_
            rintro e w2 ⟨rfl, hb2⟩
            have B2 := Lib.hid (show Below w.heap.size w w2 from B1.out.trans (Below.mono hb2 B1.out.size))
            clear hb2
            obtain ⟨X, hX⟩ : ∃ z, z = w2.heap.size := ⟨_, rfl⟩
            obtain ⟨w3, hw3⟩ : ∃ z, z = w2.alloc (.cells (dV R0) 23) := ⟨_, rfl⟩
            have st3 : Below w2.heap.size w2 w3 := by rw [hw3]; exact (Below.refl _ _).alloc (Nat.le_refl _) _
            have B3 := Lib.hid (show Below w.heap.size w w3 from B2.out.trans (Below.mono st3 B2.out.size))
            have GX_3 := Lib.hid (show w3.heap[X]? = some (.cells (dV R0) 23 (0, 0)) by rw [hw3, hX]; exact heap_alloc_new _ _)
            have LX := Lib.hid (lt_of_heap GX_3.out)
            have HX := Lib.hid hX
            have Hw3 := Lib.hid hw3
            clear hX hw3 st3
            go_wp2_with (first
              | ((refine st_new rfl (.tmp 8) (.tmp 27) rfl R0 R0L.out (by rfl) _ _ (by rfl) (by rfl) ?_); rw [← HX.out, ← Hw3.out]))
            refine (TRO1 w3 (r1.out.below B3.out) (RO.out.at_ B3.out)).mono ?_
            rintro e w4 ⟨rfl, hb4⟩
            have B4 := Lib.hid (show Below w.heap.size w w4 from B3.out.trans (Below.mono hb4 B3.out.size))
            have GX_4 := Lib.hid ((hb4.block X LX.out).trans GX_3.out)
            have LX_4 := Lib.hid (Nat.lt_of_lt_of_le LX.out hb4.size)
            clear hb4
            obtain ⟨Y, hY⟩ : ∃ z, z = w4.heap.size := ⟨_, rfl⟩
            obtain ⟨w5, hw5⟩ : ∃ z, z = w4.alloc (.cells (dV R1) 23) := ⟨_, rfl⟩
            have st5 : Below w4.heap.size w4 w5 := by rw [hw5]; exact (Below.refl _ _).alloc (Nat.le_refl _) _
            have B5 := Lib.hid (show Below w.heap.size w w5 from B4.out.trans (Below.mono st5 B4.out.size))
            have GX_5 := Lib.hid ((st5.block X LX_4.out).trans GX_4.out)
            have LX_4_5 := Lib.hid (Nat.lt_of_lt_of_le LX_4.out st5.size)
            have GY_5 := Lib.hid (show w5.heap[Y]? = some (.cells (dV R1) 23 (0, 0)) by rw [hw5, hY]; exact heap_alloc_new _ _)
            have LY := Lib.hid (lt_of_heap GY_5.out)
            have HY := Lib.hid hY
            have Hw5 := Lib.hid hw5
            clear hY hw5 st5
            go_wp2_with (first
              | ((refine st_new rfl (.tmp 10) (.tmp 32) rfl R1 R1L.out (by rfl) _ _ (by rfl) (by rfl) ?_); rw [← HY.out, ← Hw5.out]))
            refine (TP0 w5 (r0.out.below B5.out) (RO.out.at_ B5.out)).mono ?_
            rintro e w6 ⟨pa, pc, rfl, hown0, hb6⟩
            have RP0 := Lib.hid (Rd.of_own hown0)
            clear hown0
            have B6 := Lib.hid (show Below w.heap.size w w6 from B5.out.trans (Below.mono hb6 B5.out.size))
            have GX_6 := Lib.hid ((hb6.block X LX_4_5.out).trans GX_5.out)
            have LX_4_5_6 := Lib.hid (Nat.lt_of_lt_of_le LX_4_5.out hb6.size)
            have GY_6 := Lib.hid ((hb6.block Y LY.out).trans GY_5.out)
            have LY_6 := Lib.hid (Nat.lt_of_lt_of_le LY.out hb6.size)
            clear hb6
            go_wp2_with fail
            refine (TP1 w6 (r1.out.below B6.out) (RO.out.at_ B6.out)).mono ?_
            rintro e w7 ⟨qa, qc, rfl, hown1, hb7⟩
            have RP1 := Lib.hid (RP0.out.below hb7)
            have RQ1 := Lib.hid (Rd.of_own hown1)
            clear hown1
            have B7 := Lib.hid (show Below w.heap.size w w7 from B6.out.trans (Below.mono hb7 B6.out.size))
            have GX_7 := Lib.hid ((hb7.block X LX_4_5_6.out).trans GX_6.out)
            have LX_4_5_6_7 := Lib.hid (Nat.lt_of_lt_of_le LX_4_5_6.out hb7.size)
            have GY_7 := Lib.hid ((hb7.block Y LY_6.out).trans GY_6.out)
            have LY_6_7 := Lib.hid (Nat.lt_of_lt_of_le LY_6.out hb7.size)
            clear hb7
            have zw7 := Below.refl w7.heap.size w7
            have Kw7 := Lib.hid zw7
            clear zw7
            go_wp2_with (first
              | ((refine ld_digG rfl (.tmp 8) rfl (X) 0 (by rfl) R0 R0L.out (range_of_row GX_7.out) ?_); simp only [Act.put, List.setIfInBounds_toArray, List.set_cons_zero, List.set_cons_succ])
              | ((refine ld_digG rfl (.tmp 10) rfl (Y) 0 (by rfl) R1 R1L.out (range_of_row GY_7.out) ?_); simp only [Act.put, List.setIfInBounds_toArray, List.set_cons_zero, List.set_cons_succ])
              | ((refine neq_digG rfl (.tmp 61) (.tmp 62) _ rfl R0 R1 (by rfl) (by rfl) R0L.out R1L.out ?_); rw [EQ1.out]; simp only [Act.put, List.setIfInBounds_toArray, List.set_cons_zero, List.set_cons_succ]))
            refine (TA0 w7 (r0.out.below B7.out) (RO.out.at_ B7.out)).mono ?_
            rintro e w8 ⟨rfl, hb8⟩
            have P_a := Lib.hid (RP1.out.below hb8)
            have Q_a := Lib.hid (RQ1.out.below hb8)
            have B8 := Lib.hid (show Below w.heap.size w w8 from B7.out.trans (Below.mono hb8 B7.out.size))
            have GX_8 := Lib.hid ((hb8.block X LX_4_5_6_7.out).trans GX_7.out)
            have LX_4_5_6_7_8 := Lib.hid (Nat.lt_of_lt_of_le LX_4_5_6_7.out hb8.size)
            have GY_8 := Lib.hid ((hb8.block Y LY_6_7.out).trans GY_7.out)
            have LY_6_7_8 := Lib.hid (Nat.lt_of_lt_of_le LY_6_7.out hb8.size)
            clear hb8
            obtain ⟨U, hU⟩ : ∃ z, z = w8.heap.size := ⟨_, rfl⟩
            obtain ⟨w9, hw9⟩ : ∃ z, z = w8.alloc (.cells (dV L0) 23) := ⟨_, rfl⟩
            have st9 : Below w8.heap.size w8 w9 := by rw [hw9]; exact (Below.refl _ _).alloc (Nat.le_refl _) _
            have B9 := Lib.hid (show Below w.heap.size w w9 from B8.out.trans (Below.mono st9 B8.out.size))
            have GX_9 := Lib.hid ((st9.block X LX_4_5_6_7_8.out).trans GX_8.out)
            have LX_4_5_6_7_8_9 := Lib.hid (Nat.lt_of_lt_of_le LX_4_5_6_7_8.out st9.size)
            have GY_9 := Lib.hid ((st9.block Y LY_6_7_8.out).trans GY_8.out)
            have LY_6_7_8_9 := Lib.hid (Nat.lt_of_lt_of_le LY_6_7_8.out st9.size)
            have GU_9 := Lib.hid (show w9.heap[U]? = some (.cells (dV L0) 23 (0, 0)) by rw [hw9, hU]; exact heap_alloc_new _ _)
            have LU := Lib.hid (lt_of_heap GU_9.out)
            have HU := Lib.hid hU
            have Hw9 := Lib.hid hw9
            clear hU hw9 st9
            have P_b := Lib.hid (P_a.out.below (show Below w8.heap.size w8 w9 by rw [Hw9.out]; exact (Below.refl _ _).alloc (Nat.le_refl _) _))
            have Q_b := Lib.hid (Q_a.out.below (show Below w8.heap.size w8 w9 by rw [Hw9.out]; exact (Below.refl _ _).alloc (Nat.le_refl _) _))
            go_wp2_with (first
              | ((refine st_new rfl (.tmp 16) (.tmp 69) rfl L0 L0L.out (by rfl) _ _ (by rfl) (by rfl) ?_); rw [← HU.out, ← Hw9.out]))
            refine (TA1 w9 (r1.out.below B9.out) (RO.out.at_ B9.out)).mono ?_
            rintro e w10 ⟨rfl, hb10⟩
            have P_c := Lib.hid (P_b.out.below hb10)
            have Q_c := Lib.hid (Q_b.out.below hb10)
            have B10 := Lib.hid (show Below w.heap.size w w10 from B9.out.trans (Below.mono hb10 B9.out.size))
            have GX_10 := Lib.hid ((hb10.block X LX_4_5_6_7_8_9.out).trans GX_9.out)
            have LX_4_5_6_7_8_9_10 := Lib.hid (Nat.lt_of_lt_of_le LX_4_5_6_7_8_9.out hb10.size)
            have GY_10 := Lib.hid ((hb10.block Y LY_6_7_8_9.out).trans GY_9.out)
            have LY_6_7_8_9_10 := Lib.hid (Nat.lt_of_lt_of_le LY_6_7_8_9.out hb10.size)
            have GU_10 := Lib.hid ((hb10.block U LU.out).trans GU_9.out)
            have LU_10 := Lib.hid (Nat.lt_of_lt_of_le LU.out hb10.size)
            clear hb10
            obtain ⟨V, hV⟩ : ∃ z, z = w10.heap.size := ⟨_, rfl⟩
            obtain ⟨w11, hw11⟩ : ∃ z, z = w10.alloc (.cells (dV L1) 23) := ⟨_, rfl⟩
            have st11 : Below w10.heap.size w10 w11 := by rw [hw11]; exact (Below.refl _ _).alloc (Nat.le_refl _) _
            have B11 := Lib.hid (show Below w.heap.size w w11 from B10.out.trans (Below.mono st11 B10.out.size))
            have GX_11 := Lib.hid ((st11.block X LX_4_5_6_7_8_9_10.out).trans GX_10.out)
            have LX_4_5_6_7_8_9_10_11 := Lib.hid (Nat.lt_of_lt_of_le LX_4_5_6_7_8_9_10.out st11.size)
            have GY_11 := Lib.hid ((st11.block Y LY_6_7_8_9_10.out).trans GY_10.out)
            have LY_6_7_8_9_10_11 := Lib.hid (Nat.lt_of_lt_of_le LY_6_7_8_9_10.out st11.size)
            have GU_11 := Lib.hid ((st11.block U LU_10.out).trans GU_10.out)
            have LU_10_11 := Lib.hid (Nat.lt_of_lt_of_le LU_10.out st11.size)
            have GV_11 := Lib.hid (show w11.heap[V]? = some (.cells (dV L1) 23 (0, 0)) by rw [hw11, hV]; exact heap_alloc_new _ _)
            have LV := Lib.hid (lt_of_heap GV_11.out)
            have HV := Lib.hid hV
            have Hw11 := Lib.hid hw11
            clear hV hw11 st11
            have P_d := Lib.hid (P_c.out.below (show Below w10.heap.size w10 w11 by rw [Hw11.out]; exact (Below.refl _ _).alloc (Nat.le_refl _) _))
            have Q_d := Lib.hid (Q_c.out.below (show Below w10.heap.size w10 w11 by rw [Hw11.out]; exact (Below.refl _ _).alloc (Nat.le_refl _) _))
            go_wp2_with (first
              | ((refine st_new rfl (.tmp 18) (.tmp 75) rfl L1 L1L.out (by rfl) _ _ (by rfl) (by rfl) ?_); rw [← HV.out, ← Hw11.out])
              | ((refine ld_digG rfl (.tmp 16) rfl (U) 0 (by rfl) L0 L0L.out (range_of_row GU_11.out) ?_); simp only [Act.put, List.setIfInBounds_toArray, List.set_cons_zero, List.set_cons_succ])
              | ((refine ld_digG rfl (.tmp 18) rfl (V) 0 (by rfl) L1 L1L.out (range_of_row GV_11.out) ?_); simp only [Act.put, List.setIfInBounds_toArray, List.set_cons_zero, List.set_cons_succ])
              | ((refine eq_digG rfl (.tmp 93) (.tmp 94) _ rfl L0 L1 (by rfl) (by rfl) L0L.out L1L.out ?_); rw [EQ2.out]; simp only [Act.put, List.setIfInBounds_toArray, List.set_cons_zero, List.set_cons_succ]))
            go_ret
            exact ⟨rfl, B11.out⟩
          · have EQ2 := Lib.hid (show (L0 == L1) = false by rw [beq_eq_false_iff_ne]; exact hab)
            have HAB := Lib.hid hab
            clear hab
            go_enter Tryd.func5, Tryd.ntmps5
            go_wp2_with fail
            refine (LE.out).mono ?_
            rintro e w1 ⟨rfl, hb1⟩
            have B1 := Lib.hid (show Below w.heap.size w w1 from hb1)
            clear hb1
            go_wp2_with fail
            refine (TRO0 w1 (r0.out.below B1.out) (RO.out.at_ B1.out)).mono ?_
            rintro e w2 ⟨rfl, hb2⟩
            have B2 := Lib.hid (show Below w.heap.size w w2 from B1.out.trans (Below.mono hb2 B1.out.size))
            clear hb2
            obtain ⟨X, hX⟩ : ∃ z, z = w2.heap.size := ⟨_, rfl⟩
            obtain ⟨w3, hw3⟩ : ∃ z, z = w2.alloc (.cells (dV R0) 23) := ⟨_, rfl⟩
            have st3 : Below w2.heap.size w2 w3 := by rw [hw3]; exact (Below.refl _ _).alloc (Nat.le_refl _) _
            have B3 := Lib.hid (show Below w.heap.size w w3 from B2.out.trans (Below.mono st3 B2.out.size))
            have GX_3 := Lib.hid (show w3.heap[X]? = some (.cells (dV R0) 23 (0, 0)) by rw [hw3, hX]; exact heap_alloc_new _ _)
            have LX := Lib.hid (lt_of_heap GX_3.out)
            have HX := Lib.hid hX
            have Hw3 := Lib.hid hw3
            clear hX hw3 st3
            go_wp2_with (first
              | ((refine st_new rfl (.tmp 8) (.tmp 27) rfl R0 R0L.out (by rfl) _ _ (by rfl) (by rfl) ?_); rw [← HX.out, ← Hw3.out]))
            refine (TRO1 w3 (r1.out.below B3.out) (RO.out.at_ B3.out)).mono ?_
            rintro e w4 ⟨rfl, hb4⟩
            have B4 := Lib.hid (show Below w.heap.size w w4 from B3.out.trans (Below.mono hb4 B3.out.size))
            have GX_4 := Lib.hid ((hb4.block X LX.out).trans GX_3.out)
            have LX_4 := Lib.hid (Nat.lt_of_lt_of_le LX.out hb4.size)
            clear hb4
            obtain ⟨Y, hY⟩ : ∃ z, z = w4.heap.size := ⟨_, rfl⟩
            obtain ⟨w5, hw5⟩ : ∃ z, z = w4.alloc (.cells (dV R1) 23) := ⟨_, rfl⟩
            have st5 : Below w4.heap.size w4 w5 := by rw [hw5]; exact (Below.refl _ _).alloc (Nat.le_refl _) _
            have B5 := Lib.hid (show Below w.heap.size w w5 from B4.out.trans (Below.mono st5 B4.out.size))
            have GX_5 := Lib.hid ((st5.block X LX_4.out).trans GX_4.out)
            have LX_4_5 := Lib.hid (Nat.lt_of_lt_of_le LX_4.out st5.size)
            have GY_5 := Lib.hid (show w5.heap[Y]? = some (.cells (dV R1) 23 (0, 0)) by rw [hw5, hY]; exact heap_alloc_new _ _)
            have LY := Lib.hid (lt_of_heap GY_5.out)
            have HY := Lib.hid hY
            have Hw5 := Lib.hid hw5
            clear hY hw5 st5
            go_wp2_with (first
              | ((refine st_new rfl (.tmp 10) (.tmp 32) rfl R1 R1L.out (by rfl) _ _ (by rfl) (by rfl) ?_); rw [← HY.out, ← Hw5.out]))
            refine (TP0 w5 (r0.out.below B5.out) (RO.out.at_ B5.out)).mono ?_
            rintro e w6 ⟨pa, pc, rfl, hown0, hb6⟩
            have RP0 := Lib.hid (Rd.of_own hown0)
            clear hown0
            have B6 := Lib.hid (show Below w.heap.size w w6 from B5.out.trans (Below.mono hb6 B5.out.size))
            have GX_6 := Lib.hid ((hb6.block X LX_4_5.out).trans GX_5.out)
            have LX_4_5_6 := Lib.hid (Nat.lt_of_lt_of_le LX_4_5.out hb6.size)
            have GY_6 := Lib.hid ((hb6.block Y LY.out).trans GY_5.out)
            have LY_6 := Lib.hid (Nat.lt_of_lt_of_le LY.out hb6.size)
            clear hb6
            go_wp2_with fail
            refine (TP1 w6 (r1.out.below B6.out) (RO.out.at_ B6.out)).mono ?_
            rintro e w7 ⟨qa, qc, rfl, hown1, hb7⟩
            have RP1 := Lib.hid (RP0.out.below hb7)
            have RQ1 := Lib.hid (Rd.of_own hown1)
            clear hown1
            have B7 := Lib.hid (show Below w.heap.size w w7 from B6.out.trans (Below.mono hb7 B6.out.size))
            have GX_7 := Lib.hid ((hb7.block X LX_4_5_6.out).trans GX_6.out)
            have LX_4_5_6_7 := Lib.hid (Nat.lt_of_lt_of_le LX_4_5_6.out hb7.size)
            have GY_7 := Lib.hid ((hb7.block Y LY_6.out).trans GY_6.out)
            have LY_6_7 := Lib.hid (Nat.lt_of_lt_of_le LY_6.out hb7.size)
            clear hb7
            have zw7 := Below.refl w7.heap.size w7
            have Kw7 := Lib.hid zw7
            clear zw7
            go_wp2_with (first
              | ((refine ld_digG rfl (.tmp 8) rfl (X) 0 (by rfl) R0 R0L.out (range_of_row GX_7.out) ?_); simp only [Act.put, List.setIfInBounds_toArray, List.set_cons_zero, List.set_cons_succ])
              | ((refine ld_digG rfl (.tmp 10) rfl (Y) 0 (by rfl) R1 R1L.out (range_of_row GY_7.out) ?_); simp only [Act.put, List.setIfInBounds_toArray, List.set_cons_zero, List.set_cons_succ])
              | ((refine neq_digG rfl (.tmp 61) (.tmp 62) _ rfl R0 R1 (by rfl) (by rfl) R0L.out R1L.out ?_); rw [EQ1.out]; simp only [Act.put, List.setIfInBounds_toArray, List.set_cons_zero, List.set_cons_succ]))
            refine (TA0 w7 (r0.out.below B7.out) (RO.out.at_ B7.out)).mono ?_
            rintro e w8 ⟨rfl, hb8⟩
            have P_a := Lib.hid (RP1.out.below hb8)
            have Q_a := Lib.hid (RQ1.out.below hb8)
            have B8 := Lib.hid (show Below w.heap.size w w8 from B7.out.trans (Below.mono hb8 B7.out.size))
            have GX_8 := Lib.hid ((hb8.block X LX_4_5_6_7.out).trans GX_7.out)
            have LX_4_5_6_7_8 := Lib.hid (Nat.lt_of_lt_of_le LX_4_5_6_7.out hb8.size)
            have GY_8 := Lib.hid ((hb8.block Y LY_6_7.out).trans GY_7.out)
            have LY_6_7_8 := Lib.hid (Nat.lt_of_lt_of_le LY_6_7.out hb8.size)
            clear hb8
            obtain ⟨U, hU⟩ : ∃ z, z = w8.heap.size := ⟨_, rfl⟩
            obtain ⟨w9, hw9⟩ : ∃ z, z = w8.alloc (.cells (dV L0) 23) := ⟨_, rfl⟩
            have st9 : Below w8.heap.size w8 w9 := by rw [hw9]; exact (Below.refl _ _).alloc (Nat.le_refl _) _
            have B9 := Lib.hid (show Below w.heap.size w w9 from B8.out.trans (Below.mono st9 B8.out.size))
            have GX_9 := Lib.hid ((st9.block X LX_4_5_6_7_8.out).trans GX_8.out)
            have LX_4_5_6_7_8_9 := Lib.hid (Nat.lt_of_lt_of_le LX_4_5_6_7_8.out st9.size)
            have GY_9 := Lib.hid ((st9.block Y LY_6_7_8.out).trans GY_8.out)
            have LY_6_7_8_9 := Lib.hid (Nat.lt_of_lt_of_le LY_6_7_8.out st9.size)
            have GU_9 := Lib.hid (show w9.heap[U]? = some (.cells (dV L0) 23 (0, 0)) by rw [hw9, hU]; exact heap_alloc_new _ _)
            have LU := Lib.hid (lt_of_heap GU_9.out)
            have HU := Lib.hid hU
            have Hw9 := Lib.hid hw9
            clear hU hw9 st9
            have P_b := Lib.hid (P_a.out.below (show Below w8.heap.size w8 w9 by rw [Hw9.out]; exact (Below.refl _ _).alloc (Nat.le_refl _) _))
            have Q_b := Lib.hid (Q_a.out.below (show Below w8.heap.size w8 w9 by rw [Hw9.out]; exact (Below.refl _ _).alloc (Nat.le_refl _) _))
            go_wp2_with (first
              | ((refine st_new rfl (.tmp 16) (.tmp 69) rfl L0 L0L.out (by rfl) _ _ (by rfl) (by rfl) ?_); rw [← HU.out, ← Hw9.out]))
            refine (TA1 w9 (r1.out.below B9.out) (RO.out.at_ B9.out)).mono ?_
            rintro e w10 ⟨rfl, hb10⟩
            have P_c := Lib.hid (P_b.out.below hb10)
            have Q_c := Lib.hid (Q_b.out.below hb10)
            have B10 := Lib.hid (show Below w.heap.size w w10 from B9.out.trans (Below.mono hb10 B9.out.size))
            have GX_10 := Lib.hid ((hb10.block X LX_4_5_6_7_8_9.out).trans GX_9.out)
            have LX_4_5_6_7_8_9_10 := Lib.hid (Nat.lt_of_lt_of_le LX_4_5_6_7_8_9.out hb10.size)
            have GY_10 := Lib.hid ((hb10.block Y LY_6_7_8_9.out).trans GY_9.out)
            have LY_6_7_8_9_10 := Lib.hid (Nat.lt_of_lt_of_le LY_6_7_8_9.out hb10.size)
            have GU_10 := Lib.hid ((hb10.block U LU.out).trans GU_9.out)
            have LU_10 := Lib.hid (Nat.lt_of_lt_of_le LU.out hb10.size)
            clear hb10
            obtain ⟨V, hV⟩ : ∃ z, z = w10.heap.size := ⟨_, rfl⟩
            obtain ⟨w11, hw11⟩ : ∃ z, z = w10.alloc (.cells (dV L1) 23) := ⟨_, rfl⟩
            have st11 : Below w10.heap.size w10 w11 := by rw [hw11]; exact (Below.refl _ _).alloc (Nat.le_refl _) _
            have B11 := Lib.hid (show Below w.heap.size w w11 from B10.out.trans (Below.mono st11 B10.out.size))
            have GX_11 := Lib.hid ((st11.block X LX_4_5_6_7_8_9_10.out).trans GX_10.out)
            have LX_4_5_6_7_8_9_10_11 := Lib.hid (Nat.lt_of_lt_of_le LX_4_5_6_7_8_9_10.out st11.size)
            have GY_11 := Lib.hid ((st11.block Y LY_6_7_8_9_10.out).trans GY_10.out)
            have LY_6_7_8_9_10_11 := Lib.hid (Nat.lt_of_lt_of_le LY_6_7_8_9_10.out st11.size)
            have GU_11 := Lib.hid ((st11.block U LU_10.out).trans GU_10.out)
            have LU_10_11 := Lib.hid (Nat.lt_of_lt_of_le LU_10.out st11.size)
            have GV_11 := Lib.hid (show w11.heap[V]? = some (.cells (dV L1) 23 (0, 0)) by rw [hw11, hV]; exact heap_alloc_new _ _)
            have LV := Lib.hid (lt_of_heap GV_11.out)
            have HV := Lib.hid hV
            have Hw11 := Lib.hid hw11
            clear hV hw11 st11
            have P_d := Lib.hid (P_c.out.below (show Below w10.heap.size w10 w11 by rw [Hw11.out]; exact (Below.refl _ _).alloc (Nat.le_refl _) _))
            have Q_d := Lib.hid (Q_c.out.below (show Below w10.heap.size w10 w11 by rw [Hw11.out]; exact (Below.refl _ _).alloc (Nat.le_refl _) _))
            go_wp2_with (first
              | ((refine st_new rfl (.tmp 18) (.tmp 75) rfl L1 L1L.out (by rfl) _ _ (by rfl) (by rfl) ?_); rw [← HV.out, ← Hw11.out])
              | ((refine ld_digG rfl (.tmp 16) rfl (U) 0 (by rfl) L0 L0L.out (range_of_row GU_11.out) ?_); simp only [Act.put, List.setIfInBounds_toArray, List.set_cons_zero, List.set_cons_succ])
              | ((refine ld_digG rfl (.tmp 18) rfl (V) 0 (by rfl) L1 L1L.out (range_of_row GV_11.out) ?_); simp only [Act.put, List.setIfInBounds_toArray, List.set_cons_zero, List.set_cons_succ])
              | ((refine eq_digG rfl (.tmp 93) (.tmp 94) _ rfl L0 L1 (by rfl) (by rfl) L0L.out L1L.out ?_); rw [EQ2.out]; simp only [Act.put, List.setIfInBounds_toArray, List.set_cons_zero, List.set_cons_succ]))
            refine (Clash_calls k hk2 L0 L1 L0L.out L1L.out HAB.out P0 P1 P0N.out P1N.out P0D.out P1D.out HFOLD.out pa pc _ qa qc _ w11 P_d.out Q_d.out).mono ?_
            rintro e w12 ⟨rfl, hb12⟩
            have B12 := Lib.hid (show Below w.heap.size w w12 from B11.out.trans (Below.mono hb12 B11.out.size))
            have GX_12 := Lib.hid ((hb12.block X LX_4_5_6_7_8_9_10_11.out).trans GX_11.out)
            have LX_4_5_6_7_8_9_10_11_12 := Lib.hid (Nat.lt_of_lt_of_le LX_4_5_6_7_8_9_10_11.out hb12.size)
            have GY_12 := Lib.hid ((hb12.block Y LY_6_7_8_9_10_11.out).trans GY_11.out)
            have LY_6_7_8_9_10_11_12 := Lib.hid (Nat.lt_of_lt_of_le LY_6_7_8_9_10_11.out hb12.size)
            have GU_12 := Lib.hid ((hb12.block U LU_10_11.out).trans GU_11.out)
            have LU_10_11_12 := Lib.hid (Nat.lt_of_lt_of_le LU_10_11.out hb12.size)
            have GV_12 := Lib.hid ((hb12.block V LV.out).trans GV_11.out)
            have LV_12 := Lib.hid (Nat.lt_of_lt_of_le LV.out hb12.size)
            clear hb12
            go_wp2_with fail
            go_ret
            exact ⟨rfl, B12.out⟩
        · have EQ1 := Lib.hid (show (R0 == R1) = false by rw [beq_eq_false_iff_ne]; exact he)
          clear he f0 f1 hL0 hL1 hP0 hP1 hk h2
          go_enter Tryd.func5, Tryd.ntmps5
          go_wp2_with fail
          refine (LE.out).mono ?_
          rintro e w1 ⟨rfl, hb1⟩
          have B1 := Lib.hid (show Below w.heap.size w w1 from hb1)
          clear hb1
          go_wp2_with fail
          refine (TRO0 w1 (r0.out.below B1.out) (RO.out.at_ B1.out)).mono ?_
          rintro e w2 ⟨rfl, hb2⟩
          have B2 := Lib.hid (show Below w.heap.size w w2 from B1.out.trans (Below.mono hb2 B1.out.size))
          clear hb2
          obtain ⟨X, hX⟩ : ∃ z, z = w2.heap.size := ⟨_, rfl⟩
          obtain ⟨w3, hw3⟩ : ∃ z, z = w2.alloc (.cells (dV R0) 23) := ⟨_, rfl⟩
          have st3 : Below w2.heap.size w2 w3 := by rw [hw3]; exact (Below.refl _ _).alloc (Nat.le_refl _) _
          have B3 := Lib.hid (show Below w.heap.size w w3 from B2.out.trans (Below.mono st3 B2.out.size))
          have GX_3 := Lib.hid (show w3.heap[X]? = some (.cells (dV R0) 23 (0, 0)) by rw [hw3, hX]; exact heap_alloc_new _ _)
          have LX := Lib.hid (lt_of_heap GX_3.out)
          have HX := Lib.hid hX
          have Hw3 := Lib.hid hw3
          clear hX hw3 st3
          go_wp2_with (first
            | ((refine st_new rfl (.tmp 8) (.tmp 27) rfl R0 R0L.out (by rfl) _ _ (by rfl) (by rfl) ?_); rw [← HX.out, ← Hw3.out]))
          refine (TRO1 w3 (r1.out.below B3.out) (RO.out.at_ B3.out)).mono ?_
          rintro e w4 ⟨rfl, hb4⟩
          have B4 := Lib.hid (show Below w.heap.size w w4 from B3.out.trans (Below.mono hb4 B3.out.size))
          have GX_4 := Lib.hid ((hb4.block X LX.out).trans GX_3.out)
          have LX_4 := Lib.hid (Nat.lt_of_lt_of_le LX.out hb4.size)
          clear hb4
          obtain ⟨Y, hY⟩ : ∃ z, z = w4.heap.size := ⟨_, rfl⟩
          obtain ⟨w5, hw5⟩ : ∃ z, z = w4.alloc (.cells (dV R1) 23) := ⟨_, rfl⟩
          have st5 : Below w4.heap.size w4 w5 := by rw [hw5]; exact (Below.refl _ _).alloc (Nat.le_refl _) _
          have B5 := Lib.hid (show Below w.heap.size w w5 from B4.out.trans (Below.mono st5 B4.out.size))
          have GX_5 := Lib.hid ((st5.block X LX_4.out).trans GX_4.out)
          have LX_4_5 := Lib.hid (Nat.lt_of_lt_of_le LX_4.out st5.size)
          have GY_5 := Lib.hid (show w5.heap[Y]? = some (.cells (dV R1) 23 (0, 0)) by rw [hw5, hY]; exact heap_alloc_new _ _)
          have LY := Lib.hid (lt_of_heap GY_5.out)
          have HY := Lib.hid hY
          have Hw5 := Lib.hid hw5
          clear hY hw5 st5
          go_wp2_with (first
            | ((refine st_new rfl (.tmp 10) (.tmp 32) rfl R1 R1L.out (by rfl) _ _ (by rfl) (by rfl) ?_); rw [← HY.out, ← Hw5.out]))
          refine (TP0 w5 (r0.out.below B5.out) (RO.out.at_ B5.out)).mono ?_
          rintro e w6 ⟨pa, pc, rfl, hown0, hb6⟩
          have RP0 := Lib.hid (Rd.of_own hown0)
          clear hown0
          have B6 := Lib.hid (show Below w.heap.size w w6 from B5.out.trans (Below.mono hb6 B5.out.size))
          have GX_6 := Lib.hid ((hb6.block X LX_4_5.out).trans GX_5.out)
          have LX_4_5_6 := Lib.hid (Nat.lt_of_lt_of_le LX_4_5.out hb6.size)
          have GY_6 := Lib.hid ((hb6.block Y LY.out).trans GY_5.out)
          have LY_6 := Lib.hid (Nat.lt_of_lt_of_le LY.out hb6.size)
          clear hb6
          go_wp2_with fail
          refine (TP1 w6 (r1.out.below B6.out) (RO.out.at_ B6.out)).mono ?_
          rintro e w7 ⟨qa, qc, rfl, hown1, hb7⟩
          have RP1 := Lib.hid (RP0.out.below hb7)
          have RQ1 := Lib.hid (Rd.of_own hown1)
          clear hown1
          have B7 := Lib.hid (show Below w.heap.size w w7 from B6.out.trans (Below.mono hb7 B6.out.size))
          have GX_7 := Lib.hid ((hb7.block X LX_4_5_6.out).trans GX_6.out)
          have LX_4_5_6_7 := Lib.hid (Nat.lt_of_lt_of_le LX_4_5_6.out hb7.size)
          have GY_7 := Lib.hid ((hb7.block Y LY_6.out).trans GY_6.out)
          have LY_6_7 := Lib.hid (Nat.lt_of_lt_of_le LY_6.out hb7.size)
          clear hb7
          go_wp2_with (first
            | ((refine ld_digG rfl (.tmp 8) rfl (X) 0 (by rfl) R0 R0L.out (range_of_row GX_7.out) ?_); simp only [Act.put, List.setIfInBounds_toArray, List.set_cons_zero, List.set_cons_succ])
            | ((refine ld_digG rfl (.tmp 10) rfl (Y) 0 (by rfl) R1 R1L.out (range_of_row GY_7.out) ?_); simp only [Act.put, List.setIfInBounds_toArray, List.set_cons_zero, List.set_cons_succ])
            | ((refine neq_digG rfl (.tmp 61) (.tmp 62) _ rfl R0 R1 (by rfl) (by rfl) R0L.out R1L.out ?_); rw [EQ1.out]; simp only [Act.put, List.setIfInBounds_toArray, List.set_cons_zero, List.set_cons_succ]))
          go_ret
          exact ⟨rfl, B7.out⟩
      · have HK := Lib.hid hk
        clear hk h2
        go_enter Tryd.func5, Tryd.ntmps5
        go_wp2_with fail
        refine (LE.out).mono ?_
        rintro e w1 ⟨rfl, hb1⟩
        have B1 := Lib.hid (show Below w.heap.size w w1 from hb1)
        clear hb1
        go_wp2_with fail
        refine (TRO0 w1 (r0.out.below B1.out) (RO.out.at_ B1.out)).mono ?_
        rintro e w2 ⟨rfl, hb2⟩
        have B2 := Lib.hid (show Below w.heap.size w w2 from B1.out.trans (Below.mono hb2 B1.out.size))
        clear hb2
        obtain ⟨X, hX⟩ : ∃ z, z = w2.heap.size := ⟨_, rfl⟩
        obtain ⟨w3, hw3⟩ : ∃ z, z = w2.alloc (.cells (dV R0) 23) := ⟨_, rfl⟩
        have st3 : Below w2.heap.size w2 w3 := by rw [hw3]; exact (Below.refl _ _).alloc (Nat.le_refl _) _
        have B3 := Lib.hid (show Below w.heap.size w w3 from B2.out.trans (Below.mono st3 B2.out.size))
        have GX_3 := Lib.hid (show w3.heap[X]? = some (.cells (dV R0) 23 (0, 0)) by rw [hw3, hX]; exact heap_alloc_new _ _)
        have LX := Lib.hid (lt_of_heap GX_3.out)
        have HX := Lib.hid hX
        have Hw3 := Lib.hid hw3
        clear hX hw3 st3
        go_wp2_with (first
          | ((refine st_new rfl (.tmp 8) (.tmp 27) rfl R0 R0L.out (by rfl) _ _ (by rfl) (by rfl) ?_); rw [← HX.out, ← Hw3.out]))
        refine (TRO1 w3 (r1.out.below B3.out) (RO.out.at_ B3.out)).mono ?_
        rintro e w4 ⟨rfl, hb4⟩
        have B4 := Lib.hid (show Below w.heap.size w w4 from B3.out.trans (Below.mono hb4 B3.out.size))
        have GX_4 := Lib.hid ((hb4.block X LX.out).trans GX_3.out)
        have LX_4 := Lib.hid (Nat.lt_of_lt_of_le LX.out hb4.size)
        clear hb4
        obtain ⟨Y, hY⟩ : ∃ z, z = w4.heap.size := ⟨_, rfl⟩
        obtain ⟨w5, hw5⟩ : ∃ z, z = w4.alloc (.cells (dV R1) 23) := ⟨_, rfl⟩
        have st5 : Below w4.heap.size w4 w5 := by rw [hw5]; exact (Below.refl _ _).alloc (Nat.le_refl _) _
        have B5 := Lib.hid (show Below w.heap.size w w5 from B4.out.trans (Below.mono st5 B4.out.size))
        have GX_5 := Lib.hid ((st5.block X LX_4.out).trans GX_4.out)
        have LX_4_5 := Lib.hid (Nat.lt_of_lt_of_le LX_4.out st5.size)
        have GY_5 := Lib.hid (show w5.heap[Y]? = some (.cells (dV R1) 23 (0, 0)) by rw [hw5, hY]; exact heap_alloc_new _ _)
        have LY := Lib.hid (lt_of_heap GY_5.out)
        have HY := Lib.hid hY
        have Hw5 := Lib.hid hw5
        clear hY hw5 st5
        go_wp2_with (first
          | ((refine st_new rfl (.tmp 10) (.tmp 32) rfl R1 R1L.out (by rfl) _ _ (by rfl) (by rfl) ?_); rw [← HY.out, ← Hw5.out]))
        refine (Path_key x0 n0.out a0 c0 e0 l0 m0 a2 HK.out w5 (r0.out.below B5.out) HF0.out).mono ?_
        rintro e w6 ⟨rfl, hb6⟩
        have B6 := Lib.hid (show Below w.heap.size w w6 from B5.out.trans (Below.mono hb6 B5.out.size))
        have GX_6 := Lib.hid ((hb6.block X LX_4_5.out).trans GX_5.out)
        have LX_4_5_6 := Lib.hid (Nat.lt_of_lt_of_le LX_4_5.out hb6.size)
        have GY_6 := Lib.hid ((hb6.block Y LY.out).trans GY_5.out)
        have LY_6 := Lib.hid (Nat.lt_of_lt_of_le LY.out hb6.size)
        clear hb6
        go_wp2_with fail
        refine (Path_x x1 n1.out a1 c1 e1 l1 m1 a2 w6 (r1.out.below B6.out) (RO.out.at_ B6.out)).mono ?_
        rintro e w7 ⟨⟨pa7, pn7, pc7, pv7, rfl⟩, hb7⟩
        have B7 := Lib.hid (show Below w.heap.size w w7 from B6.out.trans (Below.mono hb7 B6.out.size))
        have GX_7 := Lib.hid ((hb7.block X LX_4_5_6.out).trans GX_6.out)
        have LX_4_5_6_7 := Lib.hid (Nat.lt_of_lt_of_le LX_4_5_6.out hb7.size)
        have GY_7 := Lib.hid ((hb7.block Y LY_6.out).trans GY_6.out)
        have LY_6_7 := Lib.hid (Nat.lt_of_lt_of_le LY_6.out hb7.size)
        clear hb7
        go_wp2_with fail
        go_ret
        exact ⟨rfl, B7.out⟩
    · obtain ⟨f, hff⟩ : ∃ f, f = mapF x1 := ⟨_, rfl⟩
      have TRB1 := fun w' hr => TRoot_bad x1 n1.out a1 c1 e1 l1 m1 w' hr f hff.symm (by rw [hff]; exact hf1)
      rw [← HZ.out] at TRB1
      clear hff hf1 h2
      go_enter Tryd.func5, Tryd.ntmps5
      go_wp2_with fail
      refine (LE.out).mono ?_
      rintro e w1 ⟨rfl, hb1⟩
      have B1 := Lib.hid (show Below w.heap.size w w1 from hb1)
      clear hb1
      go_wp2_with fail
      refine (TRO0 w1 (r0.out.below B1.out) (RO.out.at_ B1.out)).mono ?_
      rintro e w2 ⟨rfl, hb2⟩
      have B2 := Lib.hid (show Below w.heap.size w w2 from B1.out.trans (Below.mono hb2 B1.out.size))
      clear hb2
      obtain ⟨X, hX⟩ : ∃ z, z = w2.heap.size := ⟨_, rfl⟩
      obtain ⟨w3, hw3⟩ : ∃ z, z = w2.alloc (.cells (dV R0) 23) := ⟨_, rfl⟩
      have st3 : Below w2.heap.size w2 w3 := by rw [hw3]; exact (Below.refl _ _).alloc (Nat.le_refl _) _
      have B3 := Lib.hid (show Below w.heap.size w w3 from B2.out.trans (Below.mono st3 B2.out.size))
      have GX_3 := Lib.hid (show w3.heap[X]? = some (.cells (dV R0) 23 (0, 0)) by rw [hw3, hX]; exact heap_alloc_new _ _)
      have LX := Lib.hid (lt_of_heap GX_3.out)
      have HX := Lib.hid hX
      have Hw3 := Lib.hid hw3
      clear hX hw3 st3
      go_wp2_with (first
        | ((refine st_new rfl (.tmp 8) (.tmp 27) rfl R0 R0L.out (by rfl) _ _ (by rfl) (by rfl) ?_); rw [← HX.out, ← Hw3.out]))
      refine (TRB1 w3 (r1.out.below B3.out)).mono ?_
      rintro e w4 ⟨rfl, hb4⟩
      have B4 := Lib.hid (show Below w.heap.size w w4 from B3.out.trans (Below.mono hb4 B3.out.size))
      have GX_4 := Lib.hid ((hb4.block X LX.out).trans GX_3.out)
      have LX_4 := Lib.hid (Nat.lt_of_lt_of_le LX.out hb4.size)
      clear hb4
      obtain ⟨Y, hY⟩ : ∃ z, z = w4.heap.size := ⟨_, rfl⟩
      obtain ⟨w5, hw5⟩ : ∃ z, z = w4.alloc (.cells (dV Z) 23) := ⟨_, rfl⟩
      have st5 : Below w4.heap.size w4 w5 := by rw [hw5]; exact (Below.refl _ _).alloc (Nat.le_refl _) _
      have B5 := Lib.hid (show Below w.heap.size w w5 from B4.out.trans (Below.mono st5 B4.out.size))
      have GX_5 := Lib.hid ((st5.block X LX_4.out).trans GX_4.out)
      have LX_4_5 := Lib.hid (Nat.lt_of_lt_of_le LX_4.out st5.size)
      have GY_5 := Lib.hid (show w5.heap[Y]? = some (.cells (dV Z) 23 (0, 0)) by rw [hw5, hY]; exact heap_alloc_new _ _)
      have LY := Lib.hid (lt_of_heap GY_5.out)
      have HY := Lib.hid hY
      have Hw5 := Lib.hid hw5
      clear hY hw5 st5
      go_wp2_with (first
        | ((refine st_new rfl (.tmp 10) (.tmp 32) rfl Z ZL.out (by rfl) _ _ (by rfl) (by rfl) ?_); rw [← HY.out, ← Hw5.out]))
      refine (Path_x x0 n0.out a0 c0 e0 l0 m0 a2 w5 (r0.out.below B5.out) (RO.out.at_ B5.out)).mono ?_
      rintro e w6 ⟨⟨pa6, pn6, pc6, pv6, rfl⟩, hb6⟩
      have B6 := Lib.hid (show Below w.heap.size w w6 from B5.out.trans (Below.mono hb6 B5.out.size))
      have GX_6 := Lib.hid ((hb6.block X LX_4_5.out).trans GX_5.out)
      have LX_4_5_6 := Lib.hid (Nat.lt_of_lt_of_le LX_4_5.out hb6.size)
      have GY_6 := Lib.hid ((hb6.block Y LY.out).trans GY_5.out)
      have LY_6 := Lib.hid (Nat.lt_of_lt_of_le LY.out hb6.size)
      clear hb6
      go_wp2_with fail
      refine (Path_x x1 n1.out a1 c1 e1 l1 m1 a2 w6 (r1.out.below B6.out) (RO.out.at_ B6.out)).mono ?_
      rintro e w7 ⟨⟨pa7, pn7, pc7, pv7, rfl⟩, hb7⟩
      have B7 := Lib.hid (show Below w.heap.size w w7 from B6.out.trans (Below.mono hb7 B6.out.size))
      have GX_7 := Lib.hid ((hb7.block X LX_4_5_6.out).trans GX_6.out)
      have LX_4_5_6_7 := Lib.hid (Nat.lt_of_lt_of_le LX_4_5_6.out hb7.size)
      have GY_7 := Lib.hid ((hb7.block Y LY_6.out).trans GY_6.out)
      have LY_6_7 := Lib.hid (Nat.lt_of_lt_of_le LY_6.out hb7.size)
      clear hb7
      go_wp2_with fail
      go_ret
      exact ⟨rfl, B7.out⟩
  · obtain ⟨f, hff⟩ : ∃ f, f = mapF x0 := ⟨_, rfl⟩
    have TRB0 := fun w' hr => TRoot_bad x0 n0.out a0 c0 e0 l0 m0 w' hr f hff.symm (by rw [hff]; exact hf0)
    rw [← HZ.out] at TRB0
    clear hff hf0 h2
    go_enter Tryd.func5, Tryd.ntmps5
    go_wp2_with fail
    refine (LE.out).mono ?_
    rintro e w1 ⟨rfl, hb1⟩
    have B1 := Lib.hid (show Below w.heap.size w w1 from hb1)
    clear hb1
    go_wp2_with fail
    refine (TRB0 w1 (r0.out.below B1.out)).mono ?_
    rintro e w2 ⟨rfl, hb2⟩
    have B2 := Lib.hid (show Below w.heap.size w w2 from B1.out.trans (Below.mono hb2 B1.out.size))
    clear hb2
    obtain ⟨X, hX⟩ : ∃ z, z = w2.heap.size := ⟨_, rfl⟩
    obtain ⟨w3, hw3⟩ : ∃ z, z = w2.alloc (.cells (dV Z) 23) := ⟨_, rfl⟩
    have st3 : Below w2.heap.size w2 w3 := by rw [hw3]; exact (Below.refl _ _).alloc (Nat.le_refl _) _
    have B3 := Lib.hid (show Below w.heap.size w w3 from B2.out.trans (Below.mono st3 B2.out.size))
    have GX_3 := Lib.hid (show w3.heap[X]? = some (.cells (dV Z) 23 (0, 0)) by rw [hw3, hX]; exact heap_alloc_new _ _)
    have LX := Lib.hid (lt_of_heap GX_3.out)
    have HX := Lib.hid hX
    have Hw3 := Lib.hid hw3
    clear hX hw3 st3
    go_wp2_with (first
      | ((refine st_new rfl (.tmp 8) (.tmp 27) rfl Z ZL.out (by rfl) _ _ (by rfl) (by rfl) ?_); rw [← HX.out, ← Hw3.out]))
    refine (Root_x x1 n1.out a1 c1 e1 l1 m1 w3 (r1.out.below B3.out) (RO.out.at_ B3.out)).mono ?_
    rintro e w4 ⟨⟨Q5, v5, rfl, ql5⟩, hb4⟩
    have QL5 := Lib.hid ql5
    clear ql5
    have B4 := Lib.hid (show Below w.heap.size w w4 from B3.out.trans (Below.mono hb4 B3.out.size))
    have GX_4 := Lib.hid ((hb4.block X LX.out).trans GX_3.out)
    have LX_4 := Lib.hid (Nat.lt_of_lt_of_le LX.out hb4.size)
    clear hb4
    obtain ⟨Y, hY⟩ : ∃ z, z = w4.heap.size := ⟨_, rfl⟩
    obtain ⟨w5, hw5⟩ : ∃ z, z = w4.alloc (.cells (dV Q5) 23) := ⟨_, rfl⟩
    have st5 : Below w4.heap.size w4 w5 := by rw [hw5]; exact (Below.refl _ _).alloc (Nat.le_refl _) _
    have B5 := Lib.hid (show Below w.heap.size w w5 from B4.out.trans (Below.mono st5 B4.out.size))
    have GX_5 := Lib.hid ((st5.block X LX_4.out).trans GX_4.out)
    have LX_4_5 := Lib.hid (Nat.lt_of_lt_of_le LX_4.out st5.size)
    have GY_5 := Lib.hid (show w5.heap[Y]? = some (.cells (dV Q5) 23 (0, 0)) by rw [hw5, hY]; exact heap_alloc_new _ _)
    have LY := Lib.hid (lt_of_heap GY_5.out)
    have HY := Lib.hid hY
    have Hw5 := Lib.hid hw5
    clear hY hw5 st5
    go_wp2_with (first
      | ((refine st_new rfl (.tmp 10) (.tmp 32) rfl Q5 QL5.out (by rfl) _ _ (by rfl) (by rfl) ?_); rw [← HY.out, ← Hw5.out]))
    refine (Path_x x0 n0.out a0 c0 e0 l0 m0 a2 w5 (r0.out.below B5.out) (RO.out.at_ B5.out)).mono ?_
    rintro e w6 ⟨⟨pa6, pn6, pc6, pv6, rfl⟩, hb6⟩
    have B6 := Lib.hid (show Below w.heap.size w w6 from B5.out.trans (Below.mono hb6 B5.out.size))
    have GX_6 := Lib.hid ((hb6.block X LX_4_5.out).trans GX_5.out)
    have LX_4_5_6 := Lib.hid (Nat.lt_of_lt_of_le LX_4_5.out hb6.size)
    have GY_6 := Lib.hid ((hb6.block Y LY.out).trans GY_5.out)
    have LY_6 := Lib.hid (Nat.lt_of_lt_of_le LY.out hb6.size)
    clear hb6
    go_wp2_with fail
    refine (Path_x x1 n1.out a1 c1 e1 l1 m1 a2 w6 (r1.out.below B6.out) (RO.out.at_ B6.out)).mono ?_
    rintro e w7 ⟨⟨pa7, pn7, pc7, pv7, rfl⟩, hb7⟩
    have B7 := Lib.hid (show Below w.heap.size w w7 from B6.out.trans (Below.mono hb7 B6.out.size))
    have GX_7 := Lib.hid ((hb7.block X LX_4_5_6.out).trans GX_6.out)
    have LX_4_5_6_7 := Lib.hid (Nat.lt_of_lt_of_le LX_4_5_6.out hb7.size)
    have GY_7 := Lib.hid ((hb7.block Y LY_6.out).trans GY_6.out)
    have LY_6_7 := Lib.hid (Nat.lt_of_lt_of_le LY_6.out hb7.size)
    clear hb7
    go_wp2_with fail
    go_ret
    exact ⟨rfl, B7.out⟩

set_option maxRecDepth 100000 in
theorem lifted (os : Os) (started : os.Started) (H : Type) (enc : TypeId × Value → H) :
    ReturnsInHanded {} Tryd.checked os 5 .any (fun w args => (Rows.trieBindsSpec.pre enc Tryd.prog Tryd.f5 Rows.trieBindsRow.domain false w args ∧ laidMetH Tryd.prog Laid.list w) ∧ sizedMet enc Tryd.prog Tryd.f5 (OpenSpec.ofChange Rows.trieBindsSpec) false w args) (Rows.trieBindsSpec.post enc Tryd.prog Tryd.f5 false true false false) := by
  refine returnsInHanded_of_change_and (C := Tryd.checked) (X := fun w _ => laidMetH Tryd.prog Laid.list w) (fun _ _ _ hh h => h.of_heap hh) Laid.own started (by kernel_rfl) Tryd.func5
    (ChangeSpec.witness_at (enc := enc) (C := Tryd.checked) (os := os) (X := fun w _ => laidMetH Tryd.prog Laid.list w) false (laidWorld os) #[.slice none 0 0, .slice none 0 0, .int .i64 0] 8 rfl (by kernel_rfl) (by kernel_rfl) (by kernel_rfl) (by kernel_rfl) (by kernel_rfl) (laidWorld_met os _)) ?_
  intro W base args ds gs before hval0 hW _ hsz hL _
  have hro := rounds_of_laid hL
  have hval : ∀ (j : Nat) t v, Tryd.f5.params[j]? = some t → args[j]? = some v → Value.okWide Tryd.prog W .any base t v := hval0
  have hW' := hW
  obtain ⟨p, q, hA0, hV, rfl, hfz, hnd⟩ := hW
  have hA : DataW.TrodAll enc Tryd.prog W 0 (fun _ => true) true Tryd.f5.params.toList args.toList ds p := hA0
  rw [Tryd.params5] at hA hval
  obtain ⟨v0, vs0, d0, ds0, p0, q0, hargs, rfl, rfl, h0, r0⟩ := trodAll_cons hA
  obtain ⟨v1, vs1, d1, ds1, p1, q1, rfl, rfl, rfl, h1, r1⟩ := trodAll_cons r0
  obtain ⟨v2, vs2, d2, ds2, p2, q2, rfl, rfl, rfl, h2, r2⟩ := trodAll_cons r1
  obtain ⟨rfl, rfl, rfl⟩ := trodAll_nil r2
  obtain rfl : args = #[v0, v1, v2] := by cases args; simp_all
  obtain ⟨rfl, rfl⟩ := trodVars_none hV
  have k0 := h0
  have lt0 : ∀ x ∈ p0, x.block < W.heap.size := by obtain ⟨m, hm⟩ := k0; exact DataW.trod_lt m _ _ _ hm
  obtain ⟨x0, a0, c0, e0, rfl, l0, m0, n0, r_0⟩ := open_ents Tryd.underlying40 Tryd.underlying35 Tryd.underlying3 Tryd.underlying23 Tryd.underlying5 (by kernel_rfl) (by kernel_rfl) (by kernel_rfl) (by kernel_rfl) rfl rfl (hval 0 40 v0 rfl rfl) h0
  have k1 := h1
  have lt1 : ∀ x ∈ p1, x.block < W.heap.size := by obtain ⟨m, hm⟩ := k1; exact DataW.trod_lt m _ _ _ hm
  obtain ⟨x1, a1, c1, e1, rfl, l1, m1, n1, r_1⟩ := open_ents Tryd.underlying40 Tryd.underlying35 Tryd.underlying3 Tryd.underlying23 Tryd.underlying5 (by kernel_rfl) (by kernel_rfl) (by kernel_rfl) (by kernel_rfl) rfl rfl (hval 1 40 v1 rfl rfl) h1
  have k2 := h2
  have lt2 : ∀ x ∈ p2, x.block < W.heap.size := by obtain ⟨m, hm⟩ := k2; exact DataW.trod_lt m _ _ _ hm
  obtain ⟨a2, rfl, _, _, w2⟩ := open_int Tryd.underlying3 (hval 2 3 v2 rfl rfl) h2
  have b2 := bounds_i64 w2
  clear hA0 hval0
  refine (walk x0 a0 c0 e0 x1 a1 c1 e1 a2 W l0 m0 n0 r_0 l1 m1 n1 r_1 b2 hro).mono fun e W' ⟨he, bel⟩ => ?_
  subst he
  exact ⟨_, rfl, _, _, _, [], _, [], hW', trodAll_mk1 (shut_bool Tryd.underlying4 _), (trodAll_cons_mk (Below.trod Laid.laidOut (by kernel_rfl) (of_decide_eq_true (by kernel_rfl)) k0 bel lt0) (trodAll_cons_mk (Below.trod Laid.laidOut (by kernel_rfl) (of_decide_eq_true (by kernel_rfl)) k1 bel lt1) (trodAll_cons_mk (Below.trod Laid.laidOut (by kernel_rfl) (of_decide_eq_true (by kernel_rfl)) k2 bel lt2) trodAll_mk0))), rfl, bel.frame _, fun h => by cases h⟩

theorem over : Rows.trieBindsRow.holds Tryd.pinned (OpenSpec.ofChange Rows.trieBindsSpec) :=
  OpenClaim.holds_of_wide 5 Tryd.f5 rfl rfl rfl rfl rfl rfl rfl ⟨rfl, rfl, rfl, rfl, rfl⟩ rfl rfl rfl rfl rfl (by kernel_rfl) Tryd.func5 (by kernel_rfl)
    (of_decide_eq_true (by kernel_rfl)) (by unfold Func.isWrapper; first | (rw [if_pos (by decide +kernel)]; kernel_rfl) | (rw [if_neg (by decide +kernel)]; exact ⟨rfl, rfl⟩))
    (fun os started H enc _ => lifted os started H enc)

theorem proved : Rows.TrieBindsCardSaid :=
  Claim7.holds_tied_plain_at .later [] [.data] true (true, "dc8737acee50ade5d9e6156f300c62d149993f3a6545deb441f0e2b50ff31829") true
    over (fun _ h => by cases h) (by kernel_rfl) (fun _ h => by cases h) trieBinds_row_tie rfl ⟨rfl, rfl⟩ (by kernel_rfl) rfl
    (fun f fn hf hfn => by
      obtain rfl : f = 5 := Option.some.inj ((show Tryd.prog.funcNamed "oathbook/oathbooklaw2.TrieBinds" = some 5 by kernel_rfl).symm.trans hf) |>.symm
      obtain rfl : fn = Tryd.f5 := (Option.some.inj (Tryd.func5.symm.trans hfn)).symm
      exact ⟨by kernel_rfl, stand_of_all (by kernel_rfl)⟩)
    (by kernel_rfl)
#print axioms proved
end trieBinds
end Go.Proofs.YtpeomfehdccmmaaDoor
