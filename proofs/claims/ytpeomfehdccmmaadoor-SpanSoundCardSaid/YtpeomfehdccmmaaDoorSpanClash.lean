/- Walk: the laws' own 'clash' of two ways up a tree. -/
import Derived.Test.YtpeomfehdccmmaaDoorTreeFolded
import Derived.Test.YtpeomfehdccmmaaDoorSpanEq
import Derived.Test.YtpeomfehdccmmaaDoorArrA
import Derived.BigQuiet
namespace Go.Proofs.YtpeomfehdccmmaaDoor
open Go.RowKit
set_option linter.unusedVariables false
set_option linter.unusedSimpArgs false
theorem at_ld {P : Program} {ops : Array Oper} {rest : List Oper} {op : Oper} {a : Act} {w : World} {Q : Exit → Act → World → Prop} (ty : TypeId) (x : Operand) (ho : op.op = .load ty x) (h : wpList P ops Q (op :: rest) a w) : wpList P ops Q (op :: rest) a w := h
theorem at_st {P : Program} {ops : Array Oper} {rest : List Oper} {op : Oper} {a : Act} {w : World} {Q : Exit → Act → World → Prop} (ty : TypeId) (x y : Operand) (ho : op.op = .store ty x y) (h : wpList P ops Q (op :: rest) a w) : wpList P ops Q (op :: rest) a w := h
theorem at_bin {P : Program} {ops : Array Oper} {rest : List Oper} {op : Oper} {a : Act} {w : World} {Q : Exit → Act → World → Prop} (b : BinOp) (ty : TypeId) (x y : Operand) (t : TypeId) (ho : op.op = .binOp b ty x y t) (h : wpList P ops Q (op :: rest) a w) : wpList P ops Q (op :: rest) a w := h

set_option maxRecDepth 20000 in
set_option maxHeartbeats 16000000 in
theorem SClash_calls : ∀ (N n i : Nat), n ≤ N → 1 ≤ n → n ≤ 256 → i < n → ∀ (la lb : List UInt8) (ps qs : List (List UInt8)), la.length = 32 → lb.length = 32 → la ≠ lb → (∀ p ∈ ps, p.length = 32) → (∀ p ∈ qs, p.length = 32) → ps.length = tlong i n → qs.length = tlong i n → tfold la i n ps = tfold lb i n qs → ∀ (pa : Option Addr) (pc pe : Nat) (qa : Option Addr) (qc qe : Nat), ps.length ≤ pc → pc ≤ 9223372036854775807 → qs.length ≤ qc → qc ≤ 9223372036854775807 → ∀ (w : World), Rd w pa pe (ps.flatten.map vB) → Rd w qa qe (qs.flatten.map vB) →
    Calls Tryd.prog 39 #[.agg (dV la), .slice pa ps.length pc, .agg (dV lb), .slice qa qs.length qc, .int .i64 (i : Int), .int .i64 (n : Int)] w fun e w' => e = .returned (.bool true) ∧ Below w.heap.size w w' := by
  intro N
  induction N with
  | zero => intro n i hN h1; omega
  | succ N ih =>
    intro n i hN h1 h256 hi la lb ps qs hla hlb hne hpd hqd hpl hql hfo pa pc pe qa qc qe hpc hpc2 hqc hqc2 w hrp hrq
    by_cases h2 : 2 ≤ n
    · obtain ⟨h, hh⟩ : ∃ h, h = hf n := ⟨_, rfl⟩
      have hlt : h < n := by rw [hh]; exact hf_lt h2
      have hpos : 0 < h := by rw [hh]; exact hf_pos _
      have hps0 : ps.length ≠ 0 := by
        rw [hpl]
        by_cases hih : i < h
        · rw [tlong_left h2 (by rw [← hh]; exact hih)]; omega
        · rw [tlong_right h2 (by rw [← hh]; exact hih)]; omega
      obtain ⟨m, hm⟩ : ∃ m, ps.length = m + 1 := ⟨ps.length - 1, by omega⟩
      have hm2 : qs.length = m + 1 := by omega
      obtain ⟨rs, hrs⟩ : ∃ rs, rs = ps.take m := ⟨_, rfl⟩
      obtain ⟨x, hx⟩ : ∃ x, x = ps[m]'(by omega) := ⟨_, rfl⟩
      have hsp : ps = rs ++ [x] := by
        rw [hrs, hx, ← List.take_succ_eq_append_getElem (by omega), List.take_of_length_le (by omega)]
      obtain ⟨ss, hss⟩ : ∃ ss, ss = qs.take m := ⟨_, rfl⟩
      obtain ⟨y, hy⟩ : ∃ y, y = qs[m]'(by omega) := ⟨_, rfl⟩
      have hsq : qs = ss ++ [y] := by
        rw [hss, hy, ← List.take_succ_eq_append_getElem (by omega), List.take_of_length_le (by omega)]
      obtain ⟨PB, po, hpa, hPB, hrgx⟩ := hrp.range hpd (k := m) (by omega)
      obtain ⟨QB, qo, hqa, hQB, hrgy⟩ := hrq.range hqd (k := m) (by omega)
      subst hpa
      subst hqa
      rw [← hx] at hrgx
      rw [← hy] at hrgy
      have hrl : rs.length = m := by rw [hrs, List.length_take]; omega
      have hsl : ss.length = m := by rw [hss, List.length_take]; omega
      have hrd : ∀ p ∈ rs, p.length = 32 := fun p hp => hpd p (by rw [hsp]; exact List.mem_append_left _ hp)
      have hsd : ∀ p ∈ ss, p.length = 32 := fun p hp => hqd p (by rw [hsq]; exact List.mem_append_left _ hp)
      have hxl : x.length = 32 := hpd x (by rw [hsp]; simp)
      have hyl : y.length = 32 := hqd y (by rw [hsq]; simp)
      have hrr : Rd w (some ⟨PB, po, none⟩) pe (rs.flatten.map vB) := by rw [hrs, flat_take ps hpd, List.map_take]; exact hrp.take _
      have hrs2 : Rd w (some ⟨QB, qo, none⟩) qe (ss.flatten.map vB) := by rw [hss, flat_take qs hqd, List.map_take]; exact hrq.take _
      obtain ⟨H, hH⟩ : ∃ H, H = w.heap.size := ⟨_, rfl⟩
      obtain ⟨v0, hv0⟩ : ∃ z, z = w.alloc (.cells (dV la) 23) := ⟨_, rfl⟩
      obtain ⟨v1, hv1⟩ : ∃ z, z = v0.alloc (.cells (dV lb) 23) := ⟨_, rfl⟩
      have q0 : v0.heap.size = H + 1 := by rw [hv0, hH]; exact World.size_alloc _ _
      have q1 : v1.heap.size = H + 1 + 1 := by rw [hv1, World.size_alloc, q0]
      have s0 : Below (H) w v0 := by rw [hv0, hH]; exact (Below.refl _ _).alloc (Nat.le_refl _) _
      have s1 : Below (H + 1) v0 v1 := by rw [hv1, ← q0]; exact (Below.refl _ _).alloc (Nat.le_refl _) _
      have t1 : Below (H + 1 + 1) v1 v1 := Below.refl _ _
      have t0 : Below (H + 1) v0 v1 := s1.trans (t1.mono (by omega))
      have bL : Below H w v1 := s0.trans (t0.mono (by omega))
      have g0 : v1.heap[H]? = some (.cells (dV la) 23 (0, 0)) := by
        have g : v0.heap[H]? = some (.cells (dV la) 23 (0, 0)) := by rw [hv0, hH]; exact heap_alloc_new _ _
        exact (t0.block _ (by omega)).trans g
      have g1 : v1.heap[H + 1]? = some (.cells (dV lb) 23 (0, 0)) := by
        have g : v1.heap[H + 1]? = some (.cells (dV lb) 23 (0, 0)) := by rw [hv1, ← q0]; exact heap_alloc_new _ _
        exact (t1.block _ (by omega)).trans g
      have bW : Below w.heap.size w v1 := by rw [← hH]; exact bL
      have hsz : H + 1 < v1.heap.size := by omega
      have HH := Lib.hid hH
      have HW0 := Lib.hid hv0
      have HW1 := Lib.hid hv1
      have BL := Lib.hid bL
      have BW := Lib.hid bW
      have QL := Lib.hid q1
      have G0 := Lib.hid g0
      have G1 := Lib.hid g1
      clear hH hv0 hv1 q0 q1 s0 s1 t0 t1 g0 g1 bL bW
      obtain ⟨K, hK⟩ : ∃ K, K = H + 1 := ⟨_, rfl⟩
      have HK := Lib.hid hK
      have GH_0 := G0
      have LH_0 := Lib.hid (lt_of_heap G0.out)
      have GK_0 := Lib.hid (show v1.heap[K]? = some (.cells (dV lb) 23 (0, 0)) by rw [hK]; exact G1.out)
      have LK_0 := Lib.hid (lt_of_heap GK_0.out)
      have LAL := Lib.hid hla
      have LBL := Lib.hid hlb
      have XL := Lib.hid hxl
      have YL := Lib.hid hyl
      have HRX := Lib.hid (show v1.rangeAt PB (po + m * 32) (x.map vB) from fun j v hj => (BW.out.cell (p := ⟨PB, po + m * 32 + j, none⟩) hPB).trans (hrgx j v hj))
      have HRY := Lib.hid (show v1.rangeAt QB (qo + m * 32) (y.map vB) from fun j v hj => (BW.out.cell (p := ⟨QB, qo + m * 32 + j, none⟩) hQB).trans (hrgy j v hj))
      have LQB := Lib.hid (Nat.lt_of_lt_of_le hQB BW.out.size)
      have HC := RHalf_calls n h2 (by omega) v1
      rw [← hh] at HC
      have HHC := Lib.hid HC
      have z1 : ((n : Int) == 1) = false := by rw [beq_eq_false_iff_ne]; omega
      have e5 : IntKind.i64.wrap ((m : Int) + 1 - 1) = (m : Int) := by rw [IntWalk.i64_in _ (by omega)]; omega
      have e5b : IntKind.i64.wrap ((m : Int)) = (m : Int) := IntWalk.i64_in _ (by omega)
      have m0 : (0 : Int) ≤ (m : Int) := by omega
      have m1 : (m : Int) < (m : Int) + 1 := by omega
      have m2 : (m : Int) ≤ (pc : Int) := by omega
      have m3 : (m : Int) ≤ (qc : Int) := by omega
      rw [hm, hm2]
      by_cases hih : i < h
      · have fa := tfold_left (l := la) h2 (by rw [← hh]; exact hih) (by rw [← hsp]; exact hpl)
        have fb := tfold_left (l := lb) h2 (by rw [← hh]; exact hih) (by rw [← hsq]; exact hql)
        rw [← hh, ← hsp] at fa
        rw [← hh, ← hsq] at fb
        have ht := tlong_left h2 (by rw [← hh]; exact hih)
        rw [← hh] at ht
        have hIM : i < h := hih
        have z2 : decide ((i : Int) < (h : Int)) = true := decide_eq_true (by omega)
        have z3 : decide (i < h) = true := decide_eq_true hih
        have hr1 : rs.length = tlong i h := by omega
        have hs1 : ss.length = tlong i h := by omega
        have FU := fun w' hb => RFolded_calls h h i (Nat.le_refl _) (by omega) (by omega) hIM la rs hla hrd hr1 (some ⟨PB, po, none⟩) pc pe (by omega) hpc2 w' ((hrr.below BW.out).below hb)
        have FV := fun w' hb => RFolded_calls h h i (Nat.le_refl _) (by omega) (by omega) hIM lb ss hlb hsd hs1 (some ⟨QB, qo, none⟩) qc qe (by omega) hqc2 w' ((hrs2.below BW.out).below hb)
        have IH := fun hf w' hb => ih h i (by omega) (by omega) (by omega) hIM la lb rs ss hla hlb hne hrd hsd hr1 hs1 hf (some ⟨PB, po, none⟩) pc pe (some ⟨QB, qo, none⟩) qc qe (by omega) hpc2 (by omega) hqc2 w' ((hrr.below BW.out).below hb) ((hrs2.below BW.out).below hb)
        rw [hrl] at FU IH
        rw [hsl] at FV IH
        obtain ⟨u, hu⟩ : ∃ u, u = tfold la i h rs := ⟨_, rfl⟩
        obtain ⟨v, hv⟩ : ∃ v, v = tfold lb i h ss := ⟨_, rfl⟩
        have UL := Lib.hid (show u.length = 32 by rw [hu]; exact tfold_length _ _ _ _ hla)
        have VL := Lib.hid (show v.length = 32 by rw [hv]; exact tfold_length _ _ _ _ hlb)
        rw [← hu] at FU IH fa
        rw [← hv] at FV IH fb
        obtain ⟨R, hR⟩ : ∃ R, R = tnode u x := ⟨_, rfl⟩
        have hR2 : R = tnode v y := by rw [hR, ← fa, hfo, fb]
        have RL := Lib.hid (show R.length = 32 by rw [hR]; exact tnode_length _ _)
        have RR := Lib.hid (show (R == R) = true by simp)
        have HR := Lib.hid hR
        have HR2 := Lib.hid hR2
        have HFU := Lib.hid FU
        have HFV := Lib.hid FV
        have HIH := Lib.hid IH
        have HH2 := HH
        clear FU FV IH hR hR2 fa fb hu hv hr1 hs1 ht hIM hrr hrs2 hrgx hrgy hla hlb hxl hyl hrd hsd hrl hsl hsp hsq hrs hss hx hy hm hm2 hps0 hfo hpl hql hpd hqd hrp hrq hne ih hN h256 hh h2 hih hK HC hPB hQB
        by_cases huv : u = v
        · have UV := Lib.hid (show (u == v) = true by rw [huv]; simp)
          have HUV := Lib.hid huv
          clear huv
          by_cases hxy : x = y
          · have XY := Lib.hid (show (x == y) = true by rw [hxy]; simp)
            clear hxy
            go_enter Tryd.func39, Tryd.ntmps39
            go_upto_region 1 with fail
            rw [← HH.out, ← HW0.out, ← HW1.out, ← HK.out]
            go_wp2_with fail
            refine HHC.out.mono ?_
            rintro e w0 ⟨rfl, rfl⟩
            obtain ⟨X, hX⟩ : ∃ z, z = v1.heap.size := ⟨_, rfl⟩
            obtain ⟨w1, hw1⟩ : ∃ z, z = v1.alloc (.cells (dV x) 23) := ⟨_, rfl⟩
            have st1 : Below v1.heap.size v1 w1 := by rw [hw1]; exact (Below.refl _ _).alloc (Nat.le_refl _) _
            have B1 := Lib.hid (show Below v1.heap.size v1 w1 from Below.trans (Below.refl v1.heap.size v1) (Below.mono st1 (Below.size (Below.refl v1.heap.size v1))))
            have GH_1 := Lib.hid ((Below.block st1 H LH_0.out).trans GH_0.out)
            have LH_1 := Lib.hid (Nat.lt_of_lt_of_le LH_0.out (Below.size st1))
            have GK_1 := Lib.hid ((Below.block st1 K LK_0.out).trans GK_0.out)
            have LK_1 := Lib.hid (Nat.lt_of_lt_of_le LK_0.out (Below.size st1))
            have GX_1 := Lib.hid (show w1.heap[X]? = some (.cells (dV x) 23 (0, 0)) by rw [hw1, hX]; exact heap_alloc_new _ _)
            have LX_1 := Lib.hid (lt_of_heap GX_1.out)
            have HX := Lib.hid hX
            have Hw1 := Lib.hid hw1
            clear hX hw1 st1
            obtain ⟨Y, hY⟩ : ∃ z, z = w1.heap.size := ⟨_, rfl⟩
            obtain ⟨w2, hw2⟩ : ∃ z, z = w1.alloc (.cells (dV y) 23) := ⟨_, rfl⟩
            have st2 : Below w1.heap.size w1 w2 := by rw [hw2]; exact (Below.refl _ _).alloc (Nat.le_refl _) _
            have B2 := Lib.hid (show Below v1.heap.size v1 w2 from Below.trans B1.out (Below.mono st2 (Below.size B1.out)))
            have GH_2 := Lib.hid ((Below.block st2 H LH_1.out).trans GH_1.out)
            have LH_2 := Lib.hid (Nat.lt_of_lt_of_le LH_1.out (Below.size st2))
            have GK_2 := Lib.hid ((Below.block st2 K LK_1.out).trans GK_1.out)
            have LK_2 := Lib.hid (Nat.lt_of_lt_of_le LK_1.out (Below.size st2))
            have GX_2 := Lib.hid ((Below.block st2 X LX_1.out).trans GX_1.out)
            have LX_2 := Lib.hid (Nat.lt_of_lt_of_le LX_1.out (Below.size st2))
            have GY_2 := Lib.hid (show w2.heap[Y]? = some (.cells (dV y) 23 (0, 0)) by rw [hw2, hY]; exact heap_alloc_new _ _)
            have LY_2 := Lib.hid (lt_of_heap GY_2.out)
            have HY := Lib.hid hY
            have Hw2 := Lib.hid hw2
            clear hY hw2 st2
            go_wp2_with (first
              | (refine at_ld 23 (.tmp 28) rfl ?_; (refine ld_digG rfl (.tmp 28) rfl PB (po + m * 32) (by rfl) x XL.out HRX.out ?_); simp only [Act.put, List.setIfInBounds_toArray, List.set_cons_zero, List.set_cons_succ])
              | (refine at_st 23 (.tmp 14) (.tmp 29) rfl ?_; (refine st_new rfl (.tmp 14) (.tmp 29) rfl x XL.out (by rfl) _ _ (by rfl) (by rfl) ?_); rw [← HX.out, ← Hw1.out])
              | (refine at_ld 23 (.tmp 34) rfl ?_; (refine ld_digG rfl (.tmp 34) rfl QB (qo + m * 32) (by rfl) y YL.out (fun j v hj => (Below.cell B1.out (p := ⟨QB, qo + m * 32 + j, none⟩) LQB.out).trans (HRY.out j v hj)) ?_); simp only [Act.put, List.setIfInBounds_toArray, List.set_cons_zero, List.set_cons_succ])
              | (refine at_st 23 (.tmp 15) (.tmp 35) rfl ?_; (refine st_new rfl (.tmp 15) (.tmp 35) rfl y YL.out (by rfl) _ _ (by rfl) (by rfl) ?_); rw [← HY.out, ← Hw2.out])
              | (refine at_ld 23 (.tmp 6) rfl ?_; (refine ld_digG rfl (.tmp 6) rfl (H) 0 (by rfl) la LAL.out (range_of_row GH_2.out) ?_); simp only [Act.put, List.setIfInBounds_toArray, List.set_cons_zero, List.set_cons_succ]))
            refine (HFU.out w2 B2.out).mono ?_
            rintro e w3 ⟨rfl, hb3⟩
            have B3 := Lib.hid (show Below v1.heap.size v1 w3 from Below.trans B2.out (Below.mono hb3 (Below.size B2.out)))
            have GH_3 := Lib.hid ((Below.block hb3 H LH_2.out).trans GH_2.out)
            have LH_3 := Lib.hid (Nat.lt_of_lt_of_le LH_2.out (Below.size hb3))
            have GK_3 := Lib.hid ((Below.block hb3 K LK_2.out).trans GK_2.out)
            have LK_3 := Lib.hid (Nat.lt_of_lt_of_le LK_2.out (Below.size hb3))
            have GX_3 := Lib.hid ((Below.block hb3 X LX_2.out).trans GX_2.out)
            have LX_3 := Lib.hid (Nat.lt_of_lt_of_le LX_2.out (Below.size hb3))
            have GY_3 := Lib.hid ((Below.block hb3 Y LY_2.out).trans GY_2.out)
            have LY_3 := Lib.hid (Nat.lt_of_lt_of_le LY_2.out (Below.size hb3))
            clear hb3
            obtain ⟨U, hU⟩ : ∃ z, z = w3.heap.size := ⟨_, rfl⟩
            obtain ⟨w4, hw4⟩ : ∃ z, z = w3.alloc (.cells (dV u) 23) := ⟨_, rfl⟩
            have st4 : Below w3.heap.size w3 w4 := by rw [hw4]; exact (Below.refl _ _).alloc (Nat.le_refl _) _
            have B4 := Lib.hid (show Below v1.heap.size v1 w4 from Below.trans B3.out (Below.mono st4 (Below.size B3.out)))
            have GH_4 := Lib.hid ((Below.block st4 H LH_3.out).trans GH_3.out)
            have LH_4 := Lib.hid (Nat.lt_of_lt_of_le LH_3.out (Below.size st4))
            have GK_4 := Lib.hid ((Below.block st4 K LK_3.out).trans GK_3.out)
            have LK_4 := Lib.hid (Nat.lt_of_lt_of_le LK_3.out (Below.size st4))
            have GX_4 := Lib.hid ((Below.block st4 X LX_3.out).trans GX_3.out)
            have LX_4 := Lib.hid (Nat.lt_of_lt_of_le LX_3.out (Below.size st4))
            have GY_4 := Lib.hid ((Below.block st4 Y LY_3.out).trans GY_3.out)
            have LY_4 := Lib.hid (Nat.lt_of_lt_of_le LY_3.out (Below.size st4))
            have GU_4 := Lib.hid (show w4.heap[U]? = some (.cells (dV u) 23 (0, 0)) by rw [hw4, hU]; exact heap_alloc_new _ _)
            have LU_4 := Lib.hid (lt_of_heap GU_4.out)
            have HU := Lib.hid hU
            have Hw4 := Lib.hid hw4
            clear hU hw4 st4
            go_wp2_with (first
              | (refine at_st 23 (.tmp 18) (.tmp 62) rfl ?_; (refine st_new rfl (.tmp 18) (.tmp 62) rfl u UL.out (by rfl) _ _ (by rfl) (by rfl) ?_); rw [← HU.out, ← Hw4.out])
              | (refine at_ld 23 (.tmp 8) rfl ?_; (refine ld_digG rfl (.tmp 8) rfl (K) 0 (by rfl) lb LBL.out (range_of_row GK_4.out) ?_); simp only [Act.put, List.setIfInBounds_toArray, List.set_cons_zero, List.set_cons_succ]))
            refine (HFV.out w4 B4.out).mono ?_
            rintro e w5 ⟨rfl, hb5⟩
            have B5 := Lib.hid (show Below v1.heap.size v1 w5 from Below.trans B4.out (Below.mono hb5 (Below.size B4.out)))
            have GH_5 := Lib.hid ((Below.block hb5 H LH_4.out).trans GH_4.out)
            have LH_5 := Lib.hid (Nat.lt_of_lt_of_le LH_4.out (Below.size hb5))
            have GK_5 := Lib.hid ((Below.block hb5 K LK_4.out).trans GK_4.out)
            have LK_5 := Lib.hid (Nat.lt_of_lt_of_le LK_4.out (Below.size hb5))
            have GX_5 := Lib.hid ((Below.block hb5 X LX_4.out).trans GX_4.out)
            have LX_5 := Lib.hid (Nat.lt_of_lt_of_le LX_4.out (Below.size hb5))
            have GY_5 := Lib.hid ((Below.block hb5 Y LY_4.out).trans GY_4.out)
            have LY_5 := Lib.hid (Nat.lt_of_lt_of_le LY_4.out (Below.size hb5))
            have GU_5 := Lib.hid ((Below.block hb5 U LU_4.out).trans GU_4.out)
            have LU_5 := Lib.hid (Nat.lt_of_lt_of_le LU_4.out (Below.size hb5))
            clear hb5
            obtain ⟨V, hV⟩ : ∃ z, z = w5.heap.size := ⟨_, rfl⟩
            obtain ⟨w6, hw6⟩ : ∃ z, z = w5.alloc (.cells (dV v) 23) := ⟨_, rfl⟩
            have st6 : Below w5.heap.size w5 w6 := by rw [hw6]; exact (Below.refl _ _).alloc (Nat.le_refl _) _
            have B6 := Lib.hid (show Below v1.heap.size v1 w6 from Below.trans B5.out (Below.mono st6 (Below.size B5.out)))
            have GH_6 := Lib.hid ((Below.block st6 H LH_5.out).trans GH_5.out)
            have LH_6 := Lib.hid (Nat.lt_of_lt_of_le LH_5.out (Below.size st6))
            have GK_6 := Lib.hid ((Below.block st6 K LK_5.out).trans GK_5.out)
            have LK_6 := Lib.hid (Nat.lt_of_lt_of_le LK_5.out (Below.size st6))
            have GX_6 := Lib.hid ((Below.block st6 X LX_5.out).trans GX_5.out)
            have LX_6 := Lib.hid (Nat.lt_of_lt_of_le LX_5.out (Below.size st6))
            have GY_6 := Lib.hid ((Below.block st6 Y LY_5.out).trans GY_5.out)
            have LY_6 := Lib.hid (Nat.lt_of_lt_of_le LY_5.out (Below.size st6))
            have GU_6 := Lib.hid ((Below.block st6 U LU_5.out).trans GU_5.out)
            have LU_6 := Lib.hid (Nat.lt_of_lt_of_le LU_5.out (Below.size st6))
            have GV_6 := Lib.hid (show w6.heap[V]? = some (.cells (dV v) 23 (0, 0)) by rw [hw6, hV]; exact heap_alloc_new _ _)
            have LV_6 := Lib.hid (lt_of_heap GV_6.out)
            have HV := Lib.hid hV
            have Hw6 := Lib.hid hw6
            clear hV hw6 st6
            go_wp2_with (first
              | (refine at_st 23 (.tmp 19) (.tmp 67) rfl ?_; (refine st_new rfl (.tmp 19) (.tmp 67) rfl v VL.out (by rfl) _ _ (by rfl) (by rfl) ?_); rw [← HV.out, ← Hw6.out])
              | (refine at_ld 23 (.tmp 18) rfl ?_; (refine ld_digG rfl (.tmp 18) rfl (U) 0 (by rfl) u UL.out (range_of_row GU_6.out) ?_); simp only [Act.put, List.setIfInBounds_toArray, List.set_cons_zero, List.set_cons_succ])
              | (refine at_ld 23 (.tmp 19) rfl ?_; (refine ld_digG rfl (.tmp 19) rfl (V) 0 (by rfl) v VL.out (range_of_row GV_6.out) ?_); simp only [Act.put, List.setIfInBounds_toArray, List.set_cons_zero, List.set_cons_succ])
              | (refine at_bin .neq 23 (.tmp 68) (.tmp 69) _ rfl ?_; (refine neq_digG rfl (.tmp 68) (.tmp 69) _ rfl u v (by rfl) (by rfl) UL.out VL.out ?_); rw [UV.out]; simp only [Act.put, List.setIfInBounds_toArray, List.set_cons_zero, List.set_cons_succ])
              | (refine at_ld 23 (.tmp 14) rfl ?_; (refine ld_digG rfl (.tmp 14) rfl (X) 0 (by rfl) x XL.out (range_of_row GX_6.out) ?_); simp only [Act.put, List.setIfInBounds_toArray, List.set_cons_zero, List.set_cons_succ])
              | (refine at_ld 23 (.tmp 15) rfl ?_; (refine ld_digG rfl (.tmp 15) rfl (Y) 0 (by rfl) y YL.out (range_of_row GY_6.out) ?_); simp only [Act.put, List.setIfInBounds_toArray, List.set_cons_zero, List.set_cons_succ])
              | (refine at_bin .neq 23 (.tmp 72) (.tmp 73) _ rfl ?_; (refine neq_digG rfl (.tmp 72) (.tmp 73) _ rfl x y (by rfl) (by rfl) XL.out YL.out ?_); rw [XY.out]; simp only [Act.put, List.setIfInBounds_toArray, List.set_cons_zero, List.set_cons_succ])
              | (refine at_ld 23 (.tmp 6) rfl ?_; (refine ld_digG rfl (.tmp 6) rfl (H) 0 (by rfl) la LAL.out (range_of_row GH_6.out) ?_); simp only [Act.put, List.setIfInBounds_toArray, List.set_cons_zero, List.set_cons_succ])
              | (refine at_ld 23 (.tmp 8) rfl ?_; (refine ld_digG rfl (.tmp 8) rfl (K) 0 (by rfl) lb LBL.out (range_of_row GK_6.out) ?_); simp only [Act.put, List.setIfInBounds_toArray, List.set_cons_zero, List.set_cons_succ]))
            refine (HIH.out HUV.out w6 B6.out).mono ?_
            rintro e w7 ⟨rfl, hb7⟩
            have B7 := Lib.hid (show Below v1.heap.size v1 w7 from Below.trans B6.out (Below.mono hb7 (Below.size B6.out)))
            have GH_7 := Lib.hid ((Below.block hb7 H LH_6.out).trans GH_6.out)
            have LH_7 := Lib.hid (Nat.lt_of_lt_of_le LH_6.out (Below.size hb7))
            have GK_7 := Lib.hid ((Below.block hb7 K LK_6.out).trans GK_6.out)
            have LK_7 := Lib.hid (Nat.lt_of_lt_of_le LK_6.out (Below.size hb7))
            have GX_7 := Lib.hid ((Below.block hb7 X LX_6.out).trans GX_6.out)
            have LX_7 := Lib.hid (Nat.lt_of_lt_of_le LX_6.out (Below.size hb7))
            have GY_7 := Lib.hid ((Below.block hb7 Y LY_6.out).trans GY_6.out)
            have LY_7 := Lib.hid (Nat.lt_of_lt_of_le LY_6.out (Below.size hb7))
            have GU_7 := Lib.hid ((Below.block hb7 U LU_6.out).trans GU_6.out)
            have LU_7 := Lib.hid (Nat.lt_of_lt_of_le LU_6.out (Below.size hb7))
            have GV_7 := Lib.hid ((Below.block hb7 V LV_6.out).trans GV_6.out)
            have LV_7 := Lib.hid (Nat.lt_of_lt_of_le LV_6.out (Below.size hb7))
            clear hb7
            go_wp2_with fail
            go_ret
            exact ⟨rfl, BW.out.trans (Below.mono B7.out BW.out.size)⟩

          · have XY := Lib.hid (show (x == y) = false by rw [beq_eq_false_iff_ne]; exact hxy)
            clear hxy
            go_enter Tryd.func39, Tryd.ntmps39
            go_upto_region 1 with fail
            rw [← HH.out, ← HW0.out, ← HW1.out, ← HK.out]
            go_wp2_with fail
            refine HHC.out.mono ?_
            rintro e w0 ⟨rfl, rfl⟩
            obtain ⟨X, hX⟩ : ∃ z, z = v1.heap.size := ⟨_, rfl⟩
            obtain ⟨w1, hw1⟩ : ∃ z, z = v1.alloc (.cells (dV x) 23) := ⟨_, rfl⟩
            have st1 : Below v1.heap.size v1 w1 := by rw [hw1]; exact (Below.refl _ _).alloc (Nat.le_refl _) _
            have B1 := Lib.hid (show Below v1.heap.size v1 w1 from Below.trans (Below.refl v1.heap.size v1) (Below.mono st1 (Below.size (Below.refl v1.heap.size v1))))
            have GH_1 := Lib.hid ((Below.block st1 H LH_0.out).trans GH_0.out)
            have LH_1 := Lib.hid (Nat.lt_of_lt_of_le LH_0.out (Below.size st1))
            have GK_1 := Lib.hid ((Below.block st1 K LK_0.out).trans GK_0.out)
            have LK_1 := Lib.hid (Nat.lt_of_lt_of_le LK_0.out (Below.size st1))
            have GX_1 := Lib.hid (show w1.heap[X]? = some (.cells (dV x) 23 (0, 0)) by rw [hw1, hX]; exact heap_alloc_new _ _)
            have LX_1 := Lib.hid (lt_of_heap GX_1.out)
            have HX := Lib.hid hX
            have Hw1 := Lib.hid hw1
            clear hX hw1 st1
            obtain ⟨Y, hY⟩ : ∃ z, z = w1.heap.size := ⟨_, rfl⟩
            obtain ⟨w2, hw2⟩ : ∃ z, z = w1.alloc (.cells (dV y) 23) := ⟨_, rfl⟩
            have st2 : Below w1.heap.size w1 w2 := by rw [hw2]; exact (Below.refl _ _).alloc (Nat.le_refl _) _
            have B2 := Lib.hid (show Below v1.heap.size v1 w2 from Below.trans B1.out (Below.mono st2 (Below.size B1.out)))
            have GH_2 := Lib.hid ((Below.block st2 H LH_1.out).trans GH_1.out)
            have LH_2 := Lib.hid (Nat.lt_of_lt_of_le LH_1.out (Below.size st2))
            have GK_2 := Lib.hid ((Below.block st2 K LK_1.out).trans GK_1.out)
            have LK_2 := Lib.hid (Nat.lt_of_lt_of_le LK_1.out (Below.size st2))
            have GX_2 := Lib.hid ((Below.block st2 X LX_1.out).trans GX_1.out)
            have LX_2 := Lib.hid (Nat.lt_of_lt_of_le LX_1.out (Below.size st2))
            have GY_2 := Lib.hid (show w2.heap[Y]? = some (.cells (dV y) 23 (0, 0)) by rw [hw2, hY]; exact heap_alloc_new _ _)
            have LY_2 := Lib.hid (lt_of_heap GY_2.out)
            have HY := Lib.hid hY
            have Hw2 := Lib.hid hw2
            clear hY hw2 st2
            go_wp2_with (first
              | (refine at_ld 23 (.tmp 28) rfl ?_; (refine ld_digG rfl (.tmp 28) rfl PB (po + m * 32) (by rfl) x XL.out HRX.out ?_); simp only [Act.put, List.setIfInBounds_toArray, List.set_cons_zero, List.set_cons_succ])
              | (refine at_st 23 (.tmp 14) (.tmp 29) rfl ?_; (refine st_new rfl (.tmp 14) (.tmp 29) rfl x XL.out (by rfl) _ _ (by rfl) (by rfl) ?_); rw [← HX.out, ← Hw1.out])
              | (refine at_ld 23 (.tmp 34) rfl ?_; (refine ld_digG rfl (.tmp 34) rfl QB (qo + m * 32) (by rfl) y YL.out (fun j v hj => (Below.cell B1.out (p := ⟨QB, qo + m * 32 + j, none⟩) LQB.out).trans (HRY.out j v hj)) ?_); simp only [Act.put, List.setIfInBounds_toArray, List.set_cons_zero, List.set_cons_succ])
              | (refine at_st 23 (.tmp 15) (.tmp 35) rfl ?_; (refine st_new rfl (.tmp 15) (.tmp 35) rfl y YL.out (by rfl) _ _ (by rfl) (by rfl) ?_); rw [← HY.out, ← Hw2.out])
              | (refine at_ld 23 (.tmp 6) rfl ?_; (refine ld_digG rfl (.tmp 6) rfl (H) 0 (by rfl) la LAL.out (range_of_row GH_2.out) ?_); simp only [Act.put, List.setIfInBounds_toArray, List.set_cons_zero, List.set_cons_succ]))
            refine (HFU.out w2 B2.out).mono ?_
            rintro e w3 ⟨rfl, hb3⟩
            have B3 := Lib.hid (show Below v1.heap.size v1 w3 from Below.trans B2.out (Below.mono hb3 (Below.size B2.out)))
            have GH_3 := Lib.hid ((Below.block hb3 H LH_2.out).trans GH_2.out)
            have LH_3 := Lib.hid (Nat.lt_of_lt_of_le LH_2.out (Below.size hb3))
            have GK_3 := Lib.hid ((Below.block hb3 K LK_2.out).trans GK_2.out)
            have LK_3 := Lib.hid (Nat.lt_of_lt_of_le LK_2.out (Below.size hb3))
            have GX_3 := Lib.hid ((Below.block hb3 X LX_2.out).trans GX_2.out)
            have LX_3 := Lib.hid (Nat.lt_of_lt_of_le LX_2.out (Below.size hb3))
            have GY_3 := Lib.hid ((Below.block hb3 Y LY_2.out).trans GY_2.out)
            have LY_3 := Lib.hid (Nat.lt_of_lt_of_le LY_2.out (Below.size hb3))
            clear hb3
            obtain ⟨U, hU⟩ : ∃ z, z = w3.heap.size := ⟨_, rfl⟩
            obtain ⟨w4, hw4⟩ : ∃ z, z = w3.alloc (.cells (dV u) 23) := ⟨_, rfl⟩
            have st4 : Below w3.heap.size w3 w4 := by rw [hw4]; exact (Below.refl _ _).alloc (Nat.le_refl _) _
            have B4 := Lib.hid (show Below v1.heap.size v1 w4 from Below.trans B3.out (Below.mono st4 (Below.size B3.out)))
            have GH_4 := Lib.hid ((Below.block st4 H LH_3.out).trans GH_3.out)
            have LH_4 := Lib.hid (Nat.lt_of_lt_of_le LH_3.out (Below.size st4))
            have GK_4 := Lib.hid ((Below.block st4 K LK_3.out).trans GK_3.out)
            have LK_4 := Lib.hid (Nat.lt_of_lt_of_le LK_3.out (Below.size st4))
            have GX_4 := Lib.hid ((Below.block st4 X LX_3.out).trans GX_3.out)
            have LX_4 := Lib.hid (Nat.lt_of_lt_of_le LX_3.out (Below.size st4))
            have GY_4 := Lib.hid ((Below.block st4 Y LY_3.out).trans GY_3.out)
            have LY_4 := Lib.hid (Nat.lt_of_lt_of_le LY_3.out (Below.size st4))
            have GU_4 := Lib.hid (show w4.heap[U]? = some (.cells (dV u) 23 (0, 0)) by rw [hw4, hU]; exact heap_alloc_new _ _)
            have LU_4 := Lib.hid (lt_of_heap GU_4.out)
            have HU := Lib.hid hU
            have Hw4 := Lib.hid hw4
            clear hU hw4 st4
            go_wp2_with (first
              | (refine at_st 23 (.tmp 18) (.tmp 62) rfl ?_; (refine st_new rfl (.tmp 18) (.tmp 62) rfl u UL.out (by rfl) _ _ (by rfl) (by rfl) ?_); rw [← HU.out, ← Hw4.out])
              | (refine at_ld 23 (.tmp 8) rfl ?_; (refine ld_digG rfl (.tmp 8) rfl (K) 0 (by rfl) lb LBL.out (range_of_row GK_4.out) ?_); simp only [Act.put, List.setIfInBounds_toArray, List.set_cons_zero, List.set_cons_succ]))
            refine (HFV.out w4 B4.out).mono ?_
            rintro e w5 ⟨rfl, hb5⟩
            have B5 := Lib.hid (show Below v1.heap.size v1 w5 from Below.trans B4.out (Below.mono hb5 (Below.size B4.out)))
            have GH_5 := Lib.hid ((Below.block hb5 H LH_4.out).trans GH_4.out)
            have LH_5 := Lib.hid (Nat.lt_of_lt_of_le LH_4.out (Below.size hb5))
            have GK_5 := Lib.hid ((Below.block hb5 K LK_4.out).trans GK_4.out)
            have LK_5 := Lib.hid (Nat.lt_of_lt_of_le LK_4.out (Below.size hb5))
            have GX_5 := Lib.hid ((Below.block hb5 X LX_4.out).trans GX_4.out)
            have LX_5 := Lib.hid (Nat.lt_of_lt_of_le LX_4.out (Below.size hb5))
            have GY_5 := Lib.hid ((Below.block hb5 Y LY_4.out).trans GY_4.out)
            have LY_5 := Lib.hid (Nat.lt_of_lt_of_le LY_4.out (Below.size hb5))
            have GU_5 := Lib.hid ((Below.block hb5 U LU_4.out).trans GU_4.out)
            have LU_5 := Lib.hid (Nat.lt_of_lt_of_le LU_4.out (Below.size hb5))
            clear hb5
            obtain ⟨V, hV⟩ : ∃ z, z = w5.heap.size := ⟨_, rfl⟩
            obtain ⟨w6, hw6⟩ : ∃ z, z = w5.alloc (.cells (dV v) 23) := ⟨_, rfl⟩
            have st6 : Below w5.heap.size w5 w6 := by rw [hw6]; exact (Below.refl _ _).alloc (Nat.le_refl _) _
            have B6 := Lib.hid (show Below v1.heap.size v1 w6 from Below.trans B5.out (Below.mono st6 (Below.size B5.out)))
            have GH_6 := Lib.hid ((Below.block st6 H LH_5.out).trans GH_5.out)
            have LH_6 := Lib.hid (Nat.lt_of_lt_of_le LH_5.out (Below.size st6))
            have GK_6 := Lib.hid ((Below.block st6 K LK_5.out).trans GK_5.out)
            have LK_6 := Lib.hid (Nat.lt_of_lt_of_le LK_5.out (Below.size st6))
            have GX_6 := Lib.hid ((Below.block st6 X LX_5.out).trans GX_5.out)
            have LX_6 := Lib.hid (Nat.lt_of_lt_of_le LX_5.out (Below.size st6))
            have GY_6 := Lib.hid ((Below.block st6 Y LY_5.out).trans GY_5.out)
            have LY_6 := Lib.hid (Nat.lt_of_lt_of_le LY_5.out (Below.size st6))
            have GU_6 := Lib.hid ((Below.block st6 U LU_5.out).trans GU_5.out)
            have LU_6 := Lib.hid (Nat.lt_of_lt_of_le LU_5.out (Below.size st6))
            have GV_6 := Lib.hid (show w6.heap[V]? = some (.cells (dV v) 23 (0, 0)) by rw [hw6, hV]; exact heap_alloc_new _ _)
            have LV_6 := Lib.hid (lt_of_heap GV_6.out)
            have HV := Lib.hid hV
            have Hw6 := Lib.hid hw6
            clear hV hw6 st6
            go_wp2_with (first
              | (refine at_st 23 (.tmp 19) (.tmp 67) rfl ?_; (refine st_new rfl (.tmp 19) (.tmp 67) rfl v VL.out (by rfl) _ _ (by rfl) (by rfl) ?_); rw [← HV.out, ← Hw6.out])
              | (refine at_ld 23 (.tmp 18) rfl ?_; (refine ld_digG rfl (.tmp 18) rfl (U) 0 (by rfl) u UL.out (range_of_row GU_6.out) ?_); simp only [Act.put, List.setIfInBounds_toArray, List.set_cons_zero, List.set_cons_succ])
              | (refine at_ld 23 (.tmp 19) rfl ?_; (refine ld_digG rfl (.tmp 19) rfl (V) 0 (by rfl) v VL.out (range_of_row GV_6.out) ?_); simp only [Act.put, List.setIfInBounds_toArray, List.set_cons_zero, List.set_cons_succ])
              | (refine at_bin .neq 23 (.tmp 68) (.tmp 69) _ rfl ?_; (refine neq_digG rfl (.tmp 68) (.tmp 69) _ rfl u v (by rfl) (by rfl) UL.out VL.out ?_); rw [UV.out]; simp only [Act.put, List.setIfInBounds_toArray, List.set_cons_zero, List.set_cons_succ])
              | (refine at_ld 23 (.tmp 14) rfl ?_; (refine ld_digG rfl (.tmp 14) rfl (X) 0 (by rfl) x XL.out (range_of_row GX_6.out) ?_); simp only [Act.put, List.setIfInBounds_toArray, List.set_cons_zero, List.set_cons_succ])
              | (refine at_ld 23 (.tmp 15) rfl ?_; (refine ld_digG rfl (.tmp 15) rfl (Y) 0 (by rfl) y YL.out (range_of_row GY_6.out) ?_); simp only [Act.put, List.setIfInBounds_toArray, List.set_cons_zero, List.set_cons_succ])
              | (refine at_bin .neq 23 (.tmp 72) (.tmp 73) _ rfl ?_; (refine neq_digG rfl (.tmp 72) (.tmp 73) _ rfl x y (by rfl) (by rfl) XL.out YL.out ?_); rw [XY.out]; simp only [Act.put, List.setIfInBounds_toArray, List.set_cons_zero, List.set_cons_succ]))
            have NC : ∀ w', InB w6.heap.size w6 w' → Calls Tryd.prog 67 #[.agg (dV u), .agg (dV x)] w' fun e w'' => e = .returned (.agg (dV R)) ∧ InB w6.heap.size w6 w'' :=
              fun w' h => InB.call h (Nat.le_refl _) (by rw [HR.out]; exact RNode_calls u x UL.out XL.out w')
            have MC : ∀ w', InB w6.heap.size w6 w' → Calls Tryd.prog 67 #[.agg (dV v), .agg (dV y)] w' fun e w'' => e = .returned (.agg (dV R)) ∧ InB w6.heap.size w6 w'' :=
              fun w' h => InB.call h (Nat.le_refl _) (by rw [HR2.out]; exact RNode_calls v y VL.out YL.out w')
            have HNC := Lib.hid NC
            have HMC := Lib.hid MC
            have hex := inB_ex w6.heap.size w6
            have RX := Lib.hid (range_of_row GX_6.out)
            have lX := LX_6.out
            have RY := Lib.hid (range_of_row GY_6.out)
            have lY := LY_6.out
            have RU := Lib.hid (range_of_row GU_6.out)
            have lU := LU_6.out
            have RV := Lib.hid (range_of_row GV_6.out)
            have lV := LV_6.out
            clear NC MC
            refine wp_region_inB w6.heap.size (by kernel_rfl) (by kernel_rfl) ?_
            refine quiet_dig rfl (.tmp 18) rfl U 0 (by rfl) u UL.out (fun w' hw' => hw'.range lU RU.out) ?_
            simp only [Act.put, List.setIfInBounds_toArray, List.set_cons_zero, List.set_cons_succ]
            refine quiet_dig rfl (.tmp 14) rfl X 0 (by rfl) x XL.out (fun w' hw' => hw'.range lX RX.out) ?_
            simp only [Act.put, List.setIfInBounds_toArray, List.set_cons_zero, List.set_cons_succ]
            go_big_quiet_step ((intro hw'; exact HNC.out _ hw'))
            refine quiet_dig rfl (.tmp 19) rfl V 0 (by rfl) v VL.out (fun w' hw' => hw'.range lV RV.out) ?_
            simp only [Act.put, List.setIfInBounds_toArray, List.set_cons_zero, List.set_cons_succ]
            refine quiet_dig rfl (.tmp 15) rfl Y 0 (by rfl) y YL.out (fun w' hw' => hw'.range lY RY.out) ?_
            simp only [Act.put, List.setIfInBounds_toArray, List.set_cons_zero, List.set_cons_succ]
            go_big_quiet_step ((intro hw'; exact HMC.out _ hw'))
            refine quiet_dig_eq rfl (.tmp 79) (.tmp 82) _ rfl R R (by rfl) (by rfl) RL.out RL.out ?_
            rw [RR.out]
            simp only [Act.put, List.setIfInBounds_toArray, List.set_cons_zero, List.set_cons_succ]
            go_big_quiet_step ((intro _; rfl))
            refine wpQuiet_nil ?_
            intro wZ hwZ
            have BZ := Lib.hid (Below.trans B6.out (Below.mono hwZ (Below.size B6.out)))
            clear hwZ HNC HMC
            go_wp2_with fail
            go_ret
            exact ⟨rfl, BW.out.trans (BZ.out.mono BW.out.size)⟩

        · have UV := Lib.hid (show (u == v) = false by rw [beq_eq_false_iff_ne]; exact huv)
          clear huv
          go_enter Tryd.func39, Tryd.ntmps39
          go_upto_region 1 with fail
          rw [← HH.out, ← HW0.out, ← HW1.out, ← HK.out]
          go_wp2_with fail
          refine HHC.out.mono ?_
          rintro e w0 ⟨rfl, rfl⟩
          obtain ⟨X, hX⟩ : ∃ z, z = v1.heap.size := ⟨_, rfl⟩
          obtain ⟨w1, hw1⟩ : ∃ z, z = v1.alloc (.cells (dV x) 23) := ⟨_, rfl⟩
          have st1 : Below v1.heap.size v1 w1 := by rw [hw1]; exact (Below.refl _ _).alloc (Nat.le_refl _) _
          have B1 := Lib.hid (show Below v1.heap.size v1 w1 from Below.trans (Below.refl v1.heap.size v1) (Below.mono st1 (Below.size (Below.refl v1.heap.size v1))))
          have GH_1 := Lib.hid ((Below.block st1 H LH_0.out).trans GH_0.out)
          have LH_1 := Lib.hid (Nat.lt_of_lt_of_le LH_0.out (Below.size st1))
          have GK_1 := Lib.hid ((Below.block st1 K LK_0.out).trans GK_0.out)
          have LK_1 := Lib.hid (Nat.lt_of_lt_of_le LK_0.out (Below.size st1))
          have GX_1 := Lib.hid (show w1.heap[X]? = some (.cells (dV x) 23 (0, 0)) by rw [hw1, hX]; exact heap_alloc_new _ _)
          have LX_1 := Lib.hid (lt_of_heap GX_1.out)
          have HX := Lib.hid hX
          have Hw1 := Lib.hid hw1
          clear hX hw1 st1
          obtain ⟨Y, hY⟩ : ∃ z, z = w1.heap.size := ⟨_, rfl⟩
          obtain ⟨w2, hw2⟩ : ∃ z, z = w1.alloc (.cells (dV y) 23) := ⟨_, rfl⟩
          have st2 : Below w1.heap.size w1 w2 := by rw [hw2]; exact (Below.refl _ _).alloc (Nat.le_refl _) _
          have B2 := Lib.hid (show Below v1.heap.size v1 w2 from Below.trans B1.out (Below.mono st2 (Below.size B1.out)))
          have GH_2 := Lib.hid ((Below.block st2 H LH_1.out).trans GH_1.out)
          have LH_2 := Lib.hid (Nat.lt_of_lt_of_le LH_1.out (Below.size st2))
          have GK_2 := Lib.hid ((Below.block st2 K LK_1.out).trans GK_1.out)
          have LK_2 := Lib.hid (Nat.lt_of_lt_of_le LK_1.out (Below.size st2))
          have GX_2 := Lib.hid ((Below.block st2 X LX_1.out).trans GX_1.out)
          have LX_2 := Lib.hid (Nat.lt_of_lt_of_le LX_1.out (Below.size st2))
          have GY_2 := Lib.hid (show w2.heap[Y]? = some (.cells (dV y) 23 (0, 0)) by rw [hw2, hY]; exact heap_alloc_new _ _)
          have LY_2 := Lib.hid (lt_of_heap GY_2.out)
          have HY := Lib.hid hY
          have Hw2 := Lib.hid hw2
          clear hY hw2 st2
          go_wp2_with (first
            | (refine at_ld 23 (.tmp 28) rfl ?_; (refine ld_digG rfl (.tmp 28) rfl PB (po + m * 32) (by rfl) x XL.out HRX.out ?_); simp only [Act.put, List.setIfInBounds_toArray, List.set_cons_zero, List.set_cons_succ])
            | (refine at_st 23 (.tmp 14) (.tmp 29) rfl ?_; (refine st_new rfl (.tmp 14) (.tmp 29) rfl x XL.out (by rfl) _ _ (by rfl) (by rfl) ?_); rw [← HX.out, ← Hw1.out])
            | (refine at_ld 23 (.tmp 34) rfl ?_; (refine ld_digG rfl (.tmp 34) rfl QB (qo + m * 32) (by rfl) y YL.out (fun j v hj => (Below.cell B1.out (p := ⟨QB, qo + m * 32 + j, none⟩) LQB.out).trans (HRY.out j v hj)) ?_); simp only [Act.put, List.setIfInBounds_toArray, List.set_cons_zero, List.set_cons_succ])
            | (refine at_st 23 (.tmp 15) (.tmp 35) rfl ?_; (refine st_new rfl (.tmp 15) (.tmp 35) rfl y YL.out (by rfl) _ _ (by rfl) (by rfl) ?_); rw [← HY.out, ← Hw2.out])
            | (refine at_ld 23 (.tmp 6) rfl ?_; (refine ld_digG rfl (.tmp 6) rfl (H) 0 (by rfl) la LAL.out (range_of_row GH_2.out) ?_); simp only [Act.put, List.setIfInBounds_toArray, List.set_cons_zero, List.set_cons_succ]))
          refine (HFU.out w2 B2.out).mono ?_
          rintro e w3 ⟨rfl, hb3⟩
          have B3 := Lib.hid (show Below v1.heap.size v1 w3 from Below.trans B2.out (Below.mono hb3 (Below.size B2.out)))
          have GH_3 := Lib.hid ((Below.block hb3 H LH_2.out).trans GH_2.out)
          have LH_3 := Lib.hid (Nat.lt_of_lt_of_le LH_2.out (Below.size hb3))
          have GK_3 := Lib.hid ((Below.block hb3 K LK_2.out).trans GK_2.out)
          have LK_3 := Lib.hid (Nat.lt_of_lt_of_le LK_2.out (Below.size hb3))
          have GX_3 := Lib.hid ((Below.block hb3 X LX_2.out).trans GX_2.out)
          have LX_3 := Lib.hid (Nat.lt_of_lt_of_le LX_2.out (Below.size hb3))
          have GY_3 := Lib.hid ((Below.block hb3 Y LY_2.out).trans GY_2.out)
          have LY_3 := Lib.hid (Nat.lt_of_lt_of_le LY_2.out (Below.size hb3))
          clear hb3
          obtain ⟨U, hU⟩ : ∃ z, z = w3.heap.size := ⟨_, rfl⟩
          obtain ⟨w4, hw4⟩ : ∃ z, z = w3.alloc (.cells (dV u) 23) := ⟨_, rfl⟩
          have st4 : Below w3.heap.size w3 w4 := by rw [hw4]; exact (Below.refl _ _).alloc (Nat.le_refl _) _
          have B4 := Lib.hid (show Below v1.heap.size v1 w4 from Below.trans B3.out (Below.mono st4 (Below.size B3.out)))
          have GH_4 := Lib.hid ((Below.block st4 H LH_3.out).trans GH_3.out)
          have LH_4 := Lib.hid (Nat.lt_of_lt_of_le LH_3.out (Below.size st4))
          have GK_4 := Lib.hid ((Below.block st4 K LK_3.out).trans GK_3.out)
          have LK_4 := Lib.hid (Nat.lt_of_lt_of_le LK_3.out (Below.size st4))
          have GX_4 := Lib.hid ((Below.block st4 X LX_3.out).trans GX_3.out)
          have LX_4 := Lib.hid (Nat.lt_of_lt_of_le LX_3.out (Below.size st4))
          have GY_4 := Lib.hid ((Below.block st4 Y LY_3.out).trans GY_3.out)
          have LY_4 := Lib.hid (Nat.lt_of_lt_of_le LY_3.out (Below.size st4))
          have GU_4 := Lib.hid (show w4.heap[U]? = some (.cells (dV u) 23 (0, 0)) by rw [hw4, hU]; exact heap_alloc_new _ _)
          have LU_4 := Lib.hid (lt_of_heap GU_4.out)
          have HU := Lib.hid hU
          have Hw4 := Lib.hid hw4
          clear hU hw4 st4
          go_wp2_with (first
            | (refine at_st 23 (.tmp 18) (.tmp 62) rfl ?_; (refine st_new rfl (.tmp 18) (.tmp 62) rfl u UL.out (by rfl) _ _ (by rfl) (by rfl) ?_); rw [← HU.out, ← Hw4.out])
            | (refine at_ld 23 (.tmp 8) rfl ?_; (refine ld_digG rfl (.tmp 8) rfl (K) 0 (by rfl) lb LBL.out (range_of_row GK_4.out) ?_); simp only [Act.put, List.setIfInBounds_toArray, List.set_cons_zero, List.set_cons_succ]))
          refine (HFV.out w4 B4.out).mono ?_
          rintro e w5 ⟨rfl, hb5⟩
          have B5 := Lib.hid (show Below v1.heap.size v1 w5 from Below.trans B4.out (Below.mono hb5 (Below.size B4.out)))
          have GH_5 := Lib.hid ((Below.block hb5 H LH_4.out).trans GH_4.out)
          have LH_5 := Lib.hid (Nat.lt_of_lt_of_le LH_4.out (Below.size hb5))
          have GK_5 := Lib.hid ((Below.block hb5 K LK_4.out).trans GK_4.out)
          have LK_5 := Lib.hid (Nat.lt_of_lt_of_le LK_4.out (Below.size hb5))
          have GX_5 := Lib.hid ((Below.block hb5 X LX_4.out).trans GX_4.out)
          have LX_5 := Lib.hid (Nat.lt_of_lt_of_le LX_4.out (Below.size hb5))
          have GY_5 := Lib.hid ((Below.block hb5 Y LY_4.out).trans GY_4.out)
          have LY_5 := Lib.hid (Nat.lt_of_lt_of_le LY_4.out (Below.size hb5))
          have GU_5 := Lib.hid ((Below.block hb5 U LU_4.out).trans GU_4.out)
          have LU_5 := Lib.hid (Nat.lt_of_lt_of_le LU_4.out (Below.size hb5))
          clear hb5
          obtain ⟨V, hV⟩ : ∃ z, z = w5.heap.size := ⟨_, rfl⟩
          obtain ⟨w6, hw6⟩ : ∃ z, z = w5.alloc (.cells (dV v) 23) := ⟨_, rfl⟩
          have st6 : Below w5.heap.size w5 w6 := by rw [hw6]; exact (Below.refl _ _).alloc (Nat.le_refl _) _
          have B6 := Lib.hid (show Below v1.heap.size v1 w6 from Below.trans B5.out (Below.mono st6 (Below.size B5.out)))
          have GH_6 := Lib.hid ((Below.block st6 H LH_5.out).trans GH_5.out)
          have LH_6 := Lib.hid (Nat.lt_of_lt_of_le LH_5.out (Below.size st6))
          have GK_6 := Lib.hid ((Below.block st6 K LK_5.out).trans GK_5.out)
          have LK_6 := Lib.hid (Nat.lt_of_lt_of_le LK_5.out (Below.size st6))
          have GX_6 := Lib.hid ((Below.block st6 X LX_5.out).trans GX_5.out)
          have LX_6 := Lib.hid (Nat.lt_of_lt_of_le LX_5.out (Below.size st6))
          have GY_6 := Lib.hid ((Below.block st6 Y LY_5.out).trans GY_5.out)
          have LY_6 := Lib.hid (Nat.lt_of_lt_of_le LY_5.out (Below.size st6))
          have GU_6 := Lib.hid ((Below.block st6 U LU_5.out).trans GU_5.out)
          have LU_6 := Lib.hid (Nat.lt_of_lt_of_le LU_5.out (Below.size st6))
          have GV_6 := Lib.hid (show w6.heap[V]? = some (.cells (dV v) 23 (0, 0)) by rw [hw6, hV]; exact heap_alloc_new _ _)
          have LV_6 := Lib.hid (lt_of_heap GV_6.out)
          have HV := Lib.hid hV
          have Hw6 := Lib.hid hw6
          clear hV hw6 st6
          go_wp2_with (first
            | (refine at_st 23 (.tmp 19) (.tmp 67) rfl ?_; (refine st_new rfl (.tmp 19) (.tmp 67) rfl v VL.out (by rfl) _ _ (by rfl) (by rfl) ?_); rw [← HV.out, ← Hw6.out])
            | (refine at_ld 23 (.tmp 18) rfl ?_; (refine ld_digG rfl (.tmp 18) rfl (U) 0 (by rfl) u UL.out (range_of_row GU_6.out) ?_); simp only [Act.put, List.setIfInBounds_toArray, List.set_cons_zero, List.set_cons_succ])
            | (refine at_ld 23 (.tmp 19) rfl ?_; (refine ld_digG rfl (.tmp 19) rfl (V) 0 (by rfl) v VL.out (range_of_row GV_6.out) ?_); simp only [Act.put, List.setIfInBounds_toArray, List.set_cons_zero, List.set_cons_succ])
            | (refine at_bin .neq 23 (.tmp 68) (.tmp 69) _ rfl ?_; (refine neq_digG rfl (.tmp 68) (.tmp 69) _ rfl u v (by rfl) (by rfl) UL.out VL.out ?_); rw [UV.out]; simp only [Act.put, List.setIfInBounds_toArray, List.set_cons_zero, List.set_cons_succ]))
          have NC : ∀ w', InB w6.heap.size w6 w' → Calls Tryd.prog 67 #[.agg (dV u), .agg (dV x)] w' fun e w'' => e = .returned (.agg (dV R)) ∧ InB w6.heap.size w6 w'' :=
            fun w' h => InB.call h (Nat.le_refl _) (by rw [HR.out]; exact RNode_calls u x UL.out XL.out w')
          have MC : ∀ w', InB w6.heap.size w6 w' → Calls Tryd.prog 67 #[.agg (dV v), .agg (dV y)] w' fun e w'' => e = .returned (.agg (dV R)) ∧ InB w6.heap.size w6 w'' :=
            fun w' h => InB.call h (Nat.le_refl _) (by rw [HR2.out]; exact RNode_calls v y VL.out YL.out w')
          have HNC := Lib.hid NC
          have HMC := Lib.hid MC
          have hex := inB_ex w6.heap.size w6
          have RX := Lib.hid (range_of_row GX_6.out)
          have lX := LX_6.out
          have RY := Lib.hid (range_of_row GY_6.out)
          have lY := LY_6.out
          have RU := Lib.hid (range_of_row GU_6.out)
          have lU := LU_6.out
          have RV := Lib.hid (range_of_row GV_6.out)
          have lV := LV_6.out
          clear NC MC
          refine wp_region_inB w6.heap.size (by kernel_rfl) (by kernel_rfl) ?_
          refine quiet_dig rfl (.tmp 18) rfl U 0 (by rfl) u UL.out (fun w' hw' => hw'.range lU RU.out) ?_
          simp only [Act.put, List.setIfInBounds_toArray, List.set_cons_zero, List.set_cons_succ]
          refine quiet_dig rfl (.tmp 14) rfl X 0 (by rfl) x XL.out (fun w' hw' => hw'.range lX RX.out) ?_
          simp only [Act.put, List.setIfInBounds_toArray, List.set_cons_zero, List.set_cons_succ]
          go_big_quiet_step ((intro hw'; exact HNC.out _ hw'))
          refine quiet_dig rfl (.tmp 19) rfl V 0 (by rfl) v VL.out (fun w' hw' => hw'.range lV RV.out) ?_
          simp only [Act.put, List.setIfInBounds_toArray, List.set_cons_zero, List.set_cons_succ]
          refine quiet_dig rfl (.tmp 15) rfl Y 0 (by rfl) y YL.out (fun w' hw' => hw'.range lY RY.out) ?_
          simp only [Act.put, List.setIfInBounds_toArray, List.set_cons_zero, List.set_cons_succ]
          go_big_quiet_step ((intro hw'; exact HMC.out _ hw'))
          refine quiet_dig_eq rfl (.tmp 79) (.tmp 82) _ rfl R R (by rfl) (by rfl) RL.out RL.out ?_
          rw [RR.out]
          simp only [Act.put, List.setIfInBounds_toArray, List.set_cons_zero, List.set_cons_succ]
          go_big_quiet_step ((intro _; rfl))
          refine wpQuiet_nil ?_
          intro wZ hwZ
          have BZ := Lib.hid (Below.trans B6.out (Below.mono hwZ (Below.size B6.out)))
          clear hwZ HNC HMC
          go_wp2_with fail
          go_ret
          exact ⟨rfl, BW.out.trans (BZ.out.mono BW.out.size)⟩

      · obtain ⟨q, hI⟩ : ∃ q, q = i - h := ⟨_, rfl⟩
        obtain ⟨r, hM⟩ : ∃ r, r = n - h := ⟨_, rfl⟩
        have fa := tfold_right (l := la) h2 (by rw [← hh]; exact hih) (by rw [← hsp]; exact hpl)
        have fb := tfold_right (l := lb) h2 (by rw [← hh]; exact hih) (by rw [← hsq]; exact hql)
        rw [← hh, ← hsp] at fa
        rw [← hh, ← hsq] at fb
        have ht := tlong_right h2 (by rw [← hh]; exact hih)
        rw [← hh] at ht
        have hIM : q < r := by omega
        have z2 : decide ((i : Int) < (h : Int)) = false := decide_eq_false (by omega)
        have z3 : decide (i < h) = false := decide_eq_false hih
        have e6 : IntKind.i64.wrap ((i : Int) - (h : Int)) = (q : Int) := by rw [IntWalk.i64_in _ (by omega)]; omega
        have e7 : IntKind.i64.wrap ((n : Int) - (h : Int)) = (r : Int) := by rw [IntWalk.i64_in _ (by omega)]; omega
        rw [← hI, ← hM] at ht fa fb
        have hr1 : rs.length = tlong q r := by omega
        have hs1 : ss.length = tlong q r := by omega
        have FU := fun w' hb => RFolded_calls r r q (Nat.le_refl _) (by omega) (by omega) hIM la rs hla hrd hr1 (some ⟨PB, po, none⟩) pc pe (by omega) hpc2 w' ((hrr.below BW.out).below hb)
        have FV := fun w' hb => RFolded_calls r r q (Nat.le_refl _) (by omega) (by omega) hIM lb ss hlb hsd hs1 (some ⟨QB, qo, none⟩) qc qe (by omega) hqc2 w' ((hrs2.below BW.out).below hb)
        have IH := fun hf w' hb => ih r q (by omega) (by omega) (by omega) hIM la lb rs ss hla hlb hne hrd hsd hr1 hs1 hf (some ⟨PB, po, none⟩) pc pe (some ⟨QB, qo, none⟩) qc qe (by omega) hpc2 (by omega) hqc2 w' ((hrr.below BW.out).below hb) ((hrs2.below BW.out).below hb)
        rw [hrl] at FU IH
        rw [hsl] at FV IH
        obtain ⟨u, hu⟩ : ∃ u, u = tfold la q r rs := ⟨_, rfl⟩
        obtain ⟨v, hv⟩ : ∃ v, v = tfold lb q r ss := ⟨_, rfl⟩
        have UL := Lib.hid (show u.length = 32 by rw [hu]; exact tfold_length _ _ _ _ hla)
        have VL := Lib.hid (show v.length = 32 by rw [hv]; exact tfold_length _ _ _ _ hlb)
        rw [← hu] at FU IH fa
        rw [← hv] at FV IH fb
        obtain ⟨R, hR⟩ : ∃ R, R = tnode x u := ⟨_, rfl⟩
        have hR2 : R = tnode y v := by rw [hR, ← fa, hfo, fb]
        have RL := Lib.hid (show R.length = 32 by rw [hR]; exact tnode_length _ _)
        have RR := Lib.hid (show (R == R) = true by simp)
        have HR := Lib.hid hR
        have HR2 := Lib.hid hR2
        have HFU := Lib.hid FU
        have HFV := Lib.hid FV
        have HIH := Lib.hid IH
        have HH2 := HH
        clear FU FV IH hR hR2 fa fb hu hv hr1 hs1 ht hIM hrr hrs2 hrgx hrgy hla hlb hxl hyl hrd hsd hrl hsl hsp hsq hrs hss hx hy hm hm2 hps0 hfo hpl hql hpd hqd hrp hrq hne ih hN h256 hh h2 hih hK HC hPB hQB
        clear hI hM
        by_cases huv : u = v
        · have UV := Lib.hid (show (u == v) = true by rw [huv]; simp)
          have HUV := Lib.hid huv
          clear huv
          by_cases hxy : x = y
          · have XY := Lib.hid (show (x == y) = true by rw [hxy]; simp)
            clear hxy
            go_enter Tryd.func39, Tryd.ntmps39
            go_upto_region 1 with fail
            rw [← HH.out, ← HW0.out, ← HW1.out, ← HK.out]
            go_wp2_with fail
            refine HHC.out.mono ?_
            rintro e w0 ⟨rfl, rfl⟩
            obtain ⟨X, hX⟩ : ∃ z, z = v1.heap.size := ⟨_, rfl⟩
            obtain ⟨w1, hw1⟩ : ∃ z, z = v1.alloc (.cells (dV x) 23) := ⟨_, rfl⟩
            have st1 : Below v1.heap.size v1 w1 := by rw [hw1]; exact (Below.refl _ _).alloc (Nat.le_refl _) _
            have B1 := Lib.hid (show Below v1.heap.size v1 w1 from Below.trans (Below.refl v1.heap.size v1) (Below.mono st1 (Below.size (Below.refl v1.heap.size v1))))
            have GH_1 := Lib.hid ((Below.block st1 H LH_0.out).trans GH_0.out)
            have LH_1 := Lib.hid (Nat.lt_of_lt_of_le LH_0.out (Below.size st1))
            have GK_1 := Lib.hid ((Below.block st1 K LK_0.out).trans GK_0.out)
            have LK_1 := Lib.hid (Nat.lt_of_lt_of_le LK_0.out (Below.size st1))
            have GX_1 := Lib.hid (show w1.heap[X]? = some (.cells (dV x) 23 (0, 0)) by rw [hw1, hX]; exact heap_alloc_new _ _)
            have LX_1 := Lib.hid (lt_of_heap GX_1.out)
            have HX := Lib.hid hX
            have Hw1 := Lib.hid hw1
            clear hX hw1 st1
            obtain ⟨Y, hY⟩ : ∃ z, z = w1.heap.size := ⟨_, rfl⟩
            obtain ⟨w2, hw2⟩ : ∃ z, z = w1.alloc (.cells (dV y) 23) := ⟨_, rfl⟩
            have st2 : Below w1.heap.size w1 w2 := by rw [hw2]; exact (Below.refl _ _).alloc (Nat.le_refl _) _
            have B2 := Lib.hid (show Below v1.heap.size v1 w2 from Below.trans B1.out (Below.mono st2 (Below.size B1.out)))
            have GH_2 := Lib.hid ((Below.block st2 H LH_1.out).trans GH_1.out)
            have LH_2 := Lib.hid (Nat.lt_of_lt_of_le LH_1.out (Below.size st2))
            have GK_2 := Lib.hid ((Below.block st2 K LK_1.out).trans GK_1.out)
            have LK_2 := Lib.hid (Nat.lt_of_lt_of_le LK_1.out (Below.size st2))
            have GX_2 := Lib.hid ((Below.block st2 X LX_1.out).trans GX_1.out)
            have LX_2 := Lib.hid (Nat.lt_of_lt_of_le LX_1.out (Below.size st2))
            have GY_2 := Lib.hid (show w2.heap[Y]? = some (.cells (dV y) 23 (0, 0)) by rw [hw2, hY]; exact heap_alloc_new _ _)
            have LY_2 := Lib.hid (lt_of_heap GY_2.out)
            have HY := Lib.hid hY
            have Hw2 := Lib.hid hw2
            clear hY hw2 st2
            go_wp2_with (first
              | (refine at_ld 23 (.tmp 28) rfl ?_; (refine ld_digG rfl (.tmp 28) rfl PB (po + m * 32) (by rfl) x XL.out HRX.out ?_); simp only [Act.put, List.setIfInBounds_toArray, List.set_cons_zero, List.set_cons_succ])
              | (refine at_st 23 (.tmp 14) (.tmp 29) rfl ?_; (refine st_new rfl (.tmp 14) (.tmp 29) rfl x XL.out (by rfl) _ _ (by rfl) (by rfl) ?_); rw [← HX.out, ← Hw1.out])
              | (refine at_ld 23 (.tmp 34) rfl ?_; (refine ld_digG rfl (.tmp 34) rfl QB (qo + m * 32) (by rfl) y YL.out (fun j v hj => (Below.cell B1.out (p := ⟨QB, qo + m * 32 + j, none⟩) LQB.out).trans (HRY.out j v hj)) ?_); simp only [Act.put, List.setIfInBounds_toArray, List.set_cons_zero, List.set_cons_succ])
              | (refine at_st 23 (.tmp 15) (.tmp 35) rfl ?_; (refine st_new rfl (.tmp 15) (.tmp 35) rfl y YL.out (by rfl) _ _ (by rfl) (by rfl) ?_); rw [← HY.out, ← Hw2.out])
              | (refine at_ld 23 (.tmp 6) rfl ?_; (refine ld_digG rfl (.tmp 6) rfl (H) 0 (by rfl) la LAL.out (range_of_row GH_2.out) ?_); simp only [Act.put, List.setIfInBounds_toArray, List.set_cons_zero, List.set_cons_succ]))
            refine (HFU.out w2 B2.out).mono ?_
            rintro e w3 ⟨rfl, hb3⟩
            have B3 := Lib.hid (show Below v1.heap.size v1 w3 from Below.trans B2.out (Below.mono hb3 (Below.size B2.out)))
            have GH_3 := Lib.hid ((Below.block hb3 H LH_2.out).trans GH_2.out)
            have LH_3 := Lib.hid (Nat.lt_of_lt_of_le LH_2.out (Below.size hb3))
            have GK_3 := Lib.hid ((Below.block hb3 K LK_2.out).trans GK_2.out)
            have LK_3 := Lib.hid (Nat.lt_of_lt_of_le LK_2.out (Below.size hb3))
            have GX_3 := Lib.hid ((Below.block hb3 X LX_2.out).trans GX_2.out)
            have LX_3 := Lib.hid (Nat.lt_of_lt_of_le LX_2.out (Below.size hb3))
            have GY_3 := Lib.hid ((Below.block hb3 Y LY_2.out).trans GY_2.out)
            have LY_3 := Lib.hid (Nat.lt_of_lt_of_le LY_2.out (Below.size hb3))
            clear hb3
            obtain ⟨U, hU⟩ : ∃ z, z = w3.heap.size := ⟨_, rfl⟩
            obtain ⟨w4, hw4⟩ : ∃ z, z = w3.alloc (.cells (dV u) 23) := ⟨_, rfl⟩
            have st4 : Below w3.heap.size w3 w4 := by rw [hw4]; exact (Below.refl _ _).alloc (Nat.le_refl _) _
            have B4 := Lib.hid (show Below v1.heap.size v1 w4 from Below.trans B3.out (Below.mono st4 (Below.size B3.out)))
            have GH_4 := Lib.hid ((Below.block st4 H LH_3.out).trans GH_3.out)
            have LH_4 := Lib.hid (Nat.lt_of_lt_of_le LH_3.out (Below.size st4))
            have GK_4 := Lib.hid ((Below.block st4 K LK_3.out).trans GK_3.out)
            have LK_4 := Lib.hid (Nat.lt_of_lt_of_le LK_3.out (Below.size st4))
            have GX_4 := Lib.hid ((Below.block st4 X LX_3.out).trans GX_3.out)
            have LX_4 := Lib.hid (Nat.lt_of_lt_of_le LX_3.out (Below.size st4))
            have GY_4 := Lib.hid ((Below.block st4 Y LY_3.out).trans GY_3.out)
            have LY_4 := Lib.hid (Nat.lt_of_lt_of_le LY_3.out (Below.size st4))
            have GU_4 := Lib.hid (show w4.heap[U]? = some (.cells (dV u) 23 (0, 0)) by rw [hw4, hU]; exact heap_alloc_new _ _)
            have LU_4 := Lib.hid (lt_of_heap GU_4.out)
            have HU := Lib.hid hU
            have Hw4 := Lib.hid hw4
            clear hU hw4 st4
            go_wp2_with (first
              | (refine at_st 23 (.tmp 18) (.tmp 62) rfl ?_; (refine st_new rfl (.tmp 18) (.tmp 62) rfl u UL.out (by rfl) _ _ (by rfl) (by rfl) ?_); rw [← HU.out, ← Hw4.out])
              | (refine at_ld 23 (.tmp 8) rfl ?_; (refine ld_digG rfl (.tmp 8) rfl (K) 0 (by rfl) lb LBL.out (range_of_row GK_4.out) ?_); simp only [Act.put, List.setIfInBounds_toArray, List.set_cons_zero, List.set_cons_succ]))
            refine (HFV.out w4 B4.out).mono ?_
            rintro e w5 ⟨rfl, hb5⟩
            have B5 := Lib.hid (show Below v1.heap.size v1 w5 from Below.trans B4.out (Below.mono hb5 (Below.size B4.out)))
            have GH_5 := Lib.hid ((Below.block hb5 H LH_4.out).trans GH_4.out)
            have LH_5 := Lib.hid (Nat.lt_of_lt_of_le LH_4.out (Below.size hb5))
            have GK_5 := Lib.hid ((Below.block hb5 K LK_4.out).trans GK_4.out)
            have LK_5 := Lib.hid (Nat.lt_of_lt_of_le LK_4.out (Below.size hb5))
            have GX_5 := Lib.hid ((Below.block hb5 X LX_4.out).trans GX_4.out)
            have LX_5 := Lib.hid (Nat.lt_of_lt_of_le LX_4.out (Below.size hb5))
            have GY_5 := Lib.hid ((Below.block hb5 Y LY_4.out).trans GY_4.out)
            have LY_5 := Lib.hid (Nat.lt_of_lt_of_le LY_4.out (Below.size hb5))
            have GU_5 := Lib.hid ((Below.block hb5 U LU_4.out).trans GU_4.out)
            have LU_5 := Lib.hid (Nat.lt_of_lt_of_le LU_4.out (Below.size hb5))
            clear hb5
            obtain ⟨V, hV⟩ : ∃ z, z = w5.heap.size := ⟨_, rfl⟩
            obtain ⟨w6, hw6⟩ : ∃ z, z = w5.alloc (.cells (dV v) 23) := ⟨_, rfl⟩
            have st6 : Below w5.heap.size w5 w6 := by rw [hw6]; exact (Below.refl _ _).alloc (Nat.le_refl _) _
            have B6 := Lib.hid (show Below v1.heap.size v1 w6 from Below.trans B5.out (Below.mono st6 (Below.size B5.out)))
            have GH_6 := Lib.hid ((Below.block st6 H LH_5.out).trans GH_5.out)
            have LH_6 := Lib.hid (Nat.lt_of_lt_of_le LH_5.out (Below.size st6))
            have GK_6 := Lib.hid ((Below.block st6 K LK_5.out).trans GK_5.out)
            have LK_6 := Lib.hid (Nat.lt_of_lt_of_le LK_5.out (Below.size st6))
            have GX_6 := Lib.hid ((Below.block st6 X LX_5.out).trans GX_5.out)
            have LX_6 := Lib.hid (Nat.lt_of_lt_of_le LX_5.out (Below.size st6))
            have GY_6 := Lib.hid ((Below.block st6 Y LY_5.out).trans GY_5.out)
            have LY_6 := Lib.hid (Nat.lt_of_lt_of_le LY_5.out (Below.size st6))
            have GU_6 := Lib.hid ((Below.block st6 U LU_5.out).trans GU_5.out)
            have LU_6 := Lib.hid (Nat.lt_of_lt_of_le LU_5.out (Below.size st6))
            have GV_6 := Lib.hid (show w6.heap[V]? = some (.cells (dV v) 23 (0, 0)) by rw [hw6, hV]; exact heap_alloc_new _ _)
            have LV_6 := Lib.hid (lt_of_heap GV_6.out)
            have HV := Lib.hid hV
            have Hw6 := Lib.hid hw6
            clear hV hw6 st6
            go_wp2_with (first
              | (refine at_st 23 (.tmp 19) (.tmp 67) rfl ?_; (refine st_new rfl (.tmp 19) (.tmp 67) rfl v VL.out (by rfl) _ _ (by rfl) (by rfl) ?_); rw [← HV.out, ← Hw6.out])
              | (refine at_ld 23 (.tmp 18) rfl ?_; (refine ld_digG rfl (.tmp 18) rfl (U) 0 (by rfl) u UL.out (range_of_row GU_6.out) ?_); simp only [Act.put, List.setIfInBounds_toArray, List.set_cons_zero, List.set_cons_succ])
              | (refine at_ld 23 (.tmp 19) rfl ?_; (refine ld_digG rfl (.tmp 19) rfl (V) 0 (by rfl) v VL.out (range_of_row GV_6.out) ?_); simp only [Act.put, List.setIfInBounds_toArray, List.set_cons_zero, List.set_cons_succ])
              | (refine at_bin .neq 23 (.tmp 68) (.tmp 69) _ rfl ?_; (refine neq_digG rfl (.tmp 68) (.tmp 69) _ rfl u v (by rfl) (by rfl) UL.out VL.out ?_); rw [UV.out]; simp only [Act.put, List.setIfInBounds_toArray, List.set_cons_zero, List.set_cons_succ])
              | (refine at_ld 23 (.tmp 14) rfl ?_; (refine ld_digG rfl (.tmp 14) rfl (X) 0 (by rfl) x XL.out (range_of_row GX_6.out) ?_); simp only [Act.put, List.setIfInBounds_toArray, List.set_cons_zero, List.set_cons_succ])
              | (refine at_ld 23 (.tmp 15) rfl ?_; (refine ld_digG rfl (.tmp 15) rfl (Y) 0 (by rfl) y YL.out (range_of_row GY_6.out) ?_); simp only [Act.put, List.setIfInBounds_toArray, List.set_cons_zero, List.set_cons_succ])
              | (refine at_bin .neq 23 (.tmp 72) (.tmp 73) _ rfl ?_; (refine neq_digG rfl (.tmp 72) (.tmp 73) _ rfl x y (by rfl) (by rfl) XL.out YL.out ?_); rw [XY.out]; simp only [Act.put, List.setIfInBounds_toArray, List.set_cons_zero, List.set_cons_succ])
              | (refine at_ld 23 (.tmp 6) rfl ?_; (refine ld_digG rfl (.tmp 6) rfl (H) 0 (by rfl) la LAL.out (range_of_row GH_6.out) ?_); simp only [Act.put, List.setIfInBounds_toArray, List.set_cons_zero, List.set_cons_succ])
              | (refine at_ld 23 (.tmp 8) rfl ?_; (refine ld_digG rfl (.tmp 8) rfl (K) 0 (by rfl) lb LBL.out (range_of_row GK_6.out) ?_); simp only [Act.put, List.setIfInBounds_toArray, List.set_cons_zero, List.set_cons_succ]))
            refine (HIH.out HUV.out w6 B6.out).mono ?_
            rintro e w7 ⟨rfl, hb7⟩
            have B7 := Lib.hid (show Below v1.heap.size v1 w7 from Below.trans B6.out (Below.mono hb7 (Below.size B6.out)))
            have GH_7 := Lib.hid ((Below.block hb7 H LH_6.out).trans GH_6.out)
            have LH_7 := Lib.hid (Nat.lt_of_lt_of_le LH_6.out (Below.size hb7))
            have GK_7 := Lib.hid ((Below.block hb7 K LK_6.out).trans GK_6.out)
            have LK_7 := Lib.hid (Nat.lt_of_lt_of_le LK_6.out (Below.size hb7))
            have GX_7 := Lib.hid ((Below.block hb7 X LX_6.out).trans GX_6.out)
            have LX_7 := Lib.hid (Nat.lt_of_lt_of_le LX_6.out (Below.size hb7))
            have GY_7 := Lib.hid ((Below.block hb7 Y LY_6.out).trans GY_6.out)
            have LY_7 := Lib.hid (Nat.lt_of_lt_of_le LY_6.out (Below.size hb7))
            have GU_7 := Lib.hid ((Below.block hb7 U LU_6.out).trans GU_6.out)
            have LU_7 := Lib.hid (Nat.lt_of_lt_of_le LU_6.out (Below.size hb7))
            have GV_7 := Lib.hid ((Below.block hb7 V LV_6.out).trans GV_6.out)
            have LV_7 := Lib.hid (Nat.lt_of_lt_of_le LV_6.out (Below.size hb7))
            clear hb7
            go_wp2_with fail
            go_ret
            exact ⟨rfl, BW.out.trans (Below.mono B7.out BW.out.size)⟩

          · have XY := Lib.hid (show (x == y) = false by rw [beq_eq_false_iff_ne]; exact hxy)
            clear hxy
            go_enter Tryd.func39, Tryd.ntmps39
            go_upto_region 1 with fail
            rw [← HH.out, ← HW0.out, ← HW1.out, ← HK.out]
            go_wp2_with fail
            refine HHC.out.mono ?_
            rintro e w0 ⟨rfl, rfl⟩
            obtain ⟨X, hX⟩ : ∃ z, z = v1.heap.size := ⟨_, rfl⟩
            obtain ⟨w1, hw1⟩ : ∃ z, z = v1.alloc (.cells (dV x) 23) := ⟨_, rfl⟩
            have st1 : Below v1.heap.size v1 w1 := by rw [hw1]; exact (Below.refl _ _).alloc (Nat.le_refl _) _
            have B1 := Lib.hid (show Below v1.heap.size v1 w1 from Below.trans (Below.refl v1.heap.size v1) (Below.mono st1 (Below.size (Below.refl v1.heap.size v1))))
            have GH_1 := Lib.hid ((Below.block st1 H LH_0.out).trans GH_0.out)
            have LH_1 := Lib.hid (Nat.lt_of_lt_of_le LH_0.out (Below.size st1))
            have GK_1 := Lib.hid ((Below.block st1 K LK_0.out).trans GK_0.out)
            have LK_1 := Lib.hid (Nat.lt_of_lt_of_le LK_0.out (Below.size st1))
            have GX_1 := Lib.hid (show w1.heap[X]? = some (.cells (dV x) 23 (0, 0)) by rw [hw1, hX]; exact heap_alloc_new _ _)
            have LX_1 := Lib.hid (lt_of_heap GX_1.out)
            have HX := Lib.hid hX
            have Hw1 := Lib.hid hw1
            clear hX hw1 st1
            obtain ⟨Y, hY⟩ : ∃ z, z = w1.heap.size := ⟨_, rfl⟩
            obtain ⟨w2, hw2⟩ : ∃ z, z = w1.alloc (.cells (dV y) 23) := ⟨_, rfl⟩
            have st2 : Below w1.heap.size w1 w2 := by rw [hw2]; exact (Below.refl _ _).alloc (Nat.le_refl _) _
            have B2 := Lib.hid (show Below v1.heap.size v1 w2 from Below.trans B1.out (Below.mono st2 (Below.size B1.out)))
            have GH_2 := Lib.hid ((Below.block st2 H LH_1.out).trans GH_1.out)
            have LH_2 := Lib.hid (Nat.lt_of_lt_of_le LH_1.out (Below.size st2))
            have GK_2 := Lib.hid ((Below.block st2 K LK_1.out).trans GK_1.out)
            have LK_2 := Lib.hid (Nat.lt_of_lt_of_le LK_1.out (Below.size st2))
            have GX_2 := Lib.hid ((Below.block st2 X LX_1.out).trans GX_1.out)
            have LX_2 := Lib.hid (Nat.lt_of_lt_of_le LX_1.out (Below.size st2))
            have GY_2 := Lib.hid (show w2.heap[Y]? = some (.cells (dV y) 23 (0, 0)) by rw [hw2, hY]; exact heap_alloc_new _ _)
            have LY_2 := Lib.hid (lt_of_heap GY_2.out)
            have HY := Lib.hid hY
            have Hw2 := Lib.hid hw2
            clear hY hw2 st2
            go_wp2_with (first
              | (refine at_ld 23 (.tmp 28) rfl ?_; (refine ld_digG rfl (.tmp 28) rfl PB (po + m * 32) (by rfl) x XL.out HRX.out ?_); simp only [Act.put, List.setIfInBounds_toArray, List.set_cons_zero, List.set_cons_succ])
              | (refine at_st 23 (.tmp 14) (.tmp 29) rfl ?_; (refine st_new rfl (.tmp 14) (.tmp 29) rfl x XL.out (by rfl) _ _ (by rfl) (by rfl) ?_); rw [← HX.out, ← Hw1.out])
              | (refine at_ld 23 (.tmp 34) rfl ?_; (refine ld_digG rfl (.tmp 34) rfl QB (qo + m * 32) (by rfl) y YL.out (fun j v hj => (Below.cell B1.out (p := ⟨QB, qo + m * 32 + j, none⟩) LQB.out).trans (HRY.out j v hj)) ?_); simp only [Act.put, List.setIfInBounds_toArray, List.set_cons_zero, List.set_cons_succ])
              | (refine at_st 23 (.tmp 15) (.tmp 35) rfl ?_; (refine st_new rfl (.tmp 15) (.tmp 35) rfl y YL.out (by rfl) _ _ (by rfl) (by rfl) ?_); rw [← HY.out, ← Hw2.out])
              | (refine at_ld 23 (.tmp 6) rfl ?_; (refine ld_digG rfl (.tmp 6) rfl (H) 0 (by rfl) la LAL.out (range_of_row GH_2.out) ?_); simp only [Act.put, List.setIfInBounds_toArray, List.set_cons_zero, List.set_cons_succ]))
            refine (HFU.out w2 B2.out).mono ?_
            rintro e w3 ⟨rfl, hb3⟩
            have B3 := Lib.hid (show Below v1.heap.size v1 w3 from Below.trans B2.out (Below.mono hb3 (Below.size B2.out)))
            have GH_3 := Lib.hid ((Below.block hb3 H LH_2.out).trans GH_2.out)
            have LH_3 := Lib.hid (Nat.lt_of_lt_of_le LH_2.out (Below.size hb3))
            have GK_3 := Lib.hid ((Below.block hb3 K LK_2.out).trans GK_2.out)
            have LK_3 := Lib.hid (Nat.lt_of_lt_of_le LK_2.out (Below.size hb3))
            have GX_3 := Lib.hid ((Below.block hb3 X LX_2.out).trans GX_2.out)
            have LX_3 := Lib.hid (Nat.lt_of_lt_of_le LX_2.out (Below.size hb3))
            have GY_3 := Lib.hid ((Below.block hb3 Y LY_2.out).trans GY_2.out)
            have LY_3 := Lib.hid (Nat.lt_of_lt_of_le LY_2.out (Below.size hb3))
            clear hb3
            obtain ⟨U, hU⟩ : ∃ z, z = w3.heap.size := ⟨_, rfl⟩
            obtain ⟨w4, hw4⟩ : ∃ z, z = w3.alloc (.cells (dV u) 23) := ⟨_, rfl⟩
            have st4 : Below w3.heap.size w3 w4 := by rw [hw4]; exact (Below.refl _ _).alloc (Nat.le_refl _) _
            have B4 := Lib.hid (show Below v1.heap.size v1 w4 from Below.trans B3.out (Below.mono st4 (Below.size B3.out)))
            have GH_4 := Lib.hid ((Below.block st4 H LH_3.out).trans GH_3.out)
            have LH_4 := Lib.hid (Nat.lt_of_lt_of_le LH_3.out (Below.size st4))
            have GK_4 := Lib.hid ((Below.block st4 K LK_3.out).trans GK_3.out)
            have LK_4 := Lib.hid (Nat.lt_of_lt_of_le LK_3.out (Below.size st4))
            have GX_4 := Lib.hid ((Below.block st4 X LX_3.out).trans GX_3.out)
            have LX_4 := Lib.hid (Nat.lt_of_lt_of_le LX_3.out (Below.size st4))
            have GY_4 := Lib.hid ((Below.block st4 Y LY_3.out).trans GY_3.out)
            have LY_4 := Lib.hid (Nat.lt_of_lt_of_le LY_3.out (Below.size st4))
            have GU_4 := Lib.hid (show w4.heap[U]? = some (.cells (dV u) 23 (0, 0)) by rw [hw4, hU]; exact heap_alloc_new _ _)
            have LU_4 := Lib.hid (lt_of_heap GU_4.out)
            have HU := Lib.hid hU
            have Hw4 := Lib.hid hw4
            clear hU hw4 st4
            go_wp2_with (first
              | (refine at_st 23 (.tmp 18) (.tmp 62) rfl ?_; (refine st_new rfl (.tmp 18) (.tmp 62) rfl u UL.out (by rfl) _ _ (by rfl) (by rfl) ?_); rw [← HU.out, ← Hw4.out])
              | (refine at_ld 23 (.tmp 8) rfl ?_; (refine ld_digG rfl (.tmp 8) rfl (K) 0 (by rfl) lb LBL.out (range_of_row GK_4.out) ?_); simp only [Act.put, List.setIfInBounds_toArray, List.set_cons_zero, List.set_cons_succ]))
            refine (HFV.out w4 B4.out).mono ?_
            rintro e w5 ⟨rfl, hb5⟩
            have B5 := Lib.hid (show Below v1.heap.size v1 w5 from Below.trans B4.out (Below.mono hb5 (Below.size B4.out)))
            have GH_5 := Lib.hid ((Below.block hb5 H LH_4.out).trans GH_4.out)
            have LH_5 := Lib.hid (Nat.lt_of_lt_of_le LH_4.out (Below.size hb5))
            have GK_5 := Lib.hid ((Below.block hb5 K LK_4.out).trans GK_4.out)
            have LK_5 := Lib.hid (Nat.lt_of_lt_of_le LK_4.out (Below.size hb5))
            have GX_5 := Lib.hid ((Below.block hb5 X LX_4.out).trans GX_4.out)
            have LX_5 := Lib.hid (Nat.lt_of_lt_of_le LX_4.out (Below.size hb5))
            have GY_5 := Lib.hid ((Below.block hb5 Y LY_4.out).trans GY_4.out)
            have LY_5 := Lib.hid (Nat.lt_of_lt_of_le LY_4.out (Below.size hb5))
            have GU_5 := Lib.hid ((Below.block hb5 U LU_4.out).trans GU_4.out)
            have LU_5 := Lib.hid (Nat.lt_of_lt_of_le LU_4.out (Below.size hb5))
            clear hb5
            obtain ⟨V, hV⟩ : ∃ z, z = w5.heap.size := ⟨_, rfl⟩
            obtain ⟨w6, hw6⟩ : ∃ z, z = w5.alloc (.cells (dV v) 23) := ⟨_, rfl⟩
            have st6 : Below w5.heap.size w5 w6 := by rw [hw6]; exact (Below.refl _ _).alloc (Nat.le_refl _) _
            have B6 := Lib.hid (show Below v1.heap.size v1 w6 from Below.trans B5.out (Below.mono st6 (Below.size B5.out)))
            have GH_6 := Lib.hid ((Below.block st6 H LH_5.out).trans GH_5.out)
            have LH_6 := Lib.hid (Nat.lt_of_lt_of_le LH_5.out (Below.size st6))
            have GK_6 := Lib.hid ((Below.block st6 K LK_5.out).trans GK_5.out)
            have LK_6 := Lib.hid (Nat.lt_of_lt_of_le LK_5.out (Below.size st6))
            have GX_6 := Lib.hid ((Below.block st6 X LX_5.out).trans GX_5.out)
            have LX_6 := Lib.hid (Nat.lt_of_lt_of_le LX_5.out (Below.size st6))
            have GY_6 := Lib.hid ((Below.block st6 Y LY_5.out).trans GY_5.out)
            have LY_6 := Lib.hid (Nat.lt_of_lt_of_le LY_5.out (Below.size st6))
            have GU_6 := Lib.hid ((Below.block st6 U LU_5.out).trans GU_5.out)
            have LU_6 := Lib.hid (Nat.lt_of_lt_of_le LU_5.out (Below.size st6))
            have GV_6 := Lib.hid (show w6.heap[V]? = some (.cells (dV v) 23 (0, 0)) by rw [hw6, hV]; exact heap_alloc_new _ _)
            have LV_6 := Lib.hid (lt_of_heap GV_6.out)
            have HV := Lib.hid hV
            have Hw6 := Lib.hid hw6
            clear hV hw6 st6
            go_wp2_with (first
              | (refine at_st 23 (.tmp 19) (.tmp 67) rfl ?_; (refine st_new rfl (.tmp 19) (.tmp 67) rfl v VL.out (by rfl) _ _ (by rfl) (by rfl) ?_); rw [← HV.out, ← Hw6.out])
              | (refine at_ld 23 (.tmp 18) rfl ?_; (refine ld_digG rfl (.tmp 18) rfl (U) 0 (by rfl) u UL.out (range_of_row GU_6.out) ?_); simp only [Act.put, List.setIfInBounds_toArray, List.set_cons_zero, List.set_cons_succ])
              | (refine at_ld 23 (.tmp 19) rfl ?_; (refine ld_digG rfl (.tmp 19) rfl (V) 0 (by rfl) v VL.out (range_of_row GV_6.out) ?_); simp only [Act.put, List.setIfInBounds_toArray, List.set_cons_zero, List.set_cons_succ])
              | (refine at_bin .neq 23 (.tmp 68) (.tmp 69) _ rfl ?_; (refine neq_digG rfl (.tmp 68) (.tmp 69) _ rfl u v (by rfl) (by rfl) UL.out VL.out ?_); rw [UV.out]; simp only [Act.put, List.setIfInBounds_toArray, List.set_cons_zero, List.set_cons_succ])
              | (refine at_ld 23 (.tmp 14) rfl ?_; (refine ld_digG rfl (.tmp 14) rfl (X) 0 (by rfl) x XL.out (range_of_row GX_6.out) ?_); simp only [Act.put, List.setIfInBounds_toArray, List.set_cons_zero, List.set_cons_succ])
              | (refine at_ld 23 (.tmp 15) rfl ?_; (refine ld_digG rfl (.tmp 15) rfl (Y) 0 (by rfl) y YL.out (range_of_row GY_6.out) ?_); simp only [Act.put, List.setIfInBounds_toArray, List.set_cons_zero, List.set_cons_succ])
              | (refine at_bin .neq 23 (.tmp 72) (.tmp 73) _ rfl ?_; (refine neq_digG rfl (.tmp 72) (.tmp 73) _ rfl x y (by rfl) (by rfl) XL.out YL.out ?_); rw [XY.out]; simp only [Act.put, List.setIfInBounds_toArray, List.set_cons_zero, List.set_cons_succ]))
            have NC : ∀ w', InB w6.heap.size w6 w' → Calls Tryd.prog 67 #[.agg (dV x), .agg (dV u)] w' fun e w'' => e = .returned (.agg (dV R)) ∧ InB w6.heap.size w6 w'' :=
              fun w' h => InB.call h (Nat.le_refl _) (by rw [HR.out]; exact RNode_calls x u XL.out UL.out w')
            have MC : ∀ w', InB w6.heap.size w6 w' → Calls Tryd.prog 67 #[.agg (dV y), .agg (dV v)] w' fun e w'' => e = .returned (.agg (dV R)) ∧ InB w6.heap.size w6 w'' :=
              fun w' h => InB.call h (Nat.le_refl _) (by rw [HR2.out]; exact RNode_calls y v YL.out VL.out w')
            have HNC := Lib.hid NC
            have HMC := Lib.hid MC
            have hex := inB_ex w6.heap.size w6
            have RX := Lib.hid (range_of_row GX_6.out)
            have lX := LX_6.out
            have RY := Lib.hid (range_of_row GY_6.out)
            have lY := LY_6.out
            have RU := Lib.hid (range_of_row GU_6.out)
            have lU := LU_6.out
            have RV := Lib.hid (range_of_row GV_6.out)
            have lV := LV_6.out
            clear NC MC
            refine wp_region_inB w6.heap.size (by kernel_rfl) (by kernel_rfl) ?_
            refine quiet_dig rfl (.tmp 14) rfl X 0 (by rfl) x XL.out (fun w' hw' => hw'.range lX RX.out) ?_
            simp only [Act.put, List.setIfInBounds_toArray, List.set_cons_zero, List.set_cons_succ]
            refine quiet_dig rfl (.tmp 18) rfl U 0 (by rfl) u UL.out (fun w' hw' => hw'.range lU RU.out) ?_
            simp only [Act.put, List.setIfInBounds_toArray, List.set_cons_zero, List.set_cons_succ]
            go_big_quiet_step ((intro hw'; exact HNC.out _ hw'))
            refine quiet_dig rfl (.tmp 15) rfl Y 0 (by rfl) y YL.out (fun w' hw' => hw'.range lY RY.out) ?_
            simp only [Act.put, List.setIfInBounds_toArray, List.set_cons_zero, List.set_cons_succ]
            refine quiet_dig rfl (.tmp 19) rfl V 0 (by rfl) v VL.out (fun w' hw' => hw'.range lV RV.out) ?_
            simp only [Act.put, List.setIfInBounds_toArray, List.set_cons_zero, List.set_cons_succ]
            go_big_quiet_step ((intro hw'; exact HMC.out _ hw'))
            refine quiet_dig_eq rfl (.tmp 86) (.tmp 89) _ rfl R R (by rfl) (by rfl) RL.out RL.out ?_
            rw [RR.out]
            simp only [Act.put, List.setIfInBounds_toArray, List.set_cons_zero, List.set_cons_succ]
            go_big_quiet_step ((intro _; rfl))
            refine wpQuiet_nil ?_
            intro wZ hwZ
            have BZ := Lib.hid (Below.trans B6.out (Below.mono hwZ (Below.size B6.out)))
            clear hwZ HNC HMC
            go_wp2_with fail
            go_ret
            exact ⟨rfl, BW.out.trans (BZ.out.mono BW.out.size)⟩

        · have UV := Lib.hid (show (u == v) = false by rw [beq_eq_false_iff_ne]; exact huv)
          clear huv
          go_enter Tryd.func39, Tryd.ntmps39
          go_upto_region 1 with fail
          rw [← HH.out, ← HW0.out, ← HW1.out, ← HK.out]
          go_wp2_with fail
          refine HHC.out.mono ?_
          rintro e w0 ⟨rfl, rfl⟩
          obtain ⟨X, hX⟩ : ∃ z, z = v1.heap.size := ⟨_, rfl⟩
          obtain ⟨w1, hw1⟩ : ∃ z, z = v1.alloc (.cells (dV x) 23) := ⟨_, rfl⟩
          have st1 : Below v1.heap.size v1 w1 := by rw [hw1]; exact (Below.refl _ _).alloc (Nat.le_refl _) _
          have B1 := Lib.hid (show Below v1.heap.size v1 w1 from Below.trans (Below.refl v1.heap.size v1) (Below.mono st1 (Below.size (Below.refl v1.heap.size v1))))
          have GH_1 := Lib.hid ((Below.block st1 H LH_0.out).trans GH_0.out)
          have LH_1 := Lib.hid (Nat.lt_of_lt_of_le LH_0.out (Below.size st1))
          have GK_1 := Lib.hid ((Below.block st1 K LK_0.out).trans GK_0.out)
          have LK_1 := Lib.hid (Nat.lt_of_lt_of_le LK_0.out (Below.size st1))
          have GX_1 := Lib.hid (show w1.heap[X]? = some (.cells (dV x) 23 (0, 0)) by rw [hw1, hX]; exact heap_alloc_new _ _)
          have LX_1 := Lib.hid (lt_of_heap GX_1.out)
          have HX := Lib.hid hX
          have Hw1 := Lib.hid hw1
          clear hX hw1 st1
          obtain ⟨Y, hY⟩ : ∃ z, z = w1.heap.size := ⟨_, rfl⟩
          obtain ⟨w2, hw2⟩ : ∃ z, z = w1.alloc (.cells (dV y) 23) := ⟨_, rfl⟩
          have st2 : Below w1.heap.size w1 w2 := by rw [hw2]; exact (Below.refl _ _).alloc (Nat.le_refl _) _
          have B2 := Lib.hid (show Below v1.heap.size v1 w2 from Below.trans B1.out (Below.mono st2 (Below.size B1.out)))
          have GH_2 := Lib.hid ((Below.block st2 H LH_1.out).trans GH_1.out)
          have LH_2 := Lib.hid (Nat.lt_of_lt_of_le LH_1.out (Below.size st2))
          have GK_2 := Lib.hid ((Below.block st2 K LK_1.out).trans GK_1.out)
          have LK_2 := Lib.hid (Nat.lt_of_lt_of_le LK_1.out (Below.size st2))
          have GX_2 := Lib.hid ((Below.block st2 X LX_1.out).trans GX_1.out)
          have LX_2 := Lib.hid (Nat.lt_of_lt_of_le LX_1.out (Below.size st2))
          have GY_2 := Lib.hid (show w2.heap[Y]? = some (.cells (dV y) 23 (0, 0)) by rw [hw2, hY]; exact heap_alloc_new _ _)
          have LY_2 := Lib.hid (lt_of_heap GY_2.out)
          have HY := Lib.hid hY
          have Hw2 := Lib.hid hw2
          clear hY hw2 st2
          go_wp2_with (first
            | (refine at_ld 23 (.tmp 28) rfl ?_; (refine ld_digG rfl (.tmp 28) rfl PB (po + m * 32) (by rfl) x XL.out HRX.out ?_); simp only [Act.put, List.setIfInBounds_toArray, List.set_cons_zero, List.set_cons_succ])
            | (refine at_st 23 (.tmp 14) (.tmp 29) rfl ?_; (refine st_new rfl (.tmp 14) (.tmp 29) rfl x XL.out (by rfl) _ _ (by rfl) (by rfl) ?_); rw [← HX.out, ← Hw1.out])
            | (refine at_ld 23 (.tmp 34) rfl ?_; (refine ld_digG rfl (.tmp 34) rfl QB (qo + m * 32) (by rfl) y YL.out (fun j v hj => (Below.cell B1.out (p := ⟨QB, qo + m * 32 + j, none⟩) LQB.out).trans (HRY.out j v hj)) ?_); simp only [Act.put, List.setIfInBounds_toArray, List.set_cons_zero, List.set_cons_succ])
            | (refine at_st 23 (.tmp 15) (.tmp 35) rfl ?_; (refine st_new rfl (.tmp 15) (.tmp 35) rfl y YL.out (by rfl) _ _ (by rfl) (by rfl) ?_); rw [← HY.out, ← Hw2.out])
            | (refine at_ld 23 (.tmp 6) rfl ?_; (refine ld_digG rfl (.tmp 6) rfl (H) 0 (by rfl) la LAL.out (range_of_row GH_2.out) ?_); simp only [Act.put, List.setIfInBounds_toArray, List.set_cons_zero, List.set_cons_succ]))
          refine (HFU.out w2 B2.out).mono ?_
          rintro e w3 ⟨rfl, hb3⟩
          have B3 := Lib.hid (show Below v1.heap.size v1 w3 from Below.trans B2.out (Below.mono hb3 (Below.size B2.out)))
          have GH_3 := Lib.hid ((Below.block hb3 H LH_2.out).trans GH_2.out)
          have LH_3 := Lib.hid (Nat.lt_of_lt_of_le LH_2.out (Below.size hb3))
          have GK_3 := Lib.hid ((Below.block hb3 K LK_2.out).trans GK_2.out)
          have LK_3 := Lib.hid (Nat.lt_of_lt_of_le LK_2.out (Below.size hb3))
          have GX_3 := Lib.hid ((Below.block hb3 X LX_2.out).trans GX_2.out)
          have LX_3 := Lib.hid (Nat.lt_of_lt_of_le LX_2.out (Below.size hb3))
          have GY_3 := Lib.hid ((Below.block hb3 Y LY_2.out).trans GY_2.out)
          have LY_3 := Lib.hid (Nat.lt_of_lt_of_le LY_2.out (Below.size hb3))
          clear hb3
          obtain ⟨U, hU⟩ : ∃ z, z = w3.heap.size := ⟨_, rfl⟩
          obtain ⟨w4, hw4⟩ : ∃ z, z = w3.alloc (.cells (dV u) 23) := ⟨_, rfl⟩
          have st4 : Below w3.heap.size w3 w4 := by rw [hw4]; exact (Below.refl _ _).alloc (Nat.le_refl _) _
          have B4 := Lib.hid (show Below v1.heap.size v1 w4 from Below.trans B3.out (Below.mono st4 (Below.size B3.out)))
          have GH_4 := Lib.hid ((Below.block st4 H LH_3.out).trans GH_3.out)
          have LH_4 := Lib.hid (Nat.lt_of_lt_of_le LH_3.out (Below.size st4))
          have GK_4 := Lib.hid ((Below.block st4 K LK_3.out).trans GK_3.out)
          have LK_4 := Lib.hid (Nat.lt_of_lt_of_le LK_3.out (Below.size st4))
          have GX_4 := Lib.hid ((Below.block st4 X LX_3.out).trans GX_3.out)
          have LX_4 := Lib.hid (Nat.lt_of_lt_of_le LX_3.out (Below.size st4))
          have GY_4 := Lib.hid ((Below.block st4 Y LY_3.out).trans GY_3.out)
          have LY_4 := Lib.hid (Nat.lt_of_lt_of_le LY_3.out (Below.size st4))
          have GU_4 := Lib.hid (show w4.heap[U]? = some (.cells (dV u) 23 (0, 0)) by rw [hw4, hU]; exact heap_alloc_new _ _)
          have LU_4 := Lib.hid (lt_of_heap GU_4.out)
          have HU := Lib.hid hU
          have Hw4 := Lib.hid hw4
          clear hU hw4 st4
          go_wp2_with (first
            | (refine at_st 23 (.tmp 18) (.tmp 62) rfl ?_; (refine st_new rfl (.tmp 18) (.tmp 62) rfl u UL.out (by rfl) _ _ (by rfl) (by rfl) ?_); rw [← HU.out, ← Hw4.out])
            | (refine at_ld 23 (.tmp 8) rfl ?_; (refine ld_digG rfl (.tmp 8) rfl (K) 0 (by rfl) lb LBL.out (range_of_row GK_4.out) ?_); simp only [Act.put, List.setIfInBounds_toArray, List.set_cons_zero, List.set_cons_succ]))
          refine (HFV.out w4 B4.out).mono ?_
          rintro e w5 ⟨rfl, hb5⟩
          have B5 := Lib.hid (show Below v1.heap.size v1 w5 from Below.trans B4.out (Below.mono hb5 (Below.size B4.out)))
          have GH_5 := Lib.hid ((Below.block hb5 H LH_4.out).trans GH_4.out)
          have LH_5 := Lib.hid (Nat.lt_of_lt_of_le LH_4.out (Below.size hb5))
          have GK_5 := Lib.hid ((Below.block hb5 K LK_4.out).trans GK_4.out)
          have LK_5 := Lib.hid (Nat.lt_of_lt_of_le LK_4.out (Below.size hb5))
          have GX_5 := Lib.hid ((Below.block hb5 X LX_4.out).trans GX_4.out)
          have LX_5 := Lib.hid (Nat.lt_of_lt_of_le LX_4.out (Below.size hb5))
          have GY_5 := Lib.hid ((Below.block hb5 Y LY_4.out).trans GY_4.out)
          have LY_5 := Lib.hid (Nat.lt_of_lt_of_le LY_4.out (Below.size hb5))
          have GU_5 := Lib.hid ((Below.block hb5 U LU_4.out).trans GU_4.out)
          have LU_5 := Lib.hid (Nat.lt_of_lt_of_le LU_4.out (Below.size hb5))
          clear hb5
          obtain ⟨V, hV⟩ : ∃ z, z = w5.heap.size := ⟨_, rfl⟩
          obtain ⟨w6, hw6⟩ : ∃ z, z = w5.alloc (.cells (dV v) 23) := ⟨_, rfl⟩
          have st6 : Below w5.heap.size w5 w6 := by rw [hw6]; exact (Below.refl _ _).alloc (Nat.le_refl _) _
          have B6 := Lib.hid (show Below v1.heap.size v1 w6 from Below.trans B5.out (Below.mono st6 (Below.size B5.out)))
          have GH_6 := Lib.hid ((Below.block st6 H LH_5.out).trans GH_5.out)
          have LH_6 := Lib.hid (Nat.lt_of_lt_of_le LH_5.out (Below.size st6))
          have GK_6 := Lib.hid ((Below.block st6 K LK_5.out).trans GK_5.out)
          have LK_6 := Lib.hid (Nat.lt_of_lt_of_le LK_5.out (Below.size st6))
          have GX_6 := Lib.hid ((Below.block st6 X LX_5.out).trans GX_5.out)
          have LX_6 := Lib.hid (Nat.lt_of_lt_of_le LX_5.out (Below.size st6))
          have GY_6 := Lib.hid ((Below.block st6 Y LY_5.out).trans GY_5.out)
          have LY_6 := Lib.hid (Nat.lt_of_lt_of_le LY_5.out (Below.size st6))
          have GU_6 := Lib.hid ((Below.block st6 U LU_5.out).trans GU_5.out)
          have LU_6 := Lib.hid (Nat.lt_of_lt_of_le LU_5.out (Below.size st6))
          have GV_6 := Lib.hid (show w6.heap[V]? = some (.cells (dV v) 23 (0, 0)) by rw [hw6, hV]; exact heap_alloc_new _ _)
          have LV_6 := Lib.hid (lt_of_heap GV_6.out)
          have HV := Lib.hid hV
          have Hw6 := Lib.hid hw6
          clear hV hw6 st6
          go_wp2_with (first
            | (refine at_st 23 (.tmp 19) (.tmp 67) rfl ?_; (refine st_new rfl (.tmp 19) (.tmp 67) rfl v VL.out (by rfl) _ _ (by rfl) (by rfl) ?_); rw [← HV.out, ← Hw6.out])
            | (refine at_ld 23 (.tmp 18) rfl ?_; (refine ld_digG rfl (.tmp 18) rfl (U) 0 (by rfl) u UL.out (range_of_row GU_6.out) ?_); simp only [Act.put, List.setIfInBounds_toArray, List.set_cons_zero, List.set_cons_succ])
            | (refine at_ld 23 (.tmp 19) rfl ?_; (refine ld_digG rfl (.tmp 19) rfl (V) 0 (by rfl) v VL.out (range_of_row GV_6.out) ?_); simp only [Act.put, List.setIfInBounds_toArray, List.set_cons_zero, List.set_cons_succ])
            | (refine at_bin .neq 23 (.tmp 68) (.tmp 69) _ rfl ?_; (refine neq_digG rfl (.tmp 68) (.tmp 69) _ rfl u v (by rfl) (by rfl) UL.out VL.out ?_); rw [UV.out]; simp only [Act.put, List.setIfInBounds_toArray, List.set_cons_zero, List.set_cons_succ]))
          have NC : ∀ w', InB w6.heap.size w6 w' → Calls Tryd.prog 67 #[.agg (dV x), .agg (dV u)] w' fun e w'' => e = .returned (.agg (dV R)) ∧ InB w6.heap.size w6 w'' :=
            fun w' h => InB.call h (Nat.le_refl _) (by rw [HR.out]; exact RNode_calls x u XL.out UL.out w')
          have MC : ∀ w', InB w6.heap.size w6 w' → Calls Tryd.prog 67 #[.agg (dV y), .agg (dV v)] w' fun e w'' => e = .returned (.agg (dV R)) ∧ InB w6.heap.size w6 w'' :=
            fun w' h => InB.call h (Nat.le_refl _) (by rw [HR2.out]; exact RNode_calls y v YL.out VL.out w')
          have HNC := Lib.hid NC
          have HMC := Lib.hid MC
          have hex := inB_ex w6.heap.size w6
          have RX := Lib.hid (range_of_row GX_6.out)
          have lX := LX_6.out
          have RY := Lib.hid (range_of_row GY_6.out)
          have lY := LY_6.out
          have RU := Lib.hid (range_of_row GU_6.out)
          have lU := LU_6.out
          have RV := Lib.hid (range_of_row GV_6.out)
          have lV := LV_6.out
          clear NC MC
          refine wp_region_inB w6.heap.size (by kernel_rfl) (by kernel_rfl) ?_
          refine quiet_dig rfl (.tmp 14) rfl X 0 (by rfl) x XL.out (fun w' hw' => hw'.range lX RX.out) ?_
          simp only [Act.put, List.setIfInBounds_toArray, List.set_cons_zero, List.set_cons_succ]
          refine quiet_dig rfl (.tmp 18) rfl U 0 (by rfl) u UL.out (fun w' hw' => hw'.range lU RU.out) ?_
          simp only [Act.put, List.setIfInBounds_toArray, List.set_cons_zero, List.set_cons_succ]
          go_big_quiet_step ((intro hw'; exact HNC.out _ hw'))
          refine quiet_dig rfl (.tmp 15) rfl Y 0 (by rfl) y YL.out (fun w' hw' => hw'.range lY RY.out) ?_
          simp only [Act.put, List.setIfInBounds_toArray, List.set_cons_zero, List.set_cons_succ]
          refine quiet_dig rfl (.tmp 19) rfl V 0 (by rfl) v VL.out (fun w' hw' => hw'.range lV RV.out) ?_
          simp only [Act.put, List.setIfInBounds_toArray, List.set_cons_zero, List.set_cons_succ]
          go_big_quiet_step ((intro hw'; exact HMC.out _ hw'))
          refine quiet_dig_eq rfl (.tmp 86) (.tmp 89) _ rfl R R (by rfl) (by rfl) RL.out RL.out ?_
          rw [RR.out]
          simp only [Act.put, List.setIfInBounds_toArray, List.set_cons_zero, List.set_cons_succ]
          go_big_quiet_step ((intro _; rfl))
          refine wpQuiet_nil ?_
          intro wZ hwZ
          have BZ := Lib.hid (Below.trans B6.out (Below.mono hwZ (Below.size B6.out)))
          clear hwZ HNC HMC
          go_wp2_with fail
          go_ret
          exact ⟨rfl, BW.out.trans (BZ.out.mono BW.out.size)⟩

    · obtain rfl : n = 1 := by omega
      rw [tfold_one h2 hpl, tfold_one h2 hql] at hfo
      exact absurd hfo hne
end Go.Proofs.YtpeomfehdccmmaaDoor
