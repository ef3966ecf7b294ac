/- None is left out: whatever range is told by the root of a list is refused, or has just what the list has from here to there, or two unlike texts have one digest. -/
import Derived.Test.YtpeomfehdccmmaaDoorRows
import Derived.Test.YtpeomfehdccmmaaDoorSpanLook
import Derived.Test.YtpeomfehdccmmaaDoorSpanRef
import Derived.Test.YtpeomfehdccmmaaDoorSpanSame
import Derived.Test.YtpeomfehdccmmaaDoorSpanClash
import Derived.Test.YtpeomfehdccmmaaDoorSpanned
import Derived.Test.YtpeomfehdccmmaaDoorRangeOpen
import Derived.Test.YtpeomfehdccmmaaDoorLaidR
import Derived.WalkKit
import Derived.ProofKit
import Derived.OpenShut
import Derived.ShutString
import Derived.ChangeOld
import Derived.Below
namespace Go.Proofs.YtpeomfehdccmmaaDoor
open Go.ChangeShapes Go.WideShapes Go.ChangeAt Go.RowKit
open Go.ChangeMaps (open_string shut_string)
set_option linter.unusedVariables false
set_option linter.unusedSimpArgs false
namespace spanSound

theorem run_ent_eql {x y : En} (hx : x.val.length = 32) (hy : y.val.length = 32) (w : World) : (binOp .eql 35 (.agg (eV x.key x.val)) (.agg (eV y.key y.val))).run Tryd.prog w = .ok (.bool (decide (x = y))) w := by
  show (Op.equalIn 10000 35 (.agg (eV x.key x.val)) (.agg (eV y.key y.val)) >>= fun b => pure (Value.bool b)).run _ _ = _
  rw [Sem.run_bind, ent_eq hx hy w, en_beq]; rfl
theorem quiet_ent_eql {ops : Array Oper} {C : World → Prop} {Q : Act → Prop} {a : Act} {op : Oper} {rest : List Oper} (hgd : Region.wanted op (yielded ops a.tmps) = true) (x y : Operand) (t : TypeId) (ho : op.op = .binOp .eql 35 x y t) (d e : En) (hx : a.eval x = .agg (eV d.key d.val)) (hy : a.eval y = .agg (eV e.key e.val)) (hd : d.val.length = 32) (he : e.val.length = 32)
    (h : wpQuiet Tryd.prog ops C Q rest (a.put op.dst (.bool (decide (d = e))))) : wpQuiet Tryd.prog ops C Q (op :: rest) a :=
  BigFrame.wpQuiet_want hgd fun K hK => ⟨.bool (decide (d = e)), fun w hw => by
    unfold Oper.quietAt execOp
    have g : (eqGuard .eql 35 x y (.agg (eV d.key d.val)) (.agg (eV e.key e.val))).run Tryd.prog w = .ok () w := by simp [go_sem]
    simp only [ho, hx, hy, Sem.run_bind, g, run_ent_eql hd he w, Result.andThen_ok]
    exact ⟨rfl, rfl⟩, hK _ h⟩
theorem lookF_ok {R : List UInt8} {n : Nat} {a b fr : Int} {items : List En} {pss : List (List (List UInt8))} (h : lookF R (n : Int) a b fr items pss = 0) : pss.length = items.length ∧ fitsB R n a b fr items pss = true := by
  unfold lookF at h
  split at h
  · cases h
  · split at h
    · cases h
    · rename_i h2
      split at h
      · rename_i h3
        rw [Int.toNat_natCast] at h3
        exact ⟨by simpa using h2, h3⟩
      · cases h
-- HOLE: the walk
set_option maxRecDepth 20000 in
set_option maxHeartbeats 16000000 in
theorem walk (x0 : List En) (a0 : Option Addr) (c0 e0 : Nat) (a1 : Int) (a2 : Int) (j3 : Int) (x3 : List En) (a3 : Option Addr) (c3 e3 : Nat) (y3 : List (List (List UInt8))) (b3 : Option Addr) (d3 f3 : Nat) (v3 : List Value) (w : World) (l0 : x0.length ≤ c0) (m0 : c0 ≤ 9223372036854775807) (n0 : ∀ e ∈ x0, EnW e) (r0 : Rd w a0 e0 (cellsE x0)) (h1 : -9223372036854775808 ≤ a1 ∧ a1 ≤ 9223372036854775807) (h2 : -9223372036854775808 ≤ a2 ∧ a2 ≤ 9223372036854775807) (h3 : -9223372036854775808 ≤ j3 ∧ j3 ≤ 9223372036854775807) (l3 : x3.length ≤ c3) (m3 : c3 ≤ 9223372036854775807) (n3 : ∀ e ∈ x3, EnW e) (r3 : Rd w a3 e3 (cellsE x3)) (k3 : y3.length ≤ d3) (g3 : d3 ≤ 9223372036854775807) (s3 : Rd w b3 f3 v3) (p3 : PathsAt w y3 v3) (q3 : CapsAt y3 v3) (hro : RoundsAt w) :
    Calls Tryd.prog 11 #[.slice a0 x0.length c0, .int .i64 a1, .int .i64 a2, .agg #[.int .i64 j3, .slice a3 x3.length c3, .slice b3 y3.length d3]] w fun e w' => e = .returned (.bool true) ∧ Below w.heap.size w w' := by
  obtain ⟨Z, hZ⟩ : ∃ Z, Z = nz := ⟨_, rfl⟩
  have zl : Z.length = 32 := by rw [hZ]; rfl
  have zlit : (#[.int .u8 0, .int .u8 0, .int .u8 0, .int .u8 0, .int .u8 0, .int .u8 0, .int .u8 0, .int .u8 0, .int .u8 0, .int .u8 0, .int .u8 0, .int .u8 0, .int .u8 0, .int .u8 0, .int .u8 0, .int .u8 0, .int .u8 0, .int .u8 0, .int .u8 0, .int .u8 0, .int .u8 0, .int .u8 0, .int .u8 0, .int .u8 0, .int .u8 0, .int .u8 0, .int .u8 0, .int .u8 0, .int .u8 0, .int .u8 0, .int .u8 0, .int .u8 0] : Array Value) = dV Z := by rw [hZ]; exact zdig
  have ZL := Lib.hid zl
  have ZT := Lib.hid zlit
  have HZ := Lib.hid hZ
  clear zl zlit hZ
  obtain ⟨H, hH⟩ : ∃ H, H = w.heap.size := ⟨_, rfl⟩
  obtain ⟨w0, hw0⟩ : ∃ z, z = w.alloc (.cells #[.int .i64 j3, .slice a3 x3.length c3, .slice b3 y3.length d3] 61) := ⟨_, rfl⟩
  have q0 : w0.heap.size = H + 1 := by rw [hw0, hH]; exact World.size_alloc _ _
  have s0 : Below (H) w w0 := by rw [hw0, hH]; exact (Below.refl _ _).alloc (Nat.le_refl _) _
  have t0 : Below (H + 1) w0 w0 := Below.refl _ _
  have bL : Below H w w0 := s0.trans (t0.mono (by omega))
  have g0 : w0.heap[H]? = some (.cells #[.int .i64 j3, .slice a3 x3.length c3, .slice b3 y3.length d3] 61 (0, 0)) := by
    have g : w0.heap[H]? = some (.cells #[.int .i64 j3, .slice a3 x3.length c3, .slice b3 y3.length d3] 61 (0, 0)) := by rw [hw0, hH]; exact heap_alloc_new _ _
    exact (t0.block _ (by omega)).trans g
  have bW : Below w.heap.size w w0 := by rw [← hH]; exact bL
  have hsz : H < w0.heap.size := by omega
  have HH := Lib.hid hH
  have HW0 := Lib.hid hw0
  have BL := Lib.hid bL
  have BW := Lib.hid bW
  have QL := Lib.hid q0
  have G0 := Lib.hid g0
  clear hH hw0 q0 s0 t0 g0 bL bW
  have RO := Lib.hid (hro.at_ BW.out)
  have R0_0 := Lib.hid (r0.below BW.out)
  have RI_0 := Lib.hid (r3.below BW.out)
  have RP_0 := Lib.hid (s3.below BW.out)
  have PA_0 := Lib.hid (p3.below BW.out)
  have QC := Lib.hid q3
  have N0 := Lib.hid n0
  have N3 := Lib.hid n3
  by_cases hf : listF x0 = 0
  · obtain ⟨h256, hko, hup⟩ := listF_ok hf
    obtain ⟨R, hR⟩ : ∃ R, R = troot (leavesD x0) := ⟨_, rfl⟩
    have RL := Lib.hid (show R.length = 32 by rw [hR]; exact troot_length _ (leavesD_dig x0))
    have hsr := fun w' (hb : Below w0.heap.size w0 w') => SRoot_ok x0 n0 hf a0 c0 e0 w' (R0_0.out.below hb) (RO.out.at_ hb)
    rw [← hR] at hsr
    have SR := Lib.hid hsr
    have hlk := fun w' (hb : Below w0.heap.size w0 w') => Look_calls R RL.out (x0.length : Int) a1 a2 j3 (by omega) h1 h2 h3 x3 n3 a3 c3 e3 (by omega) y3 v3 b3 d3 f3 w' (RI_0.out.below hb) (RP_0.out.below hb) (PA_0.out.below hb) (RO.out.at_ hb)
    obtain ⟨F, hF⟩ : ∃ F, F = lookF R (x0.length : Int) a1 a2 j3 x3 y3 := ⟨_, rfl⟩
    rw [← hF] at hlk
    clear hsr hf
    by_cases hF0 : F = 0
    · rw [hF0] at hF hlk
      obtain ⟨hpl, hfit⟩ := lookF_ok hF.symm
      obtain ⟨K, hK⟩ : ∃ K, K = withinE x3 a1 a2 := ⟨_, rfl⟩
      obtain ⟨J, hJ⟩ : ∃ J, J = withinE x0 a1 a2 := ⟨_, rfl⟩
      rw [← hK] at hlk
      have hlg := fun w' (hb : Below w0.heap.size w0 w') => (hlk w' hb).mono fun e w'' h => (⟨h.2.1 rfl, h.2.2⟩ : (∃ a c e', e = .returned (.tuple #[.slice a K.length c, .nilIface]) ∧ Rd w'' a e' (cellsE K)) ∧ Below w'.heap.size w' w'')
      have LG := Lib.hid hlg
      have hwc := fun w' (hb : Below w0.heap.size w0 w') => Within_calls x0 n0 a0 c0 e0 a1 a2 w' (R0_0.out.below hb) (by omega)
      rw [← hJ] at hwc
      have WC := Lib.hid hwc
      have hKe : ∀ e ∈ K, e.val.length = 32 := by rw [hK]; exact fun e he => (n3 e (List.mem_filter.1 he).1).1
      have hJe : ∀ e ∈ J, e.val.length = 32 := by rw [hJ]; exact fun e he => (n0 e (List.mem_filter.1 he).1).1
      have hKl : K.length ≤ 9223372036854775807 := by rw [hK]; exact Nat.le_trans (List.length_filter_le _ _) (by omega)
      have hec := fun w' ag cg eg aw cw ew (hr1 : Rd w' ag eg (cellsE K)) (hr2 : Rd w' aw ew (cellsE J)) => (Entries_calls K J hKe hJe ag cg eg aw cw ew w' hr1 hr2 hKl).mono fun e w'' h => (⟨h.1, by obtain ⟨n, hn⟩ := h.2; rw [hn]; exact below_drewN (Below.refl _ _) n⟩ : e = .returned (.bool (decide (K = J))) ∧ Below w'.heap.size w' w'')
      by_cases hkj : K = J
      · rw [decide_eq_true hkj] at hec
        have EC := Lib.hid hec
        clear hlk hlg hwc hec hkj hK hJ hF hF0 hR hpl hfit h256 hko hup hKe hJe hKl hro r0 r3 s3 p3 q3 n0 n3
        have GH_0 := G0
        have LH_0 := Lib.hid (lt_of_heap G0.out)
        go_enter Tryd.func11, Tryd.ntmps11
        go_upto_region 1 with fail
        rw [← HH.out, ← HW0.out]
        go_wp2_with fail
        refine (Spanned_calls w0 RO.out).mono ?_
        rintro e w1 ⟨rfl, hb1⟩
        have B1 := Lib.hid (show Below w0.heap.size w0 w1 from Below.trans (Below.refl w0.heap.size w0) (Below.mono hb1 (Below.size (Below.refl w0.heap.size w0))))
        have GH_1 := Lib.hid ((Below.block hb1 H LH_0.out).trans GH_0.out)
        have LH_1 := Lib.hid (Nat.lt_of_lt_of_le LH_0.out (Below.size hb1))
        have R0_1 := Lib.hid (R0_0.out.below hb1)
        have RI_1 := Lib.hid (RI_0.out.below hb1)
        have RP_1 := Lib.hid (RP_0.out.below hb1)
        have PA_1 := Lib.hid (PA_0.out.below hb1)
        clear hb1
        go_wp2_with fail
        refine (SR.out w1 B1.out).mono ?_
        rintro e w2 ⟨rfl, hb2⟩
        have B2 := Lib.hid (show Below w0.heap.size w0 w2 from Below.trans B1.out (Below.mono hb2 (Below.size B1.out)))
        have GH_2 := Lib.hid ((Below.block hb2 H LH_1.out).trans GH_1.out)
        have LH_2 := Lib.hid (Nat.lt_of_lt_of_le LH_1.out (Below.size hb2))
        have R0_2 := Lib.hid (R0_1.out.below hb2)
        have RI_2 := Lib.hid (RI_1.out.below hb2)
        have RP_2 := Lib.hid (RP_1.out.below hb2)
        have PA_2 := Lib.hid (PA_1.out.below hb2)
        clear hb2
        obtain ⟨X, hX⟩ : ∃ z, z = w2.heap.size := ⟨_, rfl⟩
        obtain ⟨w3, hw3⟩ : ∃ z, z = w2.alloc (.cells (dV R) 23) := ⟨_, rfl⟩
        have st3 : Below w2.heap.size w2 w3 := by rw [hw3]; exact (Below.refl _ _).alloc (Nat.le_refl _) _
        have B3 := Lib.hid (show Below w0.heap.size w0 w3 from Below.trans B2.out (Below.mono st3 (Below.size B2.out)))
        have GH_3 := Lib.hid ((Below.block st3 H LH_2.out).trans GH_2.out)
        have LH_3 := Lib.hid (Nat.lt_of_lt_of_le LH_2.out (Below.size st3))
        have R0_3 := Lib.hid (R0_2.out.below st3)
        have RI_3 := Lib.hid (RI_2.out.below st3)
        have RP_3 := Lib.hid (RP_2.out.below st3)
        have PA_3 := Lib.hid (PA_2.out.below st3)
        have GX_3 := Lib.hid (show w3.heap[X]? = some (.cells (dV R) 23 (0, 0)) by rw [hw3, hX]; exact heap_alloc_new _ _)
        have LX_3 := Lib.hid (lt_of_heap GX_3.out)
        have HX := Lib.hid hX
        have Hw3 := Lib.hid hw3
        clear hX hw3 st3
        go_wp2_with (first
          | (refine at_st 23 (.tmp 10) (.tmp 25) rfl ?_; (refine st_new rfl (.tmp 10) (.tmp 25) rfl R RL.out (by rfl) _ _ (by rfl) (by rfl) ?_); rw [← HX.out, ← Hw3.out])
          | (refine at_ld 23 (.tmp 10) rfl ?_; (refine ld_digG rfl (.tmp 10) rfl (X) 0 (by rfl) R RL.out (range_of_row GX_3.out) ?_); simp only [Act.put, List.setIfInBounds_toArray, List.set_cons_zero, List.set_cons_succ])
          | ((refine wpList_load_row rfl _ (.tmp 7) rfl H (by rfl) _ _ _ _ GH_3.out Tryd.underlying61 rfl info_rng3 ?_); simp only [Act.put, List.setIfInBounds_toArray, List.set_cons_zero, List.set_cons_succ]))
        refine (LG.out w3 B3.out).mono ?_
        rintro e w4 ⟨⟨ag, cg, eg, rfl, hrg⟩, hb4⟩
        have B4 := Lib.hid (show Below w0.heap.size w0 w4 from Below.trans B3.out (Below.mono hb4 (Below.size B3.out)))
        have GH_4 := Lib.hid ((Below.block hb4 H LH_3.out).trans GH_3.out)
        have LH_4 := Lib.hid (Nat.lt_of_lt_of_le LH_3.out (Below.size hb4))
        have GX_4 := Lib.hid ((Below.block hb4 X LX_3.out).trans GX_3.out)
        have LX_4 := Lib.hid (Nat.lt_of_lt_of_le LX_3.out (Below.size hb4))
        have R0_4 := Lib.hid (R0_3.out.below hb4)
        have RI_4 := Lib.hid (RI_3.out.below hb4)
        have RP_4 := Lib.hid (RP_3.out.below hb4)
        have PA_4 := Lib.hid (PA_3.out.below hb4)
        have RG_4 := Lib.hid hrg
        clear hrg
        clear hb4
        go_wp2_with fail
        refine (WC.out w4 B4.out).mono ?_
        rintro e w5 ⟨aw, cw, rfl, how, hb5⟩
        have B5 := Lib.hid (show Below w0.heap.size w0 w5 from Below.trans B4.out (Below.mono hb5 (Below.size B4.out)))
        have GH_5 := Lib.hid ((Below.block hb5 H LH_4.out).trans GH_4.out)
        have LH_5 := Lib.hid (Nat.lt_of_lt_of_le LH_4.out (Below.size hb5))
        have GX_5 := Lib.hid ((Below.block hb5 X LX_4.out).trans GX_4.out)
        have LX_5 := Lib.hid (Nat.lt_of_lt_of_le LX_4.out (Below.size hb5))
        have R0_5 := Lib.hid (R0_4.out.below hb5)
        have RI_5 := Lib.hid (RI_4.out.below hb5)
        have RP_5 := Lib.hid (RP_4.out.below hb5)
        have PA_5 := Lib.hid (PA_4.out.below hb5)
        have RG_5 := Lib.hid (RG_4.out.below hb5)
        have RW_5 := Lib.hid (Rd.of_own how)
        clear how
        clear hb5
        go_wp2_with fail
        refine (EC.out w5 ag cg eg aw cw _ RG_5.out RW_5.out).mono ?_
        rintro e w6 ⟨rfl, hb6⟩
        have B6 := Lib.hid (show Below w0.heap.size w0 w6 from Below.trans B5.out (Below.mono hb6 (Below.size B5.out)))
        have GH_6 := Lib.hid ((Below.block hb6 H LH_5.out).trans GH_5.out)
        have LH_6 := Lib.hid (Nat.lt_of_lt_of_le LH_5.out (Below.size hb6))
        have GX_6 := Lib.hid ((Below.block hb6 X LX_5.out).trans GX_5.out)
        have LX_6 := Lib.hid (Nat.lt_of_lt_of_le LX_5.out (Below.size hb6))
        have R0_6 := Lib.hid (R0_5.out.below hb6)
        have RI_6 := Lib.hid (RI_5.out.below hb6)
        have RP_6 := Lib.hid (RP_5.out.below hb6)
        have PA_6 := Lib.hid (PA_5.out.below hb6)
        have RG_6 := Lib.hid (RG_5.out.below hb6)
        have RW_6 := Lib.hid (RW_5.out.below hb6)
        clear hb6
        go_wp2_with fail
        go_ret
        exact ⟨rfl, BW.out.trans (Below.mono B6.out BW.out.size)⟩
      · rw [decide_eq_false hkj] at hec
        have EC := Lib.hid hec
        have hil := fun w' (hb : Below w0.heap.size w0 w') => ItemLeaves_calls x0 n0 hko a0 c0 e0 w' (R0_0.out.below hb) (by omega)
        have IL := Lib.hid hil
        have IL32 := Lib.hid (show ∀ e ∈ x3, e.val.length = 32 from fun e he => (n3 e he).1)
        have N032 := Lib.hid (show ∀ e ∈ x0, e.val.length = 32 from fun e he => (n0 e he).1)
        have NE := Lib.hid (show ¬ ∀ i, (h : i < x3.length) → x0[j3.toNat + i]? = some x3[i] from fun h => hkj (by rw [hK, hJ]; exact (span_same hup hpl hfit h).symm))
        have IN := Lib.hid (show 0 < x3.length → 0 ≤ j3 ∧ j3 + (x3.length : Int) ≤ (x0.length : Int) from fun h => ⟨(fitsB_in hpl hfit h).1, (fitsB_in hpl hfit h).2.1⟩)
        have HPL := Lib.hid hpl
        rw [hR] at hfit
        have HFIT := Lib.hid hfit
        have H256 := Lib.hid h256
        have y5 : ((x3.length : Int) != (y3.length : Int)) = false := by rw [bne_eq_false_iff_eq]; omega
        have y6 : (x3.length != y3.length) = false := by rw [bne_eq_false_iff_eq]; omega
        clear hlk hlg hwc hec hil hkj hK hJ hF hF0 hR hpl hfit hko hup hKe hJe hKl hro r0 r3 s3 p3 q3 n0 n3 h256
        have GH_0 := G0
        have LH_0 := Lib.hid (lt_of_heap G0.out)
        go_enter Tryd.func11, Tryd.ntmps11
        go_upto_region 1 with fail
        rw [← HH.out, ← HW0.out]
        go_wp2_with fail
        refine (Spanned_calls w0 RO.out).mono ?_
        rintro e w1 ⟨rfl, hb1⟩
        have B1 := Lib.hid (show Below w0.heap.size w0 w1 from Below.trans (Below.refl w0.heap.size w0) (Below.mono hb1 (Below.size (Below.refl w0.heap.size w0))))
        have GH_1 := Lib.hid ((Below.block hb1 H LH_0.out).trans GH_0.out)
        have LH_1 := Lib.hid (Nat.lt_of_lt_of_le LH_0.out (Below.size hb1))
        have R0_1 := Lib.hid (R0_0.out.below hb1)
        have RI_1 := Lib.hid (RI_0.out.below hb1)
        have RP_1 := Lib.hid (RP_0.out.below hb1)
        have PA_1 := Lib.hid (PA_0.out.below hb1)
        clear hb1
        go_wp2_with fail
        refine (SR.out w1 B1.out).mono ?_
        rintro e w2 ⟨rfl, hb2⟩
        have B2 := Lib.hid (show Below w0.heap.size w0 w2 from Below.trans B1.out (Below.mono hb2 (Below.size B1.out)))
        have GH_2 := Lib.hid ((Below.block hb2 H LH_1.out).trans GH_1.out)
        have LH_2 := Lib.hid (Nat.lt_of_lt_of_le LH_1.out (Below.size hb2))
        have R0_2 := Lib.hid (R0_1.out.below hb2)
        have RI_2 := Lib.hid (RI_1.out.below hb2)
        have RP_2 := Lib.hid (RP_1.out.below hb2)
        have PA_2 := Lib.hid (PA_1.out.below hb2)
        clear hb2
        obtain ⟨X, hX⟩ : ∃ z, z = w2.heap.size := ⟨_, rfl⟩
        obtain ⟨w3, hw3⟩ : ∃ z, z = w2.alloc (.cells (dV R) 23) := ⟨_, rfl⟩
        have st3 : Below w2.heap.size w2 w3 := by rw [hw3]; exact (Below.refl _ _).alloc (Nat.le_refl _) _
        have B3 := Lib.hid (show Below w0.heap.size w0 w3 from Below.trans B2.out (Below.mono st3 (Below.size B2.out)))
        have GH_3 := Lib.hid ((Below.block st3 H LH_2.out).trans GH_2.out)
        have LH_3 := Lib.hid (Nat.lt_of_lt_of_le LH_2.out (Below.size st3))
        have R0_3 := Lib.hid (R0_2.out.below st3)
        have RI_3 := Lib.hid (RI_2.out.below st3)
        have RP_3 := Lib.hid (RP_2.out.below st3)
        have PA_3 := Lib.hid (PA_2.out.below st3)
        have GX_3 := Lib.hid (show w3.heap[X]? = some (.cells (dV R) 23 (0, 0)) by rw [hw3, hX]; exact heap_alloc_new _ _)
        have LX_3 := Lib.hid (lt_of_heap GX_3.out)
        have HX := Lib.hid hX
        have Hw3 := Lib.hid hw3
        clear hX hw3 st3
        go_wp2_with (first
          | (refine at_st 23 (.tmp 10) (.tmp 25) rfl ?_; (refine st_new rfl (.tmp 10) (.tmp 25) rfl R RL.out (by rfl) _ _ (by rfl) (by rfl) ?_); rw [← HX.out, ← Hw3.out])
          | (refine at_ld 23 (.tmp 10) rfl ?_; (refine ld_digG rfl (.tmp 10) rfl (X) 0 (by rfl) R RL.out (range_of_row GX_3.out) ?_); simp only [Act.put, List.setIfInBounds_toArray, List.set_cons_zero, List.set_cons_succ])
          | ((refine wpList_load_row rfl _ (.tmp 7) rfl H (by rfl) _ _ _ _ GH_3.out Tryd.underlying61 rfl info_rng3 ?_); simp only [Act.put, List.setIfInBounds_toArray, List.set_cons_zero, List.set_cons_succ]))
        refine (LG.out w3 B3.out).mono ?_
        rintro e w4 ⟨⟨ag, cg, eg, rfl, hrg⟩, hb4⟩
        have B4 := Lib.hid (show Below w0.heap.size w0 w4 from Below.trans B3.out (Below.mono hb4 (Below.size B3.out)))
        have GH_4 := Lib.hid ((Below.block hb4 H LH_3.out).trans GH_3.out)
        have LH_4 := Lib.hid (Nat.lt_of_lt_of_le LH_3.out (Below.size hb4))
        have GX_4 := Lib.hid ((Below.block hb4 X LX_3.out).trans GX_3.out)
        have LX_4 := Lib.hid (Nat.lt_of_lt_of_le LX_3.out (Below.size hb4))
        have R0_4 := Lib.hid (R0_3.out.below hb4)
        have RI_4 := Lib.hid (RI_3.out.below hb4)
        have RP_4 := Lib.hid (RP_3.out.below hb4)
        have PA_4 := Lib.hid (PA_3.out.below hb4)
        have RG_4 := Lib.hid hrg
        clear hrg
        clear hb4
        go_wp2_with fail
        refine (WC.out w4 B4.out).mono ?_
        rintro e w5 ⟨aw, cw, rfl, how, hb5⟩
        have B5 := Lib.hid (show Below w0.heap.size w0 w5 from Below.trans B4.out (Below.mono hb5 (Below.size B4.out)))
        have GH_5 := Lib.hid ((Below.block hb5 H LH_4.out).trans GH_4.out)
        have LH_5 := Lib.hid (Nat.lt_of_lt_of_le LH_4.out (Below.size hb5))
        have GX_5 := Lib.hid ((Below.block hb5 X LX_4.out).trans GX_4.out)
        have LX_5 := Lib.hid (Nat.lt_of_lt_of_le LX_4.out (Below.size hb5))
        have R0_5 := Lib.hid (R0_4.out.below hb5)
        have RI_5 := Lib.hid (RI_4.out.below hb5)
        have RP_5 := Lib.hid (RP_4.out.below hb5)
        have PA_5 := Lib.hid (PA_4.out.below hb5)
        have RG_5 := Lib.hid (RG_4.out.below hb5)
        have RW_5 := Lib.hid (Rd.of_own how)
        clear how
        clear hb5
        go_wp2_with fail
        refine (EC.out w5 ag cg eg aw cw _ RG_5.out RW_5.out).mono ?_
        rintro e w6 ⟨rfl, hb6⟩
        have B6 := Lib.hid (show Below w0.heap.size w0 w6 from Below.trans B5.out (Below.mono hb6 (Below.size B5.out)))
        have GH_6 := Lib.hid ((Below.block hb6 H LH_5.out).trans GH_5.out)
        have LH_6 := Lib.hid (Nat.lt_of_lt_of_le LH_5.out (Below.size hb6))
        have GX_6 := Lib.hid ((Below.block hb6 X LX_5.out).trans GX_5.out)
        have LX_6 := Lib.hid (Nat.lt_of_lt_of_le LX_5.out (Below.size hb6))
        have R0_6 := Lib.hid (R0_5.out.below hb6)
        have RI_6 := Lib.hid (RI_5.out.below hb6)
        have RP_6 := Lib.hid (RP_5.out.below hb6)
        have PA_6 := Lib.hid (PA_5.out.below hb6)
        have RG_6 := Lib.hid (RG_5.out.below hb6)
        have RW_6 := Lib.hid (RW_5.out.below hb6)
        clear hb6
        go_wp2_with fail
        refine (IL.out w6 B6.out).mono ?_
        rintro e w7 ⟨al, cl, rfl, hol, hb7⟩
        have B7 := Lib.hid (show Below w0.heap.size w0 w7 from Below.trans B6.out (Below.mono hb7 (Below.size B6.out)))
        have GH_7 := Lib.hid ((Below.block hb7 H LH_6.out).trans GH_6.out)
        have LH_7 := Lib.hid (Nat.lt_of_lt_of_le LH_6.out (Below.size hb7))
        have GX_7 := Lib.hid ((Below.block hb7 X LX_6.out).trans GX_6.out)
        have LX_7 := Lib.hid (Nat.lt_of_lt_of_le LX_6.out (Below.size hb7))
        have R0_7 := Lib.hid (R0_6.out.below hb7)
        have RI_7 := Lib.hid (RI_6.out.below hb7)
        have RP_7 := Lib.hid (RP_6.out.below hb7)
        have PA_7 := Lib.hid (PA_6.out.below hb7)
        have RL_7 := Lib.hid (Rd.of_own hol)
        have HOC := Lib.hid (own_cappW hol)
        clear hol
        clear hb7
        obtain ⟨c0_, c1_, c2_⟩ := rng_cells GH_7.out
        go_wp2_with fail
        have BC := Lib.hid (BW.out.trans (Below.mono B7.out BW.out.size))
        clear c0_ c1_ c2_
        go_loopw [15] (fun i wr => ∃ k : Nat, k ≤ x3.length ∧ i = .int .i64 (k : Int) ∧ Hid (∀ j, (h : j < x3.length) → j < k → x0[j3.toNat + j]? = some x3[j]) ∧ Hid (Below w7.heap.size w7 wr)) (fun i _ => x3.length - (intOf i).toNat)
        case atStart => exact ⟨0, Nat.zero_le _, rfl, Lib.hid (fun j _ h => absurd h (by omega)), Lib.hid (Below.refl _ _)⟩
        case round =>
          obtain ⟨k, hk, rfl, HA, HBL⟩ := hrel
          obtain ⟨wA, rfl⟩ : ∃ z, z = wr := ⟨_, rfl⟩
          by_cases hlt : k < x3.length
          · have B8 := Lib.hid (show Below w7.heap.size w7 wA from Below.trans (Below.refl w7.heap.size w7) (Below.mono HBL.out (Below.size (Below.refl w7.heap.size w7))))
            have GH_8 := Lib.hid ((Below.block HBL.out H LH_7.out).trans GH_7.out)
            have LH_8 := Lib.hid (Nat.lt_of_lt_of_le LH_7.out (Below.size HBL.out))
            have R0_8 := Lib.hid (R0_7.out.below HBL.out)
            have RI_8 := Lib.hid (RI_7.out.below HBL.out)
            have RP_8 := Lib.hid (RP_7.out.below HBL.out)
            have PA_8 := Lib.hid (PA_7.out.below HBL.out)
            have RL_8 := Lib.hid (RL_7.out.below HBL.out)
            obtain ⟨i1, i2⟩ := IN.out (by omega)
            obtain ⟨f, hf⟩ : ∃ f : Nat, j3 = (f : Int) := ⟨j3.toNat, by omega⟩
            subst hf
            obtain ⟨q, hq⟩ : ∃ q, q = f + k := ⟨_, rfl⟩
            have hqn : q < x0.length := by omega
            obtain ⟨ba, oa, hba, hbl, hrg⟩ := RI_8.out.ent IL32.out hlt
            subst hba
            obtain ⟨E, hE⟩ : ∃ E, E = x3[k] := ⟨_, rfl⟩
            obtain ⟨D, hD⟩ : ∃ D, D = x0[q] := ⟨_, rfl⟩
            obtain ⟨g1, g2, g3, g4⟩ := fitsB_get HPL.out HFIT.out k hlt
            rw [← hE] at hrg g1 g4
            rw [Int.toNat_natCast, ← hq] at g2 g3 g4
            have EW := Lib.hid (show EnW E by rw [hE]; exact N3.out _ (List.getElem_mem _))
            have DW := Lib.hid (show EnW D by rw [hD]; exact N0.out _ (List.getElem_mem _))
            have EK := Lib.hid g1
            obtain ⟨u, hu⟩ : ∃ u, u = itemD E := ⟨_, rfl⟩
            have UL := Lib.hid (show u.length = 32 by rw [hu]; exact itemD_length _)
            have IC := fun w' => ItemLeaf_calls E EW.out EK.out w'
            rw [← hu] at IC g4
            obtain ⟨v, hv⟩ : ∃ v, v = itemD D := ⟨_, rfl⟩
            have VL := Lib.hid (show v.length = 32 by rw [hv]; exact itemD_length _)
            have hlv : (leavesD x0)[q]? = some v := by unfold leavesD; rw [List.getElem?_map, List.getElem?_eq_getElem hqn, hv, hD]; rfl
            have hvq : (leavesD x0)[q]'(by rw [leavesD_length]; exact hqn) = v := by rw [List.getElem?_eq_getElem (by rw [leavesD_length]; exact hqn), Option.some.injEq] at hlv; exact hlv
            have HLV := Lib.hid hlv
            have HIC := Lib.hid IC
            have e5 : IntKind.i64.wrap ((f : Int) + (k : Int)) = (q : Int) := by rw [IntWalk.i64_in _ (by omega)]; omega
            have e4 : IntKind.i64.wrap ((k : Int) + 1) = (k : Int) + 1 := IntWalk.i64_in _ (by omega)
            have j0 : (0 : Int) ≤ (k : Int) := by omega
            have j1 : (k : Int) < (x3.length : Int) := by omega
            have j2 : (k : Int) < (y3.length : Int) := by have := HPL.out; omega
            have z1 : decide ((q : Int) < 0) = false := decide_eq_false (by omega)
            have z2 : decide ((x0.length : Int) ≤ (q : Int)) = false := decide_eq_false (by omega)
            have z3 : decide (x0.length ≤ q) = false := decide_eq_false (by omega)
            have q0 : (0 : Int) ≤ (q : Int) := by omega
            have q1 : (q : Int) < (x0.length : Int) := by omega
            obtain ⟨bd, od, hbd, hbdl, hrd⟩ := R0_8.out.ent N032.out hqn
            subst hbd
            rw [← hD] at hrd
            obtain ⟨be, oe, hbe, hbel, hre⟩ := RL_8.out.range (leavesD_dig x0) (k := q) (by rw [leavesD_length]; exact hqn)
            subst hbe
            rw [hvq] at hre
            obtain ⟨pb, po, hpb, hpbl, hpc⟩ := RP_8.out.cell (k := k) (by rw [PA_0.out.1, HPL.out]; exact hlt)
            subst hpb
            have GE_8 := Lib.hid hrg
            have GD_8 := Lib.hid hrd
            have GL_8 := Lib.hid hre
            have GEb_8 := Lib.hid hbl
            have GDb_8 := Lib.hid hbdl
            have GLb_8 := Lib.hid hbel
            obtain ⟨hpd, pa, pc, pe, hvk, hrp⟩ := PA_8.out.2 k (by rw [HPL.out]; exact hlt)
            have hcap := QC.out k (by rw [HPL.out]; exact hlt) _ _ _ hvk
            have hpk := hpc k (by rw [PA_0.out.1, HPL.out]; exact hlt)
            rw [← List.getElem?_eq_getElem (by rw [PA_0.out.1, HPL.out]; exact hlt), hvk] at hpk
            obtain ⟨ps, hps⟩ : ∃ ps, ps = y3[k]'(by rw [HPL.out]; exact hlt) := ⟨_, rfl⟩
            rw [← hps] at hpd hvk hrp hcap hpk g3 g4
            have HPD := Lib.hid hpd
            have HCAP := Lib.hid hcap
            have HG4 := Lib.hid g4
            have HG3 := Lib.hid g3
            have GQ_8 := Lib.hid (show wA.rangeAt pb (po + k) [.slice pa ps.length pc] from fun j v hj => by
              cases j with
              | zero => rw [Nat.add_zero, hpk]; simpa using hj
              | succ j => simp at hj)
            have GQb_8 := Lib.hid hpbl
            have HRPX_8 := Lib.hid hrp
            have HDQ := Lib.hid (show x0[f + k]? = some D by rw [← hq, hD]; exact List.getElem?_eq_getElem hqn)
            have HEK2 := Lib.hid hE
            have HQ := Lib.hid hq
            have HQN := Lib.hid hqn
            have HKL := Lib.hid hlt
            clear i1 i2 hq hbl hrg hD g1 g2 g3 g4 IC hu hv hlv hvq hbdl hrd hbel hre hE hpbl hpc hpd hvk hrp hcap hpk hps
            obtain ⟨c0, c1, c2⟩ := rng_cells GH_8.out
            go_wp2_with (first
              | (refine at_ld 35 (.tmp 79) rfl ?_; (refine ld_entG rfl (.tmp 79) rfl ba (oa + k * 33) (by rfl) E EW.out.1 GE_8.out ?_); simp only [Act.put, List.setIfInBounds_toArray, List.set_cons_zero, List.set_cons_succ]))
            refine (HIC.out wA).mono ?_
            rintro e w9 ⟨rfl, hb9⟩
            have B9 := Lib.hid (show Below w7.heap.size w7 w9 from Below.trans B8.out (Below.mono hb9 (Below.size B8.out)))
            have GH_9 := Lib.hid ((Below.block hb9 H LH_8.out).trans GH_8.out)
            have LH_9 := Lib.hid (Nat.lt_of_lt_of_le LH_8.out (Below.size hb9))
            have R0_9 := Lib.hid (R0_8.out.below hb9)
            have RI_9 := Lib.hid (RI_8.out.below hb9)
            have RP_9 := Lib.hid (RP_8.out.below hb9)
            have PA_9 := Lib.hid (PA_8.out.below hb9)
            have RL_9 := Lib.hid (RL_8.out.below hb9)
            have HRPX_9 := Lib.hid (HRPX_8.out.below hb9)
            have GE_9 := Lib.hid (range_keep hb9 GE_8.out GEb_8.out)
            have GEb_9 := Lib.hid (Nat.lt_of_lt_of_le GEb_8.out (Below.size hb9))
            have GD_9 := Lib.hid (range_keep hb9 GD_8.out GDb_8.out)
            have GDb_9 := Lib.hid (Nat.lt_of_lt_of_le GDb_8.out (Below.size hb9))
            have GL_9 := Lib.hid (range_keep hb9 GL_8.out GLb_8.out)
            have GLb_9 := Lib.hid (Nat.lt_of_lt_of_le GLb_8.out (Below.size hb9))
            have GQ_9 := Lib.hid (range_keep hb9 GQ_8.out GQb_8.out)
            have GQb_9 := Lib.hid (Nat.lt_of_lt_of_le GQb_8.out (Below.size hb9))
            clear hb9
            obtain ⟨Y, hY⟩ : ∃ z, z = w9.heap.size := ⟨_, rfl⟩
            obtain ⟨w10, hw10⟩ : ∃ z, z = w9.alloc (.cells (dV u) 23) := ⟨_, rfl⟩
            have st10 : Below w9.heap.size w9 w10 := by rw [hw10]; exact (Below.refl _ _).alloc (Nat.le_refl _) _
            have B10 := Lib.hid (show Below w7.heap.size w7 w10 from Below.trans B9.out (Below.mono st10 (Below.size B9.out)))
            have GH_10 := Lib.hid ((Below.block st10 H LH_9.out).trans GH_9.out)
            have LH_10 := Lib.hid (Nat.lt_of_lt_of_le LH_9.out (Below.size st10))
            have R0_10 := Lib.hid (R0_9.out.below st10)
            have RI_10 := Lib.hid (RI_9.out.below st10)
            have RP_10 := Lib.hid (RP_9.out.below st10)
            have PA_10 := Lib.hid (PA_9.out.below st10)
            have RL_10 := Lib.hid (RL_9.out.below st10)
            have HRPX_10 := Lib.hid (HRPX_9.out.below st10)
            have GE_10 := Lib.hid (range_keep st10 GE_9.out GEb_9.out)
            have GEb_10 := Lib.hid (Nat.lt_of_lt_of_le GEb_9.out (Below.size st10))
            have GD_10 := Lib.hid (range_keep st10 GD_9.out GDb_9.out)
            have GDb_10 := Lib.hid (Nat.lt_of_lt_of_le GDb_9.out (Below.size st10))
            have GL_10 := Lib.hid (range_keep st10 GL_9.out GLb_9.out)
            have GLb_10 := Lib.hid (Nat.lt_of_lt_of_le GLb_9.out (Below.size st10))
            have GQ_10 := Lib.hid (range_keep st10 GQ_9.out GQb_9.out)
            have GQb_10 := Lib.hid (Nat.lt_of_lt_of_le GQb_9.out (Below.size st10))
            have GY_10 := Lib.hid (show w10.heap[Y]? = some (.cells (dV u) 23 (0, 0)) by rw [hw10, hY]; exact heap_alloc_new _ _)
            have LY_10 := Lib.hid (lt_of_heap GY_10.out)
            have HY := Lib.hid hY
            have Hw10 := Lib.hid hw10
            clear hY hw10 st10
            clear c0 c1 c2
            go_wp2_with (first
              | (refine at_st 23 (.tmp 17) (.tmp 81) rfl ?_; (refine st_new rfl (.tmp 17) (.tmp 81) rfl u UL.out (by rfl) _ _ (by rfl) (by rfl) ?_); rw [← HY.out, ← Hw10.out]))
            obtain ⟨c0, c1, c2⟩ := rng_cells GH_10.out
            obtain ⟨b, hb⟩ : ∃ b, decide (E = D) = b := ⟨_, rfl⟩
            have HB_ := Lib.hid hb
            clear hb
            simp only [Act.put]
            refine wp_region_quiet_lit (by kernel_rfl) (by kernel_rfl) ?_
            repeat (first
              | (refine quiet_entE rfl (.tmp 85) rfl ba (oa + k * 33) (by rfl) E EW.out.1 (fun w' hw' => by obtain ⟨n, rfl⟩ := hw'; exact GE_10.out) ?_; simp only [Act.put, List.setIfInBounds_toArray, List.set_cons_zero, List.set_cons_succ])
              | (refine quiet_entE rfl (.tmp 89) rfl bd (od + q * 33) (by rfl) D DW.out.1 (fun w' hw' => by obtain ⟨n, rfl⟩ := hw'; exact GD_10.out) ?_; simp only [Act.put, List.setIfInBounds_toArray, List.set_cons_zero, List.set_cons_succ])
              | (refine quiet_ent_eql rfl (.tmp 86) (.tmp 90) _ rfl E D (by rfl) (by rfl) EW.out.1 DW.out.1 ?_; rw [HB_.out]; simp only [Act.put, List.setIfInBounds_toArray, List.set_cons_zero, List.set_cons_succ])
              | go_big_quiet_step (fail))
            refine wpQuiet_nil ?_
            rintro _ ⟨nq, rfl⟩
            obtain ⟨wN, hwN⟩ : ∃ z, z = w10.drewN nq := ⟨_, rfl⟩
            have hbN : Below w10.heap.size w10 wN := by rw [hwN]; exact below_drewN (Below.refl _ _) nq
            rw [← hwN]
            clear c0 c1 c2 hwN
            have B11 := Lib.hid (show Below w7.heap.size w7 wN from Below.trans B10.out (Below.mono hbN (Below.size B10.out)))
            have GH_11 := Lib.hid ((Below.block hbN H LH_10.out).trans GH_10.out)
            have LH_11 := Lib.hid (Nat.lt_of_lt_of_le LH_10.out (Below.size hbN))
            have GY_11 := Lib.hid ((Below.block hbN Y LY_10.out).trans GY_10.out)
            have LY_11 := Lib.hid (Nat.lt_of_lt_of_le LY_10.out (Below.size hbN))
            have R0_11 := Lib.hid (R0_10.out.below hbN)
            have RI_11 := Lib.hid (RI_10.out.below hbN)
            have RP_11 := Lib.hid (RP_10.out.below hbN)
            have PA_11 := Lib.hid (PA_10.out.below hbN)
            have RL_11 := Lib.hid (RL_10.out.below hbN)
            have HRPX_11 := Lib.hid (HRPX_10.out.below hbN)
            have GE_11 := Lib.hid (range_keep hbN GE_10.out GEb_10.out)
            have GEb_11 := Lib.hid (Nat.lt_of_lt_of_le GEb_10.out (Below.size hbN))
            have GD_11 := Lib.hid (range_keep hbN GD_10.out GDb_10.out)
            have GDb_11 := Lib.hid (Nat.lt_of_lt_of_le GDb_10.out (Below.size hbN))
            have GL_11 := Lib.hid (range_keep hbN GL_10.out GLb_10.out)
            have GLb_11 := Lib.hid (Nat.lt_of_lt_of_le GLb_10.out (Below.size hbN))
            have GQ_11 := Lib.hid (range_keep hbN GQ_10.out GQb_10.out)
            have GQb_11 := Lib.hid (Nat.lt_of_lt_of_le GQb_10.out (Below.size hbN))
            clear hbN
            cases b with
            | true =>
              have hcd : E = D := of_decide_eq_true HB_.out
              have Hcd := Lib.hid hcd
              clear hcd
              go_wp2_with fail
              go_roundw
              case rel =>
                refine ⟨k + 1, by have := HKL.out; omega, by go_num, Lib.hid (fun j h hj => ?_), Lib.hid B11.out⟩
                by_cases hjk : j < k
                · exact HA.out j h hjk
                · obtain rfl : j = k := by omega
                  rw [Int.toNat_natCast, HDQ.out, ← Hcd.out, HEK2.out]
              case measure => simp [intOf]; have := HKL.out; omega
            | false =>
              have hcd : ¬ E = D := of_decide_eq_false HB_.out
              clear hcd
              go_wp2_with fail
              obtain ⟨b, hb⟩ : ∃ b, (u == v) = b := ⟨_, rfl⟩
              have HB2 := Lib.hid hb
              clear hb
              try simp only [Act.put]
              refine wp_region_quiet_lit (by kernel_rfl) (by kernel_rfl) ?_
              repeat (first
                | (refine quiet_dig rfl (.tmp 17) rfl Y 0 (by rfl) u UL.out (fun w' hw' => by obtain ⟨n, rfl⟩ := hw'; exact range_of_row GY_11.out) ?_; simp only [Act.put, List.setIfInBounds_toArray, List.set_cons_zero, List.set_cons_succ])
                | (refine quiet_dig rfl (.tmp 95) rfl be (oe + q * 32) (by rfl) v VL.out (fun w' hw' => by obtain ⟨n, rfl⟩ := hw'; exact GL_11.out) ?_; simp only [Act.put, List.setIfInBounds_toArray, List.set_cons_zero, List.set_cons_succ])
                | (refine quiet_dig_eq rfl (.tmp 92) (.tmp 96) _ rfl u v (by rfl) (by rfl) UL.out VL.out ?_; rw [HB2.out]; simp only [Act.put, List.setIfInBounds_toArray, List.set_cons_zero, List.set_cons_succ])
                | go_big_quiet_step (fail))
              refine wpQuiet_nil ?_
              rintro _ ⟨nq, rfl⟩
              obtain ⟨wM, hwM⟩ : ∃ z, z = wN.drewN nq := ⟨_, rfl⟩
              have hbM : Below wN.heap.size wN wM := by rw [hwM]; exact below_drewN (Below.refl _ _) nq
              rw [← hwM]
              clear hwM
              have B12 := Lib.hid (show Below w7.heap.size w7 wM from Below.trans B11.out (Below.mono hbM (Below.size B11.out)))
              have GH_12 := Lib.hid ((Below.block hbM H LH_11.out).trans GH_11.out)
              have LH_12 := Lib.hid (Nat.lt_of_lt_of_le LH_11.out (Below.size hbM))
              have GY_12 := Lib.hid ((Below.block hbM Y LY_11.out).trans GY_11.out)
              have LY_12 := Lib.hid (Nat.lt_of_lt_of_le LY_11.out (Below.size hbM))
              have R0_12 := Lib.hid (R0_11.out.below hbM)
              have RI_12 := Lib.hid (RI_11.out.below hbM)
              have RP_12 := Lib.hid (RP_11.out.below hbM)
              have PA_12 := Lib.hid (PA_11.out.below hbM)
              have RL_12 := Lib.hid (RL_11.out.below hbM)
              have HRPX_12 := Lib.hid (HRPX_11.out.below hbM)
              have GE_12 := Lib.hid (range_keep hbM GE_11.out GEb_11.out)
              have GEb_12 := Lib.hid (Nat.lt_of_lt_of_le GEb_11.out (Below.size hbM))
              have GD_12 := Lib.hid (range_keep hbM GD_11.out GDb_11.out)
              have GDb_12 := Lib.hid (Nat.lt_of_lt_of_le GDb_11.out (Below.size hbM))
              have GL_12 := Lib.hid (range_keep hbM GL_11.out GLb_11.out)
              have GLb_12 := Lib.hid (Nat.lt_of_lt_of_le GLb_11.out (Below.size hbM))
              have GQ_12 := Lib.hid (range_keep hbM GQ_11.out GQb_11.out)
              have GQb_12 := Lib.hid (Nat.lt_of_lt_of_le GQb_11.out (Below.size hbM))
              clear hbM
              cases b with
              | true =>
                go_wp2_with fail
                go_ret
                exact ⟨rfl, BC.out.trans (Below.mono B12.out BC.out.size)⟩
              | false =>
                go_wp2_with fail
                have hpd := HPD.out
                have hcap := HCAP.out
                have hpl := HG3.out
                have hfo := HG4.out
                have huv : u ≠ v := by have := HB2.out; rw [beq_eq_false_iff_ne] at this; exact this
                obtain ⟨ls, hls⟩ : ∃ ls, ls = leavesD x0 := ⟨_, rfl⟩
                have hll : ls.length = x0.length := by rw [hls]; exact leavesD_length _
                have hld : ∀ d ∈ ls, d.length = 32 := by rw [hls]; exact leavesD_dig x0
                have hpath := tfold_path _ ls q v (by rw [hls]; exact HLV.out) (Nat.le_refl _)
                have htd := tpath_dig _ ls q (Nat.le_refl _) hld
                have htl := tpath_long _ ls q (Nat.le_refl _)
                rw [hll] at hpath htl
                have hrl := RL_12.out
                rw [← hls] at hrl
                have hqn := HQN.out
                have PC := fun w' (hr : Rd w' (some ⟨be, oe, none⟩) 23 (ls.flatten.map vB)) => RPath_calls x0.length ls q (by omega) (by have := H256.out; omega) (by omega) hld (some ⟨be, oe, none⟩) cl 23 (by rw [hll]; exact HOC.out.1) HOC.out.2 w' hr
                rw [hll] at PC
                have HGP := Lib.hid (show wM.cell? ⟨pb, po + k, none⟩ = some (.slice pa ps.length pc) from GQ_12.out 0 _ rfl)
                obtain ⟨qs, hqs⟩ : ∃ qs, qs = tpath ls q := ⟨_, rfl⟩
                rw [← hqs] at hpath htd htl PC
                have KC := fun a' c' h1 h2 w' hr1 (hr2 : Rd w' a' 23 (qs.flatten.map vB)) => SClash_calls x0.length x0.length q (Nat.le_refl _) (by omega) H256.out hqn u v ps qs UL.out VL.out huv hpd htd hpl htl (by rw [hfo, hpath, hls]) pa pc pe a' c' 23 hcap.1 hcap.2 h1 h2 w' hr1 hr2
                rw [htl] at KC
                have KPC := Lib.hid PC
                have KKC := Lib.hid KC
                have HRL := Lib.hid hrl
                clear hpd hcap hpl hfo huv hpath htd htl PC KC hls hll hld hqs hrl hqn
                obtain ⟨c0, c1, c2⟩ := rng_cells GH_12.out
                have HC2 := Lib.hid c2
                clear c0 c1 c2
                refine wp_region_held_drew (S := fun w' => w'.rangeAt Y 0 (u.map vB) ∧ w'.rangeAt be (oe + q * 32) (v.map vB) ∧ w'.cell? ⟨H, 2, none⟩ = some (.slice (some ⟨pb, po, none⟩) y3.length d3) ∧ w'.cell? ⟨pb, po + k, none⟩ = some (.slice pa ps.length pc)) (by kernel_rfl) ⟨range_of_row (show wM.drew.heap[Y]? = _ from GY_12.out), GL_12.out, HC2.out, HGP.out⟩ (fun hHeld => ?_)
                obtain ⟨wD, hwD⟩ : ∃ z, z = wM.drew := ⟨_, rfl⟩
                have hbD : Below wM.heap.size wM wD := by rw [hwD]; exact (Below.refl _ _).drew
                rw [← hwD] at hHeld ⊢
                have SD : wD.rangeAt Y 0 (u.map vB) ∧ wD.rangeAt be (oe + q * 32) (v.map vB) ∧ wD.cell? ⟨H, 2, none⟩ = some (.slice (some ⟨pb, po, none⟩) y3.length d3) ∧ wD.cell? ⟨pb, po + k, none⟩ = some (.slice pa ps.length pc) := hHeld
                have HSD := Lib.hid SD
                clear hwD SD
                have B13 := Lib.hid (show Below w7.heap.size w7 wD from Below.trans B12.out (Below.mono hbD (Below.size B12.out)))
                have GH_13 := Lib.hid ((Below.block hbD H LH_12.out).trans GH_12.out)
                have LH_13 := Lib.hid (Nat.lt_of_lt_of_le LH_12.out (Below.size hbD))
                have GY_13 := Lib.hid ((Below.block hbD Y LY_12.out).trans GY_12.out)
                have LY_13 := Lib.hid (Nat.lt_of_lt_of_le LY_12.out (Below.size hbD))
                have R0_13 := Lib.hid (R0_12.out.below hbD)
                have RI_13 := Lib.hid (RI_12.out.below hbD)
                have RP_13 := Lib.hid (RP_12.out.below hbD)
                have PA_13 := Lib.hid (PA_12.out.below hbD)
                have RL_13 := Lib.hid (RL_12.out.below hbD)
                have HRPX_13 := Lib.hid (HRPX_12.out.below hbD)
                have GE_13 := Lib.hid (range_keep hbD GE_12.out GEb_12.out)
                have GEb_13 := Lib.hid (Nat.lt_of_lt_of_le GEb_12.out (Below.size hbD))
                have GD_13 := Lib.hid (range_keep hbD GD_12.out GDb_12.out)
                have GDb_13 := Lib.hid (Nat.lt_of_lt_of_le GDb_12.out (Below.size hbD))
                have GL_13 := Lib.hid (range_keep hbD GL_12.out GLb_12.out)
                have GLb_13 := Lib.hid (Nat.lt_of_lt_of_le GLb_12.out (Below.size hbD))
                have GQ_13 := Lib.hid (range_keep hbD GQ_12.out GQb_12.out)
                have GQb_13 := Lib.hid (Nat.lt_of_lt_of_le GQb_12.out (Below.size hbD))
                have huinfo : (Tryd.prog.info? 23).map (·.size) = some (u.map vB).length := by rw [List.length_map, UL.out]; exact dig_size
                have hvinfo : (Tryd.prog.info? 23).map (·.size) = some (v.map vB).length := by rw [List.length_map, VL.out]; exact dig_size
                refine wpAnyH_take (i := 0) (oi := _) (v := _) rfl (by kernel_rfl) (by kernel_rfl) (by kernel_rfl) (fun _ _ _ h => h) (yieldsIf_load_mid (by rfl) _ _ rfl _ _ rfl (u.map vB) _ (fun w hw => hw.1) Tryd.underlying23 rfl huinfo) hHeld ?_
                simp only [Act.put, List.getElem_toArray, List.getElem_cons_zero, List.getElem_cons_succ, List.setIfInBounds_toArray, List.set_cons_zero, List.set_cons_succ]
                refine wpAnyH_take (i := 1) (oi := _) (v := .pointer (some ⟨H, 2, none⟩)) rfl (by kernel_rfl) (by kernel_rfl) (by kernel_rfl) (fun _ _ _ h => h) (Or.inl ⟨by rfl, fun w hw => by go_simp⟩) hHeld ?_
                simp only [Act.put, List.getElem_toArray, List.getElem_cons_zero, List.getElem_cons_succ, List.setIfInBounds_toArray, List.set_cons_zero, List.set_cons_succ]
                refine wpAnyH_take (i := 2) (oi := _) (v := .slice (some ⟨pb, po, none⟩) y3.length d3) rfl (by kernel_rfl) (by kernel_rfl) (by kernel_rfl) (fun _ _ _ h => h) (Or.inl ⟨by rfl, fun w hw => by have hc := hw.2.2.1; clear hw; go_simp⟩) hHeld ?_
                simp only [Act.put, List.getElem_toArray, List.getElem_cons_zero, List.getElem_cons_succ, List.setIfInBounds_toArray, List.set_cons_zero, List.set_cons_succ]
                refine wpAnyH_take (i := 3) (oi := _) (v := .int .i64 (k : Int)) rfl (by kernel_rfl) (by kernel_rfl) (by kernel_rfl) (fun _ _ _ h => h) (Or.inl ⟨by rfl, fun w hw => by go_simp⟩) hHeld ?_
                simp only [Act.put, List.getElem_toArray, List.getElem_cons_zero, List.getElem_cons_succ, List.setIfInBounds_toArray, List.set_cons_zero, List.set_cons_succ]
                refine wpAnyH_take (i := 4) (oi := _) (v := .pointer (some ⟨pb, po + k, none⟩)) rfl (by kernel_rfl) (by kernel_rfl) (by kernel_rfl) (fun _ _ _ h => h) (Or.inl ⟨by rfl, fun w hw => by go_simp⟩) hHeld ?_
                simp only [Act.put, List.getElem_toArray, List.getElem_cons_zero, List.getElem_cons_succ, List.setIfInBounds_toArray, List.set_cons_zero, List.set_cons_succ]
                refine wpAnyH_take (i := 5) (oi := _) (v := .slice pa ps.length pc) rfl (by kernel_rfl) (by kernel_rfl) (by kernel_rfl) (fun _ _ _ h => h) (Or.inl ⟨by rfl, fun w hw => by have hc := hw.2.2.2; clear hw; go_simp⟩) hHeld ?_
                simp only [Act.put, List.getElem_toArray, List.getElem_cons_zero, List.getElem_cons_succ, List.setIfInBounds_toArray, List.set_cons_zero, List.set_cons_succ]
                refine wpAnyH_take (i := 6) (oi := _) (v := .slice (some ⟨be, oe, none⟩) x0.length cl) rfl (by kernel_rfl) (by kernel_rfl) (by kernel_rfl) (fun _ _ _ h => h) (Or.inl ⟨by rfl, fun w hw => by go_simp⟩) hHeld ?_
                simp only [Act.put, List.getElem_toArray, List.getElem_cons_zero, List.getElem_cons_succ, List.setIfInBounds_toArray, List.set_cons_zero, List.set_cons_succ]
                refine wpAnyH_take (i := 7) (oi := _) (v := .int .i64 (q : Int)) rfl (by kernel_rfl) (by kernel_rfl) (by kernel_rfl) (fun _ _ _ h => h) (Or.inl ⟨by rfl, fun w hw => by go_simp⟩) hHeld ?_
                simp only [Act.put, List.getElem_toArray, List.getElem_cons_zero, List.getElem_cons_succ, List.setIfInBounds_toArray, List.set_cons_zero, List.set_cons_succ]
                refine wpAnyH_take (i := 8) (oi := _) (v := .pointer (some ⟨be, oe + q * 32, none⟩)) rfl (by kernel_rfl) (by kernel_rfl) (by kernel_rfl) (fun _ _ _ h => h) (Or.inl ⟨by rfl, fun w hw => by go_simp⟩) hHeld ?_
                simp only [Act.put, List.getElem_toArray, List.getElem_cons_zero, List.getElem_cons_succ, List.setIfInBounds_toArray, List.set_cons_zero, List.set_cons_succ]
                refine wpAnyH_take (i := 9) (oi := _) (v := _) rfl (by kernel_rfl) (by kernel_rfl) (by kernel_rfl) (fun _ _ _ h => h) (yieldsIf_load_mid (by rfl) _ _ rfl _ _ rfl (v.map vB) _ (fun w hw => hw.2.1) Tryd.underlying23 rfl hvinfo) hHeld ?_
                simp only [Act.put, List.getElem_toArray, List.getElem_cons_zero, List.getElem_cons_succ, List.setIfInBounds_toArray, List.set_cons_zero, List.set_cons_succ]
                refine wpAnyH_take (i := 10) (oi := _) (v := .slice (some ⟨be, oe, none⟩) x0.length cl) rfl (by kernel_rfl) (by kernel_rfl) (by kernel_rfl) (fun _ _ _ h => h) (Or.inl ⟨by rfl, fun w hw => by go_simp⟩) hHeld ?_
                simp only [Act.put, List.getElem_toArray, List.getElem_cons_zero, List.getElem_cons_succ, List.setIfInBounds_toArray, List.set_cons_zero, List.set_cons_succ]
                refine wpAnyH_take (i := 11) (oi := _) (v := .int .i64 (q : Int)) rfl (by kernel_rfl) (by kernel_rfl) (by kernel_rfl) (fun _ _ _ h => h) (Or.inl ⟨by rfl, fun w hw => by go_simp⟩) hHeld ?_
                simp only [Act.put, List.getElem_toArray, List.getElem_cons_zero, List.getElem_cons_succ, List.setIfInBounds_toArray, List.set_cons_zero, List.set_cons_succ]
                refine wpAnyH_take (i := 13) (oi := _) (v := .int .i64 (q : Int)) rfl (by kernel_rfl) (by kernel_rfl) (by kernel_rfl) (fun _ _ _ h => h) (Or.inl ⟨by rfl, fun w hw => by go_simp⟩) hHeld ?_
                simp only [Act.put, List.getElem_toArray, List.getElem_cons_zero, List.getElem_cons_succ, List.setIfInBounds_toArray, List.set_cons_zero, List.set_cons_succ]
                refine wpAnyH_take (i := 14) (oi := _) (v := .slice (some ⟨bd, od, none⟩) x0.length c0) rfl (by kernel_rfl) (by kernel_rfl) (by kernel_rfl) (fun _ _ _ h => h) (Or.inl ⟨by rfl, fun w hw => by go_simp⟩) hHeld ?_
                simp only [Act.put, List.getElem_toArray, List.getElem_cons_zero, List.getElem_cons_succ, List.setIfInBounds_toArray, List.set_cons_zero, List.set_cons_succ]
                refine wpAnyH_take (i := 15) (oi := _) (v := .int .i64 (x0.length : Int)) rfl (by kernel_rfl) (by kernel_rfl) (by kernel_rfl) (fun _ _ _ h => h) (Or.inl ⟨by rfl, fun w hw => by go_simp⟩) hHeld ?_
                simp only [Act.put, List.getElem_toArray, List.getElem_cons_zero, List.getElem_cons_succ, List.setIfInBounds_toArray, List.set_cons_zero, List.set_cons_succ]
                refine wpAnyH_ready (rs := [12]) (by kernel_rfl) (by simp) ?_
                refine AllReadyH.cons (o := _) rfl (fun K hK => ?_) AllReadyH.nil
                have HK := Lib.hid hK
                clear hK
                go_simp
                go_at_call 40
                refine (KPC.out wD (HRL.out.below hbD)).mono ?_
                rintro e wE ⟨a', c', rfl, hown, hbE⟩
                dsimp only
                have hcp := own_cappW hown
                have hrq := Rd.of_own hown
                have HCP := Lib.hid hcp
                have HRQ := Lib.hid hrq
                clear hcp hrq hown
                have B14 := Lib.hid (show Below w7.heap.size w7 wE from Below.trans B13.out (Below.mono hbE (Below.size B13.out)))
                have GH_14 := Lib.hid ((Below.block hbE H LH_13.out).trans GH_13.out)
                have LH_14 := Lib.hid (Nat.lt_of_lt_of_le LH_13.out (Below.size hbE))
                have GY_14 := Lib.hid ((Below.block hbE Y LY_13.out).trans GY_13.out)
                have LY_14 := Lib.hid (Nat.lt_of_lt_of_le LY_13.out (Below.size hbE))
                have R0_14 := Lib.hid (R0_13.out.below hbE)
                have RI_14 := Lib.hid (RI_13.out.below hbE)
                have RP_14 := Lib.hid (RP_13.out.below hbE)
                have PA_14 := Lib.hid (PA_13.out.below hbE)
                have RL_14 := Lib.hid (RL_13.out.below hbE)
                have HRPX_14 := Lib.hid (HRPX_13.out.below hbE)
                have GE_14 := Lib.hid (range_keep hbE GE_13.out GEb_13.out)
                have GEb_14 := Lib.hid (Nat.lt_of_lt_of_le GEb_13.out (Below.size hbE))
                have GD_14 := Lib.hid (range_keep hbE GD_13.out GDb_13.out)
                have GDb_14 := Lib.hid (Nat.lt_of_lt_of_le GDb_13.out (Below.size hbE))
                have GL_14 := Lib.hid (range_keep hbE GL_13.out GLb_13.out)
                have GLb_14 := Lib.hid (Nat.lt_of_lt_of_le GLb_13.out (Below.size hbE))
                have GQ_14 := Lib.hid (range_keep hbE GQ_13.out GQb_13.out)
                have GQb_14 := Lib.hid (Nat.lt_of_lt_of_le GQb_13.out (Below.size hbE))
                have SE : wE.rangeAt Y 0 (u.map vB) ∧ wE.rangeAt be (oe + q * 32) (v.map vB) ∧ wE.cell? ⟨H, 2, none⟩ = some (.slice (some ⟨pb, po, none⟩) y3.length d3) ∧ wE.cell? ⟨pb, po + k, none⟩ = some (.slice pa ps.length pc) := ⟨range_of_row GY_14.out, GL_14.out, (Below.cell hbE (p := ⟨H, 2, none⟩) LH_13.out).trans HSD.out.2.2.1, GQ_14.out 0 _ rfl⟩
                clear hHeld
                refine HK.out _ _ SE ?_
                clear HK K
                try simp only [Act.put, List.getElem_toArray, List.getElem_cons_zero, List.getElem_cons_succ, List.setIfInBounds_toArray, List.set_cons_zero, List.set_cons_succ]
                intro hHeld
                refine wpAnyH_ready (rs := [16]) (by kernel_rfl) (by simp) ?_
                refine AllReadyH.cons (o := _) rfl (fun K hK => ?_) AllReadyH.nil
                have HK := Lib.hid hK
                clear hK
                go_simp
                go_at_call 39
                refine (KKC.out a' c' HCP.out.1 HCP.out.2 wE HRPX_14.out HRQ.out).mono ?_
                rintro e wF ⟨rfl, hbF⟩
                dsimp only
                have SF : wF.rangeAt Y 0 (u.map vB) ∧ wF.rangeAt be (oe + q * 32) (v.map vB) ∧ wF.cell? ⟨H, 2, none⟩ = some (.slice (some ⟨pb, po, none⟩) y3.length d3) ∧ wF.cell? ⟨pb, po + k, none⟩ = some (.slice pa ps.length pc) := ⟨range_keep hbF SE.1 LY_14.out, range_keep hbF SE.2.1 GLb_14.out, (Below.cell hbF (p := ⟨H, 2, none⟩) LH_14.out).trans SE.2.2.1, (Below.cell hbF (p := ⟨pb, po + k, none⟩) GQb_14.out).trans SE.2.2.2⟩
                have FIN := Lib.hid (show Below w.heap.size w wF from BC.out.trans (Below.mono (Below.trans B14.out (Below.mono hbF (Below.size B14.out))) BC.out.size))
                clear hHeld hbF SE
                refine HK.out _ _ SF ?_
                clear HK K
                try simp only [Act.put, List.getElem_toArray, List.getElem_cons_zero, List.getElem_cons_succ, List.setIfInBounds_toArray, List.set_cons_zero, List.set_cons_succ]
                intro hHeld
                refine wpAnyH_take (i := 17) (oi := _) (v := .bool true) rfl (by kernel_rfl) (by kernel_rfl) (by kernel_rfl) (fun _ _ _ h => h) (Or.inl ⟨by rfl, fun w hw => by go_simp⟩) hHeld ?_
                simp only [Act.put, List.getElem_toArray, List.getElem_cons_zero, List.getElem_cons_succ, List.setIfInBounds_toArray, List.set_cons_zero, List.set_cons_succ]
                refine wpAnyH_done (by kernel_rfl) ?_ _
                go_wp2_with fail
                go_ret
                exact ⟨rfl, FIN.out⟩
          · exact absurd (fun j h => HA.out j h (by omega)) NE.out
    · have hlb := fun w' (hb : Below w0.heap.size w0 w') => (hlk w' hb).mono fun e w'' h => (⟨h.1 hF0, h.2.2⟩ : e = .returned (.tuple #[.slice none 0 0, .iface 25 (.int .i64 F)]) ∧ Below w'.heap.size w' w'')
      have LB := Lib.hid hlb
      clear hlk hlb hF hF0 hR h256 hko hup hro r0 r3 s3 p3 q3 n0 n3
      have GH_0 := G0
      have LH_0 := Lib.hid (lt_of_heap G0.out)
      go_enter Tryd.func11, Tryd.ntmps11
      go_upto_region 1 with fail
      rw [← HH.out, ← HW0.out]
      go_wp2_with fail
      refine (Spanned_calls w0 RO.out).mono ?_
      rintro e w1 ⟨rfl, hb1⟩
      have B1 := Lib.hid (show Below w0.heap.size w0 w1 from Below.trans (Below.refl w0.heap.size w0) (Below.mono hb1 (Below.size (Below.refl w0.heap.size w0))))
      have GH_1 := Lib.hid ((Below.block hb1 H LH_0.out).trans GH_0.out)
      have LH_1 := Lib.hid (Nat.lt_of_lt_of_le LH_0.out (Below.size hb1))
      have R0_1 := Lib.hid (R0_0.out.below hb1)
      have RI_1 := Lib.hid (RI_0.out.below hb1)
      have RP_1 := Lib.hid (RP_0.out.below hb1)
      have PA_1 := Lib.hid (PA_0.out.below hb1)
      clear hb1
      go_wp2_with fail
      refine (SR.out w1 B1.out).mono ?_
      rintro e w2 ⟨rfl, hb2⟩
      have B2 := Lib.hid (show Below w0.heap.size w0 w2 from Below.trans B1.out (Below.mono hb2 (Below.size B1.out)))
      have GH_2 := Lib.hid ((Below.block hb2 H LH_1.out).trans GH_1.out)
      have LH_2 := Lib.hid (Nat.lt_of_lt_of_le LH_1.out (Below.size hb2))
      have R0_2 := Lib.hid (R0_1.out.below hb2)
      have RI_2 := Lib.hid (RI_1.out.below hb2)
      have RP_2 := Lib.hid (RP_1.out.below hb2)
      have PA_2 := Lib.hid (PA_1.out.below hb2)
      clear hb2
      obtain ⟨X, hX⟩ : ∃ z, z = w2.heap.size := ⟨_, rfl⟩
      obtain ⟨w3, hw3⟩ : ∃ z, z = w2.alloc (.cells (dV R) 23) := ⟨_, rfl⟩
      have st3 : Below w2.heap.size w2 w3 := by rw [hw3]; exact (Below.refl _ _).alloc (Nat.le_refl _) _
      have B3 := Lib.hid (show Below w0.heap.size w0 w3 from Below.trans B2.out (Below.mono st3 (Below.size B2.out)))
      have GH_3 := Lib.hid ((Below.block st3 H LH_2.out).trans GH_2.out)
      have LH_3 := Lib.hid (Nat.lt_of_lt_of_le LH_2.out (Below.size st3))
      have R0_3 := Lib.hid (R0_2.out.below st3)
      have RI_3 := Lib.hid (RI_2.out.below st3)
      have RP_3 := Lib.hid (RP_2.out.below st3)
      have PA_3 := Lib.hid (PA_2.out.below st3)
      have GX_3 := Lib.hid (show w3.heap[X]? = some (.cells (dV R) 23 (0, 0)) by rw [hw3, hX]; exact heap_alloc_new _ _)
      have LX_3 := Lib.hid (lt_of_heap GX_3.out)
      have HX := Lib.hid hX
      have Hw3 := Lib.hid hw3
      clear hX hw3 st3
      go_wp2_with (first
        | (refine at_st 23 (.tmp 10) (.tmp 25) rfl ?_; (refine st_new rfl (.tmp 10) (.tmp 25) rfl R RL.out (by rfl) _ _ (by rfl) (by rfl) ?_); rw [← HX.out, ← Hw3.out])
        | (refine at_ld 23 (.tmp 10) rfl ?_; (refine ld_digG rfl (.tmp 10) rfl (X) 0 (by rfl) R RL.out (range_of_row GX_3.out) ?_); simp only [Act.put, List.setIfInBounds_toArray, List.set_cons_zero, List.set_cons_succ])
        | ((refine wpList_load_row rfl _ (.tmp 7) rfl H (by rfl) _ _ _ _ GH_3.out Tryd.underlying61 rfl info_rng3 ?_); simp only [Act.put, List.setIfInBounds_toArray, List.set_cons_zero, List.set_cons_succ]))
      refine (LB.out w3 B3.out).mono ?_
      rintro e w4 ⟨rfl, hb4⟩
      have B4 := Lib.hid (show Below w0.heap.size w0 w4 from Below.trans B3.out (Below.mono hb4 (Below.size B3.out)))
      have GH_4 := Lib.hid ((Below.block hb4 H LH_3.out).trans GH_3.out)
      have LH_4 := Lib.hid (Nat.lt_of_lt_of_le LH_3.out (Below.size hb4))
      have GX_4 := Lib.hid ((Below.block hb4 X LX_3.out).trans GX_3.out)
      have LX_4 := Lib.hid (Nat.lt_of_lt_of_le LX_3.out (Below.size hb4))
      have R0_4 := Lib.hid (R0_3.out.below hb4)
      have RI_4 := Lib.hid (RI_3.out.below hb4)
      have RP_4 := Lib.hid (RP_3.out.below hb4)
      have PA_4 := Lib.hid (PA_3.out.below hb4)
      clear hb4
      go_wp2_with fail
      go_ret
      exact ⟨rfl, BW.out.trans (Below.mono B4.out BW.out.size)⟩
  · obtain ⟨F, hF⟩ : ∃ F, F = listF x0 := ⟨_, rfl⟩
    have hsb := fun w' (hb : Below w0.heap.size w0 w') => SRoot_bad x0 n0 F hF.symm (by rw [hF]; exact hf) a0 c0 e0 (by omega) w' (R0_0.out.below hb) (RO.out.at_ hb)
    rw [← HZ.out] at hsb
    have SB := Lib.hid hsb
    clear hsb hF hf hro r0 r3 s3 p3 q3 n0 n3
    have GH_0 := G0
    have LH_0 := Lib.hid (lt_of_heap G0.out)
    go_enter Tryd.func11, Tryd.ntmps11
    go_upto_region 1 with fail
    rw [← HH.out, ← HW0.out]
    go_wp2_with fail
    refine (Spanned_calls w0 RO.out).mono ?_
    rintro e w1 ⟨rfl, hb1⟩
    have B1 := Lib.hid (show Below w0.heap.size w0 w1 from Below.trans (Below.refl w0.heap.size w0) (Below.mono hb1 (Below.size (Below.refl w0.heap.size w0))))
    have GH_1 := Lib.hid ((Below.block hb1 H LH_0.out).trans GH_0.out)
    have LH_1 := Lib.hid (Nat.lt_of_lt_of_le LH_0.out (Below.size hb1))
    have R0_1 := Lib.hid (R0_0.out.below hb1)
    have RI_1 := Lib.hid (RI_0.out.below hb1)
    have RP_1 := Lib.hid (RP_0.out.below hb1)
    have PA_1 := Lib.hid (PA_0.out.below hb1)
    clear hb1
    go_wp2_with fail
    refine (SB.out w1 B1.out).mono ?_
    rintro e w2 ⟨rfl, hb2⟩
    have B2 := Lib.hid (show Below w0.heap.size w0 w2 from Below.trans B1.out (Below.mono hb2 (Below.size B1.out)))
    have GH_2 := Lib.hid ((Below.block hb2 H LH_1.out).trans GH_1.out)
    have LH_2 := Lib.hid (Nat.lt_of_lt_of_le LH_1.out (Below.size hb2))
    have R0_2 := Lib.hid (R0_1.out.below hb2)
    have RI_2 := Lib.hid (RI_1.out.below hb2)
    have RP_2 := Lib.hid (RP_1.out.below hb2)
    have PA_2 := Lib.hid (PA_1.out.below hb2)
    clear hb2
    obtain ⟨X, hX⟩ : ∃ z, z = w2.heap.size := ⟨_, rfl⟩
    obtain ⟨w3, hw3⟩ : ∃ z, z = w2.alloc (.cells (dV Z) 23) := ⟨_, rfl⟩
    have st3 : Below w2.heap.size w2 w3 := by rw [hw3]; exact (Below.refl _ _).alloc (Nat.le_refl _) _
    have B3 := Lib.hid (show Below w0.heap.size w0 w3 from Below.trans B2.out (Below.mono st3 (Below.size B2.out)))
    have GH_3 := Lib.hid ((Below.block st3 H LH_2.out).trans GH_2.out)
    have LH_3 := Lib.hid (Nat.lt_of_lt_of_le LH_2.out (Below.size st3))
    have R0_3 := Lib.hid (R0_2.out.below st3)
    have RI_3 := Lib.hid (RI_2.out.below st3)
    have RP_3 := Lib.hid (RP_2.out.below st3)
    have PA_3 := Lib.hid (PA_2.out.below st3)
    have GX_3 := Lib.hid (show w3.heap[X]? = some (.cells (dV Z) 23 (0, 0)) by rw [hw3, hX]; exact heap_alloc_new _ _)
    have LX_3 := Lib.hid (lt_of_heap GX_3.out)
    have HX := Lib.hid hX
    have Hw3 := Lib.hid hw3
    clear hX hw3 st3
    go_wp2_with (first
      | (refine at_st 23 (.tmp 10) (.tmp 25) rfl ?_; (refine st_new rfl (.tmp 10) (.tmp 25) rfl Z ZL.out (by rfl) _ _ (by rfl) (by rfl) ?_); rw [← HX.out, ← Hw3.out]))
    go_ret
    exact ⟨rfl, BW.out.trans (Below.mono B3.out BW.out.size)⟩

set_option maxRecDepth 100000 in
theorem lifted (os : Os) (started : os.Started) (H : Type) (enc : TypeId × Value → H) :
    ReturnsInHanded {} Tryd.checked os 11 .any (fun w args => (Rows.spanSoundSpec.pre enc Tryd.prog Tryd.f11 Rows.spanSoundRow.domain false w args ∧ laidMetH Tryd.prog Laid.list w) ∧ sizedMet enc Tryd.prog Tryd.f11 (OpenSpec.ofChange Rows.spanSoundSpec) false w args) (Rows.spanSoundSpec.post enc Tryd.prog Tryd.f11 false true false false) := by
  refine returnsInHanded_of_change_and (C := Tryd.checked) (X := fun w _ => laidMetH Tryd.prog Laid.list w) (fun _ _ _ hh h => h.of_heap hh) Laid.own started (by kernel_rfl) Tryd.func11
    (ChangeSpec.witness_at (enc := enc) (C := Tryd.checked) (os := os) (X := fun w _ => laidMetH Tryd.prog Laid.list w) false (laidWorld os) #[.slice none 0 0, .int .i64 0, .int .i64 0, .agg #[.int .i64 0, .slice none 0 0, .slice none 0 0]] 8 rfl (by kernel_rfl) (by kernel_rfl) (by kernel_rfl) (by kernel_rfl) (by kernel_rfl) (laidWorld_met os _)) ?_
  intro W base args ds gs before hval0 hW _ hsz hL _
  have hro := rounds_of_laid hL
  have hval : ∀ (j : Nat) t v, Tryd.f11.params[j]? = some t → args[j]? = some v → Value.okWide Tryd.prog W .any base t v := hval0
  have hW' := hW
  obtain ⟨p, q, hA0, hV, rfl, hfz, hnd⟩ := hW
  have hA : DataW.TrodAll enc Tryd.prog W 0 (fun _ => true) true Tryd.f11.params.toList args.toList ds p := hA0
  rw [Tryd.params11] at hA hval
  obtain ⟨v0, vs0, d0, ds0, p0, q0, hargs, rfl, rfl, h0, r0⟩ := trodAll_cons hA
  obtain ⟨v1, vs1, d1, ds1, p1, q1, rfl, rfl, rfl, h1, r1⟩ := trodAll_cons r0
  obtain ⟨v2, vs2, d2, ds2, p2, q2, rfl, rfl, rfl, h2, r2⟩ := trodAll_cons r1
  obtain ⟨v3, vs3, d3, ds3, p3, q3, rfl, rfl, rfl, h3, r3⟩ := trodAll_cons r2
  obtain ⟨rfl, rfl, rfl⟩ := trodAll_nil r3
  obtain rfl : args = #[v0, v1, v2, v3] := by cases args; simp_all
  obtain ⟨rfl, rfl⟩ := trodVars_none hV
  have k0 := h0
  have lt0 : ∀ x ∈ p0, x.block < W.heap.size := by obtain ⟨m, hm⟩ := k0; exact DataW.trod_lt m _ _ _ hm
  obtain ⟨x0, a0, c0, e0, rfl, l0, m0, n0, r_0⟩ := open_ents Tryd.underlying40 Tryd.underlying35 Tryd.underlying3 Tryd.underlying23 Tryd.underlying5 (by kernel_rfl) (by kernel_rfl) (by kernel_rfl) (by kernel_rfl) rfl rfl (hval 0 40 v0 rfl rfl) h0
  have k1 := h1
  have lt1 : ∀ x ∈ p1, x.block < W.heap.size := by obtain ⟨m, hm⟩ := k1; exact DataW.trod_lt m _ _ _ hm
  obtain ⟨a1, rfl, _, _, w1⟩ := open_int Tryd.underlying3 (hval 1 3 v1 rfl rfl) h1
  have b1 := bounds_i64 w1
  have k2 := h2
  have lt2 : ∀ x ∈ p2, x.block < W.heap.size := by obtain ⟨m, hm⟩ := k2; exact DataW.trod_lt m _ _ _ hm
  obtain ⟨a2, rfl, _, _, w2⟩ := open_int Tryd.underlying3 (hval 2 3 v2 rfl rfl) h2
  have b2 := bounds_i64 w2
  have k3 := h3
  have lt3 : ∀ x ∈ p3, x.block < W.heap.size := by obtain ⟨m, hm⟩ := k3; exact DataW.trod_lt m _ _ _ hm
  obtain ⟨j3, x3, a3, c3, e3, y3, b_3, d_3, f3, u3, rfl, h_3, l3, m3, n3, r_3, k_3, g3, s_3, p_3, q_3⟩ := open_range Tryd.underlying61 Tryd.underlying3 Tryd.underlying40 Tryd.underlying59 Tryd.underlying35 Tryd.underlying3 Tryd.underlying23 Tryd.underlying5 Tryd.underlying24 Tryd.underlying23 (by kernel_rfl) (by kernel_rfl) (by kernel_rfl) (by kernel_rfl) (by kernel_rfl) (by kernel_rfl) (by kernel_rfl) (by kernel_rfl) (by kernel_rfl) (by kernel_rfl) rfl rfl rfl rfl rfl (hval 3 61 v3 rfl rfl) h3
  clear hA0 hval0
  refine (walk x0 a0 c0 e0 a1 a2 j3 x3 a3 c3 e3 y3 b_3 d_3 f3 u3 W l0 m0 n0 r_0 b1 b2 h_3 l3 m3 n3 r_3 k_3 g3 s_3 p_3 q_3 hro).mono fun e W' ⟨he, bel⟩ => ?_
  subst he
  exact ⟨_, rfl, _, _, _, [], _, [], hW', trodAll_mk1 (shut_bool Tryd.underlying4 _), (trodAll_cons_mk (Below.trod Laid.laidOut (by kernel_rfl) (of_decide_eq_true (by kernel_rfl)) k0 bel lt0) (trodAll_cons_mk (Below.trod Laid.laidOut (by kernel_rfl) (of_decide_eq_true (by kernel_rfl)) k1 bel lt1) (trodAll_cons_mk (Below.trod Laid.laidOut (by kernel_rfl) (of_decide_eq_true (by kernel_rfl)) k2 bel lt2) (trodAll_cons_mk (Below.trod Laid.laidOut (by kernel_rfl) (of_decide_eq_true (by kernel_rfl)) k3 bel lt3) trodAll_mk0)))), rfl, bel.frame _, fun h => by cases h⟩

theorem over : Rows.spanSoundRow.holds Tryd.pinned (OpenSpec.ofChange Rows.spanSoundSpec) :=
  OpenClaim.holds_of_wide 11 Tryd.f11 rfl rfl rfl rfl rfl rfl rfl ⟨rfl, rfl, rfl, rfl, rfl⟩ rfl rfl rfl rfl rfl (by kernel_rfl) Tryd.func11 (by kernel_rfl)
    (of_decide_eq_true (by kernel_rfl)) (by unfold Func.isWrapper; first | (rw [if_pos (by decide +kernel)]; kernel_rfl) | (rw [if_neg (by decide +kernel)]; exact ⟨rfl, rfl⟩))
    (fun os started H enc _ => lifted os started H enc)

theorem proved : Rows.SpanSoundCardSaid :=
  Claim7.holds_tied_plain_at .later [] [.data] true (true, "dc8737acee50ade5d9e6156f300c62d149993f3a6545deb441f0e2b50ff31829") true
    over (fun _ h => by cases h) (by kernel_rfl) (fun _ h => by cases h) spanSound_row_tie rfl ⟨rfl, rfl⟩ (by kernel_rfl) rfl
    (fun f fn hf hfn => by
      obtain rfl : f = 11 := Option.some.inj ((show Tryd.prog.funcNamed "oathbook/oathbooklaw4.SpanSound" = some 11 by kernel_rfl).symm.trans hf) |>.symm
      obtain rfl : fn = Tryd.f11 := (Option.some.inj (Tryd.func11.symm.trans hfn)).symm
      exact ⟨by kernel_rfl, stand_of_all (by kernel_rfl)⟩)
    (by kernel_rfl)
#print axioms proved
end spanSound
end Go.Proofs.YtpeomfehdccmmaaDoor
