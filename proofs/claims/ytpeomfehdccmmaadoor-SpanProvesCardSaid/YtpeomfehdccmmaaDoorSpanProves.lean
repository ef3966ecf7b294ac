/- All from here to there: what a list is found to have is looked at by its root as just the entries that are there, none left out. -/
import Derived.Test.YtpeomfehdccmmaaDoorRows
import Derived.Test.YtpeomfehdccmmaaDoorSpanLook
import Derived.Test.YtpeomfehdccmmaaDoorSpanRef
import Derived.Test.YtpeomfehdccmmaaDoorSpanSame
import Derived.Test.YtpeomfehdccmmaaDoorFind
import Derived.Test.YtpeomfehdccmmaaDoorSpanEq
import Derived.Test.YtpeomfehdccmmaaDoorSpanned
import Derived.Test.YtpeomfehdccmmaaDoorLaidR
import Derived.WalkKit
import Derived.ProofKit
import Derived.OpenShut
import Derived.ShutString
import Derived.ChangeOld
import Derived.Below
namespace Go.Proofs.YtpeomfehdccmmaaDoor
open Go.ChangeShapes Go.WideShapes Go.ChangeAt Go.RowKit
open Go.ChangeMaps (open_string shut_string)
set_option linter.unusedVariables false
set_option linter.unusedSimpArgs false
namespace spanProves

-- HOLE: the walk
set_option maxRecDepth 20000 in
set_option maxHeartbeats 16000000 in
theorem walk (x0 : List En) (a0 : Option Addr) (c0 e0 : Nat) (a1 : Int) (a2 : Int) (w : World) (l0 : x0.length ≤ c0) (m0 : c0 ≤ 9223372036854775807) (n0 : ∀ e ∈ x0, EnW e) (r0 : Rd w a0 e0 (cellsE x0)) (h1 : -9223372036854775808 ≤ a1 ∧ a1 ≤ 9223372036854775807) (h2 : -9223372036854775808 ≤ a2 ∧ a2 ≤ 9223372036854775807) (hro : RoundsAt w) :
    Calls Tryd.prog 12 #[.slice a0 x0.length c0, .int .i64 a1, .int .i64 a2] w fun e w' => e = .returned (.bool true) ∧ Below w.heap.size w w' := by
  obtain ⟨Z, hZ⟩ : ∃ Z, Z = nz := ⟨_, rfl⟩
  have zl : Z.length = 32 := by rw [hZ]; rfl
  have zlit : (#[.int .u8 0, .int .u8 0, .int .u8 0, .int .u8 0, .int .u8 0, .int .u8 0, .int .u8 0, .int .u8 0, .int .u8 0, .int .u8 0, .int .u8 0, .int .u8 0, .int .u8 0, .int .u8 0, .int .u8 0, .int .u8 0, .int .u8 0, .int .u8 0, .int .u8 0, .int .u8 0, .int .u8 0, .int .u8 0, .int .u8 0, .int .u8 0, .int .u8 0, .int .u8 0, .int .u8 0, .int .u8 0, .int .u8 0, .int .u8 0, .int .u8 0, .int .u8 0] : Array Value) = dV Z := by rw [hZ]; exact zdig
  have ZL := Lib.hid zl
  have ZT := Lib.hid zlit
  have HZ := Lib.hid hZ
  clear zl zlit hZ
  have RO := Lib.hid hro
  have R0_0 := Lib.hid r0
  have N0 := Lib.hid n0
  have hfi := fun w' (hb : Below w.heap.size w w') => Find_calls x0 n0 a0 c0 e0 (by omega) a1 a2 h1 h2 w' (r0.below hb) (hro.at_ hb)
  by_cases hf : listF x0 = 0
  · obtain ⟨h256, hko, hup⟩ := listF_ok hf
    obtain ⟨R, hR⟩ : ∃ R, R = troot (leavesD x0) := ⟨_, rfl⟩
    have RL := Lib.hid (show R.length = 32 by rw [hR]; exact troot_length _ (leavesD_dig x0))
    have hsr := fun w' (hb : Below w.heap.size w w') => SRoot_ok x0 n0 hf a0 c0 e0 w' (r0.below hb) (hro.at_ hb)
    rw [← hR] at hsr
    have SR := Lib.hid hsr
    have HR := Lib.hid hR
    have HF := Lib.hid hf
    have HUP := Lib.hid hup
    by_cases hab : a2 < a1
    · have hfb := fun w' (hb : Below w.heap.size w w') => (hfi w' hb).mono fun e w'' h => (⟨h.2.1 hf hab, h.2.2.2⟩ : e = .returned (.tuple #[.agg #[.int .i64 0, .slice none 0 0, .slice none 0 0], .iface 25 (.int .i64 2)]) ∧ Below w'.heap.size w' w'')
      have FB := Lib.hid hfb
      clear hfb hfi hsr hf hko hup hR hab hro r0 n0
      go_enter Tryd.func12, Tryd.ntmps12
      go_upto_region 1 with fail
      go_wp2_with fail
      refine (Spanned_calls w RO.out).mono ?_
      rintro e w1 ⟨rfl, hb1⟩
      have B1 := Lib.hid (show Below w.heap.size w w1 from Below.trans (Below.refl w.heap.size w) (Below.mono hb1 (Below.size (Below.refl w.heap.size w))))
      have R0_1 := Lib.hid (R0_0.out.below hb1)
      clear hb1
      go_wp2_with fail
      refine (SR.out w1 B1.out).mono ?_
      rintro e w2 ⟨rfl, hb2⟩
      have B2 := Lib.hid (show Below w.heap.size w w2 from Below.trans B1.out (Below.mono hb2 (Below.size B1.out)))
      have R0_2 := Lib.hid (R0_1.out.below hb2)
      clear hb2
      obtain ⟨X, hX⟩ : ∃ z, z = w2.heap.size := ⟨_, rfl⟩
      obtain ⟨w3, hw3⟩ : ∃ z, z = w2.alloc (.cells (dV R) 23) := ⟨_, rfl⟩
      have st3 : Below w2.heap.size w2 w3 := by rw [hw3]; exact (Below.refl _ _).alloc (Nat.le_refl _) _
      have B3 := Lib.hid (show Below w.heap.size w w3 from Below.trans B2.out (Below.mono st3 (Below.size B2.out)))
      have R0_3 := Lib.hid (R0_2.out.below st3)
      have GX_3 := Lib.hid (show w3.heap[X]? = some (.cells (dV R) 23 (0, 0)) by rw [hw3, hX]; exact heap_alloc_new _ _)
      have LX_3 := Lib.hid (lt_of_heap GX_3.out)
      have HX := Lib.hid hX
      have Hw3 := Lib.hid hw3
      clear hX hw3 st3
      go_wp2_with (first
        | ((refine st_new rfl (.tmp 8) (.tmp 21) rfl R RL.out (by rfl) _ _ (by rfl) (by rfl) ?_); rw [← HX.out, ← Hw3.out]))
      refine (FB.out w3 B3.out).mono ?_
      rintro e w4 ⟨rfl, hb4⟩
      have B4 := Lib.hid (show Below w.heap.size w w4 from Below.trans B3.out (Below.mono hb4 (Below.size B3.out)))
      have GX_4 := Lib.hid ((Below.block hb4 X LX_3.out).trans GX_3.out)
      have LX_4 := Lib.hid (Nat.lt_of_lt_of_le LX_3.out (Below.size hb4))
      have R0_4 := Lib.hid (R0_3.out.below hb4)
      clear hb4
      obtain ⟨Y, hY⟩ : ∃ z, z = w4.heap.size := ⟨_, rfl⟩
      obtain ⟨w5, hw5⟩ : ∃ z, z = w4.alloc (.cells #[.int .i64 0, .slice none 0 0, .slice none 0 0] 61) := ⟨_, rfl⟩
      have st5 : Below w4.heap.size w4 w5 := by rw [hw5]; exact (Below.refl _ _).alloc (Nat.le_refl _) _
      have B5 := Lib.hid (show Below w.heap.size w w5 from Below.trans B4.out (Below.mono st5 (Below.size B4.out)))
      have GX_5 := Lib.hid ((Below.block st5 X LX_4.out).trans GX_4.out)
      have LX_5 := Lib.hid (Nat.lt_of_lt_of_le LX_4.out (Below.size st5))
      have R0_5 := Lib.hid (R0_4.out.below st5)
      have GY_5 := Lib.hid (show w5.heap[Y]? = some (.cells #[.int .i64 0, .slice none 0 0, .slice none 0 0] 61 (0, 0)) by rw [hw5, hY]; exact heap_alloc_new _ _)
      have LY_5 := Lib.hid (lt_of_heap GY_5.out)
      have HY := Lib.hid hY
      have Hw5 := Lib.hid hw5
      clear hY hw5 st5
      go_wp2_with (first
        | ((refine wpList_store_row rfl _ (.tmp 10) (.tmp 28) rfl w4.heap.size #[.int .i64 0, .slice none 0 0, .slice none 0 0] (by rfl) (by rfl) _ #[.int .i64 0, .slice none 0 0, .slice none 0 0] (heap_alloc_new w4 _) info_rngF rfl (rng_one _ _ _ rfl rfl rfl) ?_); rw [World.setRow_alloc_new, ← HY.out, ← Hw5.out]))
      go_ret
      exact ⟨rfl, B5.out⟩
    · have HAB := Lib.hid (show a1 ≤ a2 by omega)
      have hfg := fun w' (hb : Below w.heap.size w w') => (hfi w' hb).mono fun e w'' h => (⟨h.2.2.1 hf HAB.out, h.2.2.2⟩ : (∃ (f t : Nat) (ia : Option Addr) (ic ie : Nat) (pa : Option Addr) (pc pe : Nat) (vs : List Value), FromIs x0 a1 f ∧ ToIs x0 a2 t ∧ e = .returned (.tuple #[.agg #[.int .i64 (f : Int), .slice ia (itemsF x0 f t).length ic, .slice pa (pathsF x0 f t).length pc], .nilIface]) ∧ Rd w'' ia ie (cellsE (itemsF x0 f t)) ∧ Rd w'' pa pe vs ∧ PathsAt w'' (pathsF x0 f t) vs) ∧ Below w'.heap.size w' w'')
      have FG := Lib.hid hfg
      clear hfg hfi hsr hf hko hup hR hab hro r0 n0
      go_enter Tryd.func12, Tryd.ntmps12
      go_upto_region 1 with fail
      go_wp2_with fail
      refine (Spanned_calls w RO.out).mono ?_
      rintro e w1 ⟨rfl, hb1⟩
      have B1 := Lib.hid (show Below w.heap.size w w1 from Below.trans (Below.refl w.heap.size w) (Below.mono hb1 (Below.size (Below.refl w.heap.size w))))
      have R0_1 := Lib.hid (R0_0.out.below hb1)
      clear hb1
      go_wp2_with fail
      refine (SR.out w1 B1.out).mono ?_
      rintro e w2 ⟨rfl, hb2⟩
      have B2 := Lib.hid (show Below w.heap.size w w2 from Below.trans B1.out (Below.mono hb2 (Below.size B1.out)))
      have R0_2 := Lib.hid (R0_1.out.below hb2)
      clear hb2
      obtain ⟨X, hX⟩ : ∃ z, z = w2.heap.size := ⟨_, rfl⟩
      obtain ⟨w3, hw3⟩ : ∃ z, z = w2.alloc (.cells (dV R) 23) := ⟨_, rfl⟩
      have st3 : Below w2.heap.size w2 w3 := by rw [hw3]; exact (Below.refl _ _).alloc (Nat.le_refl _) _
      have B3 := Lib.hid (show Below w.heap.size w w3 from Below.trans B2.out (Below.mono st3 (Below.size B2.out)))
      have R0_3 := Lib.hid (R0_2.out.below st3)
      have GX_3 := Lib.hid (show w3.heap[X]? = some (.cells (dV R) 23 (0, 0)) by rw [hw3, hX]; exact heap_alloc_new _ _)
      have LX_3 := Lib.hid (lt_of_heap GX_3.out)
      have HX := Lib.hid hX
      have Hw3 := Lib.hid hw3
      clear hX hw3 st3
      go_wp2_with (first
        | ((refine st_new rfl (.tmp 8) (.tmp 21) rfl R RL.out (by rfl) _ _ (by rfl) (by rfl) ?_); rw [← HX.out, ← Hw3.out]))
      refine (FG.out w3 B3.out).mono ?_
      rintro e w4 ⟨⟨f, t, ia, ic, ie, pa, pc, pe, vs, hF, hT, rfl, hri, hrp, hps⟩, hb4⟩
      have B4 := Lib.hid (show Below w.heap.size w w4 from Below.trans B3.out (Below.mono hb4 (Below.size B3.out)))
      have GX_4 := Lib.hid ((Below.block hb4 X LX_3.out).trans GX_3.out)
      have LX_4 := Lib.hid (Nat.lt_of_lt_of_le LX_3.out (Below.size hb4))
      have R0_4 := Lib.hid (R0_3.out.below hb4)
      have RI_4 := Lib.hid hri
      have RP_4 := Lib.hid hrp
      have PS_4 := Lib.hid hps
      clear hri hrp hps
      clear hb4
      obtain ⟨Y, hY⟩ : ∃ z, z = w4.heap.size := ⟨_, rfl⟩
      obtain ⟨w5, hw5⟩ : ∃ z, z = w4.alloc (.cells #[.int .i64 (f : Int), .slice ia (itemsF x0 f t).length ic, .slice pa (pathsF x0 f t).length pc] 61) := ⟨_, rfl⟩
      have st5 : Below w4.heap.size w4 w5 := by rw [hw5]; exact (Below.refl _ _).alloc (Nat.le_refl _) _
      have B5 := Lib.hid (show Below w.heap.size w w5 from Below.trans B4.out (Below.mono st5 (Below.size B4.out)))
      have GX_5 := Lib.hid ((Below.block st5 X LX_4.out).trans GX_4.out)
      have LX_5 := Lib.hid (Nat.lt_of_lt_of_le LX_4.out (Below.size st5))
      have R0_5 := Lib.hid (R0_4.out.below st5)
      have RI_5 := Lib.hid (RI_4.out.below st5)
      have RP_5 := Lib.hid (RP_4.out.below st5)
      have PS_5 := Lib.hid (PS_4.out.below st5)
      have GY_5 := Lib.hid (show w5.heap[Y]? = some (.cells #[.int .i64 (f : Int), .slice ia (itemsF x0 f t).length ic, .slice pa (pathsF x0 f t).length pc] 61 (0, 0)) by rw [hw5, hY]; exact heap_alloc_new _ _)
      have LY_5 := Lib.hid (lt_of_heap GY_5.out)
      have HY := Lib.hid hY
      have Hw5 := Lib.hid hw5
      clear hY hw5 st5
      have hft := find_fits HF.out HAB.out hF hT
      have hil := itemsF_length (f := f) hT.1
      have hpl := pathsF_length x0 f t
      have hiw : ∀ e ∈ itemsF x0 f t, EnW e := fun e he => N0.out e (List.mem_of_mem_drop (List.mem_of_mem_take he))
      have hsame := span_same HUP.out (by rw [hpl, hil]) hft (find_all hT.1)
      have htwo := find_two HUP.out HAB.out hF hT
      have ht1 := hT.1
      have hf256 : f ≤ 256 := by have := hF.2.2; omega
      have hl0 : lookF R (x0.length : Int) a1 a2 (f : Int) (itemsF x0 f t) (pathsF x0 f t) = 0 := by
        unfold lookF
        rw [if_neg (by have := HAB.out; omega), if_neg (by rw [hil, hpl]; simp), if_pos (by rw [Int.toNat_natCast, HR.out]; exact hft)]
      obtain ⟨J, hJ⟩ : ∃ J, J = withinE x0 a1 a2 := ⟨_, rfl⟩
      rw [← hJ] at hsame htwo
      have hlk := Look_calls R RL.out (x0.length : Int) a1 a2 (f : Int) (by omega) h1 h2 (by omega) (itemsF x0 f t) hiw ia ic ie (by omega) (pathsF x0 f t) vs pa pc pe w5 RI_5.out RP_5.out PS_5.out (RO.out.at_ B5.out)
      rw [hl0, ← hsame] at hlk
      have hlg := hlk.mono fun e w'' h => (⟨h.2.1 rfl, h.2.2⟩ : (∃ a c e', e = .returned (.tuple #[.slice a J.length c, .nilIface]) ∧ Rd w'' a e' (cellsE J)) ∧ Below w5.heap.size w5 w'')
      have LG := Lib.hid hlg
      have hwc := fun w' (hb : Below w.heap.size w w') => Within_calls x0 N0.out a0 c0 e0 a1 a2 w' (R0_0.out.below hb) (by omega)
      rw [← hJ] at hwc
      have WC := Lib.hid hwc
      have hJe : ∀ e ∈ J, e.val.length = 32 := by rw [hJ]; exact fun e he => (N0.out e (List.mem_filter.1 he).1).1
      have hJl : J.length ≤ 256 := by rw [hJ]; exact Nat.le_trans (List.length_filter_le _ _) (by omega)
      have hec := fun w' ag cg eg aw cw ew (hr1 : Rd w' ag eg (cellsE J)) (hr2 : Rd w' aw ew (cellsE J)) => (Entries_calls J J hJe hJe ag cg eg aw cw ew w' hr1 hr2 (by omega)).mono fun e w'' h => (⟨by rw [h.1, decide_eq_true rfl], by obtain ⟨n, hn⟩ := h.2; rw [hn]; exact below_drewN (Below.refl _ _) n⟩ : e = .returned (.bool true) ∧ Below w'.heap.size w' w'')
      have EC := Lib.hid hec
      obtain ⟨m, hm⟩ : ∃ m, m = (itemsF x0 f t).length := ⟨_, rfl⟩
      obtain ⟨mj, hmj⟩ : ∃ mj, mj = J.length := ⟨_, rfl⟩
      have HM := Lib.hid hm
      have HMJ := Lib.hid hmj
      have e2 : IntKind.i64.wrap ((J.length : Int) + 2) = (J.length : Int) + 2 := IntWalk.i64_in _ (by omega)
      have y2 : decide (((itemsF x0 f t).length : Int) ≤ (J.length : Int) + 2) = true := decide_eq_true (by omega)
      have y3 : decide ((itemsF x0 f t).length ≤ J.length + 2) = true := decide_eq_true htwo
      have y4 : ((itemsF x0 f t).length : Int) ≤ (J.length : Int) + 2 := by omega
      clear hft hiw hsame htwo hl0 hJ hlk hlg hwc hJe hec hm hmj hF hT hil hpl
      go_wp2_with (first
        | ((refine wpList_store_row rfl _ (.tmp 10) (.tmp 28) rfl w4.heap.size #[.int .i64 (f : Int), .slice ia (itemsF x0 f t).length ic, .slice pa (pathsF x0 f t).length pc] (by rfl) (by rfl) _ #[.int .i64 0, .slice none 0 0, .slice none 0 0] (heap_alloc_new w4 _) info_rngF rfl (rng_one _ _ _ rfl rfl rfl) ?_); rw [World.setRow_alloc_new, ← HY.out, ← Hw5.out])
        | ((refine ld_digG rfl (.tmp 8) rfl (X) 0 (by rfl) R RL.out (range_of_row GX_5.out) ?_); simp only [Act.put, List.setIfInBounds_toArray, List.set_cons_zero, List.set_cons_succ])
        | ((refine wpList_load_row rfl _ (.tmp 10) rfl Y (by rfl) _ _ _ _ GY_5.out Tryd.underlying61 rfl info_rngF ?_); simp only [Act.put, List.setIfInBounds_toArray, List.set_cons_zero, List.set_cons_succ]))
      refine (LG.out).mono ?_
      rintro e w6 ⟨⟨ag, cg, eg, rfl, hrg⟩, hb6⟩
      have B6 := Lib.hid (show Below w.heap.size w w6 from Below.trans B5.out (Below.mono hb6 (Below.size B5.out)))
      have GX_6 := Lib.hid ((Below.block hb6 X LX_5.out).trans GX_5.out)
      have LX_6 := Lib.hid (Nat.lt_of_lt_of_le LX_5.out (Below.size hb6))
      have GY_6 := Lib.hid ((Below.block hb6 Y LY_5.out).trans GY_5.out)
      have LY_6 := Lib.hid (Nat.lt_of_lt_of_le LY_5.out (Below.size hb6))
      have R0_6 := Lib.hid (R0_5.out.below hb6)
      have RG_6 := Lib.hid hrg
      clear hrg
      clear hb6
      go_wp2_with fail
      refine (WC.out w6 B6.out).mono ?_
      rintro e w7 ⟨aw, cw, rfl, how, hb7⟩
      have B7 := Lib.hid (show Below w.heap.size w w7 from Below.trans B6.out (Below.mono hb7 (Below.size B6.out)))
      have GX_7 := Lib.hid ((Below.block hb7 X LX_6.out).trans GX_6.out)
      have LX_7 := Lib.hid (Nat.lt_of_lt_of_le LX_6.out (Below.size hb7))
      have GY_7 := Lib.hid ((Below.block hb7 Y LY_6.out).trans GY_6.out)
      have LY_7 := Lib.hid (Nat.lt_of_lt_of_le LY_6.out (Below.size hb7))
      have R0_7 := Lib.hid (R0_6.out.below hb7)
      have RG_7 := Lib.hid (RG_6.out.below hb7)
      have RW_7 := Lib.hid (Rd.of_own how)
      clear how
      clear hb7
      go_wp2_with fail
      refine (EC.out w7 ag cg eg aw cw _ RG_7.out RW_7.out).mono ?_
      rintro e w8 ⟨rfl, hb8⟩
      have B8 := Lib.hid (show Below w.heap.size w w8 from Below.trans B7.out (Below.mono hb8 (Below.size B7.out)))
      have GX_8 := Lib.hid ((Below.block hb8 X LX_7.out).trans GX_7.out)
      have LX_8 := Lib.hid (Nat.lt_of_lt_of_le LX_7.out (Below.size hb8))
      have GY_8 := Lib.hid ((Below.block hb8 Y LY_7.out).trans GY_7.out)
      have LY_8 := Lib.hid (Nat.lt_of_lt_of_le LY_7.out (Below.size hb8))
      have R0_8 := Lib.hid (R0_7.out.below hb8)
      have RG_8 := Lib.hid (RG_7.out.below hb8)
      have RW_8 := Lib.hid (RW_7.out.below hb8)
      clear hb8
      obtain ⟨c0_, c1_, c2_⟩ := rng_cells GY_8.out
      go_wp2_with fail
      go_ret
      exact ⟨rfl, B8.out⟩
  · obtain ⟨F, hF⟩ : ∃ F, F = listF x0 := ⟨_, rfl⟩
    have hsb := fun w' (hb : Below w.heap.size w w') => SRoot_bad x0 n0 F hF.symm (by rw [hF]; exact hf) a0 c0 e0 (by omega) w' (r0.below hb) (hro.at_ hb)
    rw [← HZ.out] at hsb
    have SB := Lib.hid hsb
    have hfb := fun w' (hb : Below w.heap.size w w') => (hfi w' hb).mono fun e w'' h => (⟨h.1 hf, h.2.2.2⟩ : e = .returned (.tuple #[.agg #[.int .i64 0, .slice none 0 0, .slice none 0 0], .iface 25 (.int .i64 (listF x0))]) ∧ Below w'.heap.size w' w'')
    rw [← hF] at hfb
    have FB := Lib.hid hfb
    clear hsb hfb hfi hF hf hro r0 n0
    go_enter Tryd.func12, Tryd.ntmps12
    go_upto_region 1 with fail
    go_wp2_with fail
    refine (Spanned_calls w RO.out).mono ?_
    rintro e w1 ⟨rfl, hb1⟩
    have B1 := Lib.hid (show Below w.heap.size w w1 from Below.trans (Below.refl w.heap.size w) (Below.mono hb1 (Below.size (Below.refl w.heap.size w))))
    have R0_1 := Lib.hid (R0_0.out.below hb1)
    clear hb1
    go_wp2_with fail
    refine (SB.out w1 B1.out).mono ?_
    rintro e w2 ⟨rfl, hb2⟩
    have B2 := Lib.hid (show Below w.heap.size w w2 from Below.trans B1.out (Below.mono hb2 (Below.size B1.out)))
    have R0_2 := Lib.hid (R0_1.out.below hb2)
    clear hb2
    obtain ⟨X, hX⟩ : ∃ z, z = w2.heap.size := ⟨_, rfl⟩
    obtain ⟨w3, hw3⟩ : ∃ z, z = w2.alloc (.cells (dV Z) 23) := ⟨_, rfl⟩
    have st3 : Below w2.heap.size w2 w3 := by rw [hw3]; exact (Below.refl _ _).alloc (Nat.le_refl _) _
    have B3 := Lib.hid (show Below w.heap.size w w3 from Below.trans B2.out (Below.mono st3 (Below.size B2.out)))
    have R0_3 := Lib.hid (R0_2.out.below st3)
    have GX_3 := Lib.hid (show w3.heap[X]? = some (.cells (dV Z) 23 (0, 0)) by rw [hw3, hX]; exact heap_alloc_new _ _)
    have LX_3 := Lib.hid (lt_of_heap GX_3.out)
    have HX := Lib.hid hX
    have Hw3 := Lib.hid hw3
    clear hX hw3 st3
    go_wp2_with (first
      | ((refine st_new rfl (.tmp 8) (.tmp 21) rfl Z ZL.out (by rfl) _ _ (by rfl) (by rfl) ?_); rw [← HX.out, ← Hw3.out]))
    refine (FB.out w3 B3.out).mono ?_
    rintro e w4 ⟨rfl, hb4⟩
    have B4 := Lib.hid (show Below w.heap.size w w4 from Below.trans B3.out (Below.mono hb4 (Below.size B3.out)))
    have GX_4 := Lib.hid ((Below.block hb4 X LX_3.out).trans GX_3.out)
    have LX_4 := Lib.hid (Nat.lt_of_lt_of_le LX_3.out (Below.size hb4))
    have R0_4 := Lib.hid (R0_3.out.below hb4)
    clear hb4
    obtain ⟨Y, hY⟩ : ∃ z, z = w4.heap.size := ⟨_, rfl⟩
    obtain ⟨w5, hw5⟩ : ∃ z, z = w4.alloc (.cells #[.int .i64 0, .slice none 0 0, .slice none 0 0] 61) := ⟨_, rfl⟩
    have st5 : Below w4.heap.size w4 w5 := by rw [hw5]; exact (Below.refl _ _).alloc (Nat.le_refl _) _
    have B5 := Lib.hid (show Below w.heap.size w w5 from Below.trans B4.out (Below.mono st5 (Below.size B4.out)))
    have GX_5 := Lib.hid ((Below.block st5 X LX_4.out).trans GX_4.out)
    have LX_5 := Lib.hid (Nat.lt_of_lt_of_le LX_4.out (Below.size st5))
    have R0_5 := Lib.hid (R0_4.out.below st5)
    have GY_5 := Lib.hid (show w5.heap[Y]? = some (.cells #[.int .i64 0, .slice none 0 0, .slice none 0 0] 61 (0, 0)) by rw [hw5, hY]; exact heap_alloc_new _ _)
    have LY_5 := Lib.hid (lt_of_heap GY_5.out)
    have HY := Lib.hid hY
    have Hw5 := Lib.hid hw5
    clear hY hw5 st5
    go_wp2_with (first
      | ((refine wpList_store_row rfl _ (.tmp 10) (.tmp 28) rfl w4.heap.size #[.int .i64 0, .slice none 0 0, .slice none 0 0] (by rfl) (by rfl) _ #[.int .i64 0, .slice none 0 0, .slice none 0 0] (heap_alloc_new w4 _) info_rngF rfl (rng_one _ _ _ rfl rfl rfl) ?_); rw [World.setRow_alloc_new, ← HY.out, ← Hw5.out]))
    go_ret
    exact ⟨rfl, B5.out⟩

set_option maxRecDepth 100000 in
theorem lifted (os : Os) (started : os.Started) (H : Type) (enc : TypeId × Value → H) :
    ReturnsInHanded {} Tryd.checked os 12 .any (fun w args => (Rows.spanProvesSpec.pre enc Tryd.prog Tryd.f12 Rows.spanProvesRow.domain false w args ∧ laidMetH Tryd.prog Laid.list w) ∧ sizedMet enc Tryd.prog Tryd.f12 (OpenSpec.ofChange Rows.spanProvesSpec) false w args) (Rows.spanProvesSpec.post enc Tryd.prog Tryd.f12 false true false false) := by
  refine returnsInHanded_of_change_and (C := Tryd.checked) (X := fun w _ => laidMetH Tryd.prog Laid.list w) (fun _ _ _ hh h => h.of_heap hh) Laid.own started (by kernel_rfl) Tryd.func12
    (ChangeSpec.witness_at (enc := enc) (C := Tryd.checked) (os := os) (X := fun w _ => laidMetH Tryd.prog Laid.list w) false (laidWorld os) #[.slice none 0 0, .int .i64 0, .int .i64 0] 8 rfl (by kernel_rfl) (by kernel_rfl) (by kernel_rfl) (by kernel_rfl) (by kernel_rfl) (laidWorld_met os _)) ?_
  intro W base args ds gs before hval0 hW _ hsz hL _
  have hro := rounds_of_laid hL
  have hval : ∀ (j : Nat) t v, Tryd.f12.params[j]? = some t → args[j]? = some v → Value.okWide Tryd.prog W .any base t v := hval0
  have hW' := hW
  obtain ⟨p, q, hA0, hV, rfl, hfz, hnd⟩ := hW
  have hA : DataW.TrodAll enc Tryd.prog W 0 (fun _ => true) true Tryd.f12.params.toList args.toList ds p := hA0
  rw [Tryd.params12] at hA hval
  obtain ⟨v0, vs0, d0, ds0, p0, q0, hargs, rfl, rfl, h0, r0⟩ := trodAll_cons hA
  obtain ⟨v1, vs1, d1, ds1, p1, q1, rfl, rfl, rfl, h1, r1⟩ := trodAll_cons r0
  obtain ⟨v2, vs2, d2, ds2, p2, q2, rfl, rfl, rfl, h2, r2⟩ := trodAll_cons r1
  obtain ⟨rfl, rfl, rfl⟩ := trodAll_nil r2
  obtain rfl : args = #[v0, v1, v2] := by cases args; simp_all
  obtain ⟨rfl, rfl⟩ := trodVars_none hV
  have k0 := h0
  have lt0 : ∀ x ∈ p0, x.block < W.heap.size := by obtain ⟨m, hm⟩ := k0; exact DataW.trod_lt m _ _ _ hm
  obtain ⟨x0, a0, c0, e0, rfl, l0, m0, n0, r_0⟩ := open_ents Tryd.underlying40 Tryd.underlying35 Tryd.underlying3 Tryd.underlying23 Tryd.underlying5 (by kernel_rfl) (by kernel_rfl) (by kernel_rfl) (by kernel_rfl) rfl rfl (hval 0 40 v0 rfl rfl) h0
  have k1 := h1
  have lt1 : ∀ x ∈ p1, x.block < W.heap.size := by obtain ⟨m, hm⟩ := k1; exact DataW.trod_lt m _ _ _ hm
  obtain ⟨a1, rfl, _, _, w1⟩ := open_int Tryd.underlying3 (hval 1 3 v1 rfl rfl) h1
  have b1 := bounds_i64 w1
  have k2 := h2
  have lt2 : ∀ x ∈ p2, x.block < W.heap.size := by obtain ⟨m, hm⟩ := k2; exact DataW.trod_lt m _ _ _ hm
  obtain ⟨a2, rfl, _, _, w2⟩ := open_int Tryd.underlying3 (hval 2 3 v2 rfl rfl) h2
  have b2 := bounds_i64 w2
  clear hA0 hval0
  refine (walk x0 a0 c0 e0 a1 a2 W l0 m0 n0 r_0 b1 b2 hro).mono fun e W' ⟨he, bel⟩ => ?_
  subst he
  exact ⟨_, rfl, _, _, _, [], _, [], hW', trodAll_mk1 (shut_bool Tryd.underlying4 _), (trodAll_cons_mk (Below.trod Laid.laidOut (by kernel_rfl) (of_decide_eq_true (by kernel_rfl)) k0 bel lt0) (trodAll_cons_mk (Below.trod Laid.laidOut (by kernel_rfl) (of_decide_eq_true (by kernel_rfl)) k1 bel lt1) (trodAll_cons_mk (Below.trod Laid.laidOut (by kernel_rfl) (of_decide_eq_true (by kernel_rfl)) k2 bel lt2) trodAll_mk0))), rfl, bel.frame _, fun h => by cases h⟩

theorem over : Rows.spanProvesRow.holds Tryd.pinned (OpenSpec.ofChange Rows.spanProvesSpec) :=
  OpenClaim.holds_of_wide 12 Tryd.f12 rfl rfl rfl rfl rfl rfl rfl ⟨rfl, rfl, rfl, rfl, rfl⟩ rfl rfl rfl rfl rfl (by kernel_rfl) Tryd.func12 (by kernel_rfl)
    (of_decide_eq_true (by kernel_rfl)) (by unfold Func.isWrapper; first | (rw [if_pos (by decide +kernel)]; kernel_rfl) | (rw [if_neg (by decide +kernel)]; exact ⟨rfl, rfl⟩))
    (fun os started H enc _ => lifted os started H enc)

theorem proved : Rows.SpanProvesCardSaid :=
  Claim7.holds_tied_plain_at .later [] [.data] true (true, "dc8737acee50ade5d9e6156f300c62d149993f3a6545deb441f0e2b50ff31829") true
    over (fun _ h => by cases h) (by kernel_rfl) (fun _ h => by cases h) spanProves_row_tie rfl ⟨rfl, rfl⟩ (by kernel_rfl) rfl
    (fun f fn hf hfn => by
      obtain rfl : f = 12 := Option.some.inj ((show Tryd.prog.funcNamed "oathbook/oathbooklaw4.SpanProves" = some 12 by kernel_rfl).symm.trans hf) |>.symm
      obtain rfl : fn = Tryd.f12 := (Option.some.inj (Tryd.func12.symm.trans hfn)).symm
      exact ⟨by kernel_rfl, stand_of_all (by kernel_rfl)⟩)
    (by kernel_rfl)
#print axioms proved
end spanProves
end Go.Proofs.YtpeomfehdccmmaaDoor
