/- Walks of the document's answers: a list's leaf, its leaves, the entries from here to there. -/
import Derived.Test.YtpeomfehdccmmaaDoorSpanLeaf
import Derived.Test.YtpeomfehdccmmaaDoorTrieLeafed
import Derived.Test.YtpeomfehdccmmaaDoorRPut
namespace Go.Proofs.YtpeomfehdccmmaaDoor
open Go.RowKit
set_option linter.unusedVariables false
set_option linter.unusedSimpArgs false

set_option maxRecDepth 20000 in
set_option maxHeartbeats 4000000 in
theorem ItemLeaf_calls (x : En) (hx : EnW x) (hk : KeyOk x.key) (w : World) :
    Calls Tryd.prog 38 #[.agg (eV x.key x.val)] w fun e w' => e = .returned (.agg (dV (itemD x))) ∧ Below w.heap.size w w' := by
  obtain ⟨Z, hZ⟩ : ∃ Z, Z = nz := ⟨_, rfl⟩
  have zl : Z.length = 32 := by rw [hZ]; rfl
  have zlit : (#[.int .u8 0, .int .u8 0, .int .u8 0, .int .u8 0, .int .u8 0, .int .u8 0, .int .u8 0, .int .u8 0, .int .u8 0, .int .u8 0, .int .u8 0, .int .u8 0, .int .u8 0, .int .u8 0, .int .u8 0, .int .u8 0, .int .u8 0, .int .u8 0, .int .u8 0, .int .u8 0, .int .u8 0, .int .u8 0, .int .u8 0, .int .u8 0, .int .u8 0, .int .u8 0, .int .u8 0, .int .u8 0, .int .u8 0, .int .u8 0, .int .u8 0, .int .u8 0] : Array Value) = dV Z := by rw [hZ]; exact zdig
  have ZL := Lib.hid zl
  have ZT := Lib.hid zlit
  have HZ := Lib.hid hZ
  clear zl zlit hZ
  obtain ⟨H, hH⟩ : ∃ H, H = w.heap.size := ⟨_, rfl⟩
  obtain ⟨w0, hw0⟩ : ∃ z, z = w.alloc (.cells (eV x.key x.val) 35) := ⟨_, rfl⟩
  obtain ⟨w1, hw1⟩ : ∃ z, z = w0.alloc (.cells (dV Z) 23) := ⟨_, rfl⟩
  have q0 : w0.heap.size = H + 1 := by rw [hw0, hH]; exact World.size_alloc _ _
  have q1 : w1.heap.size = H + 1 + 1 := by rw [hw1, World.size_alloc, q0]
  have s0 : Below (H) w w0 := by rw [hw0, hH]; exact (Below.refl _ _).alloc (Nat.le_refl _) _
  have s1 : Below (H + 1) w0 w1 := by rw [hw1, ← q0]; exact (Below.refl _ _).alloc (Nat.le_refl _) _
  have t1 : Below (H + 1 + 1) w1 w1 := Below.refl _ _
  have t0 : Below (H + 1) w0 w1 := s1.trans (t1.mono (by omega))
  have bL : Below H w w1 := s0.trans (t0.mono (by omega))
  have g0 : w1.heap[H]? = some (.cells (eV x.key x.val) 35 (0, 0)) := by
    have g : w0.heap[H]? = some (.cells (eV x.key x.val) 35 (0, 0)) := by rw [hw0, hH]; exact heap_alloc_new _ _
    exact (t0.block _ (by omega)).trans g
  have g1 : w1.heap[H + 1]? = some (.cells (dV Z) 23 (0, 0)) := by
    have g : w1.heap[H + 1]? = some (.cells (dV Z) 23 (0, 0)) := by rw [hw1, ← q0]; exact heap_alloc_new _ _
    exact (t1.block _ (by omega)).trans g
  have bW : Below w.heap.size w w1 := by rw [← hH]; exact bL
  have hsz : H + 1 < w1.heap.size := by omega
  have HH := Lib.hid hH
  have HW0 := Lib.hid hw0
  have HW1 := Lib.hid hw1
  have BL := Lib.hid bL
  have BW := Lib.hid bW
  have QL := Lib.hid q1
  have G0 := Lib.hid g0
  have G1 := Lib.hid g1
  clear hH hw0 hw1 q0 q1 s0 s1 t0 t1 g0 g1 bL bW
  obtain ⟨k, hkk⟩ : ∃ k : Nat, x.key = (k : Int) := ⟨x.key.toNat, by have := hk.1; omega⟩
  have hk2 : k < 4294967296 := by have := hk.2; omega
  have PC := RPut_calls k 4 (by omega) (by omega) (by omega) w1
  rw [decide_eq_true (show k < 2 ^ (8 * 4) from hk2), ← hkk] at PC
  have HPC := Lib.hid PC
  have HV := Lib.hid hx.1
  have HK := Lib.hid (show itemT x = beS 4 k ++ x.val by unfold itemT; rw [hkk, Int.toNat_natCast])
  have c0 := eV_key G0.out
  obtain ⟨D, hD⟩ : ∃ D, D = itemD x := ⟨_, rfl⟩
  have DL := Lib.hid (show D.length = 32 by rw [hD]; exact itemD_length x)
  have HD := Lib.hid hD
  rw [← hD]
  clear PC hD hx hk hkk
  go_enter Tryd.func38, Tryd.ntmps38
  go_upto_region 1 with fail
  rw [ZT.out, ← HH.out, ← HW0.out, ← HW1.out]
  go_wp2_with fail
  refine HPC.out.mono ?_
  rintro e w2 ⟨ap, cp, rfl, hown2, hb2⟩
  have O2 := Lib.hid hown2
  have G02 := Lib.hid ((hb2.block H (by omega)).trans G0.out)
  have G12 := Lib.hid ((hb2.block (H + 1) hsz).trans G1.out)
  have BV2 := Lib.hid hb2
  obtain ⟨Y, hY⟩ : ∃ Y, Y = w2.heap.size := ⟨_, rfl⟩
  obtain ⟨w3, hw3⟩ : ∃ z, z = w2.alloc (.cells (dV x.val) 23) := ⟨_, rfl⟩
  have b23 : Below w2.heap.size w2 w3 := by rw [hw3]; exact (Below.refl _ _).alloc (Nat.le_refl _) _
  have RV := Lib.hid (show Rd w3 (some ⟨Y, 0, none⟩) 23 (x.val.map vB) by rw [hw3, hY]; exact Rd.box w2 x.val _)
  have O3 := Lib.hid (own_below O2.out b23)
  have BV3 := Lib.hid (hb2.trans (b23.mono hb2.size))
  have G13 := Lib.hid ((b23.block (H + 1) (Nat.lt_of_lt_of_le hsz hb2.size)).trans G12.out)
  have HY := Lib.hid hY
  have HW3 := Lib.hid hw3
  clear hY hw3 b23 hown2 hb2 HPC c0 O2
  go_wp2_with (first
    | ((refine ld_digG rfl (.tmp 12) rfl H 1 (by rfl) x.val HV.out (eV_range G02.out) ?_); simp only [Act.put, List.setIfInBounds_toArray, List.set_cons_zero, List.set_cons_succ])
    | ((refine st_new rfl (.tmp 5) (.tmp 13) rfl x.val HV.out (by rfl) _ _ (by rfl) (by rfl) ?_); rw [← HY.out, ← HW3.out])
    | (at_builtin; refine appAllw 80 5 (.int .u8 0) 1 1 Tryd.underlying80 info_byte rfl (by omega) rfl (.tmp 14) (.tmp 15) (by rfl) w1.heap.size _ 4 _ (by rfl) O3.out (some ⟨Y, 0, none⟩) 32 32 (x.val.map vB) (by rfl) _ RV.out (by rw [List.length_map]; exact HV.out) (one_bytes x.val) (by omega) (by omega) BV3.out.size ?_; intro av3 cp3 w4 hown3 hb3; rw [← List.map_append, ← HK.out] at hown3; have O4 := Lib.hid hown3; have B4 := Lib.hid (BV3.out.trans hb3); clear hown3 hb3))
  have hlen := itemT_length HV.out
  have LC := RLeaf_calls (itemT x) av3 cp3 _ (by rw [hlen]; omega) w4 (Rd.of_own O4.out)
  rw [hlen, show tleaf (itemT x) = itemD x from rfl, ← HD.out] at LC
  have HLC := Lib.hid LC
  have G4 := Lib.hid ((B4.out.block (H + 1) hsz).trans G1.out)
  have hs4 := B4.out.size
  clear LC hlen O4
  refine HLC.out.mono ?_
  rintro e w5 ⟨rfl, hb5⟩
  have G5 := Lib.hid ((hb5.block (H + 1) (lt_of_heap G4.out)).trans G4.out)
  have B5 := Lib.hid (BL.out.trans ((B4.out.trans (hb5.mono hs4)).mono (by omega)))
  clear hb5 HLC
  go_wp2_with (refine st_row rfl (.tmp 2) (.tmp 17) rfl (H + 1) D DL.out (by rfl) (by rfl) (dV Z) (dV_size ZL.out) _ G5.out ?_)
  try simp only [Exit.inBlock, Exit.then]
  refine bodyPost_ret (v := .agg (dV D)) (results_cellW rfl _ _ _ ⟨H + 1, 0, none⟩ _ rfl ?_) rfl ⟨rfl, by rw [← HH.out]; exact below_setRowW B5.out (by omega) _⟩
  exact dig_load DL.out (range_of_row (setRow_heap _ _ _ _ _ _ G5.out))
set_option maxRecDepth 20000 in
set_option maxHeartbeats 4000000 in
theorem ItemLeaves_calls (es : List En) (hw : ∀ e ∈ es, EnW e) (hk : ∀ e ∈ es, KeyOk e.key) (a : Option Addr) (cap ea : Nat) (w : World) (hr : Rd w a ea (cellsE es)) (hes : es.length ≤ 1000) :
    Calls Tryd.prog 37 #[.slice a es.length cap] w fun e w' => ∃ a' c', e = .returned (.slice a' es.length c') ∧ w'.ownsRow w.heap.size 23 32 (.slice a' es.length c') es.length ((leavesD es).flatten.map vB) ∧ Below w.heap.size w w' := by
  have HL := Lib.hid (show ∀ e ∈ es, e.val.length = 32 from fun e he => (hw e he).1)
  have HR := Lib.hid hr
  have HWW := Lib.hid hw
  have HKK := Lib.hid hk
  obtain ⟨B, hB⟩ : ∃ B, B = w.heap.size := ⟨_, rfl⟩
  have HB := Lib.hid hB
  rw [← hB]
  clear hr hw hk hB
  go_enter Tryd.func37, Tryd.ntmps37
  go_wp2_with fail
  go_loopw [3, 4] (fun v i wr => ∃ (j : Nat) (av : Option Addr) (cp : Nat), j ≤ es.length ∧ i = .int .i64 (j : Int) ∧ v = .slice av j cp ∧ Hid (wr.ownsRow B 23 32 (.slice av j cp) j ((leavesD (es.take j)).flatten.map vB)) ∧ Hid (Below B w wr)) (fun _ i _ => es.length - (intOf i).toNat)
  case atStart => exact ⟨0, none, 0, Nat.zero_le _, rfl, rfl, Lib.hid (World.ownsRow_nil _ _ _ _), Lib.hid (Below.refl _ _)⟩
  case round =>
    obtain ⟨j, av, cp, hj, rfl, rfl, HO, HBL⟩ := hrel
    obtain ⟨wA, rfl⟩ : ∃ z, z = wr := ⟨_, rfl⟩
    have hbw : Below w.heap.size w wA := by rw [← HB.out]; exact HBL.out
    have hsr : B ≤ wA.heap.size := by rw [HB.out]; exact hbw.size
    by_cases hlt : j < es.length
    · obtain ⟨b, of_, hbb, hb, hrg⟩ := (HR.out.below hbw).ent HL.out hlt
      subst hbb
      have j0 : (0 : Int) ≤ (j : Int) := by omega
      have j1 : (j : Int) < (es.length : Int) := by omega
      have e4 : IntKind.i64.wrap ((j : Int) + 1) = (j : Int) + 1 := IntWalk.i64_in _ (by omega)
      have hlv := leavesD_take es j hlt
      obtain ⟨E, hE⟩ : ∃ E, E = es[j] := ⟨_, rfl⟩
      have hEW : EnW E := by rw [hE]; exact HWW.out _ (List.getElem_mem _)
      have hEK : KeyOk E.key := by rw [hE]; exact HKK.out _ (List.getElem_mem _)
      rw [← hE] at hrg hlv
      have LC := ItemLeaf_calls E hEW hEK wA
      obtain ⟨D, hD⟩ : ∃ D, D = itemD E := ⟨_, rfl⟩
      have DL := Lib.hid (show D.length = 32 by rw [hD]; exact itemD_length E)
      rw [← hD] at LC hlv
      have HLV2 := Lib.hid (show (leavesD (es.take (j + 1))).flatten.map vB = (leavesD (es.take j)).flatten.map vB ++ D.map vB by rw [hlv, flat_snoc])
      have HLC := Lib.hid LC
      have HRG := Lib.hid hrg
      have HEW := Lib.hid hEW
      clear LC hlv hD hE hEW hEK hrg hb
      go_wp2_with (refine ld_entG rfl (.tmp 14) rfl b (of_ + j * 33) (by rfl) E HEW.out.1 HRG.out ?_; simp only [Act.put, List.setIfInBounds_toArray, List.set_cons_zero, List.set_cons_succ])
      refine HLC.out.mono ?_
      rintro e wN ⟨rfl, hbN⟩
      have ON := Lib.hid (own_below HO.out hbN)
      have BN := Lib.hid (HBL.out.trans (hbN.mono hsr))
      have hsN : B ≤ wN.heap.size := Nat.le_trans hsr hbN.size
      clear hbN HLC
      go_wp2_with (first
        | ((refine wpl_build1t 24 23 _ 32 32 Tryd.underlying24 info_digz2 (by omega) (by omega) rfl (.tmp 16) rfl (dV D) (by rfl) (dV_size DL.out) ?_); simp only [Act.put, List.setIfInBounds_toArray, List.set_cons_zero, List.set_cons_succ])
        | (at_builtin; refine appAllw 24 23 (.agg (dV nz)) 32 32 Tryd.underlying24 info_digz2 (dV_size rfl) (by omega) rfl (.tmp 11) (.tmp 17) (by rfl) B _ j _ (by rfl) (ON.out.alloc _) (some ⟨wN.heap.size, 0, none⟩) 1 1 (D.map vB) (by rfl) _ (Rd.box wN D _) (by rw [List.length_map, DL.out]) (one_bytes _) (by omega) (by omega) (by rw [World.size_alloc]; omega) ?_; intro av3 cp3 w9 hown9 hb9; rw [← HLV2.out] at hown9; have O9 := Lib.hid hown9; have B9 := Lib.hid (BN.out.trans (Below.trans ((Below.refl _ wN).alloc hsN _) hb9)); clear hown9 hb9))
      go_roundw
      case rel => exact ⟨j + 1, av3, cp3, by omega, by go_num, rfl, O9, B9⟩
      case measure => simp [intOf]; omega
    · obtain rfl : j = es.length := by omega
      have ho := HO.out
      rw [List.take_of_length_le (Nat.le_refl _)] at ho
      have HO2 := Lib.hid ho
      clear ho HO
      go_wp2_with fail
      go_ret
      exact ⟨av, cp, rfl, HO2.out, HBL.out⟩
def inW (a b : Int) (e : En) : Bool := decide (a ≤ e.key) && decide (e.key ≤ b)
set_option maxRecDepth 20000 in
set_option maxHeartbeats 4000000 in
theorem Within_calls (es : List En) (hw : ∀ e ∈ es, EnW e) (a : Option Addr) (cap ea : Nat) (lo hi : Int) (w : World) (hr : Rd w a ea (cellsE es)) (hes : es.length ≤ 1000) :
    Calls Tryd.prog 36 #[.slice a es.length cap, .int .i64 lo, .int .i64 hi] w fun e w' => ∃ a' c', e = .returned (.slice a' (withinE es lo hi).length c') ∧ w'.ownsRow w.heap.size 35 33 (.slice a' (withinE es lo hi).length c') (withinE es lo hi).length (cellsE (withinE es lo hi)) ∧ Below w.heap.size w w' := by
  show Calls Tryd.prog _ _ w fun e w' => ∃ a' c', e = .returned (.slice a' (es.filter (inW lo hi)).length c') ∧ w'.ownsRow w.heap.size 35 33 (.slice a' (es.filter (inW lo hi)).length c') (es.filter (inW lo hi)).length (cellsE (es.filter (inW lo hi))) ∧ Below w.heap.size w w'
  have HL := Lib.hid (show ∀ e ∈ es, e.val.length = 32 from fun e he => (hw e he).1)
  have HR := Lib.hid hr
  obtain ⟨B, hB⟩ : ∃ B, B = w.heap.size := ⟨_, rfl⟩
  have HB := Lib.hid hB
  rw [← hB]
  clear hr hw hB
  go_enter Tryd.func36, Tryd.ntmps36
  go_wp2_with fail
  go_loopw [7, 8] (fun v i wr => ∃ (j m : Nat) (av : Option Addr) (cp : Nat), j ≤ es.length ∧ m ≤ j ∧ i = .int .i64 j ∧ v = .slice av m cp ∧ Hid (m = ((es.take j).filter (inW lo hi)).length) ∧ Hid (wr.ownsRow B 35 33 (.slice av m cp) m (cellsE ((es.take j).filter (inW lo hi)))) ∧ Hid (Below B w wr)) (fun _ i _ => es.length - (intOf i).toNat)
  case atStart => exact ⟨0, 0, none, 0, Nat.zero_le _, Nat.zero_le _, rfl, rfl, Lib.hid rfl, Lib.hid (World.ownsRow_nil _ _ _ _), Lib.hid (Below.refl _ _)⟩
  case round =>
    obtain ⟨j, m, av, cp, hj, hmj, rfl, rfl, HM, HO, HBL⟩ := hrel
    obtain ⟨wA, rfl⟩ : ∃ z, z = wr := ⟨_, rfl⟩
    have hbw : Below w.heap.size w wA := by rw [← HB.out]; exact HBL.out
    have hsr : B ≤ wA.heap.size := by rw [HB.out]; exact hbw.size
    by_cases hlt : j < es.length
    · obtain ⟨b, of_, hbb, hb, hrg⟩ := (HR.out.below hbw).ent HL.out hlt
      subst hbb
      have he32 := HL.out _ (List.getElem_mem hlt)
      have htk : es.take (j + 1) = es.take j ++ [es[j]] := List.take_succ_eq_append_getElem hlt
      have j0 : (0 : Int) ≤ (j : Int) := by omega
      have j1 : (j : Int) < (es.length : Int) := by omega
      have e4 : IntKind.i64.wrap ((j : Int) + 1) = (j : Int) + 1 := IntWalk.i64_in _ (by omega)
      obtain ⟨E, hE⟩ : ∃ E, E = es[j] := ⟨_, rfl⟩
      rw [← hE] at hrg he32 htk
      have ck := range_ekey hrg
      have HRG := Lib.hid hrg
      have H32 := Lib.hid he32
      have HTK := Lib.hid htk
      clear htk hrg he32 hE hb
      by_cases hin : inW lo hi E = true
      · have hre : (es.take (j + 1)).filter (inW lo hi) = (es.take j).filter (inW lo hi) ++ [E] := by rw [HTK.out, List.filter_append]; simp [hin]
        have HPK := Lib.hid hre
        have M9 := Lib.hid (show m + 1 = ((es.take (j + 1)).filter (inW lo hi)).length by rw [hre, List.length_append]; simp only [List.length_singleton]; rw [← HM.out])
        unfold inW at hin
        rw [Bool.and_eq_true, decide_eq_true_iff, decide_eq_true_iff] at hin
        have z1 : decide (lo ≤ E.key) = true := decide_eq_true hin.1
        have z2 : decide (E.key ≤ hi) = true := decide_eq_true hin.2
        clear hin hre
        go_wp2_with (first
          | ((refine ld_entG rfl (.tmp 34) rfl b (of_ + j * 33) (by rfl) E H32.out HRG.out ?_); simp only [Act.put, List.setIfInBounds_toArray, List.set_cons_zero, List.set_cons_succ])
          | ((refine wpl_build1 40 35 _ 33 40 Tryd.underlying40 info_entz (by omega) (by omega) rfl (.tmp 35) rfl (eV E.key E.val) (by rfl) (eVs H32.out) ?_); simp only [Act.put, List.setIfInBounds_toArray, List.set_cons_zero, List.set_cons_succ])
          | (at_builtin; refine appAllw 40 35 (.agg (eV 0 nz)) 33 40 Tryd.underlying40 info_entz (eV_size 0 nz rfl) (by omega) rfl (.tmp 31) (.tmp 36) (by rfl) B _ m _ (by rfl) (HO.out.alloc _) (some ⟨wA.heap.size, 0, none⟩) 1 1 (cellsE [E]) (by rfl) _ (Rd.ent1 wA E) (by rw [cellsE_one, eL_length H32.out]) (cellsE_one_all _) (by omega) (by omega) (by rw [World.size_alloc]; omega) ?_; intro av3 cp3 w9 hown9 hb9; rw [← cellsE_append, ← HPK.out] at hown9; have O9 := Lib.hid hown9; have B9 := Lib.hid (HBL.out.trans (Below.trans ((Below.refl _ wA).alloc hsr _) hb9)); clear hown9 hb9))
        go_roundw
        case rel => exact ⟨j + 1, m + 1, av3, cp3, hlt, by omega, by go_num, rfl, M9, O9, B9⟩
        case measure => simp [intOf]; omega
      · have hre : (es.take (j + 1)).filter (inW lo hi) = (es.take j).filter (inW lo hi) := by rw [HTK.out, List.filter_append]; simp [hin]
        have hO2 := HO.out
        rw [← hre] at hO2
        have O9 := Lib.hid hO2
        have M9 := Lib.hid (show m = ((es.take (j + 1)).filter (inW lo hi)).length by rw [hre]; exact HM.out)
        unfold inW at hin
        clear hO2 hre
        by_cases hge : lo ≤ E.key
        · have z1 : decide (lo ≤ E.key) = true := decide_eq_true hge
          have z2 : decide (E.key ≤ hi) = false := by
            rw [z1, Bool.true_and] at hin
            simpa using hin
          clear hin hge
          go_wp2_with fail
          go_roundw
          case rel => exact ⟨j + 1, m, av, cp, hlt, by omega, by go_num, rfl, M9, O9, HBL⟩
          case measure => simp [intOf]; omega
        · have z1 : decide (lo ≤ E.key) = false := decide_eq_false hge
          clear hin hge
          go_wp2_with fail
          go_roundw
          case rel => exact ⟨j + 1, m, av, cp, hlt, by omega, by go_num, rfl, M9, O9, HBL⟩
          case measure => simp [intOf]; omega
    · obtain rfl : j = es.length := by omega
      have hm := HM.out
      have ho := HO.out
      rw [List.take_of_length_le (Nat.le_refl _)] at ho hm
      subst hm
      have HO2 := Lib.hid ho
      clear ho HO HM
      go_wp2_with fail
      go_ret
      exact ⟨av, cp, rfl, HO2.out, HBL.out⟩
end Go.Proofs.YtpeomfehdccmmaaDoor
