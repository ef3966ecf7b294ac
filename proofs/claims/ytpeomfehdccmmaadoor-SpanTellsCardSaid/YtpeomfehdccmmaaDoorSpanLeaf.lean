/- Walks: a list's leaf, its leaves, its root. -/
import Derived.Test.YtpeomfehdccmmaaDoorSpanLaw
import Derived.Test.YtpeomfehdccmmaaDoorOctPut
import Derived.Test.YtpeomfehdccmmaaDoorTreePath
import Derived.Test.YtpeomfehdccmmaaDoorTreeNode
import Derived.Test.YtpeomfehdccmmaaDoorEntMem
import Derived.Test.YtpeomfehdccmmaaDoorTrieSort
import Derived.BigQuiet
namespace Go.Proofs.YtpeomfehdccmmaaDoor
open Go.RowKit
set_option linter.unusedVariables false
set_option linter.unusedSimpArgs false

theorem oc4_beS (n : Nat) : oc4 n = beS 4 n := by
  unfold oc4 beS
  exact List.map_congr_left fun j hj => rfl
set_option maxRecDepth 20000 in
set_option maxHeartbeats 2000000 in
theorem SLeaf_ok (x : En) (hx : EnW x) (hk : KeyOk x.key) (w : World) (hro : RoundsAt w) :
    Calls Tryd.prog 80 #[.agg (eV x.key x.val)] w fun e w' => e = .returned (.tuple #[.agg (dV (itemD x)), .nilIface]) ∧ Below w.heap.size w w' := by
  obtain ⟨Z, hZ⟩ : ∃ Z, Z = nz := ⟨_, rfl⟩
  have zl : Z.length = 32 := by rw [hZ]; rfl
  have zlit : (#[.int .u8 0, .int .u8 0, .int .u8 0, .int .u8 0, .int .u8 0, .int .u8 0, .int .u8 0, .int .u8 0, .int .u8 0, .int .u8 0, .int .u8 0, .int .u8 0, .int .u8 0, .int .u8 0, .int .u8 0, .int .u8 0, .int .u8 0, .int .u8 0, .int .u8 0, .int .u8 0, .int .u8 0, .int .u8 0, .int .u8 0, .int .u8 0, .int .u8 0, .int .u8 0, .int .u8 0, .int .u8 0, .int .u8 0, .int .u8 0, .int .u8 0, .int .u8 0] : Array Value) = dV Z := by rw [hZ]; exact zdig
  have ZL := Lib.hid zl
  have ZT := Lib.hid zlit
  have HZ := Lib.hid hZ
  clear zl zlit hZ
  obtain ⟨H, hH⟩ : ∃ H, H = w.heap.size := ⟨_, rfl⟩
  obtain ⟨w0, hw0⟩ : ∃ z, z = w.alloc (.cells (eV x.key x.val) 35) := ⟨_, rfl⟩
  obtain ⟨w1, hw1⟩ : ∃ z, z = w0.alloc (.cells (dV Z) 23) := ⟨_, rfl⟩
  have q0 : w0.heap.size = H + 1 := by rw [hw0, hH]; exact World.size_alloc _ _
  have q1 : w1.heap.size = H + 1 + 1 := by rw [hw1, World.size_alloc, q0]
  have s0 : Below (H) w w0 := by rw [hw0, hH]; exact (Below.refl _ _).alloc (Nat.le_refl _) _
  have s1 : Below (H + 1) w0 w1 := by rw [hw1, ← q0]; exact (Below.refl _ _).alloc (Nat.le_refl _) _
  have t1 : Below (H + 1 + 1) w1 w1 := Below.refl _ _
  have t0 : Below (H + 1) w0 w1 := s1.trans (t1.mono (by omega))
  have bL : Below H w w1 := s0.trans (t0.mono (by omega))
  have g0 : w1.heap[H]? = some (.cells (eV x.key x.val) 35 (0, 0)) := by
    have g : w0.heap[H]? = some (.cells (eV x.key x.val) 35 (0, 0)) := by rw [hw0, hH]; exact heap_alloc_new _ _
    exact (t0.block _ (by omega)).trans g
  have g1 : w1.heap[H + 1]? = some (.cells (dV Z) 23 (0, 0)) := by
    have g : w1.heap[H + 1]? = some (.cells (dV Z) 23 (0, 0)) := by rw [hw1, ← q0]; exact heap_alloc_new _ _
    exact (t1.block _ (by omega)).trans g
  have bW : Below w.heap.size w w1 := by rw [← hH]; exact bL
  have hsz : H + 1 < w1.heap.size := by omega
  have HH := Lib.hid hH
  have HW0 := Lib.hid hw0
  have HW1 := Lib.hid hw1
  have BL := Lib.hid bL
  have BW := Lib.hid bW
  have QL := Lib.hid q1
  have G0 := Lib.hid g0
  have G1 := Lib.hid g1
  clear hH hw0 hw1 q0 q1 s0 s1 t0 t1 g0 g1 bL bW
  obtain ⟨k, hkk⟩ : ∃ k : Nat, x.key = (k : Int) := ⟨x.key.toNat, by have := hk.1; omega⟩
  have hk2 : k < 4294967296 := by have := hk.2; omega
  have PC := OPut_ok k hk2 w1
  rw [oc4_beS, ← hkk] at PC
  have HPC := Lib.hid PC
  have HV := Lib.hid hx.1
  have HK := Lib.hid (show itemT x = beS 4 k ++ x.val by unfold itemT; rw [hkk, Int.toNat_natCast])
  have RO := Lib.hid (hro.at_ BW.out)
  have c0 := eV_key G0.out
  obtain ⟨D, hD⟩ : ∃ D, D = itemD x := ⟨_, rfl⟩
  have DL := Lib.hid (show D.length = 32 by rw [hD]; exact itemD_length x)
  have HD := Lib.hid hD
  rw [← hD]
  clear PC hro hD hx hk hkk
  go_enter Tryd.func80, Tryd.ntmps80
  go_upto_region 1 with fail
  rw [ZT.out, ← HH.out, ← HW0.out, ← HW1.out]
  go_wp2_with fail
  refine HPC.out.mono ?_
  rintro e w2 ⟨ap, cp, rfl, hown2, hb2⟩
  have O2 := Lib.hid hown2
  have G02 := Lib.hid ((hb2.block H (by omega)).trans G0.out)
  have G12 := Lib.hid ((hb2.block (H + 1) hsz).trans G1.out)
  have BV2 := Lib.hid hb2
  have RV := Lib.hid (eV_val G02.out)
  clear hown2 hb2 HPC c0
  go_wp2_with (at_builtin; refine appAllw 80 5 (.int .u8 0) 1 1 Tryd.underlying80 info_byte rfl (by omega) rfl (.tmp 16) (.tmp 18) (by rfl) w1.heap.size _ 4 _ (by rfl) O2.out (some ⟨H, 1, none⟩) 32 32 (x.val.map vB) (by rfl) _ RV.out (by rw [List.length_map]; exact HV.out) (one_bytes x.val) (by omega) (by omega) BV2.out.size ?_; intro av3 cp3 w3 hown3 hb3; rw [← List.map_append, ← HK.out] at hown3; have O3 := Lib.hid hown3; have B3 := Lib.hid (BV2.out.trans hb3); clear hown3 hb3)
  have hlen := itemT_length HV.out
  have LC := TLeaf_calls (itemT x) av3 cp3 _ (by rw [hlen]; omega) w3 (Rd.of_own O3.out) (RO.out.at_ B3.out)
  rw [hlen, show tleaf (itemT x) = itemD x from rfl, ← HD.out] at LC
  have HLC := Lib.hid LC
  have G3 := Lib.hid ((B3.out.block (H + 1) hsz).trans G1.out)
  have hs3 := B3.out.size
  clear LC hlen O3
  refine HLC.out.mono ?_
  rintro e w5 ⟨rfl, hb5⟩
  have G5 := Lib.hid ((hb5.block (H + 1) (lt_of_heap G3.out)).trans G3.out)
  have B5 := Lib.hid (BL.out.trans ((B3.out.trans (hb5.mono hs3)).mono (by omega)))
  clear hb5 HLC
  go_wp2_with (refine st_row rfl (.tmp 2) (.tmp 20) rfl (H + 1) D DL.out (by rfl) (by rfl) (dV Z) (dV_size ZL.out) _ G5.out ?_)
  try simp only [Exit.inBlock, Exit.then]
  refine bodyPost_ret (results_cell_tmp rfl _ _ _ ⟨H + 1, 0, none⟩ (.agg (dV D)) rfl ?_) rfl ⟨rfl, by rw [← HH.out]; exact below_setRowW B5.out (by omega) _⟩
  exact dig_load DL.out (range_of_row (setRow_heap _ _ _ _ _ _ G5.out))
set_option maxRecDepth 20000 in
set_option maxHeartbeats 2000000 in
theorem SLeaf_bad (x : En) (hx : EnW x) (hk : ¬ KeyOk x.key) (w : World) :
    Calls Tryd.prog 80 #[.agg (eV x.key x.val)] w fun e w' => e = .returned (.tuple #[.agg (dV nz), .iface 25 (.int .i64 2)]) ∧ Below w.heap.size w w' := by
  obtain ⟨Z, hZ⟩ : ∃ Z, Z = nz := ⟨_, rfl⟩
  have zl : Z.length = 32 := by rw [hZ]; rfl
  have zlit : (#[.int .u8 0, .int .u8 0, .int .u8 0, .int .u8 0, .int .u8 0, .int .u8 0, .int .u8 0, .int .u8 0, .int .u8 0, .int .u8 0, .int .u8 0, .int .u8 0, .int .u8 0, .int .u8 0, .int .u8 0, .int .u8 0, .int .u8 0, .int .u8 0, .int .u8 0, .int .u8 0, .int .u8 0, .int .u8 0, .int .u8 0, .int .u8 0, .int .u8 0, .int .u8 0, .int .u8 0, .int .u8 0, .int .u8 0, .int .u8 0, .int .u8 0, .int .u8 0] : Array Value) = dV Z := by rw [hZ]; exact zdig
  have ZL := Lib.hid zl
  have ZT := Lib.hid zlit
  have HZ := Lib.hid hZ
  clear zl zlit hZ
  obtain ⟨H, hH⟩ : ∃ H, H = w.heap.size := ⟨_, rfl⟩
  obtain ⟨w0, hw0⟩ : ∃ z, z = w.alloc (.cells (eV x.key x.val) 35) := ⟨_, rfl⟩
  obtain ⟨w1, hw1⟩ : ∃ z, z = w0.alloc (.cells (dV Z) 23) := ⟨_, rfl⟩
  have q0 : w0.heap.size = H + 1 := by rw [hw0, hH]; exact World.size_alloc _ _
  have q1 : w1.heap.size = H + 1 + 1 := by rw [hw1, World.size_alloc, q0]
  have s0 : Below (H) w w0 := by rw [hw0, hH]; exact (Below.refl _ _).alloc (Nat.le_refl _) _
  have s1 : Below (H + 1) w0 w1 := by rw [hw1, ← q0]; exact (Below.refl _ _).alloc (Nat.le_refl _) _
  have t1 : Below (H + 1 + 1) w1 w1 := Below.refl _ _
  have t0 : Below (H + 1) w0 w1 := s1.trans (t1.mono (by omega))
  have bL : Below H w w1 := s0.trans (t0.mono (by omega))
  have g0 : w1.heap[H]? = some (.cells (eV x.key x.val) 35 (0, 0)) := by
    have g : w0.heap[H]? = some (.cells (eV x.key x.val) 35 (0, 0)) := by rw [hw0, hH]; exact heap_alloc_new _ _
    exact (t0.block _ (by omega)).trans g
  have g1 : w1.heap[H + 1]? = some (.cells (dV Z) 23 (0, 0)) := by
    have g : w1.heap[H + 1]? = some (.cells (dV Z) 23 (0, 0)) := by rw [hw1, ← q0]; exact heap_alloc_new _ _
    exact (t1.block _ (by omega)).trans g
  have bW : Below w.heap.size w w1 := by rw [← hH]; exact bL
  have hsz : H + 1 < w1.heap.size := by omega
  have HH := Lib.hid hH
  have HW0 := Lib.hid hw0
  have HW1 := Lib.hid hw1
  have BL := Lib.hid bL
  have BW := Lib.hid bW
  have QL := Lib.hid q1
  have G0 := Lib.hid g0
  have G1 := Lib.hid g1
  clear hH hw0 hw1 q0 q1 s0 s1 t0 t1 g0 g1 bL bW
  have HPC := Lib.hid (OPut_no x.key (by unfold KeyOk at hk; omega) hx.2.2 w1)
  have c0 := eV_key G0.out
  rw [← HZ.out]
  clear hx hk
  go_enter Tryd.func80, Tryd.ntmps80
  go_upto_region 1 with fail
  rw [ZT.out, ← HH.out, ← HW0.out, ← HW1.out]
  go_wp2_with fail
  refine HPC.out.mono ?_
  rintro e w2 ⟨rfl, rfl⟩
  go_wp2_with (first
    | (refine wpl_zero rfl rfl Z HZ.out ?_)
    | (refine st_row rfl (.tmp 2) (.tmp 14) rfl (H + 1) Z ZL.out (by rfl) (by rfl) (dV Z) (dV_size ZL.out) _ G1.out ?_))
  try simp only [Exit.inBlock, Exit.then]
  refine bodyPost_ret (results_cell_tmp rfl _ _ _ ⟨H + 1, 0, none⟩ (.agg (dV Z)) rfl ?_) rfl ⟨rfl, by rw [← HH.out]; exact below_setRowW BL.out (by omega) _⟩
  exact dig_load ZL.out (range_of_row (setRow_heap _ _ _ _ _ _ G1.out))
def LeavesRet (w : World) (es : List En) (e : Ending) (w' : World) : Prop :=
  (listF es ≠ 0 → e = .returned (.tuple #[.slice none 0 0, .iface 25 (.int .i64 (listF es))])) ∧
  (listF es = 0 → ∃ (a : Option Addr) (cap : Nat), e = .returned (.tuple #[.slice a es.length cap, .nilIface]) ∧ w'.ownsRow w.heap.size 23 32 (.slice a es.length cap) es.length ((leavesD es).flatten.map vB)) ∧ Below w.heap.size w w'
theorem leaves_bad {w : World} {es : List En} {w' : World} (n : Int) (h : listF es = n) (hn : n ≠ 0) (hb : Below w.heap.size w w') : LeavesRet w es (.returned (.tuple #[.slice none 0 0, .iface 25 (.int .i64 n)])) w' :=
  ⟨fun _ => by rw [h], fun h0 => absurd (h.symm.trans h0) hn, hb⟩
set_option maxRecDepth 20000 in
set_option maxHeartbeats 4000000 in
theorem Leaves_calls (es : List En) (hw : ∀ e ∈ es, EnW e) (a : Option Addr) (cap ea : Nat) (hc2 : es.length ≤ 9223372036854775807) (w : World) (hr : Rd w a ea (cellsE es)) (hro : RoundsAt w) :
    Calls Tryd.prog 58 #[.slice a es.length cap] w (LeavesRet w es) := by
  have hlen : ∀ e ∈ es, e.val.length = 32 := fun e he => (hw e he).1
  by_cases h256 : 256 < es.length
  · have HF := Lib.hid (listF_big h256)
    have z1 : (256 : Int) < (es.length : Int) := by omega
    clear hr hlen hw hro
    go_enter Tryd.func58, Tryd.ntmps58
    go_wp2_with fail
    go_ret2
    exact leaves_bad 4 HF.out (by decide) (Below.refl _ _)
  · have z1 : ¬ (256 : Int) < (es.length : Int) := by omega
    obtain ⟨F, hF⟩ : ∃ F, F = listF es := ⟨_, rfl⟩
    have HF := Lib.hid hF.symm
    have HS := Lib.hid (show listG none es = F by rw [hF, listF_small h256])
    have HL := Lib.hid hlen
    have HWW := Lib.hid hw
    have HR := Lib.hid hr
    have RO := Lib.hid hro
    obtain ⟨W, hW⟩ : ∃ W, W = w.heap.size := ⟨_, rfl⟩
    have HW := Lib.hid hW
    clear hF hlen hw hr hro hW
    go_enter Tryd.func58, Tryd.ntmps58
    go_wp2_with fail
    go_loopw [4, 15] (fun v iv wr => ∃ (j : Nat) (av : Option Addr) (cp : Nat), j ≤ es.length ∧ iv = .int .i64 (j : Int) ∧ v = .slice av j cp ∧ Hid (listG (prevK es j) (es.drop j) = F) ∧ Hid (wr.ownsRow W 23 32 (.slice av j cp) j ((leavesD (es.take j)).flatten.map vB)) ∧ Hid (Below W w wr)) (fun _ iv _ => es.length - (intOf iv).toNat)
    case atStart => exact ⟨0, none, 0, Nat.zero_le _, rfl, rfl, Lib.hid HS.out, Lib.hid (World.ownsRow_nil _ _ _ _), Lib.hid (Below.refl _ _)⟩
    case round =>
      obtain ⟨j, av, cp, hj, rfl, rfl, HG, HO, HBL⟩ := hrel
      obtain ⟨wA, rfl⟩ : ∃ z, z = wr := ⟨_, rfl⟩
      have hsr : W ≤ wA.heap.size := by rw [HW.out]; have := HBL.out; rw [HW.out] at this; exact this.size
      have hbw : Below w.heap.size w wA := by rw [← HW.out]; exact HBL.out
      by_cases hlt : j < es.length
      · obtain ⟨b, o, hab, hb, hrg⟩ := (HR.out.below hbw).ent HL.out hlt
        subst hab
        have hdrop : es.drop j = es[j] :: es.drop (j + 1) := List.drop_eq_getElem_cons hlt
        have hg := HG.out
        rw [hdrop, listG_cons] at hg
        have hpk := prevK_succ es j hlt
        have hlv := leavesD_take es j hlt
        obtain ⟨E, hE⟩ : ∃ E, E = es[j] := ⟨_, rfl⟩
        have hEW : EnW E := by rw [hE]; exact HWW.out _ (List.getElem_mem _)
        rw [← hE] at hg hpk hlv hrg
        have j0 : (0 : Int) ≤ (j : Int) := by omega
        have j1 : (j : Int) < (es.length : Int) := by omega
        have e4 : IntKind.i64.wrap ((j : Int) + 1) = (j : Int) + 1 := IntWalk.i64_in _ (by omega)
        obtain ⟨Y, hY⟩ : ∃ Y, Y = wA.heap.size := ⟨_, rfl⟩
        obtain ⟨wB, hwB⟩ : ∃ z, z = wA.alloc (.cells (eV E.key E.val) 35) := ⟨_, rfl⟩
        have bAB : Below wA.heap.size wA wB := by rw [hwB]; exact (Below.refl _ _).alloc (Nat.le_refl _) _
        have GY := Lib.hid (show wB.heap[Y]? = some (.cells (eV E.key E.val) 35 (0, 0)) by rw [hwB, hY]; exact heap_alloc_new _ _)
        have OB := Lib.hid (own_below HO.out bAB)
        have BB := Lib.hid (HBL.out.trans (bAB.mono hsr))
        have BBw := Lib.hid (hbw.trans (bAB.mono hbw.size))
        have hsB : W ≤ wB.heap.size := Nat.le_trans hsr bAB.size
        have HY := Lib.hid hY
        have HWB := Lib.hid hwB
        have HEW := Lib.hid hEW
        have HRG := Lib.hid hrg
        have HPK := Lib.hid hpk
        have HLV := Lib.hid hlv
        have HE := Lib.hid hE
        have st6 := fun (Q : Prop) (h : Q) => h
        clear hdrop hpk hlv hE hEW hrg hY hwB bAB hb HG HO st6
        by_cases hko : KeyOk E.key
        · rw [if_pos hko] at hg
          have LC := SLeaf_ok E HEW.out hko wB (RO.out.at_ BBw.out)
          obtain ⟨D, hD⟩ : ∃ D, D = itemD E := ⟨_, rfl⟩
          have DL := Lib.hid (show D.length = 32 by rw [hD]; exact itemD_length E)
          rw [← hD] at LC
          have HLC := Lib.hid LC
          have HLV2 := Lib.hid (show (leavesD (es.take (j + 1))).flatten.map vB = (leavesD (es.take j)).flatten.map vB ++ D.map vB by rw [HLV.out, flat_snoc, hD])
          have HG2 := Lib.hid hg
          clear LC hD hg
          go_wp2_with (first
            | ((refine ld_entG rfl (.tmp 18) rfl b (o + j * 33) (by rfl) E HEW.out.1 HRG.out ?_); simp only [Act.put, List.setIfInBounds_toArray, List.set_cons_zero, List.set_cons_succ])
            | ((refine st_entNew rfl (.tmp 6) (.tmp 19) rfl E HEW.out.1 (by rfl) _ _ (by rfl) (by rfl) ?_); rw [← HY.out, ← HWB.out])
            | ((refine ld_entG rfl (.tmp 6) rfl Y 0 (by rfl) E HEW.out.1 (range_ent GY.out) ?_); simp only [Act.put, List.setIfInBounds_toArray, List.set_cons_zero, List.set_cons_succ]))
          refine HLC.out.mono ?_
          rintro e wC ⟨rfl, hbC⟩
          have GYC := Lib.hid ((hbC.block Y (lt_of_heap GY.out)).trans GY.out)
          have OC := Lib.hid (own_below OB.out hbC)
          have BC := Lib.hid (BB.out.trans (hbC.mono hsB))
          have BCw := Lib.hid (BBw.out.trans (hbC.mono BBw.out.size))
          have hsC : W ≤ wC.heap.size := Nat.le_trans hsB hbC.size
          obtain ⟨V, hV⟩ : ∃ V, V = wC.heap.size := ⟨_, rfl⟩
          obtain ⟨wD, hwD⟩ : ∃ z, z = wC.alloc (.cells (dV D) 23) := ⟨_, rfl⟩
          have bCD : Below wC.heap.size wC wD := by rw [hwD]; exact (Below.refl _ _).alloc (Nat.le_refl _) _
          have GV := Lib.hid (show wD.heap[V]? = some (.cells (dV D) 23 (0, 0)) by rw [hwD, hV]; exact heap_alloc_new _ _)
          have GYD := Lib.hid ((bCD.block Y (lt_of_heap GYC.out)).trans GYC.out)
          have OD := Lib.hid (own_below OC.out bCD)
          have BD := Lib.hid (BC.out.trans (bCD.mono hsC))
          have BDw := Lib.hid (BCw.out.trans (bCD.mono BCw.out.size))
          have hsD : W ≤ wD.heap.size := Nat.le_trans hsC bCD.size
          have HV := Lib.hid hV
          have HWD := Lib.hid hwD
          have ck : wD.cell? ⟨Y, 0, none⟩ = some (.int .i64 E.key) := eV_key GYD.out
          clear hbC hV hwD bCD HLC GY GYC OB OC
          by_cases hj0 : j = 0
          · subst hj0
            have hg3 := HG2.out
            rw [prevK_zero, show badK none E.key = false from rfl, if_neg (by simp), ← HPK.out] at hg3
            have HG3 := Lib.hid hg3
            clear hg3 HG2
            go_wp2_with ((refine st_new rfl (.tmp 7) (.tmp 23) rfl D DL.out (by rfl) _ _ (by rfl) (by rfl) ?_); rw [← HV.out, ← HWD.out])
            go_quiet (fail)
            obtain ⟨wN, hwN⟩ : ∃ z, z = wD.drewN nq := ⟨_, rfl⟩
            have ON := Lib.hid (show wN.ownsRow W 23 32 (.slice av 0 cp) 0 _ by rw [hwN]; exact own_drewN OD.out nq)
            have GN := Lib.hid (show wN.heap[V]? = some (.cells (dV D) 23 (0, 0)) by rw [hwN]; exact GV.out)
            have BN := Lib.hid (show Below W w wN by rw [hwN]; exact below_drewN BD.out nq)
            have hsN : W ≤ wN.heap.size := by rw [hwN]; exact hsD
            rw [← hwN]
            clear hwN
            go_wp2_with (first
              | ((refine ld_digG rfl (.tmp 7) rfl V 0 (by rfl) D DL.out (range_of_row GN.out) ?_); simp only [Act.put, List.setIfInBounds_toArray, List.set_cons_zero, List.set_cons_succ])
              | ((refine wpl_build1t 24 23 _ 32 32 Tryd.underlying24 info_digz2 (by omega) (by omega) rfl (.tmp 43) rfl (dV D) (by rfl) (dV_size DL.out) ?_); simp only [Act.put, List.setIfInBounds_toArray, List.set_cons_zero, List.set_cons_succ])
              | (at_builtin; refine appAllw 24 23 (.agg (dV nz)) 32 32 Tryd.underlying24 info_digz2 (dV_size rfl) (by omega) rfl (.tmp 42) (.tmp 44) (by rfl) W _ 0 _ (by rfl) (ON.out.alloc _) (some ⟨wN.heap.size, 0, none⟩) 1 1 (D.map vB) (by rfl) _ (Rd.box wN D _) (by rw [List.length_map, DL.out]) (one_bytes _) (by omega) (by omega) (by rw [World.size_alloc]; omega) ?_; intro av3 cp3 w9 hown9 hb9; rw [← HLV2.out] at hown9; have O9 := Lib.hid hown9; have B9 := Lib.hid (BN.out.trans (Below.trans ((Below.refl _ wN).alloc hsN _) hb9)); clear hown9 hb9))
            go_roundw
            case rel => exact ⟨0 + 1, av3, cp3, by omega, by go_num, rfl, HG3, O9, B9⟩
            case measure => simp [intOf]; omega
          · obtain ⟨q, rfl⟩ : ∃ q, j = q + 1 := ⟨j - 1, by omega⟩
            have hq : q < es.length := by omega
            have hg3 := HG2.out
            rw [prevK_succ es q hq] at hg3
            obtain ⟨b9, o9, hab9, hb9, hrg9⟩ := (HR.out.below BDw.out).ent HL.out hq
            obtain ⟨rfl, rfl⟩ : b9 = b ∧ o9 = o := by simpa using hab9.symm
            obtain ⟨P, hP⟩ : ∃ P, P = es[q] := ⟨_, rfl⟩
            rw [← hP] at hrg9 hg3
            have cq := range_ekey hrg9
            have zj : (0 : Int) < ((q + 1 : Nat) : Int) := by omega
            have e5 : IntKind.i64.wrap (((q + 1 : Nat) : Int) - 1) = (q : Int) := by rw [IntWalk.i64_in _ (by omega)]; omega
            have e6 : ((q + 1 : Nat) : Int) - 1 = (q : Int) := by omega
            have q0 : (0 : Int) ≤ (q : Int) := by omega
            have q1 : (q : Int) < (es.length : Int) := by omega
            clear hrg9 hab9 hb9 hP HG2
            obtain ⟨J, hJ⟩ : ∃ J : Int, J = ((q + 1 : Nat) : Int) := ⟨_, rfl⟩
            by_cases hle : E.key ≤ P.key
            · have z8 : decide (E.key ≤ P.key) = true := decide_eq_true hle
              rw [show badK (some P.key) E.key = decide (E.key ≤ P.key) from rfl, z8, if_pos rfl] at hg3
              subst hg3
              clear hle hJ
              go_wp2_with ((refine st_new rfl (.tmp 7) (.tmp 23) rfl D DL.out (by rfl) _ _ (by rfl) (by rfl) ?_); rw [← HV.out, ← HWD.out])
              go_quiet (fail)
              go_wp2_with fail
              go_ret2
              exact leaves_bad 7 HF.out (by decide) (below_drewN BDw.out _)
            · have z8 : decide (E.key ≤ P.key) = false := decide_eq_false hle
              rw [show badK (some P.key) E.key = decide (E.key ≤ P.key) from rfl, z8, if_neg (by simp), ← HPK.out] at hg3
              have HG3 := Lib.hid hg3
              clear hle hg3 hJ
              go_wp2_with ((refine st_new rfl (.tmp 7) (.tmp 23) rfl D DL.out (by rfl) _ _ (by rfl) (by rfl) ?_); rw [← HV.out, ← HWD.out])
              go_quiet (fail)
              obtain ⟨wN, hwN⟩ : ∃ z, z = wD.drewN nq := ⟨_, rfl⟩
              have ON := Lib.hid (show wN.ownsRow W 23 32 (.slice av (q + 1) cp) (q + 1) _ by rw [hwN]; exact own_drewN OD.out nq)
              have GN := Lib.hid (show wN.heap[V]? = some (.cells (dV D) 23 (0, 0)) by rw [hwN]; exact GV.out)
              have BN := Lib.hid (show Below W w wN by rw [hwN]; exact below_drewN BD.out nq)
              have hsN : W ≤ wN.heap.size := by rw [hwN]; exact hsD
              rw [← hwN]
              clear hwN
              go_wp2_with (first
                | ((refine ld_digG rfl (.tmp 7) rfl V 0 (by rfl) D DL.out (range_of_row GN.out) ?_); simp only [Act.put, List.setIfInBounds_toArray, List.set_cons_zero, List.set_cons_succ])
                | ((refine wpl_build1t 24 23 _ 32 32 Tryd.underlying24 info_digz2 (by omega) (by omega) rfl (.tmp 43) rfl (dV D) (by rfl) (dV_size DL.out) ?_); simp only [Act.put, List.setIfInBounds_toArray, List.set_cons_zero, List.set_cons_succ])
                | (at_builtin; refine appAllw 24 23 (.agg (dV nz)) 32 32 Tryd.underlying24 info_digz2 (dV_size rfl) (by omega) rfl (.tmp 42) (.tmp 44) (by rfl) W _ (q + 1) _ (by rfl) (ON.out.alloc _) (some ⟨wN.heap.size, 0, none⟩) 1 1 (D.map vB) (by rfl) _ (Rd.box wN D _) (by rw [List.length_map, DL.out]) (one_bytes _) (by omega) (by omega) (by rw [World.size_alloc]; omega) ?_; intro av3 cp3 w9 hown9 hb9; rw [← HLV2.out] at hown9; have O9 := Lib.hid hown9; have B9 := Lib.hid (BN.out.trans (Below.trans ((Below.refl _ wN).alloc hsN _) hb9)); clear hown9 hb9))
              go_roundw
              case rel => exact ⟨(q + 1) + 1, av3, cp3, by omega, by go_num, rfl, HG3, O9, B9⟩
              case measure => simp [intOf]; omega
        · rw [if_neg hko] at hg
          have LC := SLeaf_bad E HEW.out hko wB
          have HLC := Lib.hid LC
          subst hg
          clear LC
          obtain ⟨Z, hZ⟩ : ∃ Z, Z = nz := ⟨_, rfl⟩
          have ZL := Lib.hid (show Z.length = 32 by rw [hZ]; rfl)
          rw [← hZ] at HLC
          clear hZ
          go_wp2_with (first
            | ((refine ld_entG rfl (.tmp 18) rfl b (o + j * 33) (by rfl) E HEW.out.1 HRG.out ?_); simp only [Act.put, List.setIfInBounds_toArray, List.set_cons_zero, List.set_cons_succ])
            | ((refine st_entNew rfl (.tmp 6) (.tmp 19) rfl E HEW.out.1 (by rfl) _ _ (by rfl) (by rfl) ?_); rw [← HY.out, ← HWB.out])
            | ((refine ld_entG rfl (.tmp 6) rfl Y 0 (by rfl) E HEW.out.1 (range_ent GY.out) ?_); simp only [Act.put, List.setIfInBounds_toArray, List.set_cons_zero, List.set_cons_succ]))
          refine HLC.out.mono ?_
          rintro e wC ⟨rfl, hbC⟩
          have BC := Lib.hid (BBw.out.trans (hbC.mono BBw.out.size))
          have BD := Lib.hid (BC.out.alloc BC.out.size (.cells (dV Z) 23))
          clear hbC HLC
          go_wp2_with (refine st_new rfl (.tmp 7) (.tmp 23) rfl Z ZL.out (by rfl) _ _ (by rfl) (by rfl) ?_)
          go_ret2
          exact leaves_bad 2 HF.out (by decide) BD.out
      · obtain rfl : j = es.length := by omega
        have hg := HG.out
        rw [List.drop_of_length_le (Nat.le_refl _)] at hg
        have h0 : F = 0 := hg.symm
        have ho := HO.out
        rw [List.take_of_length_le (Nat.le_refl _)] at ho
        have HO2 := Lib.hid ho
        have HF0 := Lib.hid (show listF es = 0 by rw [HF.out, h0])
        clear hg h0 ho HG HO
        go_wp2_with fail
        go_ret2
        exact ⟨fun h => absurd HF0.out h, fun _ => ⟨av, cp, rfl, by rw [← HW.out]; exact HO2.out⟩, hbw⟩
set_option maxRecDepth 20000 in
set_option maxHeartbeats 2000000 in
theorem SRoot_ok (es : List En) (hw : ∀ e ∈ es, EnW e) (hf : listF es = 0) (a : Option Addr) (cap ea : Nat) (w : World) (hr : Rd w a ea (cellsE es)) (hro : RoundsAt w) :
    Calls Tryd.prog 33 #[.slice a es.length cap] w fun e w' => e = .returned (.tuple #[.agg (dV (troot (leavesD es))), .nilIface]) ∧ Below w.heap.size w w' := by
  obtain ⟨Z, hZ⟩ : ∃ Z, Z = nz := ⟨_, rfl⟩
  have zl : Z.length = 32 := by rw [hZ]; rfl
  have zlit : (#[.int .u8 0, .int .u8 0, .int .u8 0, .int .u8 0, .int .u8 0, .int .u8 0, .int .u8 0, .int .u8 0, .int .u8 0, .int .u8 0, .int .u8 0, .int .u8 0, .int .u8 0, .int .u8 0, .int .u8 0, .int .u8 0, .int .u8 0, .int .u8 0, .int .u8 0, .int .u8 0, .int .u8 0, .int .u8 0, .int .u8 0, .int .u8 0, .int .u8 0, .int .u8 0, .int .u8 0, .int .u8 0, .int .u8 0, .int .u8 0, .int .u8 0, .int .u8 0] : Array Value) = dV Z := by rw [hZ]; exact zdig
  have ZL := Lib.hid zl
  have ZT := Lib.hid zlit
  have HZ := Lib.hid hZ
  clear zl zlit hZ
  obtain ⟨H, hH⟩ : ∃ H, H = w.heap.size := ⟨_, rfl⟩
  obtain ⟨w0, hw0⟩ : ∃ z, z = w.alloc (.cells (dV Z) 23) := ⟨_, rfl⟩
  have q0 : w0.heap.size = H + 1 := by rw [hw0, hH]; exact World.size_alloc _ _
  have s0 : Below (H) w w0 := by rw [hw0, hH]; exact (Below.refl _ _).alloc (Nat.le_refl _) _
  have t0 : Below (H + 1) w0 w0 := Below.refl _ _
  have bL : Below H w w0 := s0.trans (t0.mono (by omega))
  have g0 : w0.heap[H]? = some (.cells (dV Z) 23 (0, 0)) := by
    have g : w0.heap[H]? = some (.cells (dV Z) 23 (0, 0)) := by rw [hw0, hH]; exact heap_alloc_new _ _
    exact (t0.block _ (by omega)).trans g
  have bW : Below w.heap.size w w0 := by rw [← hH]; exact bL
  have hsz : H < w0.heap.size := by omega
  have HH := Lib.hid hH
  have HW0 := Lib.hid hw0
  have BL := Lib.hid bL
  have BW := Lib.hid bW
  have QL := Lib.hid q0
  have G0 := Lib.hid g0
  clear hH hw0 q0 s0 t0 g0 bL bW
  obtain ⟨h256, hko, hup⟩ := listF_ok hf
  have LC := (Leaves_calls es hw a cap ea (by omega) w0 (hr.below BW.out) (hro.at_ BW.out)).mono fun e w' h => (⟨h.2.1 hf, h.2.2⟩ : (∃ (a : Option Addr) (cap : Nat), e = .returned (.tuple #[.slice a es.length cap, .nilIface]) ∧ w'.ownsRow w0.heap.size 23 32 (.slice a es.length cap) es.length ((leavesD es).flatten.map vB)) ∧ Below w0.heap.size w0 w')
  have HLC := Lib.hid LC
  have RO := Lib.hid (hro.at_ BW.out)
  have RC := TRootD_calls (leavesD es) (by rw [leavesD_length]; exact h256) (leavesD_dig es)
  rw [leavesD_length] at RC
  obtain ⟨R, hR⟩ : ∃ R, R = troot (leavesD es) := ⟨_, rfl⟩
  have RL := Lib.hid (show R.length = 32 by rw [hR]; exact troot_length _ (leavesD_dig es))
  rw [← hR] at RC ⊢
  have HRC := Lib.hid RC
  clear LC RC hR hw hf hr hro hko hup
  go_enter Tryd.func33, Tryd.ntmps33
  go_upto_region 1 with fail
  rw [ZT.out, ← HH.out, ← HW0.out]
  go_wp2_with fail
  refine HLC.out.mono ?_
  rintro e w2 ⟨⟨a2, c2, rfl, hown2⟩, hb2⟩
  have hcp := own_cappW hown2
  have RC2 := Lib.hid (HRC.out a2 c2 _ hcp.1 hcp.2 w2 (Rd.of_own hown2) (RO.out.at_ hb2))
  have G2 := Lib.hid ((hb2.block H hsz).trans G0.out)
  have B2 := Lib.hid (BL.out.trans (hb2.mono (by omega)))
  clear hown2 hb2 hcp HRC HLC
  go_wp2_with fail
  refine RC2.out.mono ?_
  rintro e w3 ⟨rfl, hb3⟩
  have G3 := Lib.hid ((hb3.block H (lt_of_heap G2.out)).trans G2.out)
  have B3 := Lib.hid (B2.out.trans (hb3.mono (Nat.le_of_lt (lt_of_heap G2.out))))
  clear hb3
  go_wp2_with (refine st_row rfl (.tmp 2) (.tmp 17) rfl H R RL.out (by rfl) (by rfl) (dV Z) (dV_size ZL.out) _ G3.out ?_)
  try simp only [Exit.inBlock, Exit.then]
  refine bodyPost_ret (results_cell_tmp rfl _ _ _ ⟨H, 0, none⟩ (.agg (dV R)) rfl ?_) rfl ⟨rfl, by rw [← HH.out]; exact below_setRowW B3.out (Nat.le_refl _) _⟩
  exact dig_load RL.out (range_of_row (setRow_heap _ _ _ _ _ _ G3.out))
set_option maxRecDepth 20000 in
set_option maxHeartbeats 2000000 in
theorem SRoot_bad (es : List En) (hw : ∀ e ∈ es, EnW e) (f : Int) (hf : listF es = f) (hf0 : f ≠ 0) (a : Option Addr) (cap ea : Nat) (hc : es.length ≤ 9223372036854775807) (w : World) (hr : Rd w a ea (cellsE es)) (hro : RoundsAt w) :
    Calls Tryd.prog 33 #[.slice a es.length cap] w fun e w' => e = .returned (.tuple #[.agg (dV nz), .iface 25 (.int .i64 f)]) ∧ Below w.heap.size w w' := by
  obtain ⟨Z, hZ⟩ : ∃ Z, Z = nz := ⟨_, rfl⟩
  have zl : Z.length = 32 := by rw [hZ]; rfl
  have zlit : (#[.int .u8 0, .int .u8 0, .int .u8 0, .int .u8 0, .int .u8 0, .int .u8 0, .int .u8 0, .int .u8 0, .int .u8 0, .int .u8 0, .int .u8 0, .int .u8 0, .int .u8 0, .int .u8 0, .int .u8 0, .int .u8 0, .int .u8 0, .int .u8 0, .int .u8 0, .int .u8 0, .int .u8 0, .int .u8 0, .int .u8 0, .int .u8 0, .int .u8 0, .int .u8 0, .int .u8 0, .int .u8 0, .int .u8 0, .int .u8 0, .int .u8 0, .int .u8 0] : Array Value) = dV Z := by rw [hZ]; exact zdig
  have ZL := Lib.hid zl
  have ZT := Lib.hid zlit
  have HZ := Lib.hid hZ
  clear zl zlit hZ
  obtain ⟨H, hH⟩ : ∃ H, H = w.heap.size := ⟨_, rfl⟩
  obtain ⟨w0, hw0⟩ : ∃ z, z = w.alloc (.cells (dV Z) 23) := ⟨_, rfl⟩
  have q0 : w0.heap.size = H + 1 := by rw [hw0, hH]; exact World.size_alloc _ _
  have s0 : Below (H) w w0 := by rw [hw0, hH]; exact (Below.refl _ _).alloc (Nat.le_refl _) _
  have t0 : Below (H + 1) w0 w0 := Below.refl _ _
  have bL : Below H w w0 := s0.trans (t0.mono (by omega))
  have g0 : w0.heap[H]? = some (.cells (dV Z) 23 (0, 0)) := by
    have g : w0.heap[H]? = some (.cells (dV Z) 23 (0, 0)) := by rw [hw0, hH]; exact heap_alloc_new _ _
    exact (t0.block _ (by omega)).trans g
  have bW : Below w.heap.size w w0 := by rw [← hH]; exact bL
  have hsz : H < w0.heap.size := by omega
  have HH := Lib.hid hH
  have HW0 := Lib.hid hw0
  have BL := Lib.hid bL
  have BW := Lib.hid bW
  have QL := Lib.hid q0
  have G0 := Lib.hid g0
  clear hH hw0 q0 s0 t0 g0 bL bW
  have LC := (Leaves_calls es hw a cap ea hc w0 (hr.below BW.out) (hro.at_ BW.out)).mono fun e w' h => (⟨by rw [← hf]; exact h.1 (by rw [hf]; exact hf0), h.2.2⟩ : e = .returned (.tuple #[.slice none 0 0, .iface 25 (.int .i64 f)]) ∧ Below w0.heap.size w0 w')
  have HLC := Lib.hid LC
  rw [← HZ.out]
  clear LC hw hf hf0 hr hro
  go_enter Tryd.func33, Tryd.ntmps33
  go_upto_region 1 with fail
  rw [ZT.out, ← HH.out, ← HW0.out]
  go_wp2_with fail
  refine HLC.out.mono ?_
  rintro e w2 ⟨rfl, hb2⟩
  have G2 := Lib.hid ((hb2.block H hsz).trans G0.out)
  have B2 := Lib.hid (BL.out.trans (hb2.mono (by omega)))
  clear hb2 HLC
  go_wp2_with (first
    | (refine wpl_zero rfl rfl Z HZ.out ?_)
    | (refine st_row rfl (.tmp 2) (.tmp 13) rfl H Z ZL.out (by rfl) (by rfl) (dV Z) (dV_size ZL.out) _ G2.out ?_))
  try simp only [Exit.inBlock, Exit.then]
  refine bodyPost_ret (results_cell_tmp rfl _ _ _ ⟨H, 0, none⟩ (.agg (dV Z)) rfl ?_) rfl ⟨rfl, by rw [← HH.out]; exact below_setRowW B2.out (Nat.le_refl _) _⟩
  exact dig_load ZL.out (range_of_row (setRow_heap _ _ _ _ _ _ G2.out))
end Go.Proofs.YtpeomfehdccmmaaDoor
