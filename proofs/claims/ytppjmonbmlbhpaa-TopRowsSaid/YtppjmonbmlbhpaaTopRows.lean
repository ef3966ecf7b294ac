/- NOTES IN ROWS: notes that are written, filled up to one length, and spread, are read again of any rows that are enough: oathbooktop.TopRows answers true at every input. -/
import Derived.Test.YtppjmonbmlbhpaaRows
import Derived.StillTailTactics
import Derived.Deep.RegionHeld3
import Derived.SizedLaws
import Derived.Laws.OwnMore
import Derived.BigQuiet
import Derived.Test.YtppjmonbmlbhpaaNoteRow
import Derived.Test.YtppjmonbmlbhpaaCodeCells
import Derived.Test.YtppjmonbmlbhpaaGatherC
import Derived.ShutString
import Derived.ChangeOld
import Derived.Below
namespace Go.Proofs.Ytppjmonbmlbhpaa
open Go.ChangeShapes Go.WideShapes Go.ChangeAt Go.RowKit
open Go.ChangeMaps (open_string shut_string)
set_option linter.unusedVariables false
set_option linter.unusedSimpArgs false
namespace topRows
theorem own : ownKnob Try.prog.godebug = none := by kernel_rfl
theorem laidOut : laidOutB Try.prog = true := by kernel_rfl

-- HOLE: the walk
structure RowsInv (w1 wr : World) (v : Value) (k : Nat) (vs : List Value) (x0 : List Ct) : Prop where
  own : wr.ownsRow w1.heap.size 29 1 v k vs
  are : AreB (fun b e => e = 5 ∧ w1.heap.size ≤ b) wr ((x0.take k).map nrow) vs
  bel : Below w1.heap.size w1 wr
  ok : ∀ c ∈ x0.take k, NtOk c
def lenR : Value → Nat | .slice _ n _ => n | _ => 0
def RowAt (w2 : World) (c : Ct) (N : Nat) (wr : World) (g m cp : Nat) : Prop := wr.ownsRow w2.heap.size 5 1 (.slice (some ⟨g, 0, none⟩) m cp) m ((rowK c (m - (N + 1))).map vB) ∧ Below w2.heap.size w2 wr
theorem run_cont_neq {c d : Ct} (hc : CtW c) (hd : CtW d) (w : World) : (binOp .neq 35 (.agg (cV c)) (.agg (cV d))).run Try.prog w = .ok (.bool (!decide (c = d))) w := by
  show (Op.equalIn 10000 35 (.agg (cV c)) (.agg (cV d)) >>= fun b => pure (Value.bool (!b))).run _ _ = _
  rw [Sem.run_bind, cont_eq contT hc hd w]; rfl
section
variable {ops : Array Oper} {C : World → Prop} {Q : Act → Prop} {a : Act} {op : Oper} {rest : List Oper}
theorem quiet_cont (hgd : Region.wanted op (yielded ops a.tmps) = true) (x : Operand) (ho : op.op = .load 35 x) (b o : Nat) (hx : a.eval x = .pointer (some ⟨b, o, none⟩)) (c : Ct) (hc : CtW c) (hC : ∀ w, C w → w.rangeAt b o (cL c))
    (h : wpQuiet Try.prog ops C Q rest (a.put op.dst (.agg (cV c)))) : wpQuiet Try.prog ops C Q (op :: rest) a := by
  obtain ⟨f0, f1, f2, ht, _, _, _, _, _, _, _, hi⟩ := contT
  exact quiet_mid hgd _ x ho b o hx (cL c) _ hC ht rfl (by rw [cL_length hc]; exact hi) h
theorem quiet_cont_neq (hgd : Region.wanted op (yielded ops a.tmps) = true) (x y : Operand) (t : TypeId) (ho : op.op = .binOp .neq 35 x y t) (c d : Ct) (hx : a.eval x = .agg (cV c)) (hy : a.eval y = .agg (cV d)) (hc : CtW c) (hd : CtW d)
    (h : wpQuiet Try.prog ops C Q rest (a.put op.dst (.bool (!decide (c = d))))) : wpQuiet Try.prog ops C Q (op :: rest) a :=
  BigFrame.wpQuiet_want hgd fun K hK => ⟨.bool (!decide (c = d)), fun w hw => by
    unfold Oper.quietAt execOp
    have g : (eqGuard .neq 35 x y (.agg (cV c)) (.agg (cV d))).run Try.prog w = .ok () w := by simp [go_sem]
    simp only [ho, hx, hy, Sem.run_bind, g, run_cont_neq hc hd w, Result.andThen_ok]
    exact ⟨rfl, rfl⟩, hK _ h⟩
end
theorem lt_of_cell {w : World} {p : Addr} {v : Value} (h : w.cell? p = some v) : p.block < w.heap.size := by
  by_cases hlt : p.block < w.heap.size
  · exact hlt
  · exfalso
    have : w.heap[p.block]? = none := Array.getElem?_eq_none (by omega)
    simp [World.cell?, this] at h
theorem run_mid (B o n c k : Nat) (h0 : 0 < k) (hk : k + 1 ≤ n) (hn : n ≤ c) (w : World) : (Instr.slice 29 (.slice (some ⟨B, o, none⟩) n c) (some (.int .i64 1)) (some (.int .i64 (1 + (k : Int)))) none).run Try.prog w = .ok (.slice (some ⟨B, o + 1, none⟩) k (c - 1)) w := by
  have h1 : (0 : Int) ≤ 1 + (k : Int) := by omega
  have h2 : (1 : Int) ≤ 1 + (k : Int) := by omega
  have h3 : 1 + (k : Int) ≤ (c : Int) := by omega
  have h4 : (1 + (k : Int)).toNat = k + 1 := by omega
  have h5 : c ≠ 1 := by omega
  have hs : ∀ w, (sizeOf 5).run Try.prog w = .ok 1 w := fun w => by kernel_rfl
  have hu := run_underlying (P := Try.prog) Try.underlying29
  simp [Instr.slice, asIntOf, hu, go_sem, hs, h1, h2, h3, h4, h5]
  exact fun h => by omega
theorem note_info {c : Ct} (h : CtW c) : (Try.prog.info? 35).map (·.size) = some (cV c).size := by rw [cV_size h]; kernel_rfl
set_option maxRecDepth 20000 in
set_option maxHeartbeats 4000000 in
theorem walk (x0 : List Ct) (a0 : Option Addr) (c0 e0 : Nat) (a1 : Int) (x2 : List Int) (a2 : Option Addr) (c2 e2 : Nat) (w : World) (z0 : x0.length * 56 ≤ 140737488351232) (l0 : x0.length ≤ c0) (m0 : c0 ≤ 9223372036854775807) (n0 : ∀ e ∈ x0, CtW e) (r0 : Rd w a0 e0 (cellsC x0)) (b1 : -9223372036854775808 ≤ a1 ∧ a1 ≤ 9223372036854775807) (l2 : x2.length ≤ 9223372036854775807) (n2 : ∀ n ∈ x2, -9223372036854775808 ≤ n ∧ n ≤ 9223372036854775807) (r2 : Rd w a2 e2 (x2.map vI)) :
    Calls Try.prog 3 #[.slice a0 x0.length c0, .int .i64 a1, .slice a2 x2.length c2] w fun e w' => e = .returned (.bool true) ∧ Below w.heap.size w w' := by
  have FC := Spread_fact
  have HN := Lib.hid n0
  have R0 := Lib.hid r0
  have R2 := Lib.hid r2
  have HN2 := Lib.hid n2
  clear n0 r0 r2 n2
  go_enter Try.func3, Try.ntmps3
  go_wp2_with fail
  refine (FC _).mono ?_; rintro e w1 ⟨fa, fcap, fvs, rfl, hb1, fr, fA⟩
  clear FC fr fA
  have HB1 := Lib.hid hb1
  clear hb1
  go_wp2_with fail
  go_loopw [9, 10, 11, 12, 13] (fun v i b er rw_ wr => ∃ (k : Nat) (vs : List Value), k ≤ x0.length ∧ i = .int .i64 k ∧ Hid (RowsInv w1 wr v k vs x0)) (fun _ i _ _ _ _ => x0.length - (intOf i).toNat)
  case atStart => exact ⟨0, [], Nat.zero_le _, rfl, Lib.hid ⟨World.ownsRow_nil _ _ _ _, AreB.nil, Below.refl _ _, by simp⟩⟩
  case round =>
    obtain ⟨k, vs, hk, rfl, HI⟩ := hrel
    by_cases hlt : k < x0.length
    · obtain ⟨wA, rfl⟩ : ∃ z, z = wr := ⟨_, rfl⟩
      obtain ⟨B, o, ha, hB, hrg⟩ := (R0.out.below (HB1.out.trans (HI.out.bel.mono HB1.out.size))).cont HN.out hlt
      obtain ⟨c, hc⟩ : ∃ c, c = x0[k] := ⟨_, rfl⟩
      rw [← hc] at hrg
      have hcw : CtW c := by rw [hc]; exact HN.out _ (List.getElem_mem _)
      have WC := Write_calls c.name c.key c.lvl hcw.1 hcw.2.1 hcw.2.2 wA
      have HCW := Lib.hid hcw
      have HRG := Lib.hid hrg
      have HC := Lib.hid hc
      have HWC := Lib.hid WC
      have i0 : (0 : Int) ≤ (k : Int) := by omega
      have i1 : (k : Int) < (x0.length : Int) := by omega
      clear hcw hrg hc WC hB
      subst ha
      go_wp2_with (((refine ld_recM contT rfl (.tmp 45) rfl B (o + k * 34) (by rfl) c HCW.out HRG.out ?_); simp only [Act.put, List.setIfInBounds_toArray, List.set_cons_zero, List.set_cons_succ]))
      refine HWC.out.mono ?_
      rintro e w2 ⟨hb2, h⟩
      have B2 := Lib.hid hb2
      clear hb2 HWC
      rcases h with ⟨hnm, ht0, ht1, ba, bc, rfl, hown⟩ | ⟨hno, cc, rfl⟩
      · have HR2 := Lib.hid (Rd.of_own hown)
        have HNO := Lib.hid (show NtOk c from ⟨hnm, ht0, ht1⟩)
        obtain ⟨hs1, hs2⟩ := named_size hnm
        have hnl := noteB_length c.name c.key c.lvl.toNat HCW.out.1
        obtain ⟨b3, o3, hb3, _, _⟩ := HR2.out.bytes (k := 0) (by omega)
        subst hb3
        obtain ⟨N, hN⟩ : ∃ N, N = c.name.size + 37 := ⟨_, rfl⟩
        rw [← hN] at hnl ⊢
        have hn1 : 38 ≤ N := by omega
        have hn2 : N ≤ 67 := by omega
        have HNL := Lib.hid hnl
        have q1 : decide ((80 : Int) < (N : Int)) = false := decide_eq_false (by omega)
        have q2 : IntKind.u8.wrap (N : Int) = (N : Int) := by rw [IntKind.wrap_u8]; omega
        have hv8 : vB (UInt8.ofNat (c.name.size + 37)) = .int .u8 (N : Int) := by
          have := nrow_head HNO.out
          unfold vB
          rw [this, ← hN]
        have HV8 := Lib.hid hv8
        have HNS := Lib.hid hN
        clear hown hnm ht0 ht1 hnl hv8 hN hs1 hs2
        go_wp2_with (at_builtin; refine appRd 29 5 (.int .u8 0) 1 1 Try.underlying29 info_u8 rfl (by omega) (by omega) rfl (.tmp 60) (.tmp 61) rfl w2.heap.size _ 1 [.int .u8 (N : Int)] rfl (World.ownsRow_lit (base := w2.heap.size) (e := 5) (size := 1) w2 #[.int .u8 (N : Int)] 1 (Nat.le_refl _) (by simp only [maxLen]; decide) rfl) ⟨b3, o3, none⟩ N _ ((noteB c.name c.key c.lvl.toNat).map vB) rfl 5 (HR2.out.alloc _) (by have h1 := HNL.out; rw [List.length_map]; omega) (one_bytes _) (by omega) (by omega) (by simp) _ rfl ?_; intro g cap w3 hown3 hgrow3 _ _; have b23 : Below w2.heap.size w2 w3 := below_grow ((Below.refl _ _).alloc (Nat.le_refl _) _) (World.ownsRow_lit (base := w2.heap.size) (e := 5) (size := 1) w2 #[.int .u8 (N : Int)] 1 (Nat.le_refl _) (by simp only [maxLen]; decide) rfl) hgrow3 (by simp); have RA := Lib.hid (show RowAt w2 c N w3 g (1 + N) cap from ⟨by rw [show 1 + N - (N + 1) = 0 by omega, rowK_zero, List.map_cons, HV8.out]; exact hown3, b23⟩); clear hown3 hgrow3 b23)
        have BA := Lib.hid (HI.out.bel.trans (B2.out.mono HI.out.bel.size))
        have hlb := hlt
        go_loopw [13] (fun v wr => ∃ m g cp, N + 1 ≤ m ∧ m ≤ 90 ∧ v = .slice (some ⟨g, 0, none⟩) m cp ∧ Hid (RowAt w2 c N wr g m cp)) (fun v _ => 90 - lenR v)
        case atStart => exact ⟨1 + N, g, cap, by omega, by omega, rfl, RA⟩
        case round =>
          clear RA
          obtain ⟨m, gR, cR, hm1, hm2, rfl, RA⟩ := hrel
          have hs2 := RA.out.2.size
          by_cases hm : m < 90
          · go_wp2_with (at_builtin; refine app1 29 5 (.int .u8 0) 1 Try.underlying29 info_u8 rfl (by omega) rfl _ _ rfl w2.heap.size _ m ((rowK c (m - (N + 1))).map vB) rfl (RA.out.1.alloc _) ⟨wr.heap.size, 0, none⟩ 1 (.int .u8 0) rfl (by simp) rfl (by omega) (by simp; omega) _ rfl ?_; intro g4 cap4 w4 hown4 hgrow4 _ _; have b4 : Below w2.heap.size w2 w4 := below_grow (RA.out.2.alloc hs2 _) (RA.out.1.alloc _) hgrow4 (by simp; omega); have RB := Lib.hid (show RowAt w2 c N w4 g4 (m + 1) cap4 from ⟨by rw [show m + 1 - (N + 1) = m - (N + 1) + 1 by omega, rowK_succ, List.map_append]; exact hown4, b4⟩); clear hown4 hgrow4 b4)
            go_roundw
            case rel => exact ⟨m + 1, g4, cap4, by omega, by omega, rfl, RB⟩
            case measure => simp [lenR] <;> omega
          · obtain rfl : m = 90 := by omega
            have hrow : rowK c (90 - (N + 1)) = nrow c := by unfold nrow; congr 1; have := HNS.out; omega
            have OV := own_below HI.out.own (B2.out.trans (RA.out.2.mono B2.out.size))
            have hbA : Below w1.heap.size w1 wr := BA.out.trans (RA.out.2.mono BA.out.size)
            have hs1 := hbA.size
            have hA0 := HI.out.are.below (B2.out.trans (RA.out.2.mono B2.out.size))
            have hown := RA.out.1
            rw [hrow] at hown
            have hs12 := BA.out.size
            have hnew : IsB (fun b e => e = 5 ∧ w1.heap.size ≤ b) wr (nrow c) (.slice (some ⟨gR, 0, none⟩) 90 cR) := (IsB.of_own hown).mono fun b e _ h => ⟨h.1, by omega⟩
            have OV2 := Lib.hid OV
            have HA0 := Lib.hid hA0
            have HNEW := Lib.hid hnew
            have HBA := Lib.hid hbA
            clear hrow OV hbA hA0 hown hnew hs12 HNS hm hm1 hm2
            go_wp2_with (at_builtin; refine appRdw 24 29 (.slice none 0 0) 1 24 Try.underlying24 info_bs rfl (by omega) rfl (.tmp 69) (.tmp 71) rfl w1.heap.size _ k vs rfl (OV2.out.alloc _) ⟨wr.heap.size, 0, none⟩ 1 1 [.slice (some ⟨gR, 0, none⟩) 90 cR] rfl 29 (Rd.new wr #[.slice (some ⟨gR, 0, none⟩) 90 cR] 29) rfl (by simp [Value.oneCell']) (by omega) (by omega) (by omega) (by simp; omega) _ rfl ?_; intro g5 cap5 w5 hown5 hgrow5 _ _; have b5 : Below w1.heap.size w1 w5 := below_grow (HBA.out.alloc hs1 _) (OV2.out.alloc _) hgrow5 (by simp; omega); have hA5 := (HA0.out.alloc (.cells #[.slice (some ⟨gR, 0, none⟩) 90 cR] 29)).push (HNEW.out.alloc _) (OV2.out.alloc _) hgrow5 (fun _ e' _ h => by rw [h.1]; decide); have RI := Lib.hid (show RowsInv w1 w5 (.slice (some ⟨g5, 0, none⟩) (k + 1) cap5) (k + 1) (vs ++ [.slice (some ⟨gR, 0, none⟩) 90 cR]) x0 from ⟨hown5, by rw [nrow_rows x0 k hlb, ← HC.out]; exact hA5, b5, fun d hd => by rw [List.take_succ_eq_append_getElem hlb] at hd; rcases List.mem_append.1 hd with h | h; exact HI.out.ok d h; rw [List.mem_singleton.1 h, ← HC.out]; exact HNO.out⟩); clear hown5 hgrow5 b5 hA5)
            go_roundw
            case rel => exact ⟨k + 1, _, by omega, by go_num, RI⟩
            case measure => simp [intOf] <;> omega
      · clear hno
        go_wp2_with fail
        go_ret
        exact ⟨rfl, HB1.out.trans ((HI.out.bel.trans (B2.out.mono HI.out.bel.size)).mono HB1.out.size)⟩
    · obtain rfl : k = x0.length := by omega
      obtain ⟨a9, cap9, rfl⟩ := own_slice HI.out.own
      obtain ⟨R, hR⟩ : ∃ R, R = x0.map nrow := ⟨_, rfl⟩
      have hRl : x0.length = R.length := by rw [hR, List.length_map]
      have rS : Rd wr a9 29 vs := Rd.of_own HI.out.own
      have mS : AreB (fun _ _ => True) wr R vs := by
        have := HI.out.are
        rw [List.take_length, ← hR] at this
        exact this.mono fun _ _ _ _ => trivial
      have okS : ∀ c ∈ x0, NtOk c := by have := HI.out.ok; rwa [List.take_length] at this
      have bS : Below w.heap.size w wr := HB1.out.trans (HI.out.bel.mono HB1.out.size)
      obtain ⟨wS, rfl⟩ : ∃ z, z = wr := ⟨_, rfl⟩
      have HR := Lib.hid hR
      have OK := Lib.hid okS
      have HRL := Lib.hid hRl
      have BS0 := Lib.hid bS
      rw [hRl] at z0 l0 ⊢
      clear hlt hk hR hRl okS bS HI
      by_cases hfa : spreadF R a1 = 0
      · obtain ⟨za, ka, na, La, alla⟩ := spreadF_zero hfa
        obtain ⟨n, rfl⟩ : ∃ n : Nat, a1 = n := ⟨a1.toNat, by omega⟩
        have CA := Spread_ok hfa a9 cap9 29 vs wS rS mS (by omega)
        simp only [Int.toNat_natCast] at CA
        have HL := Lib.hid alla
        have HCA := Lib.hid CA
        clear hfa alla CA rS mS
        by_cases hlen : x2.length < R.length
        · have q1 : decide (x2.length < R.length) = true := by rw [decide_eq_true_eq]; exact hlen
          go_wp2_with fail
          refine HCA.out.mono ?_; rintro e w2 ⟨xa, xcap, xvs, rfl, hb2, xr, xA⟩
          clear HCA
          go_wp2_with fail
          go_ret
          exact ⟨rfl, BS0.out.trans (hb2.mono BS0.out.size)⟩
        · have q1 : decide (x2.length < R.length) = false := by rw [decide_eq_false]; exact hlen
          go_wp2_with fail
          refine HCA.out.mono ?_; rintro e w2 ⟨xa, xcap, xvs, rfl, hb2, xr, xA⟩
          clear HCA
          have hbX := BS0.out.trans (hb2.mono BS0.out.size)
          have hsX := hbX.size
          have xA2 : AreB (fun _ _ => True) w2 (spreadOf R n) xvs := xA.mono fun _ _ _ _ => trivial
          have lx : (spreadOf R n).length = n := spreadOf_length _ _ (by omega)
          have vx : n ≤ xvs.length := by rw [xA2.1]; omega
          have r22 := R2.out.below hbX
          have Hlx := Lib.hid lx
          have HBX := Lib.hid hbX
          clear lx xA hb2 hbX
          go_wp2_with fail
          go_loopw [16, 17, 18] (fun v i j wr => ∃ k : Nat, k ≤ R.length ∧ i = .int .i64 k ∧ wr.ownsRow w2.heap.size 38 2 v k (cellsOf xvs x2 k) ∧ Below w2.heap.size w2 wr ∧ (∀ i, i < k → 0 ≤ x2.getD i 0 ∧ x2.getD i 0 < n) ∧ (x2.take k).Nodup) (fun _ i _ _ => R.length - (intOf i).toNat)
          case atStart => exact ⟨0, Nat.zero_le _, rfl, World.ownsRow_nil _ _ _ _, Below.refl _ _, fun i hi => by omega, by simp⟩
          case round =>
            obtain ⟨k, hk, rfl, hown, hbl, hin, hnd⟩ := hrel
            have Hin := Lib.hid hin
            have Hnd := Lib.hid hnd
            have hsz := hbl.size
            clear hin hnd
            by_cases hlt : k < R.length
            · have hk2 : k < x2.length := by omega
              obtain ⟨bw, ow, rfl, hbw, hcw⟩ := r22.ints hk2
              have cw : wr.cell? ⟨bw, ow + k, none⟩ = some (.int .i64 x2[k]) := (hbl.cell (p := ⟨bw, ow + k, none⟩) hbw).trans (hcw k hk2)
              have Hcw := Lib.hid hcw
              have e1 : x2.getD k 0 = x2[k] := by rw [List.getD_eq_getElem?_getD, List.getElem?_eq_getElem hk2]; rfl
              have hb := HN2.out x2[k] (List.getElem_mem _)
              have HE := Lib.hid e1
              have i0 : (0 : Int) ≤ (k : Int) := by omega
              have i1 : (k : Int) < (x2.length : Int) := by omega
              clear hcw e1
              generalize hz : x2[k] = z at *
              have HZ := Lib.hid hz
              clear hz
              have hbf : Below w.heap.size w wr := HBX.out.trans (hbl.mono hsX)
              by_cases zz0 : z < 0
              · go_wp2
                go_ret
                exact ⟨rfl, hbf⟩
              · by_cases z1 : (n : Int) ≤ z
                · go_wp2
                  go_ret
                  exact ⟨rfl, hbf⟩
                · obtain ⟨zn, rfl⟩ : ∃ zn : Nat, z = zn := ⟨z.toNat, by omega⟩
                  have hzn : zn < n := by omega
                  go_wp2
                  obtain ⟨wo, rfl⟩ : ∃ wo : World, wo = wr := ⟨_, rfl⟩
                  go_loopw [18] (fun i wr => ∃ m n' : Nat, m ≤ k ∧ i = .int .i64 m ∧ (∀ i, i < m → x2.getD i 0 ≠ zn) ∧ wr = wo.drewN n') (fun i _ => k - (intOf i).toNat)
                  case atStart => exact ⟨0, 0, Nat.zero_le _, rfl, fun i hi => by omega, rfl⟩
                  case round =>
                    obtain ⟨m, n', hm, rfl, hne, rfl⟩ := hrel
                    have Hne := Lib.hid hne
                    clear hne
                    by_cases hmk : m < k
                    · have hm2 : m < x2.length := by omega
                      have cm : wo.cell? ⟨bw, ow + m, none⟩ = some (.int .i64 x2[m]) := (hbl.cell (p := ⟨bw, ow + m, none⟩) hbw).trans (Hcw.out m hm2)
                      have em : x2.getD m 0 = x2[m] := by rw [List.getD_eq_getElem?_getD, List.getElem?_eq_getElem hm2]; rfl
                      have Em := Lib.hid em
                      clear em
                      generalize x2[m] = y at *
                      have j0 : (0 : Int) ≤ (m : Int) := by omega
                      have j1 : (m : Int) < (x2.length : Int) := by omega
                      by_cases hy : y = zn
                      · have t1 : (y == (zn : Int)) = true := by rw [beq_iff_eq]; exact hy
                        go_wp2_with fail
                        go_quiet (fail)
                        go_wp2
                        go_ret
                        exact ⟨rfl, below_drewN (below_drewN hbf _) _⟩
                      · have t1 : (y == (zn : Int)) = false := by rw [beq_eq_false_iff_ne]; exact hy
                        go_wp2_with fail
                        go_quiet (fail)
                        go_wp2
                        go_round
                        case rel => exact ⟨m + 1, _, by omega, by go_num, fun i hi => if h : i < m then Hne.out i h else (show i = m by omega) ▸ (by rw [Em.out]; exact hy), rfl⟩
                        case measure => simp [intOf] <;> omega
                    · obtain rfl : m = k := by omega
                      go_wp2_with fail
                      obtain ⟨W0, hW0⟩ : ∃ W0, wo.drewN n' = W0 := ⟨_, rfl⟩
                      obtain ⟨bx, ox, rfl, hbx, hcx⟩ := xr.cell (k := zn) (by omega)
                      have cx0 := hcx zn (by omega)
                      have hvx : xvs.getD zn undef = xvs[zn]'(by omega) := by rw [List.getD_eq_getElem?_getD, List.getElem?_eq_getElem (by omega)]; rfl
                      have Hvx := Lib.hid hvx
                      generalize xvs[zn]'(by omega) = vx at *
                      obtain ⟨ax, cx, ex, rfl, _⟩ := (hvx ▸ xA2.isB (i := zn) (by rw [Hlx.out]; exact hzn))
                      have hW : Below w2.heap.size w2 W0 := by rw [← hW0]; exact below_drewN hbl _
                      have c1 : W0.cell? ⟨bw, ow + m, none⟩ = some (.int .i64 zn) := by rw [← hW0]; exact cw
                      have c2 : W0.cell? ⟨bx, ox + zn, none⟩ = some (.slice ax ((spreadOf R n).getD zn []).length cx) := (hW.cell (p := ⟨bx, ox + zn, none⟩) hbx).trans cx0
                      generalize ((spreadOf R n).getD zn []).length = Lx at *
                      have ho : W0.ownsRow w2.heap.size 38 2 u16 m (cellsOf xvs x2 m) := by rw [← hW0]; exact own_drewN hown _
                      have ne1 : some bw ≠ u16.ownBlock := fun e => by have := (ho.lt bw e.symm).1; omega
                      have ne2 : some bx ≠ u16.ownBlock := fun e => by have := (ho.lt bx e.symm).1; omega
                      have hW2 : w2.heap.size ≤ W0.heap.size := hW.size
                      have Hcf : IntKind.u8.wrap (zn : Int) = zn := by rw [IntKind.wrap_u8]; omega
                      have hnd' : (x2.take (m + 1)).Nodup := by
                        rw [List.take_succ_eq_append_getElem hk2, List.nodup_append]
                        refine ⟨Hnd.out, by simp, fun a ha b hb' e => ?_⟩
                        obtain rfl : b = x2[m] := by simpa using hb'
                        obtain ⟨i, hi, he⟩ := List.mem_iff_getElem.1 ha
                        have hi' : i < m := by simp at hi; omega
                        rw [List.getElem_take] at he
                        have h5 := Hne.out i hi'
                        rw [List.getD_eq_getElem?_getD, List.getElem?_eq_getElem (show i < x2.length by omega)] at h5
                        exact h5 (by rw [← HZ.out, ← e, ← he]; rfl)
                      have hin' : ∀ i, i < m + 1 → 0 ≤ x2.getD i 0 ∧ x2.getD i 0 < n := by
                        intro i hi
                        by_cases h : i < m
                        · exact Hin.out i h
                        · obtain rfl : i = m := by omega
                          rw [HE.out]; omega
                      have hce : cellsOf xvs x2 (m + 1) = cellsOf xvs x2 m ++ [.int .u8 zn, .slice ax Lx cx] := by
                        rw [cellsOf_succ, HE.out, ← Hvx.out]; rfl
                      have Hnd' := Lib.hid hnd'
                      have Hin' := Lib.hid hin'
                      have Hce := Lib.hid hce
                      clear hnd' hin' hce
                      rw [hW0]
                      clear hW0
                      go_region_held3 (fun w' => w'.cell? ⟨bw, ow + m, none⟩ = some (.int .i64 zn) ∧ w'.cell? ⟨bx, ox + zn, none⟩ = some (.slice ax Lx cx)) (first | go_keep | (refine ⟨?_, ?_⟩ <;> (rw [hgrow.cell_far _ (by simp; omega) (by assumption)]; simp [*])))
                        ((refine stepAppN 36 38 (.agg #[.int .u8 0, .slice none 0 0]) 2 32 Try.underlying36 info_share rfl (by omega) (by omega) (by rfl) (.tmp 122) (.tmp 136) (by rfl) w2.heap.size u16 m (cellsOf xvs x2 m) (by rfl) ((own_drew ho).alloc _) W0.heap.size 1 [.int .u8 zn, .slice ax Lx cx] (by rfl) rfl (two_cells (by simp) (by simp)) (by simp [Value.oneCell']) (by omega) (by simp; omega) _ rfl ?_; intro g cap w' hown' hgrow hat hlt'))
                      all_goals
                        have hb' : Below w2.heap.size w2 w' := below_grow (hW.drew.alloc (by simp; omega) _) ((own_drew ho).alloc _) hgrow (by simp; omega)
                        clear hgrow hat hlt' c1 c2
                        go_wp2
                        go_roundw
                      all_goals first
                        | exact ⟨m + 1, by omega, by go_num, by rw [Hce.out]; exact hown', hb', Hin'.out, Hnd'.out⟩
                        | (simp [intOf] <;> omega)
            · obtain rfl : k = R.length := by omega
              have hbf : Below w.heap.size w wr := HBX.out.trans (hbl.mono hsX)
              obtain ⟨a11, cap11, rfl⟩ := own_slice hown
              have hlen' : R.length ≤ x2.length := by omega
              have hxl : ((x2.take R.length).map Int.toNat).length = R.length := by simp; omega
              have hnn : ((x2.take R.length).map Int.toNat).Nodup := toNat_nodup Hnd.out (take_mem fun i hi => (Hin.out i hi).1)
              have hltn : ∀ j ∈ (x2.take R.length).map Int.toNat, j < n := by
                intro j hj
                obtain ⟨z, hz, rfl⟩ := List.mem_map.1 hj
                have := take_mem (P := fun z => 0 ≤ z ∧ z < n) Hin.out z hz
                omega
              have hS := cellsOf_are (which := x2) xA2 Hlx.out (by omega) R.length Hin.out hlen'
              have hcap := own_cap hown
              have hgs := gather_spread R n _ _ za (by omega) (by omega) HL.out hxl hnn hltn
              have hpf := picked_fault R n _ _ za (by omega) (by omega) HL.out hnn hltn R.length (by omega)
              have hpl : (picked (spreadOf R n) ((x2.take R.length).map Int.toNat)).length = R.length := by rw [picked_length, hxl]
              have hhd : ((picked (spreadOf R n) ((x2.take R.length).map Int.toNat)).headD default).data.length ≤ 140737488355328 := by
                have hsl := spreadOf_length R n (by omega)
                have hh : (R.headD []).length = (R.headD []).length := rfl
                cases hq : (x2.take R.length).map Int.toNat with
                | nil => rw [hq] at hxl; simp at hxl; omega
                | cons j js =>
                  have := hltn j (by rw [hq]; exact List.mem_cons_self ..)
                  have := spread_row_length R n _ hh HL.out _ (getD_mem (d := []) (show j < (spreadOf R n).length by omega))
                  show ((spreadOf R n).getD j []).length ≤ _
                  omega
              generalize picked (spreadOf R n) ((x2.take R.length).map Int.toNat) = ss at *
              have GC := Gather_anyC ss R.length a11 cap11 38 (cellsOf xvs x2 R.length) wr (Rd.of_own hown) (hS.below hbl) (by omega) (by omega) hhd
              have hgf : gatherF ss R.length = 0 := by
                unfold gatherF
                rw [if_neg (by omega), if_neg (by omega)]
                exact hpf
              rw [hpl] at GC
              clear hnn hltn hS hxl hpf hhd hpl hown hcap hlen' r22 xr xA2 vx
              go_wp2_with fail
              refine GC.mono ?_; rintro e w3 ⟨hb3, h3⟩
              rcases h3 with ⟨_, ga, gcap, gvs, rfl, gr, gA, gC⟩ | ⟨h3, _⟩
              · rw [Int.toNat_natCast, hgs] at gA
                have hb13 := hbf.trans (hb3.mono hbf.size)
                have B3 := Lib.hid hb13
                have GR := Lib.hid gr
                have GA := Lib.hid gA
                have GCP := Lib.hid gC
                clear GC hgf hgs gr gA gC hb3 hbf hb13 hbl Hin Hnd
                go_wp2_with fail
                go_loopw [20, 21, 22] (fun i p er wr => ∃ k : Nat, k ≤ R.length ∧ i = .int .i64 k ∧ Hid (Below w3.heap.size w3 wr)) (fun i _ _ _ => R.length - (intOf i).toNat)
                case atStart => exact ⟨0, Nat.zero_le _, rfl, Lib.hid (Below.refl _ _)⟩
                case round =>
                  obtain ⟨k, hk, rfl, BW⟩ := hrel
                  by_cases hlt : k < R.length
                  · obtain ⟨wB, rfl⟩ : ∃ z, z = wr := ⟨_, rfl⟩
                    have hkx : k < x0.length := by rw [HRL.out]; exact hlt
                    obtain ⟨B5, o5, ha5, hB5, hrg5⟩ := (R0.out.below (B3.out.trans (BW.out.mono B3.out.size))).cont HN.out hkx
                    obtain ⟨c, hc⟩ : ∃ c, c = x0[k] := ⟨_, rfl⟩
                    rw [← hc] at hrg5
                    have hcw : CtW c := by rw [hc]; exact HN.out _ (List.getElem_mem _)
                    have hok : NtOk c := by rw [hc]; exact OK.out _ (List.getElem_mem _)
                    have hrk : R[k] = nrow c := by rw [hc, List.getElem_of_eq HR.out hlt, List.getElem_map]
                    have hgl : k < gvs.length := by rw [GA.out.1]; exact hlt
                    obtain ⟨bg, og, hga, hbg, hcg⟩ := GR.out.cell (k := k) hgl
                    have cg := hcg k hgl
                    obtain ⟨ra, rc, re, hv, hrr, _, _⟩ := GA.out.2 k hlt hgl
                    have hcap := GCP.out gvs[k] (List.getElem_mem _)
                    have hl90 : R[k].length = 90 := by rw [hrk]; exact nrow_length hcw.1 hok
                    have hn90 := nrow_length hcw.1 hok
                    rw [hv, hl90] at cg hcap
                    rw [hrk] at hrr
                    obtain ⟨rb, ro, hra, hrb, hcr⟩ := hrr.bytes (k := 0) (by rw [hn90]; omega)
                    obtain ⟨hs1, hs2⟩ := named_size hok.1
                    obtain ⟨N, hN⟩ : ∃ N, N = c.name.size + 37 := ⟨_, rfl⟩
                    have c0 : w3.cell? ⟨rb, ro, none⟩ = some (.int .u8 (N : Int)) := by
                      have := hcr 0 (by rw [hn90]; omega)
                      rw [Nat.add_zero] at this
                      rw [this, nrow_zero hcw.1 hok, nrow_head hok, ← hN]
                    have hn1 : 38 ≤ N := by omega
                    have hn2 : N ≤ 67 := by omega
                    have g1 : wB.cell? ⟨bg, og + k, none⟩ = some (.slice (some ⟨rb, ro, none⟩) 90 rc) := by rw [hra] at cg; exact (BW.out.cell (p := ⟨bg, og + k, none⟩) hbg).trans cg
                    have g2 : wB.cell? ⟨rb, ro, none⟩ = some (.int .u8 (N : Int)) := (BW.out.cell (p := ⟨rb, ro, none⟩) hrb).trans c0
                    have hrd : Rd wB (some ⟨rb, ro + 1, none⟩) re ((noteB c.name c.key c.lvl.toNat).map vB) := by
                      rw [hra] at hrr
                      have h := ((hrr.below BW.out).drop 1).take (c.name.size + 37)
                      rw [← List.map_drop, ← List.map_take, nrow_note hcw.1 hok] at h
                      exact h
                    have hc1 : 90 ≤ rc := hcap.1
                    have hc2 : rc ≤ 9223372036854775807 := hcap.2
                    have htl : ((c.lvl.toNat : Nat) : Int) = c.lvl := by have := hok.2.1; omega
                    have RC := fun w hr => Read_calls c.name c.key c.lvl.toNat hcw.1 hok.1 (by have := hok.2.2; omega) rb (ro + 1) (rc - 1) re w hr (by omega) (by omega)
                    rw [htl, ← hN, show nV c.name c.key c.lvl = cV c from rfl] at RC
                    have HCW := Lib.hid hcw
                    have HRG := Lib.hid hrg5
                    have HRC := Lib.hid RC
                    have HRD := Lib.hid hrd
                    have j0 : (0 : Int) ≤ (k : Int) := by omega
                    have j1 : (k : Int) < (R.length : Int) := by omega
                    have q1 : decide ((80 : Int) < (N : Int)) = false := decide_eq_false (by omega)
                    have p1 : (1 : Int) ≤ 1 + (N : Int) := by omega
                    have p2 : 1 + (N : Int) ≤ (rc : Int) := by omega
                    have p3 : (0 : Int) ≤ 1 + (N : Int) := by omega
                    have p5 : IntKind.i64.wrap (N : Int) = (N : Int) := IntWalk.i64_in _ (by omega)
                    have p4 : IntKind.i64.wrap (1 + (N : Int)) = 1 + (N : Int) := IntWalk.i64_in _ (by omega)
                    clear hrg5 hcw hok hrk hcg cg hv hrr hcap hl90 hn90 hcr c0 hN RC hrd htl hs1 hs2 hc hkx hgl
                    subst ha5 hga
                    have SL : ∀ w, (Instr.slice 29 (.slice (some ⟨rb, ro, none⟩) 90 rc) (some (.int .i64 1)) (some (.int .i64 (1 + (N : Int)))) none).run Try.prog w = .ok (.slice (some ⟨rb, ro + 1, none⟩) N (rc - 1)) w := fun w => run_mid rb ro 90 rc N (by omega) (by omega) (by omega) w
                    obtain ⟨V, hV⟩ : ∃ V : Array Value, V = #[.string ⟨#[]⟩, .int .u8 0, .int .u8 0, .int .u8 0, .int .u8 0, .int .u8 0, .int .u8 0, .int .u8 0, .int .u8 0, .int .u8 0, .int .u8 0, .int .u8 0, .int .u8 0, .int .u8 0, .int .u8 0, .int .u8 0, .int .u8 0, .int .u8 0, .int .u8 0, .int .u8 0, .int .u8 0, .int .u8 0, .int .u8 0, .int .u8 0, .int .u8 0, .int .u8 0, .int .u8 0, .int .u8 0, .int .u8 0, .int .u8 0, .int .u8 0, .int .u8 0, .int .u8 0, .int .i64 0] := ⟨_, rfl⟩
                    have HV := Lib.hid hV
                    have HVS := Lib.hid (show V.size = 34 by rw [hV]; rfl)
                    have HSL := Lib.hid SL
                    have lg : bg < wB.heap.size := lt_of_cell g1
                    have lr : rb < wB.heap.size := lt_of_cell g2
                    have G1 := Lib.hid g1
                    have G2 := Lib.hid g2
                    clear hV SL
                    go_wp2_with fail
                    clear g1 g2
                    refine wp_region_held_drew (S := fun w' => Below wB.heap.size wB w') (by kernel_rfl) ((Below.refl _ _).drew) (fun hHeld => ?_)
                    refine wpAnyH_take (i := 0) (oi := _) (v := .slice (some ⟨bg, og, none⟩) R.length gcap) rfl (by kernel_rfl) (by kernel_rfl) (by kernel_rfl) (fun _ _ _ h => h) (Or.inl ⟨by rfl, fun w hw => by go_simp⟩) hHeld ?_
                    simp only [Act.put, List.getElem_toArray, List.getElem_cons_zero, List.getElem_cons_succ, List.setIfInBounds_toArray, List.set_cons_zero, List.set_cons_succ]
                    refine wpAnyH_take (i := 1) (oi := _) (v := .int .i64 (k : Int)) rfl (by kernel_rfl) (by kernel_rfl) (by kernel_rfl) (fun _ _ _ h => h) (Or.inl ⟨by rfl, fun w hw => by go_simp⟩) hHeld ?_
                    simp only [Act.put, List.getElem_toArray, List.getElem_cons_zero, List.getElem_cons_succ, List.setIfInBounds_toArray, List.set_cons_zero, List.set_cons_succ]
                    refine wpAnyH_take (i := 2) (oi := _) (v := .pointer (some ⟨bg, og + k, none⟩)) rfl (by kernel_rfl) (by kernel_rfl) (by kernel_rfl) (fun _ _ _ h => h) (Or.inl ⟨by rfl, fun w hw => by go_simp⟩) hHeld ?_
                    simp only [Act.put, List.getElem_toArray, List.getElem_cons_zero, List.getElem_cons_succ, List.setIfInBounds_toArray, List.set_cons_zero, List.set_cons_succ]
                    refine wpAnyH_take (i := 3) (oi := _) (v := .slice (some ⟨rb, ro, none⟩) 90 rc) rfl (by kernel_rfl) (by kernel_rfl) (by kernel_rfl) (fun _ _ _ h => h) (Or.inl ⟨by rfl, fun w hw => by have hcc := (Below.cell hw (p := ⟨bg, og + k, none⟩) lg).trans G1.out; go_simp⟩) hHeld ?_
                    simp only [Act.put, List.getElem_toArray, List.getElem_cons_zero, List.getElem_cons_succ, List.setIfInBounds_toArray, List.set_cons_zero, List.set_cons_succ]
                    refine wpAnyH_take (i := 4) (oi := _) (v := .slice (some ⟨bg, og, none⟩) R.length gcap) rfl (by kernel_rfl) (by kernel_rfl) (by kernel_rfl) (fun _ _ _ h => h) (Or.inl ⟨by rfl, fun w hw => by go_simp⟩) hHeld ?_
                    simp only [Act.put, List.getElem_toArray, List.getElem_cons_zero, List.getElem_cons_succ, List.setIfInBounds_toArray, List.set_cons_zero, List.set_cons_succ]
                    refine wpAnyH_take (i := 5) (oi := _) (v := .int .i64 (k : Int)) rfl (by kernel_rfl) (by kernel_rfl) (by kernel_rfl) (fun _ _ _ h => h) (Or.inl ⟨by rfl, fun w hw => by go_simp⟩) hHeld ?_
                    simp only [Act.put, List.getElem_toArray, List.getElem_cons_zero, List.getElem_cons_succ, List.setIfInBounds_toArray, List.set_cons_zero, List.set_cons_succ]
                    refine wpAnyH_take (i := 6) (oi := _) (v := .pointer (some ⟨bg, og + k, none⟩)) rfl (by kernel_rfl) (by kernel_rfl) (by kernel_rfl) (fun _ _ _ h => h) (Or.inl ⟨by rfl, fun w hw => by go_simp⟩) hHeld ?_
                    simp only [Act.put, List.getElem_toArray, List.getElem_cons_zero, List.getElem_cons_succ, List.setIfInBounds_toArray, List.set_cons_zero, List.set_cons_succ]
                    refine wpAnyH_take (i := 7) (oi := _) (v := .slice (some ⟨rb, ro, none⟩) 90 rc) rfl (by kernel_rfl) (by kernel_rfl) (by kernel_rfl) (fun _ _ _ h => h) (Or.inl ⟨by rfl, fun w hw => by have hcc := (Below.cell hw (p := ⟨bg, og + k, none⟩) lg).trans G1.out; go_simp⟩) hHeld ?_
                    simp only [Act.put, List.getElem_toArray, List.getElem_cons_zero, List.getElem_cons_succ, List.setIfInBounds_toArray, List.set_cons_zero, List.set_cons_succ]
                    refine wpAnyH_take (i := 8) (oi := _) (v := .pointer (some ⟨rb, ro, none⟩)) rfl (by kernel_rfl) (by kernel_rfl) (by kernel_rfl) (fun _ _ _ h => h) (Or.inl ⟨by rfl, fun w hw => by go_simp⟩) hHeld ?_
                    simp only [Act.put, List.getElem_toArray, List.getElem_cons_zero, List.getElem_cons_succ, List.setIfInBounds_toArray, List.set_cons_zero, List.set_cons_succ]
                    refine wpAnyH_take (i := 9) (oi := _) (v := .int .u8 (N : Int)) rfl (by kernel_rfl) (by kernel_rfl) (by kernel_rfl) (fun _ _ _ h => h) (Or.inl ⟨by rfl, fun w hw => by have hcc := (Below.cell hw (p := ⟨rb, ro, none⟩) lr).trans G2.out; go_simp⟩) hHeld ?_
                    simp only [Act.put, List.getElem_toArray, List.getElem_cons_zero, List.getElem_cons_succ, List.setIfInBounds_toArray, List.set_cons_zero, List.set_cons_succ]
                    refine wpAnyH_take (i := 10) (oi := _) (v := .int .i64 (N : Int)) rfl (by kernel_rfl) (by kernel_rfl) (by kernel_rfl) (fun _ _ _ h => h) (Or.inl ⟨by rfl, fun w hw => by go_simp⟩) hHeld ?_
                    simp only [Act.put, List.getElem_toArray, List.getElem_cons_zero, List.getElem_cons_succ, List.setIfInBounds_toArray, List.set_cons_zero, List.set_cons_succ]
                    refine wpAnyH_take (i := 11) (oi := _) (v := .int .i64 (1 + (N : Int))) rfl (by kernel_rfl) (by kernel_rfl) (by kernel_rfl) (fun _ _ _ h => h) (Or.inl ⟨by rfl, fun w hw => by go_simp⟩) hHeld ?_
                    simp only [Act.put, List.getElem_toArray, List.getElem_cons_zero, List.getElem_cons_succ, List.setIfInBounds_toArray, List.set_cons_zero, List.set_cons_succ]
                    refine wpAnyH_take (i := 12) (oi := _) (v := .slice (some ⟨rb, ro + 1, none⟩) N (rc - 1)) rfl (by kernel_rfl) (by kernel_rfl) (by kernel_rfl) (fun _ _ _ h => h) (Or.inl ⟨by rfl, fun w hw => by have hcc := HSL.out w; go_simp⟩) hHeld ?_
                    simp only [Act.put, List.getElem_toArray, List.getElem_cons_zero, List.getElem_cons_succ, List.setIfInBounds_toArray, List.set_cons_zero, List.set_cons_succ]
                    refine wpAnyH_ready (rs := [13, 17]) (by kernel_rfl) (by simp) ?_
                    refine AllReadyH.cons (o := _) rfl (fun K hK => ?_) (AllReadyH.cons (o := _) rfl (fun K hK => ?_) AllReadyH.nil)
                    · have HK := Lib.hid hK
                      clear hK
                      go_simp
                      go_at_call 7
                      refine (HRC.out _ (HRD.out.below hHeld)).mono ?_
                      rintro e w4 ⟨rfl, hb4⟩
                      have B4 := Lib.hid (Below.trans (Below.drew (Below.refl wB.heap.size wB)) hb4)
                      clear hb4
                      dsimp only
                      refine HK.out _ _ B4.out ?_
                      clear HK K hHeld
                      try simp only [Act.put, List.getElem_toArray, List.getElem_cons_zero, List.getElem_cons_succ, List.setIfInBounds_toArray, List.set_cons_zero, List.set_cons_succ]
                      intro hHeld
                      refine wpAnyH_take (i := 14) (oi := _) (v := .tuple #[.agg (cV c), .nilIface]) rfl (by kernel_rfl) (by kernel_rfl) (by kernel_rfl) (fun _ _ _ h => h) (Or.inl ⟨by rfl, fun w hw => by go_simp⟩) hHeld ?_
                      simp only [Act.put, List.getElem_toArray, List.getElem_cons_zero, List.getElem_cons_succ, List.setIfInBounds_toArray, List.set_cons_zero, List.set_cons_succ]
                      refine wpAnyH_take (i := 15) (oi := _) (v := .agg (cV c)) rfl (by kernel_rfl) (by kernel_rfl) (by kernel_rfl) (fun _ _ _ h => h) (Or.inl ⟨by rfl, fun w hw => by go_simp⟩) hHeld ?_
                      simp only [Act.put, List.getElem_toArray, List.getElem_cons_zero, List.getElem_cons_succ, List.setIfInBounds_toArray, List.set_cons_zero, List.set_cons_succ]
                      refine wpAnyH_take (i := 16) (oi := _) (v := .nilIface) rfl (by kernel_rfl) (by kernel_rfl) (by kernel_rfl) (fun _ _ _ h => h) (Or.inl ⟨by rfl, fun w hw => by go_simp⟩) hHeld ?_
                      simp only [Act.put, List.getElem_toArray, List.getElem_cons_zero, List.getElem_cons_succ, List.setIfInBounds_toArray, List.set_cons_zero, List.set_cons_succ]
                      obtain ⟨g, hg⟩ : ∃ z, z = w4.heap.size := ⟨_, rfl⟩
                      obtain ⟨w5, hw5⟩ : ∃ z, z = w4.alloc (.cells V 35) := ⟨_, rfl⟩
                      have b5 : Below wB.heap.size wB w5 := by rw [hw5]; exact B4.out.alloc B4.out.size _
                      have g5 : w5.heap[g]? = some (.cells V 35 (0, 0)) := by rw [hw5, hg]; exact heap_alloc_new _ _
                      have B5' := Lib.hid b5
                      have G5 := Lib.hid g5
                      have HG := Lib.hid hg
                      have HW5 := Lib.hid hw5
                      have lB : wB.heap.size ≤ g := by rw [hg]; exact B4.out.size
                      clear b5 g5 hg hw5
                      refine wpAnyH_ready (rs := [17]) (by kernel_rfl) (by simp) ?_
                      refine AllReadyH.cons (o := _) rfl (fun K hK => ?_) AllReadyH.nil
                      have HK := Lib.hid hK
                      clear hK
                      go_simp
                      rw [← HV.out, ← HG.out, ← HW5.out]
                      refine HK.out _ _ B5'.out ?_
                      clear HK K
                      try simp only [Act.put, List.getElem_toArray, List.getElem_cons_zero, List.getElem_cons_succ, List.setIfInBounds_toArray, List.set_cons_zero, List.set_cons_succ]
                      intro hHeld
                      refine wpAnyH_ready (rs := [18]) (by kernel_rfl) (by simp) ?_
                      refine AllReadyH.cons (o := _) rfl (fun K hK => ?_) AllReadyH.nil
                      have HK := Lib.hid hK
                      clear hK
                      rw [if_pos (by rfl)]
                      refine wp_store_row _ _ _ rfl g (cV c) (by rfl) (by rfl) _ V G5.out (note_info HCW.out) (by rw [cV_size HCW.out, HVS.out]) (nV_one _ _ _) ?_
                      refine HK.out _ _ (below_setRowW B5'.out lB _) ?_
                      clear HK K
                      try simp only [Act.put, List.getElem_toArray, List.getElem_cons_zero, List.getElem_cons_succ, List.setIfInBounds_toArray, List.set_cons_zero, List.set_cons_succ]
                      intro hHeld
                      refine wpAnyH_take (i := 19) (oi := _) (v := .nilIface) rfl (by kernel_rfl) (by kernel_rfl) (by kernel_rfl) (fun _ _ _ h => h) (Or.inl ⟨by rfl, fun w hw => by go_simp⟩) hHeld ?_
                      simp only [Act.put, List.getElem_toArray, List.getElem_cons_zero, List.getElem_cons_succ, List.setIfInBounds_toArray, List.set_cons_zero, List.set_cons_succ]
                      refine wpAnyH_done (by kernel_rfl) ?_ _
                      have GF := Lib.hid (setRow_heap _ _ _ (cV c) _ _ G5.out)
                      have BF := Lib.hid (below_setRowW B5'.out lB (cV c))
                      obtain ⟨wF, hwF⟩ : ∃ z, z = w5.setRow g (cV c) := ⟨_, rfl⟩
                      rw [← hwF] at GF BF ⊢
                      clear hHeld hwF B4 HW5 B5' G5 HG
                      have rgF := range_rec GF.out
                      have rg5 := range_below HRG.out BF.out hB5
                      have RGF := Lib.hid rgF
                      have RG5 := Lib.hid rg5
                      clear rgF rg5 lg lr
                      go_wp2_with fail
                      refine wp_region_quiet_lit (by kernel_rfl) (by kernel_rfl) ?_
                      repeat (first
                        | (refine quiet_cont rfl (.tmp 21) rfl g 0 (by rfl) c HCW.out (fun w' hw' => by obtain ⟨n, rfl⟩ := hw'; exact RGF.out) ?_; simp only [Act.put, List.setIfInBounds_toArray, List.set_cons_zero, List.set_cons_succ])
                        | (refine quiet_cont rfl (.tmp 198) rfl B5 (o5 + k * 34) (by rfl) c HCW.out (fun w' hw' => by obtain ⟨n, rfl⟩ := hw'; exact RG5.out) ?_; simp only [Act.put, List.setIfInBounds_toArray, List.set_cons_zero, List.set_cons_succ])
                        | (refine quiet_cont_neq rfl (.tmp 195) (.tmp 199) _ rfl c c (by rfl) (by rfl) HCW.out HCW.out ?_; rw [show (!decide (c = c)) = false by simp]; simp only [Act.put, List.setIfInBounds_toArray, List.set_cons_zero, List.set_cons_succ])
                        | go_big_quiet_step (fail))
                      refine wpQuiet_nil ?_
                      rintro _ ⟨nq, rfl⟩
                      have BE := Lib.hid (below_drewN (BW.out.trans (BF.out.mono BW.out.size)) nq)
                      go_wp2_with fail
                      go_roundw
                      case rel => exact ⟨k + 1, by omega, by go_num, BE⟩
                      case measure => simp [intOf] <;> omega
                    · have HK := Lib.hid hK
                      clear hK
                      obtain ⟨g, hg⟩ : ∃ z, z = wB.heap.size := ⟨_, rfl⟩
                      obtain ⟨w4, hw4⟩ : ∃ z, z = (wB.alloc (.cells V 35)).drew := ⟨_, rfl⟩
                      have b4 : Below wB.heap.size wB w4 := by rw [hw4]; exact ((Below.refl wB.heap.size wB).alloc (Nat.le_refl _) _).drew
                      have g4 : w4.heap[g]? = some (.cells V 35 (0, 0)) := by rw [hw4, hg]; exact heap_alloc_new _ _
                      have B4 := Lib.hid b4
                      have G4 := Lib.hid g4
                      have HG := Lib.hid hg
                      have HW4 := Lib.hid hw4
                      have lB : wB.heap.size ≤ g := by rw [hg]; exact Nat.le_refl _
                      clear b4 g4 hg hw4
                      go_simp
                      rw [← HV.out, ← HW4.out, ← HG.out]
                      refine HK.out _ _ B4.out ?_
                      clear HK K
                      try simp only [Act.put, List.getElem_toArray, List.getElem_cons_zero, List.getElem_cons_succ, List.setIfInBounds_toArray, List.set_cons_zero, List.set_cons_succ]
                      intro hHeld
                      refine wpAnyH_ready (rs := [13]) (by kernel_rfl) (by simp) ?_
                      refine AllReadyH.cons (o := _) rfl (fun K hK => ?_) AllReadyH.nil
                      have HK := Lib.hid hK
                      clear hK
                      go_simp
                      go_at_call 7
                      refine (HRC.out _ (HRD.out.below B4.out)).mono ?_
                      rintro e w5 ⟨rfl, hb5⟩
                      have B5' := Lib.hid (Below.trans B4.out (hb5.mono (Below.size B4.out)))
                      have G5 := Lib.hid ((hb5.block g (lt_of_heap G4.out)).trans G4.out)
                      clear hb5
                      dsimp only
                      refine HK.out _ _ B5'.out ?_
                      clear HK K hHeld
                      try simp only [Act.put, List.getElem_toArray, List.getElem_cons_zero, List.getElem_cons_succ, List.setIfInBounds_toArray, List.set_cons_zero, List.set_cons_succ]
                      intro hHeld
                      refine wpAnyH_take (i := 14) (oi := _) (v := .tuple #[.agg (cV c), .nilIface]) rfl (by kernel_rfl) (by kernel_rfl) (by kernel_rfl) (fun _ _ _ h => h) (Or.inl ⟨by rfl, fun w hw => by go_simp⟩) hHeld ?_
                      simp only [Act.put, List.getElem_toArray, List.getElem_cons_zero, List.getElem_cons_succ, List.setIfInBounds_toArray, List.set_cons_zero, List.set_cons_succ]
                      refine wpAnyH_take (i := 15) (oi := _) (v := .agg (cV c)) rfl (by kernel_rfl) (by kernel_rfl) (by kernel_rfl) (fun _ _ _ h => h) (Or.inl ⟨by rfl, fun w hw => by go_simp⟩) hHeld ?_
                      simp only [Act.put, List.getElem_toArray, List.getElem_cons_zero, List.getElem_cons_succ, List.setIfInBounds_toArray, List.set_cons_zero, List.set_cons_succ]
                      refine wpAnyH_take (i := 16) (oi := _) (v := .nilIface) rfl (by kernel_rfl) (by kernel_rfl) (by kernel_rfl) (fun _ _ _ h => h) (Or.inl ⟨by rfl, fun w hw => by go_simp⟩) hHeld ?_
                      simp only [Act.put, List.getElem_toArray, List.getElem_cons_zero, List.getElem_cons_succ, List.setIfInBounds_toArray, List.set_cons_zero, List.set_cons_succ]
                      refine wpAnyH_ready (rs := [18]) (by kernel_rfl) (by simp) ?_
                      refine AllReadyH.cons (o := _) rfl (fun K hK => ?_) AllReadyH.nil
                      have HK := Lib.hid hK
                      clear hK
                      rw [if_pos (by rfl)]
                      refine wp_store_row _ _ _ rfl g (cV c) (by rfl) (by rfl) _ V G5.out (note_info HCW.out) (by rw [cV_size HCW.out, HVS.out]) (nV_one _ _ _) ?_
                      refine HK.out _ _ (below_setRowW B5'.out lB _) ?_
                      clear HK K
                      try simp only [Act.put, List.getElem_toArray, List.getElem_cons_zero, List.getElem_cons_succ, List.setIfInBounds_toArray, List.set_cons_zero, List.set_cons_succ]
                      intro hHeld
                      refine wpAnyH_take (i := 19) (oi := _) (v := .nilIface) rfl (by kernel_rfl) (by kernel_rfl) (by kernel_rfl) (fun _ _ _ h => h) (Or.inl ⟨by rfl, fun w hw => by go_simp⟩) hHeld ?_
                      simp only [Act.put, List.getElem_toArray, List.getElem_cons_zero, List.getElem_cons_succ, List.setIfInBounds_toArray, List.set_cons_zero, List.set_cons_succ]
                      refine wpAnyH_done (by kernel_rfl) ?_ _
                      have GF := Lib.hid (setRow_heap _ _ _ (cV c) _ _ G5.out)
                      have BF := Lib.hid (below_setRowW B5'.out lB (cV c))
                      obtain ⟨wF, hwF⟩ : ∃ z, z = w5.setRow g (cV c) := ⟨_, rfl⟩
                      rw [← hwF] at GF BF ⊢
                      clear hHeld hwF B4 HW4 B5' G5 G4 HG
                      have rgF := range_rec GF.out
                      have rg5 := range_below HRG.out BF.out hB5
                      have RGF := Lib.hid rgF
                      have RG5 := Lib.hid rg5
                      clear rgF rg5 lg lr
                      go_wp2_with fail
                      refine wp_region_quiet_lit (by kernel_rfl) (by kernel_rfl) ?_
                      repeat (first
                        | (refine quiet_cont rfl (.tmp 21) rfl g 0 (by rfl) c HCW.out (fun w' hw' => by obtain ⟨n, rfl⟩ := hw'; exact RGF.out) ?_; simp only [Act.put, List.setIfInBounds_toArray, List.set_cons_zero, List.set_cons_succ])
                        | (refine quiet_cont rfl (.tmp 198) rfl B5 (o5 + k * 34) (by rfl) c HCW.out (fun w' hw' => by obtain ⟨n, rfl⟩ := hw'; exact RG5.out) ?_; simp only [Act.put, List.setIfInBounds_toArray, List.set_cons_zero, List.set_cons_succ])
                        | (refine quiet_cont_neq rfl (.tmp 195) (.tmp 199) _ rfl c c (by rfl) (by rfl) HCW.out HCW.out ?_; rw [show (!decide (c = c)) = false by simp]; simp only [Act.put, List.setIfInBounds_toArray, List.set_cons_zero, List.set_cons_succ])
                        | go_big_quiet_step (fail))
                      refine wpQuiet_nil ?_
                      rintro _ ⟨nq, rfl⟩
                      have BE := Lib.hid (below_drewN (BW.out.trans (BF.out.mono BW.out.size)) nq)
                      go_wp2_with fail
                      go_roundw
                      case rel => exact ⟨k + 1, by omega, by go_num, BE⟩
                      case measure => simp [intOf] <;> omega
                  · obtain rfl : k = R.length := by omega
                    go_wp2_with fail
                    go_ret
                    exact ⟨rfl, B3.out.trans (BW.out.mono B3.out.size)⟩
              · exact absurd hgf h3
      · have CA := Spread_no hfa a9 cap9 29 vs wS rS mS (by omega)
        have HCA := Lib.hid CA
        clear hfa CA rS mS
        go_wp2_with fail
        refine HCA.out.mono ?_; rintro e w2 ⟨rfl, hb2⟩
        clear HCA
        go_wp2_with fail
        go_ret
        exact ⟨rfl, BS0.out.trans (hb2.mono BS0.out.size)⟩

set_option maxRecDepth 100000 in
theorem lifted (os : Os) (started : os.Started) (H : Type) (enc : TypeId × Value → H) :
    ReturnsInHanded {} Try.checked os 3 .any (Rows.topRowsSpec.pre6 enc Try.prog Try.f3 Rows.topRowsRow.domain false) (Rows.topRowsSpec.post enc Try.prog Try.f3 false true false false) := by
  refine returnsInHanded_of_change_sized (C := Try.checked) own started (by kernel_rfl) Try.func3
    (ChangeSpec.witness6 (enc := enc) (C := Try.checked) false ⟨#[], #[.slice none 0 0, .int .i64 0, .slice none 0 0], []⟩ 8 (by kernel_rfl) (by kernel_rfl) (by kernel_rfl) (by kernel_rfl)) ?_
  intro W base args ds gs before hval0 hW hcnd hsz _
  have hval : ∀ (j : Nat) t v, Try.f3.params[j]? = some t → args[j]? = some v → Value.okWide Try.prog W .any base t v := hval0
  have hW' := hW
  obtain ⟨p, q, hA0, hV, rfl, hfz, hnd⟩ := hW
  have hA : DataW.TrodAll enc Try.prog W 0 (fun _ => true) true Try.f3.params.toList args.toList ds p := hA0
  rw [Try.params3] at hA hval
  obtain ⟨v0, vs0, d0, ds0, p0, q0, hargs, rfl, rfl, h0, r0⟩ := trodAll_cons hA
  obtain ⟨v1, vs1, d1, ds1, p1, q1, rfl, rfl, rfl, h1, r1⟩ := trodAll_cons r0
  obtain ⟨v2, vs2, d2, ds2, p2, q2, rfl, rfl, rfl, h2, r2⟩ := trodAll_cons r1
  obtain ⟨rfl, rfl, rfl⟩ := trodAll_nil r2
  obtain rfl : args = #[v0, v1, v2] := by cases args; simp_all
  obtain ⟨rfl, rfl⟩ := trodVars_none hV
  have k0 := h0
  have lt0 : ∀ x ∈ p0, x.block < W.heap.size := by obtain ⟨m, hm⟩ := k0; exact DataW.trod_lt m _ _ _ hm
  obtain ⟨x0, a0, c0, e0, rfl, l0, m0, n0, r_0⟩ := open_book Try.underlying22 contT (hval 0 22 v0 rfl rfl) h0
  have z0 : x0.length * 56 ≤ 140737488351232 := by have := trod_len (B := reachBytes) Try.underlying22 h0 (fun n hn => of_decide_eq_true (List.all_eq_true.1 hsz n (DataW.weights_mem_each (j := 0) (by first | rfl | kernel_rfl) rfl n hn))); rw [show Try.prog.bytesOf 35 = 56 by kernel_rfl] at this; exact this
  have k1 := h1
  have lt1 : ∀ x ∈ p1, x.block < W.heap.size := by obtain ⟨m, hm⟩ := k1; exact DataW.trod_lt m _ _ _ hm
  obtain ⟨a1, rfl, _, _, w1⟩ := open_int Try.underlying3 (hval 1 3 v1 rfl rfl) h1
  have b1 := bounds_i64 w1
  have k2 := h2
  have lt2 : ∀ x ∈ p2, x.block < W.heap.size := by obtain ⟨m, hm⟩ := k2; exact DataW.trod_lt m _ _ _ hm
  obtain ⟨x2, a2, c2, e2, rfl, l2, n2, r_2⟩ := open_nums Try.underlying23 Try.underlying3 (by kernel_rfl) (hval 2 23 v2 rfl rfl) h2
  clear hA0 hval0
  refine (walk x0 a0 c0 e0 a1 x2 a2 c2 e2 W z0 l0 m0 n0 r_0 b1 l2 n2 r_2).mono fun e W' ⟨he, bel⟩ => ?_
  subst he
  exact ⟨_, rfl, _, _, _, [], _, [], hW', trodAll_mk1 (shut_bool Try.underlying4 _), (trodAll_cons_mk (Below.trod laidOut (by kernel_rfl) (of_decide_eq_true (by kernel_rfl)) k0 bel lt0) (trodAll_cons_mk (Below.trod laidOut (by kernel_rfl) (of_decide_eq_true (by kernel_rfl)) k1 bel lt1) (trodAll_cons_mk (Below.trod laidOut (by kernel_rfl) (of_decide_eq_true (by kernel_rfl)) k2 bel lt2) trodAll_mk0))), rfl, bel.frame _, fun h => by cases h⟩

theorem over : Rows.topRowsRow.holds Try.pinned (OpenSpec.ofChange Rows.topRowsSpec) :=
  OpenClaim.holds_of_wide 3 Try.f3 rfl rfl rfl rfl rfl rfl rfl ⟨rfl, rfl, rfl, rfl, rfl⟩ rfl rfl rfl rfl rfl (by kernel_rfl) Try.func3 (by kernel_rfl)
    (of_decide_eq_true (by kernel_rfl)) (by unfold Func.isWrapper; first | (rw [if_pos (by decide +kernel)]; kernel_rfl) | (rw [if_neg (by decide +kernel)]; exact ⟨rfl, rfl⟩))
    (fun os started H enc _ => lifted os started H enc)

theorem proved : Rows.TopRowsSaid := over
#print axioms proved
end topRows
end Go.Proofs.Ytppjmonbmlbhpaa
