/- Fewer shares tell nothing: whatever shares there are, fewer than are enough, and whatever secret one thinks of, there are rows that make just these shares of that secret; no conditions. -/
import Derived.Test.YtalbmcidlalicaaRows
import Derived.Test.YtalbmcidlalicaaHidesLaw
import Derived.Test.YtalbmcidlalicaaRowsOwn
import Derived.Test.YtalbmcidlalicaaCof
import Derived.Test.YtalbmcidlalicaaRefFault
import Derived.Test.YtalbmcidlalicaaSplitAny
import Derived.Test.YtalbmcidlalicaaCodeCells
import Derived.Test.YtalbmcidlalicaaMem4
import Derived.ShutString
import Derived.ChangeOld
import Derived.Below
namespace Go.Proofs.Ytalbmcidlalicaa
open Go.ChangeShapes Go.WideShapes Go.ChangeAt Go.RowKit
open Go.ChangeMaps (open_string shut_string)
set_option linter.unusedVariables false
namespace shareHides
theorem own : ownKnob Try.prog.godebug = none := by kernel_rfl
theorem laidOut : laidOutB Try.prog = true := by kernel_rfl

-- HOLE: the walk
set_option maxRecDepth 20000 in
set_option maxHeartbeats 8000000 in
theorem walk (x0 : List UInt8) (a0 : Option Addr) (c0 e0 : Nat) (x1 : List Sh) (a1 : Option Addr) (c1 e1 : Nat) (v1 : List Value) (w : World) (l0 : x0.length ≤ 9223372036854775807) (r0 : Rd w a0 e0 (x0.map vB)) (l1 : x1.length ≤ 9223372036854775807) (r1 : Rd w a1 e1 v1) (m1 : AreS (fun _ _ => True) w x1 v1) :
    Calls Try.prog 5 #[.slice a0 x0.length c0, .slice a1 x1.length c1] w fun e w' => e = .returned (.bool true) ∧ Below w.heap.size w w' := by
  have RF := fun w hr hs => RefFault_calls x1 1 20 1 20 rfl rfl a1 c1 e1 v1 w hr hs l1
  by_cases h1 : x1.length < 1
  · have q1 : decide ((x1.length : Int) < 1) = true := by rw [decide_eq_true_eq]; omega
    clear RF
    go_enter Try.func5, Try.ntmps5
    go_wp2_with fail
    refine (split_calls _).mono ?_; rintro e w1 ⟨rfl, hb1⟩
    go_wp2_with fail
    go_ret
    exact ⟨rfl, hb1⟩
  · have q1 : decide ((x1.length : Int) < 1) = false := by rw [decide_eq_false]; omega
    by_cases h2 : 6 < x1.length
    · have q2 : decide ((6 : Int) < (x1.length : Int)) = true := by rw [decide_eq_true_eq]; omega
      clear RF
      go_enter Try.func5, Try.ntmps5
      go_wp2_with fail
      refine (split_calls _).mono ?_; rintro e w1 ⟨rfl, hb1⟩
      go_wp2_with fail
      go_ret
      exact ⟨rfl, hb1⟩
    · have q2 : decide ((6 : Int) < (x1.length : Int)) = false := by rw [decide_eq_false]; omega
      by_cases h3 : sharesF 1 20 x1 x1.length = 0
      · rw [h3] at RF
        have hd0 : (x1[0]'(by omega)).data.length = (x1.headD default).data.length := (noFault h3 0 (by omega)).2.2.2
        by_cases h4 : (x1[0]'(by omega)).data.length = x0.length
        · have hdh : (x1.headD default).data.length = x0.length := by rw [← hd0, h4]
          have q4 : (((x1[0]'(by omega)).data.length : Int) != (x0.length : Int)) = false := by rw [bne_eq_false_iff_eq, h4]
          have H3 := Lib.hid h3
          have H4 := Lib.hid h4
          have Hdh := Lib.hid hdh
          clear h3 h4 hdh hd0
          by_cases h5 : 100 < x0.length
          · have q5 : decide ((100 : Int) < (x0.length : Int)) = true := by rw [decide_eq_true_eq]; omega
            go_enter Try.func5, Try.ntmps5
            go_wp2_with fail
            refine (split_calls _).mono ?_; rintro e w1 ⟨rfl, hb1⟩
            have F1 := RF w1 (r1.below hb1) (m1.below hb1)
            obtain ⟨b1, o1, a1', c1', e1', rfl, hbk, d0, d1, rd, _, _⟩ := AreS.cells (r1.below hb1) (m1.below hb1) (k := 0) (by omega)
            rw [show o1 + (2 * 0 + 1) = o1 + 1 by omega] at d1
            have i1 : 0 < x1.length := by omega
            clear d0
            go_wp2_with fail
            refine F1.mono ?_; rintro e w2 ⟨rfl, nd, rfl⟩
            have hb2 := below_drewN hb1 nd
            clear F1
            go_wp2_with fail
            go_ret
            exact ⟨rfl, hb2⟩
          · have q5 : decide ((100 : Int) < (x0.length : Int)) = false := by rw [decide_eq_false]; omega
            go_enter Try.func5, Try.ntmps5
            go_wp2_with fail
            refine (split_calls _).mono ?_; rintro e w1 ⟨rfl, hb1⟩
            have F1 := RF w1 (r1.below hb1) (m1.below hb1)
            obtain ⟨b1, o1, a1', c1', e1', rfl, hbk, d0, d1, rd, _, _⟩ := AreS.cells (r1.below hb1) (m1.below hb1) (k := 0) (by omega)
            rw [show o1 + (2 * 0 + 1) = o1 + 1 by omega] at d1
            have i1 : 0 < x1.length := by omega
            clear d0
            go_wp2_with fail
            refine F1.mono ?_; rintro e w2 ⟨rfl, nd, rfl⟩
            have hb2 := below_drewN hb1 nd
            clear F1
            obtain ⟨w2, hw2⟩ : ∃ w2, w2 = w1.drewN nd := ⟨_, rfl⟩
            have d2 := d1
            rw [← World.cell?_drewN (n := nd), ← hw2] at d2
            rw [← hw2] at hb2 ⊢
            clear hw2
            obtain ⟨i1', hi1, hz1, hs1, hbb1⟩ := info_parts info_bs
            have r12 := r1.below hb2
            have m12 := m1.below hb2
            have r02 := r0.below hb2
            clear d1 rd RF
            obtain ⟨M, hM⟩ : ∃ M, M = w2.heap.size := ⟨_, rfl⟩
            have HM := Lib.hid hM
            go_wp2_with (at_make; refine wpList_make_full _ rfl _ _ 37 rfl w2.heap.size 30 i1' (.slice none 0 0) 1 Try.underlying37 hi1 hz1 hs1 _ _ _ _ x1.length rfl rfl rfl rfl ?c1 ?c2 ?c3 ?_)
            case c1 => rw [hbb1]; omega
            case c2 => simp only [maxLen]; omega
            case c3 => exact Nat.le_refl _
            intro w3 hown3 hgrow3
            rw [made_one] at hown3
            have hb3 : Below w2.heap.size w2 w3 := (Below.refl _ w2).grown hgrow3 (Nat.le_refl _) (fun k hk => by cases hk)
            clear hgrow3
            rw [← hM] at hown3 ⊢
            have hMs : M < w3.heap.size := (hown3.lt M rfl).2
            clear hM
            go_wp2_with fail
            go_loopw [7] (fun i wr => ∃ (k : Nat) (vs : List Value), k ≤ x0.length ∧ i = .int .i64 k ∧ wr.ownsRow M 30 1 (.slice (some ⟨M, 0, none⟩) x1.length x1.length) x1.length vs ∧ RowsOwn (M + 1) 5 wr (moreH x0 x1 k) vs ∧ Below w2.heap.size w2 wr) (fun i _ => x0.length - (intOf i).toNat)
            case atStart => exact ⟨0, _, Nat.zero_le _, rfl, hown3, by rw [moreH_zero]; exact RowsOwn.nils _ _ _ _, hb3⟩
            case round =>
              obtain ⟨k, vs, hk, rfl, hown, hro, hbl⟩ := hrel
              clear hown3 hb3 hMs
              have hMr : M < wr.heap.size := (hown.lt M rfl).2
              have hvl : vs.length = x1.length := by have := hown.1; simpa using this
              by_cases hlt : k < x0.length
              · obtain ⟨bs, os, rfl, hbs, hcs⟩ := r02.bytes hlt
                have cs0 : wr.cell? ⟨bs, os + k, none⟩ = some (.int .u8 (x0.getD k 0).toNat) := by
                  rw [List.getD_eq_getElem?_getD, List.getElem?_eq_getElem hlt]
                  exact (hbl.cell (p := ⟨bs, os + k, none⟩) hbs).trans (hcs k hlt)
                clear hcs
                have k0 : (0 : Int) ≤ (k : Int) := by omega
                have k1 : (k : Int) < (x0.length : Int) := by omega
                have Hvl := Lib.hid hvl
                clear hvl
                obtain ⟨wo, rfl⟩ : ∃ wo : World, wo = wr := ⟨_, rfl⟩
                obtain ⟨s0, hs0⟩ : ∃ s0, s0 = x0.getD k 0 := ⟨_, rfl⟩
                rw [← hs0] at cs0
                have Hs0 := Lib.hid hs0
                have cs1 : (wo.alloc (.cells #[.int .u8 0] 5)).cell? ⟨bs, os + k, none⟩ = some (.int .u8 s0.toNat) := (World.cell?_alloc_lt _ _ ⟨bs, os + k, none⟩ (by have h8 := hbl.size; show bs < _; omega)).trans cs0
                clear hs0
                go_wp2_with fail
                go_loopw [8, 9, 10] (fun va vv i wr => ∃ j : Nat, j ≤ x1.length ∧ i = .int .i64 j ∧ RowsOwn wo.heap.size 5 wr [(atsH x1).take (j + 1), (valsH x0 x1 k).take (j + 1)] [va, vv] ∧ Below wo.heap.size wo wr) (fun _ _ i _ => x1.length - (intOf i).toNat)
                case atStart =>
                  refine ⟨0, Nat.zero_le _, rfl, ?_, ((Below.refl _ _).alloc (Nat.le_refl _) _).alloc (by simp) _⟩
                  have h1 := (RowsOwn.nils wo.heap.size 5 wo 0).snoc (base' := wo.heap.size) (r := [0]) ((Below.refl _ wo).alloc (Nat.le_refl _) (.cells #[.int .u8 0] 5)) (own_new1 wo wo.heap.size 5 (.int .u8 0) (Nat.le_refl _)) (Nat.le_refl _) (Nat.le_refl _)
                  have h2 := h1.snoc (base' := wo.heap.size + 1) (r := [s0]) ((Below.refl _ _).alloc (Nat.le_refl _) (.cells #[.int .u8 s0.toNat] 5)) (own_new1 _ (wo.heap.size + 1) 5 (.int .u8 s0.toNat) (by simp)) (by simp) (by omega)
                  have e1 : (atsH x1).take (0 + 1) = [0] := rfl
                  have e2 : (valsH x0 x1 k).take (0 + 1) = [s0] := by rw [Hs0.out]; rfl
                  rw [e1, e2]
                  simpa using h2
                case round =>
                  obtain ⟨j, hj, rfl, hr2, hbo⟩ := hrel
                  have hosz := hbo.size
                  have hla : ((atsH x1).take (j + 1)).length = j + 1 := by rw [List.length_take, atsH_length]; omega
                  have hlv : ((valsH x0 x1 k).take (j + 1)).length = j + 1 := by rw [List.length_take, valsH_length]; omega
                  have H0 := pair0 hr2 hla
                  have H1 := pair1 hr2 hlv
                  have Hla := Lib.hid hla
                  have Hlv := Lib.hid hlv
                  clear hla hlv
                  by_cases hjl : j < x1.length
                  · obtain ⟨bj, oj, aj, cj, ej, hej, hbj, g0, g1, gr, _, _⟩ := AreS.cells r12 m12 hjl
                    obtain ⟨rfl, rfl⟩ : b1 = bj ∧ o1 = oj := by simpa using hej
                    clear hej
                    have hdl : (x1[j]'hjl).data.length = x0.length := by rw [(noFault H3.out j hjl).2.2.2, Hdh.out]
                    rw [show o1 + 2 * j = o1 + j * 2 by omega] at g0
                    rw [show o1 + (2 * j + 1) = o1 + j * 2 + 1 by omega, hdl] at g1
                    obtain ⟨bd, od, rfl, hbd, hcd⟩ := gr.bytes (k := k) (by rw [hdl]; exact hlt)
                    have g2 := hcd k (by rw [hdl]; exact hlt)
                    have hbw : Below w2.heap.size w2 wr := hbl.trans (hbo.mono hbl.size)
                    have f0 := (hbw.cell (p := ⟨b1, o1 + j * 2, none⟩) hbj).trans g0
                    have f1 := (hbw.cell (p := ⟨b1, o1 + j * 2 + 1, none⟩) hbj).trans g1
                    have f2 := (hbw.cell (p := ⟨bd, od + k, none⟩) hbd).trans g2
                    have ea : (atsH x1).take (j + 1 + 1) = (atsH x1).take (j + 1) ++ [(x1[j]'hjl).at_] := by
                      rw [List.take_succ_eq_append_getElem (by rw [atsH_length]; omega)]; simp [atsH]
                    have ev0 : (valsH x0 x1 k)[j + 1]'(by rw [valsH_length]; omega) = (x1[j]'hjl).data[k]'(by rw [hdl]; exact hlt) := by
                      simp only [valsH, List.getElem_cons_succ, List.getElem_map]
                      rw [List.getD_eq_getElem?_getD, List.getElem?_eq_getElem (by rw [hdl]; exact hlt)]; rfl
                    have ev : (valsH x0 x1 k).take (j + 1 + 1) = (valsH x0 x1 k).take (j + 1) ++ [(x1[j]'hjl).data[k]'(by rw [hdl]; exact hlt)] := by
                      rw [List.take_succ_eq_append_getElem (by rw [valsH_length]; omega), ev0]
                    obtain ⟨y, hy⟩ : ∃ y, y = (x1[j]'hjl).data[k]'(by rw [hdl]; exact hlt) := ⟨_, rfl⟩
                    rw [← hy] at ev f2 g2
                    have G2 := Lib.hid g2
                    have j0 : (0 : Int) ≤ (j : Int) := by omega
                    have j1 : (j : Int) < (x1.length : Int) := by omega
                    have Ea := Lib.hid ea
                    have Ev := Lib.hid ev
                    clear ea ev ev0 hy g0 g2 hcd hdl gr
                    generalize (x1[j]'hjl).at_ = x at *
                    obtain ⟨aA, cA, rfl⟩ := own_slice H0
                    obtain ⟨aV, cV, rfl⟩ := own_slice H1
                    go_wp2_with (first | (at_builtin; refine app1 30 5 (.int .u8 0) 1 Try.underlying30 info_u8 rfl (by omega) rfl (.tmp 69) (.tmp 75) rfl wo.heap.size _ (j + 1) _ rfl (H0.alloc _) ⟨wr.heap.size, 0, none⟩ 1 (.int .u8 x.toNat) rfl (by simp) rfl (by omega) (by simp; omega) _ rfl ?_; intro gA capA w4 hownA hgA hatA hltA; have hb4 : Below wo.heap.size wo w4 := below_grow (hbo.alloc (by omega) _) (H0.alloc _) hgA (by simp; omega); have hb24 : Below w2.heap.size w2 w4 := hbl.trans (hb4.mono hbl.size); have p1 : w4.cell? ⟨b1, o1 + j * 2 + 1, none⟩ = some (.slice (some ⟨bd, od, none⟩) x0.length cj) := (hb24.cell (p := ⟨b1, o1 + j * 2 + 1, none⟩) hbj).trans g1; have p2 : w4.cell? ⟨bd, od + k, none⟩ = some (.int .u8 y.toNat) := (hb24.cell (p := ⟨bd, od + k, none⟩) hbd).trans G2.out; have hr4 := pair_first hr2 _ Hla.out hownA hgA hatA; have H5 := pair1 hr4 Hlv.out; have hsz4 := hb4.size; clear hownA hgA hatA hltA) | (at_builtin; refine app1 30 5 (.int .u8 0) 1 Try.underlying30 info_u8 rfl (by omega) rfl (.tmp 77) (.tmp 86) rfl wo.heap.size _ (j + 1) _ rfl (H5.alloc _) ⟨w4.heap.size, 0, none⟩ 1 (.int .u8 y.toNat) rfl (by simp) rfl (by omega) (by simp; omega) _ rfl ?_; intro gB capB w5 hownB hgB hatB hltB; have hb5 : Below wo.heap.size wo w5 := below_grow (hb4.alloc (by omega) _) (H5.alloc _) hgB (by simp; omega); have hr5 := pair_second hr4 _ Hlv.out hownB hgB hatB; clear hownB hgB hatB hltB))
                    rw [← Ea.out, ← Ev.out] at hr5
                    go_roundw
                    case rel => exact ⟨j + 1, by omega, by go_num, hr5, hb5⟩
                    case measure => simp [intOf] <;> omega
                  · obtain rfl : j = x1.length := by omega
                    rw [List.take_of_length_le (by rw [atsH_length]; omega)] at H0
                    rw [List.take_of_length_le (by rw [valsH_length]; omega)] at H1
                    obtain ⟨aA, cA, rfl⟩ := own_slice H0
                    obtain ⟨aV, cV, rfl⟩ := own_slice H1
                    have CC := Coef_calls (atsH x1) (valsH x0 x1 k) aA aV cA 5 cV 5 wr (Rd.of_own H0) (Rd.of_own H1) (by rw [atsH_length, valsH_length]) (by rw [atsH_length]; omega)
                    rw [atsH_length, valsH_length] at CC
                    have hro2 := hro.below hbo
                    have hown2 := own_below hown hbo
                    have hb2r : Below w2.heap.size w2 wr := hbl.trans (hbo.mono hbl.size)
                    clear hr2 H0 H1 cs0 cs1
                    go_wp2_with fail
                    refine CC.mono ?_; rintro e w6 ⟨ac, capc, rfl, hownc, hb6⟩
                    clear CC
                    have hcl : (Gf.cofs (atsH x1) (valsH x0 x1 k) (x1.length + 1)).length = x1.length + 1 := by rw [Gf.cofs_length, atsH_length]
                    have hcK : Gf.cofs (atsH x1) (valsH x0 x1 k) (x1.length + 1) = cofK x0 x1 k := by unfold cofK; rw [atsH_length]
                    rw [hcK] at hownc hcl ⊢
                    rw [hcl] at hownc ⊢
                    have hro6 := hro2.snoc (base' := wr.heap.size) (r := cofK x0 x1 k) hb6 (by rw [hcl]; exact hownc) (Nat.le_refl _) (by omega)
                    have hown6 := own_below hown2 hb6
                    have hb26 : Below w2.heap.size w2 w6 := hb2r.trans (hb6.mono hb2r.size)
                    rw [← moreM_zero] at hro6
                    have Hcl := Lib.hid hcl
                    clear hcl hcK hownc hro2 hown2 hro hown
                    go_wp2_with fail
                    go_loopw [12] (fun i wr => ∃ (j : Nat) (vs : List Value), j ≤ x1.length ∧ i = .int .i64 j ∧ wr.ownsRow M 30 1 (.slice (some ⟨M, 0, none⟩) x1.length x1.length) x1.length vs ∧ RowsOwn (M + 1) 5 wr (moreM x0 x1 k j ++ [cofK x0 x1 k]) (vs ++ [.slice ac (x1.length + 1) capc]) ∧ Below w2.heap.size w2 wr) (fun i _ => x1.length - (intOf i).toNat)
                    case atStart => exact ⟨0, vs, Nat.zero_le _, rfl, hown6, hro6, hb26⟩
                    case round =>
                      obtain ⟨j, us, hj, rfl, hownM, hroM, hbM⟩ := hrel
                      have hul : us.length = x1.length := by have := hownM.1; simpa using this
                      by_cases hjl : j < x1.length
                      · have hml : j < (moreM x0 x1 k j).length := by rw [moreM_length]; exact hjl
                        have hgj := moreM_get x0 x1 k j j hml
                        rw [if_neg (Nat.lt_irrefl j)] at hgj
                        have hset := moreM_set x0 x1 k j hjl
                        have H0 := hroM.2.1 j (by rw [List.length_append]; omega) (by rw [List.length_append]; omega)
                        rw [List.getElem_append_left hml, List.getElem_append_left (show j < us.length by omega)] at H0
                        have hlk : (moreM x0 x1 k j)[j].length = k := by rw [hgj]; simp
                        obtain ⟨aj, cj, hvj⟩ := own_slice H0
                        rw [hvj, hlk] at H0
                        rw [hlk] at hvj
                        have hvj' : us[j]? = some (.slice aj k cj) := by rw [List.getElem?_eq_getElem (show j < us.length by omega), hvj]
                        have hcM := own_cell hownM (k := j) (by omega)
                        rw [hvj] at hcM
                        have cM := hcM.1
                        have fM := hcM.2
                        have H1 := hroM.last
                        rw [Hcl.out] at H1
                        obtain ⟨bc, oc, hac, hbc, hcc⟩ := (Rd.of_own H1).bytes (k := j + 1) (by rw [Hcl.out]; omega)
                        subst hac
                        have cC := hcc (j + 1) (by rw [Hcl.out]; omega)
                        have hrw : (cofK x0 x1 k)[j + 1]'(by rw [Hcl.out]; omega) = rowH x0 x1 j k := by
                          unfold rowH; rw [List.getD_eq_getElem?_getD, List.getElem?_eq_getElem (by rw [Hcl.out]; omega)]; rfl
                        rw [hrw] at cC
                        have Hset := Lib.hid hset
                        have Hlk := Lib.hid hlk
                        have Hvj := Lib.hid hvj'
                        have HuL := Lib.hid hul
                        have neM : some M ≠ (Value.slice aj k cj).ownBlock := fun e => own_ne H0 (Nat.lt_succ_self M) M e.symm rfl
                        have hMsz : M < wr.heap.size := (hownM.lt M rfl).2
                        have hbsz := hbM.size
                        have j0 : (0 : Int) ≤ (j : Int) := by omega
                        have j1 : (j : Int) < (x1.length : Int) := by omega
                        have j2 : (j : Int) + 1 < (x1.length : Int) + 1 := by omega
                        have s2 : (0 : Int) ≤ (j : Int) + 1 := by omega
                        have s1 : IntKind.i64.wrap ((j : Int) + 1) = (j : Int) + 1 := IntWalk.i64_in _ (by omega)
                        have s3 : ((j : Int) + 1).toNat = j + 1 := by omega
                        clear hgj hset hlk hcM hcc hrw hvj hvj' hul H1
                        generalize rowH x0 x1 j k = y at *
                        generalize (moreM x0 x1 k j)[j] = rj at *
                        obtain ⟨W0, hW0⟩ : ∃ W0, W0 = wr := ⟨_, rfl⟩
                        go_wp2_with fail
                        rw [← hW0] at cM fM cC hMsz hownM hroM hbM H0 hbsz ⊢
                        clear hW0
                        go_region_law
                          ((go_loud (refine stepApp1 30 5 (.int .u8 0) 1 Try.underlying30 info_u8 rfl (by omega) (by rfl) (.tmp 102) (.tmp 108) (by rfl) (M + 1) (.slice aj k cj) k (rj.map vB) (by rfl) ((own_drew H0).alloc _) ⟨W0.heap.size, 0, none⟩ 1 (.int .u8 y.toNat) (by rfl) (by simp <;> done) rfl (by omega) (by simp <;> omega) _ rfl ?_; intro gA capA wA hownA hgrowA hatA hltA; have hBA := (hgrowA.block M (by simp <;> omega) neM).trans (Below.heap_alloc W0.drew (.cells #[.int .u8 y.toNat] 5) M hMsz); have hownMA := own_of_block hownM (fun g hg => by cases hg; exact hBA); have hMA := own_cell hownMA (k := j) (by rw [HuL.out]; exact hjl); have hfA : wA.frozen? ⟨M, j, none⟩ = false := hMA.2; have hcA : wA.cell? ⟨M, j, none⟩ = some (.slice aj k cj) := hMA.1.trans (by rw [← List.getElem?_eq_getElem, Hvj.out]))))
                        all_goals
                          have huj : (us ++ [Value.slice (some ⟨bc, oc, none⟩) (x1.length + 1) capc])[j]'(by rw [List.length_append, HuL.out]; omega) = .slice aj k cj := by
                            rw [List.getElem_append_left (show j < us.length by rw [HuL.out]; exact hjl)]
                            have h9 := Hvj.out
                            rw [List.getElem?_eq_getElem (show j < us.length by rw [HuL.out]; exact hjl)] at h9
                            exact Option.some.inj h9
                          have hroA := (hroM.below ((Below.refl _ W0).drew.alloc (Nat.le_refl _) (.cells #[.int .u8 y.toNat] 5))).grown (i := j) (by rw [List.length_append, moreM_length]; omega) (by rw [List.length_append, HuL.out]; omega) (r := rj ++ [y]) (v := .slice (some ⟨gA, 0, none⟩) (k + 1) capA) (H := (W0.drew.alloc (.cells #[.int .u8 y.toNat] 5)).heap.size) (by rw [List.length_append, Hlk.out, List.map_append]; exact hownA) (by rw [huj]; exact hgrowA) rfl (by rw [huj]; exact hatA) (Nat.le_refl _)
                          rw [List.set_append_left _ _ (show j < (moreM x0 x1 k j).length by rw [moreM_length]; exact hjl), List.set_append_left _ _ (show j < us.length by rw [HuL.out]; exact hjl), Hset.out] at hroA
                          have hro7 := hroA.setOther ⟨M, j, none⟩ (.slice (some ⟨gA, 0, none⟩) (k + 1) capA) (Nat.lt_succ_self M)
                          have hown7 := own_set hownMA j (.slice (some ⟨gA, 0, none⟩) (k + 1) capA)
                          have hMD : w2.heap.size ≤ M := by rw [HM.out]; exact Nat.le_refl _
                          have hbA : Below w2.heap.size w2 wA := below_grow (hbM.drew.alloc (by simp; omega) _) ((own_base (own_drew H0) (by omega)).alloc _) hgrowA (by simp; omega)
                          have hb7 := hbA.setCell (p := ⟨M, j, none⟩) hMD (.slice (some ⟨gA, 0, none⟩) (k + 1) capA)
                          clear hgrowA hatA hltA hownA hbA hBA hfA hcA hroA huj hMA hownMA cM fM cC
                          go_wp2
                          go_roundw
                        all_goals first
                          | exact ⟨j + 1, _, by omega, by go_num, hown7, hro7, hb7⟩
                          | (simp [intOf] <;> omega)
                      · obtain rfl : j = x1.length := by omega
                        rw [moreM_all] at hroM
                        go_wp2_with fail
                        go_roundw
                        case rel => exact ⟨k + 1, us, by omega, by go_num, hownM, hroM.init, hbM⟩
                        case measure => simp [intOf] <;> omega
              · obtain rfl : k = x0.length := by omega
                have SC := Split_calls x0 20 (moreH x0 x1 x0.length) a0 c0 e0 (some ⟨M, 0, none⟩) x1.length 30 vs wr (r02.below hbl) (Rd.of_own hown) hro.areB (by omega) (by omega) (by omega) (by rw [moreH_length]; omega)
                rw [moreH_length] at SC
                have hr2 := r12.below hbl
                clear hown hro hvl
                go_wp2_with fail
                refine SC.mono ?_; rintro e w8 ⟨hb8, h8⟩
                rcases h8 with ⟨_, sa, scap, svs, rfl, _, _, sr, sA⟩ | ⟨⟨r, hr, hne⟩, _⟩
                · have hb28 : Below w2.heap.size w2 w8 := hbl.trans (hb8.mono hbl.size)
                  have HA : AreS (fun _ _ => True) w8 (splitOf x0 20 (moreH x0 x1 x0.length)) svs := sA.mono fun _ _ _ _ => trivial
                  have Hsr := Lib.hid sr
                  have HHA := Lib.hid HA
                  clear SC sA sr HA hb8 hbl hr2
                  go_wp2_with fail
                  obtain ⟨wo, rfl⟩ : ∃ wo : World, wo = w8 := ⟨_, rfl⟩
                  go_loopw [15] (fun i wr => ∃ j : Nat, j ≤ x1.length ∧ i = .int .i64 j ∧ Below wo.heap.size wo wr) (fun i _ => x1.length - (intOf i).toNat)
                  case atStart => exact ⟨0, Nat.zero_le _, rfl, Below.refl _ _⟩
                  case round =>
                    obtain ⟨j, hj, rfl, hbo⟩ := hrel
                    by_cases hjl : j < x1.length
                    · have hb2o : Below w2.heap.size w2 wr := hb28.trans (hbo.mono hb28.size)
                      obtain ⟨bj, oj, aj, cj, ej, hej, hbj, g0, g1, gr, _, hdl⟩ := AreS.cells r12 m12 hjl
                      obtain ⟨rfl, rfl⟩ : b1 = bj ∧ o1 = oj := by simpa using hej
                      clear hej
                      have hnf := noFault H3.out j hjl
                      have hsh := hides_share H3.out Hdh.out j hjl
                      obtain ⟨q, hq⟩ : ∃ q : Nat, (x1[j]'hjl).at_.toNat = q + 1 := ⟨(x1[j]'hjl).at_.toNat - 1, by omega⟩
                      have hq20 : q < 20 := by omega
                      have hX : UInt8.ofNat (q + 1) = (x1[j]'hjl).at_ := by rw [← hq]; simp
                      obtain ⟨b9, o9, a9, c9, e9, rfl, hb9, _, k1, kr, _, _⟩ := AreS.cells Hsr.out HHA.out (k := q) (by rw [splitOf_length]; exact hq20)
                      have gs : (splitOf x0 20 (moreH x0 x1 x0.length))[q]'(by rw [splitOf_length]; exact hq20) = shareOf x0 (moreH x0 x1 x0.length) (x1[j]'hjl).at_ := by simp only [splitOf, List.getElem_map, List.getElem_range]; rw [hX]
                      rw [gs, hsh] at k1 kr
                      rw [hq] at g0
                      rw [show o1 + 2 * j = o1 + j * 2 by omega, show ((q + 1 : Nat) : Int) = (q : Int) + 1 by omega] at g0
                      rw [show o1 + (2 * j + 1) = o1 + j * 2 + 1 by omega] at g1
                      rw [show o9 + (2 * q + 1) = o9 + q * 2 + 1 by omega] at k1
                      have f0 := (hb2o.cell (p := ⟨b1, o1 + j * 2, none⟩) hbj).trans g0
                      have f1 := (hb2o.cell (p := ⟨b1, o1 + j * 2 + 1, none⟩) hbj).trans g1
                      have f2 := (hbo.cell (p := ⟨b9, o9 + q * 2 + 1, none⟩) hb9).trans k1
                      have BQ : ∀ w' : World, (∃ n, w' = wr.drewN n) → Calls Try.prog 18 #[.slice a9 (x1[j]'hjl).data.length c9, .slice aj (x1[j]'hjl).data.length cj] w' fun e w'' => e = .returned (.bool true) ∧ ∃ n, w'' = w'.drewN n := by
                        rintro w' ⟨n, rfl⟩
                        have h8 := Bytes_calls (x1[j]'hjl).data (x1[j]'hjl).data a9 aj c9 cj e9 ej (wr.drewN n) (kr.below (below_drewN hbo n)) (gr.below (below_drewN hb2o n)) hdl
                        rw [decide_eq_true rfl] at h8
                        exact h8
                      have j0 : (0 : Int) ≤ (j : Int) := by omega
                      have j1 : (j : Int) < (x1.length : Int) := by omega
                      have s1 : IntKind.i64.wrap ((q : Int) + 1) = (q : Int) + 1 := IntWalk.i64_in _ (by omega)
                      have s2 : IntKind.i64.wrap ((q : Int) + 1 - 1) = (q : Int) := by rw [show (q : Int) + 1 - 1 = q by omega]; exact IntWalk.i64_in _ (by omega)
                      have s3 : IntKind.i64.wrap (q : Int) = (q : Int) := IntWalk.i64_in _ (by omega)
                      have s4 : (0 : Int) ≤ (q : Int) := by omega
                      have s5 : (q : Int) < 20 := by omega
                      clear hnf hsh hX gs g0 g1 k1 gr kr hq
                      go_wp2_with fail
                      go_quiet ((go_at_call 18; exact Calls.quiet_of (BQ _ ⟨_, rfl⟩)))
                      clear s1 s2 s3
                      go_wp2_with fail
                      go_roundw
                      case rel => exact ⟨j + 1, by omega, by go_num, below_drewN hbo _⟩
                      case measure => simp [intOf] <;> omega
                    · obtain rfl : j = x1.length := by omega
                      have hbf : Below w.heap.size w wr := (hb2.trans (hb28.mono hb2.size)).trans (hbo.mono (hb2.trans (hb28.mono hb2.size)).size)
                      go_wp2_with fail
                      go_ret
                      exact ⟨rfl, hbf⟩
                · exact absurd (moreH_len _ _ _ r hr) hne
        · have q4 : (((x1[0]'(by omega)).data.length : Int) != (x0.length : Int)) = true := by rw [bne_iff_ne]; omega
          clear h3 h4 hd0
          go_enter Try.func5, Try.ntmps5
          go_wp2_with fail
          refine (split_calls _).mono ?_; rintro e w1 ⟨rfl, hb1⟩
          have F1 := RF w1 (r1.below hb1) (m1.below hb1)
          obtain ⟨b1, o1, a1', c1', e1', rfl, hbk, d0, d1, rd, _, _⟩ := AreS.cells (r1.below hb1) (m1.below hb1) (k := 0) (by omega)
          rw [show o1 + (2 * 0 + 1) = o1 + 1 by omega] at d1
          have i1 : 0 < x1.length := by omega
          clear d0
          go_wp2_with fail
          refine F1.mono ?_; rintro e w2 ⟨rfl, nd, rfl⟩
          have hb2 := below_drewN hb1 nd
          clear F1
          go_wp2_with fail
          go_ret
          exact ⟨rfl, hb2⟩
      · have q3 : (sharesF 1 20 x1 x1.length != 0) = true := by rw [bne_iff_ne]; exact h3
        clear h3
        go_enter Try.func5, Try.ntmps5
        go_wp2_with fail
        refine (split_calls _).mono ?_; rintro e w1 ⟨rfl, hb1⟩
        have F1 := RF w1 (r1.below hb1) (m1.below hb1)
        go_wp2_with fail
        refine F1.mono ?_; rintro e w2 ⟨rfl, nd, rfl⟩
        have hb2 := below_drewN hb1 nd
        clear F1
        go_wp2_with fail
        go_ret
        exact ⟨rfl, hb2⟩

set_option maxRecDepth 100000 in
theorem lifted (os : Os) (started : os.Started) (H : Type) (enc : TypeId × Value → H) :
    ReturnsInHanded {} Try.checked os 5 .any (Rows.shareHidesSpec.pre6 enc Try.prog Try.f5 Rows.shareHidesRow.domain false) (Rows.shareHidesSpec.post enc Try.prog Try.f5 false true false false) := by
  refine returnsInHanded_of_change (C := Try.checked) own started (by kernel_rfl) Try.func5
    (ChangeSpec.witness6 (enc := enc) (C := Try.checked) false ⟨#[], #[.slice none 0 0, .slice none 0 0], []⟩ 8 (by kernel_rfl) (by kernel_rfl) (by kernel_rfl) (by kernel_rfl)) ?_
  intro W base args ds gs before hval0 hW hcnd _
  have hval : ∀ (j : Nat) t v, Try.f5.params[j]? = some t → args[j]? = some v → Value.okWide Try.prog W .any base t v := hval0
  have hW' := hW
  obtain ⟨p, q, hA0, hV, rfl, hfz, hnd⟩ := hW
  have hA : DataW.TrodAll enc Try.prog W 0 (fun _ => true) true Try.f5.params.toList args.toList ds p := hA0
  rw [Try.params5] at hA hval
  obtain ⟨v0, vs0, d0, ds0, p0, q0, hargs, rfl, rfl, h0, r0⟩ := trodAll_cons hA
  obtain ⟨v1, vs1, d1, ds1, p1, q1, rfl, rfl, rfl, h1, r1⟩ := trodAll_cons r0
  obtain ⟨rfl, rfl, rfl⟩ := trodAll_nil r1
  obtain rfl : args = #[v0, v1] := by cases args; simp_all
  obtain ⟨rfl, rfl⟩ := trodVars_none hV
  have k0 := h0
  have lt0 : ∀ x ∈ p0, x.block < W.heap.size := by obtain ⟨m, hm⟩ := k0; exact DataW.trod_lt m _ _ _ hm
  obtain ⟨x0, a0, c0, e0, rfl, l0, r_0⟩ := open_bytes Try.underlying30 Try.underlying5 (by kernel_rfl) (hval 0 30 v0 rfl rfl) h0
  have k1 := h1
  have lt1 : ∀ x ∈ p1, x.block < W.heap.size := by obtain ⟨m, hm⟩ := k1; exact DataW.trod_lt m _ _ _ hm
  obtain ⟨x1, a1, c1, e1, u1, rfl, g1, g_1, r_1, m1⟩ := open_shares Try.underlying31 Try.underlying36 Try.underlying5 Try.underlying30 Try.underlying5 (by kernel_rfl) (by kernel_rfl) (by kernel_rfl) (by kernel_rfl) rfl rfl (hval 1 31 v1 rfl rfl) h1
  have l1 : x1.length ≤ 9223372036854775807 := by omega
  clear hA0 hval0
  refine (walk x0 a0 c0 e0 x1 a1 c1 e1 u1 W l0 r_0 l1 r_1 m1).mono fun e W' ⟨he, bel⟩ => ?_
  subst he
  exact ⟨_, rfl, _, _, _, [], _, [], hW', trodAll_mk1 (shut_bool Try.underlying4 _), (trodAll_cons_mk (Below.trod laidOut (by kernel_rfl) (of_decide_eq_true (by kernel_rfl)) k0 bel lt0) (trodAll_cons_mk (Below.trod laidOut (by kernel_rfl) (of_decide_eq_true (by kernel_rfl)) k1 bel lt1) trodAll_mk0)), rfl, bel.frame _, fun h => by cases h⟩

theorem over : Rows.shareHidesRow.holds Try.pinned (OpenSpec.ofChange Rows.shareHidesSpec) :=
  OpenClaim.holds_of_wide 5 Try.f5 rfl rfl rfl rfl rfl rfl rfl ⟨rfl, rfl, rfl, rfl, rfl⟩ rfl rfl rfl rfl rfl (by kernel_rfl) Try.func5 (by kernel_rfl)
    (of_decide_eq_true (by kernel_rfl)) (by unfold Func.isWrapper; first | (rw [if_pos (by decide +kernel)]; kernel_rfl) | (rw [if_neg (by decide +kernel)]; exact ⟨rfl, rfl⟩))
    (fun os started H enc _ => lifted os started H enc)

theorem proved : Rows.ShareHidesSaid := over
#print axioms proved
end shareHides
end Go.Proofs.Ytalbmcidlalicaa
