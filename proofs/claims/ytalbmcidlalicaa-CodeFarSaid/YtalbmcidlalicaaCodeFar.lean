/- SINGLETON: two lists of rows that differ part, spread, in more rows than were added: oathbooklaw2.CodeFar answers true at every input. -/
import Derived.Test.YtalbmcidlalicaaRows
import Derived.Test.YtalbmcidlalicaaSpread
import Derived.Test.YtalbmcidlalicaaOpen
import Derived.ShutString
import Derived.ChangeOld
import Derived.Below
namespace Go.Proofs.Ytalbmcidlalicaa
open Go.ChangeShapes Go.WideShapes Go.ChangeAt Go.RowKit
open Go.ChangeMaps (open_string shut_string)
set_option linter.unusedVariables false
namespace codeFar
theorem own : ownKnob Try.prog.godebug = none := by kernel_rfl
theorem laidOut : laidOutB Try.prog = true := by kernel_rfl

set_option maxHeartbeats 4000000 in
theorem walk (x0 : List (List UInt8)) (a0 : Option Addr) (c0 e0 : Nat) (v0 : List Value) (x1 : List (List UInt8)) (a1 : Option Addr) (c1 e1 : Nat) (v1 : List Value) (a2 : Int) (w : World) (l0 : x0.length ≤ 9223372036854775807) (r0 : Rd w a0 e0 v0) (m0 : AreB (fun _ _ => True) w x0 v0) (l1 : x1.length ≤ 9223372036854775807) (r1 : Rd w a1 e1 v1) (m1 : AreB (fun _ _ => True) w x1 v1) (h2 : -9223372036854775808 ≤ a2 ∧ a2 ≤ 9223372036854775807) :
    Calls Try.prog 6 #[.slice a0 x0.length c0, .slice a1 x1.length c1, .int .i64 a2] w fun e w' => e = .returned (.bool true) ∧ Below w.heap.size w w' := by
  by_cases hfa : spreadF x0 a2 = 0
  · by_cases hfb : spreadF x1 a2 = 0
    · obtain ⟨za, ka, na, La, alla⟩ := spreadF_zero hfa
      obtain ⟨zb, kb, nb, Lb, allb⟩ := spreadF_zero hfb
      obtain ⟨n, rfl⟩ : ∃ n : Nat, a2 = n := ⟨a2.toNat, by omega⟩
      have CA := fun w hb hv => Spread_ok hfa a0 c0 e0 v0 w hb hv l0
      have CB := fun w hb hv => Spread_ok hfb a1 c1 e1 v1 w hb hv l1
      have FC := Spread_fact
      simp only [Int.toNat_natCast] at CA CB
      have HL := Lib.hid alla
      have HM := Lib.hid allb
      have Hfa := Lib.hid hfa
      clear hfa hfb alla allb
      obtain ⟨same, hs⟩ : ∃ s, s = decide (x0 = x1) := ⟨_, rfl⟩
      have RC := fun w ha hau hb hbv => Rows_calls x0 x1 a0 a1 c0 c1 e0 e1 v0 v1 w ha hau hb hbv (by omega)
      rw [← hs] at RC
      have Hs := Lib.hid hs
      clear hs
      by_cases hlen : x0.length = x1.length
      · have q1 : ((x0.length : Int) != (x1.length : Int)) = false := by rw [bne_eq_false_iff_eq]; omega
        have Hlen := Lib.hid hlen
        have hle1 : x0.length ≤ x1.length := by omega
        have hle2 : x1.length ≤ x0.length := by omega
        clear hlen
        cases same with
        | true =>
          go_enter Try.func6, Try.ntmps6
          go_wp2_with fail
          refine (FC _).mono ?_; rintro e w1 ⟨fa, fcap, fvs, rfl, hb1, fr, fA⟩
          go_wp2_with fail
          refine (CA _ (r0.below hb1) (m0.below hb1)).mono ?_; rintro e w2 ⟨xa, xcap, xvs, rfl, hb2, xr, xA⟩
          have hb12 := hb1.trans (hb2.mono hb1.size)
          go_wp2_with fail
          refine (CB _ (r1.below hb12) (m1.below hb12)).mono ?_; rintro e w3 ⟨ya, ycap, yvs, rfl, hb3, yr, yA⟩
          have hb13 := hb12.trans (hb3.mono hb12.size)
          go_wp2_with fail
          refine (RC _ (r0.below hb13) (m0.below hb13) (r1.below hb13) (m1.below hb13)).mono ?_; rintro e w4 ⟨rfl, nq, rfl⟩
          go_wp2_with fail
          go_ret
          exact ⟨rfl, below_drewN hb13 _⟩
        | false =>
          have hne : x0 ≠ x1 := of_decide_eq_false Hs.out.symm
          have Hne := Lib.hid hne
          clear hne
          go_enter Try.func6, Try.ntmps6
          go_wp2_with fail
          refine (FC _).mono ?_; rintro e w1 ⟨fa, fcap, fvs, rfl, hb1, fr, fA⟩
          go_wp2_with fail
          refine (CA _ (r0.below hb1) (m0.below hb1)).mono ?_; rintro e w2 ⟨xa, xcap, xvs, rfl, hb2, xr, xA⟩
          have hb12 := hb1.trans (hb2.mono hb1.size)
          go_wp2_with fail
          refine (CB _ (r1.below hb12) (m1.below hb12)).mono ?_; rintro e w3 ⟨ya, ycap, yvs, rfl, hb3, yr, yA⟩
          have hb13 := hb12.trans (hb3.mono hb12.size)
          go_wp2_with fail
          refine (RC _ (r0.below hb13) (m0.below hb13) (r1.below hb13) (m1.below hb13)).mono ?_; rintro e w4 ⟨rfl, nq0, hw4⟩
          have hb14 : Below w.heap.size w w4 := by rw [hw4]; exact below_drewN hb13 _
          have xr4 : Rd w4 xa 30 xvs := by rw [hw4]; exact (xr.below hb3).below (below_N _ _)
          have xA4 : AreB (fun _ _ => True) w4 (spreadOf x0 n) xvs := by rw [hw4]; exact ((xA.below hb3).mono fun _ _ _ _ => trivial).below (below_N _ _)
          have yr4 : Rd w4 ya 30 yvs := by rw [hw4]; exact yr.below (below_N _ _)
          have yA4 : AreB (fun _ _ => True) w4 (spreadOf x1 n) yvs := by rw [hw4]; exact (yA.mono fun _ _ _ _ => trivial).below (below_N _ _)
          clear FC CA CB RC hb1 hb2 hb3 hb12 hb13 fr fA xr xA yr yA hw4
          have lx : (spreadOf x0 n).length = n := spreadOf_length _ _ (by omega)
          have ly : (spreadOf x1 n).length = n := spreadOf_length _ _ (by omega)
          have vx : n ≤ xvs.length := by rw [xA4.1]; omega
          have vy : n ≤ yvs.length := by rw [yA4.1]; omega
          have Hlx := Lib.hid lx
          have Hly := Lib.hid ly
          clear lx ly
          go_wp2_with fail
          go_loopw [14, 15] (fun v i wr => ∃ k m : Nat, k ≤ n ∧ i = .int .i64 k ∧ v = .int .i64 (parts (spreadOf x0 n) (spreadOf x1 n) k : Nat) ∧ wr = w4.drewN m) (fun _ i _ => n - (intOf i).toNat)
          case atStart => exact ⟨0, 0, Nat.zero_le _, rfl, rfl, rfl⟩
          case round =>
            obtain ⟨k, m, hk, rfl, rfl, hwr⟩ := hrel
            have hpl := parts_le (spreadOf x0 n) (spreadOf x1 n) k
            by_cases hlt : k < n
            · obtain ⟨bx, ox, rfl, _, hcx⟩ := xr4.cell (k := k) (by omega)
              obtain ⟨by_, oy, rfl, _, hcy⟩ := yr4.cell (k := k) (by omega)
              have c1 := hcx k (by omega)
              have c2 := hcy k (by omega)
              obtain ⟨p1, d1, t1, g1, s1, _, f1⟩ := xA4.2 k (by rw [Hlx.out]; exact hlt) (by omega)
              obtain ⟨p2, d2, t2, g2, s2, _, f2⟩ := yA4.2 k (by rw [Hly.out]; exact hlt) (by omega)
              rw [g1] at c1
              rw [g2] at c2
              have c1' : wr.cell? ⟨bx, ox + k, none⟩ = some (.slice p1 ((spreadOf x0 n)[k]'(by rw [Hlx.out]; exact hlt)).length d1) := by rw [hwr]; exact c1
              have c2' : wr.cell? ⟨by_, oy + k, none⟩ = some (.slice p2 ((spreadOf x1 n)[k]'(by rw [Hly.out]; exact hlt)).length d2) := by rw [hwr]; exact c2
              have BC := fun j => Bytes_calls _ _ p1 p2 d1 d2 t1 t2 (wr.drewN j) (by rw [hwr]; exact s1) (by rw [hwr]; exact s2) f1
              obtain ⟨row, hrow⟩ : ∃ s, s = decide ((spreadOf x0 n)[k]'(by rw [Hlx.out]; exact hlt) = (spreadOf x1 n)[k]'(by rw [Hly.out]; exact hlt)) := ⟨_, rfl⟩
              rw [← hrow] at BC
              have hps : parts (spreadOf x0 n) (spreadOf x1 n) (k + 1) = parts (spreadOf x0 n) (spreadOf x1 n) k + if row = true then 0 else 1 := by
                rw [parts_succ, hrow]
                have e1 : (spreadOf x0 n).getD k [] = (spreadOf x0 n)[k]'(by rw [Hlx.out]; exact hlt) := by rw [List.getD_eq_getElem?_getD, List.getElem?_eq_getElem (by rw [Hlx.out]; exact hlt)]; rfl
                have e2 : (spreadOf x1 n).getD k [] = (spreadOf x1 n)[k]'(by rw [Hly.out]; exact hlt) := by rw [List.getD_eq_getElem?_getD, List.getElem?_eq_getElem (by rw [Hly.out]; exact hlt)]; rfl
                rw [e1, e2]; simp
              have Hps := Lib.hid hps
              have Hwr := Lib.hid hwr
              clear hps hrow c1 c2 hcx hcy g1 g2 s1 s2 f1 f2 hwr
              generalize ((spreadOf x0 n)[k]'(by rw [Hlx.out]; exact hlt)).length = L1 at *
              generalize ((spreadOf x1 n)[k]'(by rw [Hly.out]; exact hlt)).length = L2 at *
              generalize hpk : parts (spreadOf x0 n) (spreadOf x1 n) k = pk at *
              have Hpk := Lib.hid hpk
              clear hpk
              have i0 : (0 : Int) ≤ (k : Int) := by omega
              have i1 : (k : Int) < (n : Int) := by omega
              cases row with
              | true =>
                go_wp2_with fail
                go_quiet ((go_at_call 18; exact Calls.quiet_of (BC _)))
                go_wp2
                go_roundw
                case rel => exact ⟨k + 1, m + nq, by omega, by go_num, by rw [Hps.out]; simp, by rw [Hwr.out, World.drewN_drewN]⟩
                case measure => simp [intOf] <;> omega
              | false =>
                go_wp2_with fail
                go_quiet ((go_at_call 18; exact Calls.quiet_of (BC _)))
                go_wp2
                go_roundw
                case rel => exact ⟨k + 1, m + nq, by omega, by go_num, by rw [Hps.out]; simp, by rw [Hwr.out, World.drewN_drewN]⟩
                case measure => simp [intOf] <;> omega
            · obtain rfl : k = n := by omega
              have u0 : 0 < v0.length := by rw [m0.1]; omega
              have u1 : 0 < v1.length := by rw [m1.1]; omega
              obtain ⟨bx, ox, rfl, _, hcx⟩ := (r0.below hb14).cell (k := 0) u0
              obtain ⟨by_, oy, rfl, _, hcy⟩ := (r1.below hb14).cell (k := 0) u1
              have c1 := hcx 0 u0
              have c2 := hcy 0 u1
              obtain ⟨p1, d1, t1, g1, _, _, _⟩ := m0.2 0 za u0
              obtain ⟨p2, d2, t2, g2, _, _, _⟩ := m1.2 0 zb u1
              rw [g1] at c1
              rw [g2] at c2
              have ha0 : x0[0].length = (x0.headD []).length := HL.out _ (List.getElem_mem _)
              have hb0 : x1[0].length = (x1.headD []).length := HM.out _ (List.getElem_mem _)
              rw [ha0] at c1
              rw [hb0] at c2
              have c1' : wr.cell? ⟨bx, ox, none⟩ = some (.slice p1 (x0.headD []).length d1) := by rw [hwr]; exact c1
              have c2' : wr.cell? ⟨by_, oy, none⟩ = some (.slice p2 (x1.headD []).length d2) := by rw [hwr]; exact c2
              have hfin : (x0.headD []).length = (x1.headD []).length → k + 1 ≤ parts (spreadOf x0 k) (spreadOf x1 k) k + x0.length := fun he =>
                spread_far x0 x1 k _ Hlen.out (by omega) (by omega) HL.out (fun r hr => by rw [HM.out r hr, he]) za Hne.out
              have Hfin := Lib.hid hfin
              have Hwr := Lib.hid hwr
              clear c1 c2 hcx hcy g1 g2 ha0 hb0 hfin hwr
              generalize (x0.headD []).length = L1 at *
              generalize (x1.headD []).length = L2 at *
              have i0 : (0 : Int) < (x0.length : Int) := by omega
              have i1 : (0 : Int) < (x1.length : Int) := by omega
              by_cases hLL : L1 = L2
              · subst hLL
                have t : ((L1 : Int) != (L1 : Int)) = false := by simp
                have hpp := Hfin.out rfl
                go_wp2_with fail
                go_quiet (fail)
                go_wp2
                go_ret
                refine ⟨?_, ?_⟩
                · have : decide ((k : Int) - (x0.length : Int) + 1 ≤ (parts (spreadOf x0 k) (spreadOf x1 k) k : Int)) = true := by rw [decide_eq_true_eq]; omega
                  simp [this]
                · rw [Hwr.out]; exact below_drewN (below_drewN hb14 _) _
              · have t : ((L1 : Int) != (L2 : Int)) = true := by rw [bne_iff_ne]; omega
                go_wp2_with fail
                go_quiet (fail)
                go_wp2
                go_ret
                refine ⟨rfl, ?_⟩
                rw [Hwr.out]; exact below_drewN (below_drewN hb14 _) _
      · have q1 : ((x0.length : Int) != (x1.length : Int)) = true := by rw [bne_iff_ne]; omega
        clear hlen
        go_enter Try.func6, Try.ntmps6
        go_wp2_with fail
        refine (FC _).mono ?_; rintro e w1 ⟨fa, fcap, fvs, rfl, hb1, fr, fA⟩
        go_wp2_with fail
        refine (CA _ (r0.below hb1) (m0.below hb1)).mono ?_; rintro e w2 ⟨xa, xcap, xvs, rfl, hb2, xr, xA⟩
        have hb12 := hb1.trans (hb2.mono hb1.size)
        go_wp2_with fail
        refine (CB _ (r1.below hb12) (m1.below hb12)).mono ?_; rintro e w3 ⟨ya, ycap, yvs, rfl, hb3, yr, yA⟩
        have hb13 := hb12.trans (hb3.mono hb12.size)
        go_wp2_with fail
        refine (RC _ (r0.below hb13) (m0.below hb13) (r1.below hb13) (m1.below hb13)).mono ?_; rintro e w4 ⟨rfl, nq, rfl⟩
        go_wp2_with fail
        go_ret
        exact ⟨rfl, below_drewN hb13 _⟩
    · obtain ⟨za, ka, na, La, alla⟩ := spreadF_zero hfa
      have CA := fun w hb hv => Spread_ok hfa a0 c0 e0 v0 w hb hv l0
      have CB := fun w hb hv => Spread_no hfb a1 c1 e1 v1 w hb hv l1
      have FC := Spread_fact
      clear hfa hfb alla
      have RC := fun w ha hau hb hbv => Rows_calls x0 x1 a0 a1 c0 c1 e0 e1 v0 v1 w ha hau hb hbv (by omega)
      go_enter Try.func6, Try.ntmps6
      go_wp2_with fail
      refine (FC _).mono ?_; rintro e w1 ⟨fa, fcap, fvs, rfl, hb1, fr, fA⟩
      go_wp2_with fail
      refine (CA _ (r0.below hb1) (m0.below hb1)).mono ?_; rintro e w2 ⟨xa, xcap, xvs, rfl, hb2, xr, xA⟩
      have hb12 := hb1.trans (hb2.mono hb1.size)
      go_wp2_with fail
      refine (CB _ (r1.below hb12) (m1.below hb12)).mono ?_; rintro e w3 ⟨rfl, hb3⟩
      have hb13 := hb12.trans (hb3.mono hb12.size)
      go_wp2_with fail
      refine (RC _ (r0.below hb13) (m0.below hb13) (r1.below hb13) (m1.below hb13)).mono ?_; rintro e w4 ⟨rfl, nq, rfl⟩
      go_wp2_with fail
      go_ret
      exact ⟨rfl, below_drewN hb13 _⟩
  · have CA := fun w hb hv => Spread_no hfa a0 c0 e0 v0 w hb hv l0
    have FC := Spread_fact
    clear hfa
    by_cases hfb : spreadF x1 a2 = 0
    · have CB := fun w hb hv => Spread_ok hfb a1 c1 e1 v1 w hb hv l1
      clear hfb
      have RC := fun w ha hau hb hbv => Rows_calls x0 x1 a0 a1 c0 c1 e0 e1 v0 v1 w ha hau hb hbv (by omega)
      go_enter Try.func6, Try.ntmps6
      go_wp2_with fail
      refine (FC _).mono ?_; rintro e w1 ⟨fa, fcap, fvs, rfl, hb1, fr, fA⟩
      go_wp2_with fail
      refine (CA _ (r0.below hb1) (m0.below hb1)).mono ?_; rintro e w2 ⟨rfl, hb2⟩
      have hb12 := hb1.trans (hb2.mono hb1.size)
      go_wp2_with fail
      refine (CB _ (r1.below hb12) (m1.below hb12)).mono ?_; rintro e w3 ⟨ya, ycap, yvs, rfl, hb3, yr, yA⟩
      have hb13 := hb12.trans (hb3.mono hb12.size)
      go_wp2_with fail
      refine (RC _ (r0.below hb13) (m0.below hb13) (r1.below hb13) (m1.below hb13)).mono ?_; rintro e w4 ⟨rfl, nq, rfl⟩
      go_wp2_with fail
      go_ret
      exact ⟨rfl, below_drewN hb13 _⟩
    · have CB := fun w hb hv => Spread_no hfb a1 c1 e1 v1 w hb hv l1
      clear hfb
      have RC := fun w ha hau hb hbv => Rows_calls x0 x1 a0 a1 c0 c1 e0 e1 v0 v1 w ha hau hb hbv (by omega)
      go_enter Try.func6, Try.ntmps6
      go_wp2_with fail
      refine (FC _).mono ?_; rintro e w1 ⟨fa, fcap, fvs, rfl, hb1, fr, fA⟩
      go_wp2_with fail
      refine (CA _ (r0.below hb1) (m0.below hb1)).mono ?_; rintro e w2 ⟨rfl, hb2⟩
      have hb12 := hb1.trans (hb2.mono hb1.size)
      go_wp2_with fail
      refine (CB _ (r1.below hb12) (m1.below hb12)).mono ?_; rintro e w3 ⟨rfl, hb3⟩
      have hb13 := hb12.trans (hb3.mono hb12.size)
      go_wp2_with fail
      refine (RC _ (r0.below hb13) (m0.below hb13) (r1.below hb13) (m1.below hb13)).mono ?_; rintro e w4 ⟨rfl, nq, rfl⟩
      go_wp2_with fail
      go_ret
      exact ⟨rfl, below_drewN hb13 _⟩

set_option maxRecDepth 100000 in
theorem lifted (os : Os) (started : os.Started) (H : Type) (enc : TypeId × Value → H) :
    ReturnsInHanded {} Try.checked os 6 .any (Rows.codeFarSpec.pre6 enc Try.prog Try.f6 Rows.codeFarRow.domain false) (Rows.codeFarSpec.post enc Try.prog Try.f6 false true false false) := by
  refine returnsInHanded_of_change (C := Try.checked) own started (by kernel_rfl) Try.func6
    (ChangeSpec.witness6 (enc := enc) (C := Try.checked) false ⟨#[], #[.slice none 0 0, .slice none 0 0, .int .i64 0], []⟩ 8 (by kernel_rfl) (by kernel_rfl) (by kernel_rfl) (by kernel_rfl)) ?_
  intro W base args ds gs before hval0 hW hcnd _
  have hval : ∀ (j : Nat) t v, Try.f6.params[j]? = some t → args[j]? = some v → Value.okWide Try.prog W .any base t v := hval0
  have hW' := hW
  obtain ⟨p, q, hA0, hV, rfl, hfz, hnd⟩ := hW
  have hA : DataW.TrodAll enc Try.prog W 0 (fun _ => true) true Try.f6.params.toList args.toList ds p := hA0
  rw [Try.params6] at hA hval
  obtain ⟨v0, vs0, d0, ds0, p0, q0, hargs, rfl, rfl, h0, r0⟩ := trodAll_cons hA
  obtain ⟨v1, vs1, d1, ds1, p1, q1, rfl, rfl, rfl, h1, r1⟩ := trodAll_cons r0
  obtain ⟨v2, vs2, d2, ds2, p2, q2, rfl, rfl, rfl, h2, r2⟩ := trodAll_cons r1
  obtain ⟨rfl, rfl, rfl⟩ := trodAll_nil r2
  obtain rfl : args = #[v0, v1, v2] := by cases args; simp_all
  obtain ⟨rfl, rfl⟩ := trodVars_none hV
  have k0 := h0
  have lt0 : ∀ x ∈ p0, x.block < W.heap.size := by obtain ⟨m, hm⟩ := k0; exact DataW.trod_lt m _ _ _ hm
  obtain ⟨x0, a0, c0, e0, u0, rfl, l0, r_0, m0⟩ := open_rows Try.underlying37 Try.underlying30 Try.underlying5 (by kernel_rfl) (by kernel_rfl) (hval 0 37 v0 rfl rfl) h0
  have k1 := h1
  have lt1 : ∀ x ∈ p1, x.block < W.heap.size := by obtain ⟨m, hm⟩ := k1; exact DataW.trod_lt m _ _ _ hm
  obtain ⟨x1, a1, c1, e1, u1, rfl, l1, r_1, m1⟩ := open_rows Try.underlying37 Try.underlying30 Try.underlying5 (by kernel_rfl) (by kernel_rfl) (hval 1 37 v1 rfl rfl) h1
  have k2 := h2
  have lt2 : ∀ x ∈ p2, x.block < W.heap.size := by obtain ⟨m, hm⟩ := k2; exact DataW.trod_lt m _ _ _ hm
  obtain ⟨a2, rfl, _, _, w2⟩ := open_int Try.underlying3 (hval 2 3 v2 rfl rfl) h2
  have b2 := bounds_i64 w2
  clear hA0 hval0
  refine (walk x0 a0 c0 e0 u0 x1 a1 c1 e1 u1 a2 W l0 r_0 m0 l1 r_1 m1 b2).mono fun e W' ⟨he, bel⟩ => ?_
  subst he
  exact ⟨_, rfl, _, _, _, [], _, [], hW', trodAll_mk1 (shut_bool Try.underlying4 _), (trodAll_cons_mk (Below.trod laidOut (by kernel_rfl) (of_decide_eq_true (by kernel_rfl)) k0 bel lt0) (trodAll_cons_mk (Below.trod laidOut (by kernel_rfl) (of_decide_eq_true (by kernel_rfl)) k1 bel lt1) (trodAll_cons_mk (Below.trod laidOut (by kernel_rfl) (of_decide_eq_true (by kernel_rfl)) k2 bel lt2) trodAll_mk0))), rfl, bel.frame _, fun h => by cases h⟩

theorem over : Rows.codeFarRow.holds Try.pinned (OpenSpec.ofChange Rows.codeFarSpec) :=
  OpenClaim.holds_of_wide 6 Try.f6 rfl rfl rfl rfl rfl rfl rfl ⟨rfl, rfl, rfl, rfl, rfl⟩ rfl rfl rfl rfl rfl (by kernel_rfl) Try.func6 (by kernel_rfl)
    (of_decide_eq_true (by kernel_rfl)) (by unfold Func.isWrapper; first | (rw [if_pos (by decide +kernel)]; kernel_rfl) | (rw [if_neg (by decide +kernel)]; exact ⟨rfl, rfl⟩))
    (fun os started H enc _ => lifted os started H enc)

theorem proved : Rows.CodeFarSaid := over
#print axioms proved
end codeFar
end Go.Proofs.Ytalbmcidlalicaa
