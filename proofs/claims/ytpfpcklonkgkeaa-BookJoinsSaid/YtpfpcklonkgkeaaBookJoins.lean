/- Books are joined in any order and from either side, and with themselves they are themselves: what the law tells is true, with no further condition. -/
import Derived.Test.YtpfpcklonkgkeaaRows
import Derived.StillTailTactics
import Derived.Deep.RegionHeld3
import Derived.SizedLaws
import Derived.Test.YtpfpcklonkgkeaaMet
import Derived.ShutString
import Derived.ChangeOld
import Derived.Below
namespace Go.Proofs.Ytpfpcklonkgkeaa
open Go.ChangeShapes Go.WideShapes Go.ChangeAt Go.RowKit
open Go.ChangeMaps (open_string shut_string)
set_option linter.unusedVariables false
namespace bookJoins
theorem own : ownKnob Try.prog.godebug = none := by kernel_rfl
theorem laidOut : laidOutB Try.prog = true := by kernel_rfl

-- HOLE: the walk
set_option linter.unusedSimpArgs false
theorem Join_is {xs ys m : List Ct} (hm : mergeC xs ys = m) (hx : Fine xs) (hy : Fine ys) (hl : m.length ≤ 40) (ax ay : Option Addr) (cx cy : Nat) (w : World) (hrx : BookAt w xs ax cx) (hry : BookAt w ys ay cy) :
    Calls Try.prog 12 #[.slice ax xs.length cx, .slice ay ys.length cy] w fun e w' => Below w.heap.size w w' ∧ ∃ a cap, e = .returned (.tuple #[.slice a m.length cap, .nilIface]) ∧ BookAt w' m a cap := by
  subst hm
  exact Join_good hx hy hl ax ay cx cy w hrx hry
theorem Books_is {xs ys : List Ct} (h : xs = ys) (hx : Fine xs) (hy : Fine ys) (ax ay : Option Addr) (cx cy : Nat) (w : World) (hrx : BookAt w xs ax cx) (hry : BookAt w ys ay cy) :
    Calls Try.prog 13 #[.slice ax xs.length cx, .slice ay ys.length cy] w fun e w' => e = .returned (.bool true) ∧ Below w.heap.size w w' := by
  obtain ⟨h1, h2, ex, h3⟩ := hrx
  obtain ⟨k1, k2, ey, k3⟩ := hry
  refine (Books_calls xs ys hx.2 hy.2 ax ay cx cy ex ey w h3 k3 (by omega)).mono ?_
  rintro e w' ⟨he, n, rfl⟩
  exact ⟨by rw [he, decide_eq_true h], below_drewN (Below.refl _ _) n⟩
theorem Check_is {xs : List Ct} (hx : Fine xs) (ax : Option Addr) (cx : Nat) (w : World) (hrx : BookAt w xs ax cx) :
    Calls Try.prog 11 #[.slice ax xs.length cx] w fun e w' => e = .returned .nilIface ∧ Below w.heap.size w w' := by
  obtain ⟨h1, h2, ex, h3⟩ := hrx
  refine (Check_calls xs hx.2 ax cx ex w h3 (by omega)).mono ?_
  rintro e w' ⟨he, hb⟩
  exact ⟨by rw [he, fault_zero.2 hx.1]; rfl, hb⟩
theorem Check_not {xs : List Ct} (hx : ∀ c ∈ xs, CtW c) (hf : fault xs ≠ 0) (ax : Option Addr) (cx : Nat) (w : World) (hrx : BookAt w xs ax cx) :
    Calls Try.prog 11 #[.slice ax xs.length cx] w fun e w' => e = .returned (.iface 62 (.int .i64 (fault xs))) ∧ Below w.heap.size w w' := by
  obtain ⟨h1, h2, ex, h3⟩ := hrx
  refine (Check_calls xs hx ax cx ex w h3 (by omega)).mono ?_
  rintro e w' ⟨he, hb⟩
  exact ⟨by rw [he]; exact congrArg _ (if_neg hf), hb⟩
set_option maxRecDepth 20000 in
set_option maxHeartbeats 8000000 in
theorem walk (x0 : List Ct) (a0 : Option Addr) (c0 e0 : Nat) (x1 : List Ct) (a1 : Option Addr) (c1 e1 : Nat) (x2 : List Ct) (a2 : Option Addr) (c2 e2 : Nat) (w : World) (l0 : x0.length ≤ c0) (m0 : c0 ≤ 9223372036854775807) (n0 : ∀ c ∈ x0, CtW c) (r0 : Rd w a0 e0 (cellsC x0)) (l1 : x1.length ≤ c1) (m1 : c1 ≤ 9223372036854775807) (n1 : ∀ c ∈ x1, CtW c) (r1 : Rd w a1 e1 (cellsC x1)) (l2 : x2.length ≤ c2) (m2 : c2 ≤ 9223372036854775807) (n2 : ∀ c ∈ x2, CtW c) (r2 : Rd w a2 e2 (cellsC x2)) :
    Calls Try.prog 4 #[.slice a0 x0.length c0, .slice a1 x1.length c1, .slice a2 x2.length c2] w fun e w' => e = .returned (.bool true) ∧ Below w.heap.size w w' := by
  have MT := met_calls w
  have A0 : BookAt w x0 a0 c0 := ⟨l0, m0, e0, r0⟩
  have A1 : BookAt w x1 a1 c1 := ⟨l1, m1, e1, r1⟩
  have A2 : BookAt w x2 a2 c2 := ⟨l2, m2, e2, r2⟩
  have N0 := Lib.hid n0
  have N1 := Lib.hid n1
  have N2 := Lib.hid n2
  clear r0 r1 r2 n0 n1 n2
  go_enter Try.func4, Try.ntmps4
  go_wp2_with fail
  refine MT.mono ?_
  rintro e w1 ⟨rfl, hb⟩
  replace A0 := A0.below hb
  replace A1 := A1.below hb
  replace A2 := A2.below hb
  have HB := Lib.hid hb
  clear MT hb
  by_cases f0 : fault x0 = 0
  · have F0 : Fine x0 := ⟨fault_zero.1 f0, N0.out⟩
    clear f0
    go_wp2_with fail
    refine (Check_is F0 a0 c0 _ A0).mono ?_
    rintro e w2 ⟨rfl, hb2⟩
    replace A0 := A0.below hb2
    replace A1 := A1.below hb2
    replace A2 := A2.below hb2
    have HB2 := Lib.hid (HB.out.trans (hb2.mono HB.out.size))
    clear hb2
    by_cases f1 : fault x1 = 0
    · have F1 : Fine x1 := ⟨fault_zero.1 f1, N1.out⟩
      clear f1
      go_wp2_with fail
      refine (Check_is F1 a1 c1 _ A1).mono ?_
      rintro e w3 ⟨rfl, hb3⟩
      replace A0 := A0.below hb3
      replace A1 := A1.below hb3
      replace A2 := A2.below hb3
      have HB3 := Lib.hid (HB2.out.trans (hb3.mono HB2.out.size))
      clear hb3
      by_cases f2 : fault x2 = 0
      · have F2 : Fine x2 := ⟨fault_zero.1 f2, N2.out⟩
        clear f2
        have q0 := F0.1.1
        have q1 := F1.1.1
        have q2 := F2.1.1
        by_cases hl : x0.length + x1.length + x2.length ≤ 40
        · have d1 : decide ((40 : Int) < (x0.length : Int) + (x1.length : Int) + (x2.length : Int)) = false := by rw [decide_eq_false_iff_not]; omega
          have ml := fun a b => merge_length _ a b (Nat.le_refl _)
          obtain ⟨X, hX⟩ : ∃ X, mergeC x0 x1 = X := ⟨_, rfl⟩
          obtain ⟨Y, hY⟩ : ∃ Y, mergeC x1 x0 = Y := ⟨_, rfl⟩
          obtain ⟨U, hU⟩ : ∃ U, mergeC x1 x2 = U := ⟨_, rfl⟩
          obtain ⟨P, hP⟩ : ∃ P, mergeC X x2 = P := ⟨_, rfl⟩
          obtain ⟨Q, hQ⟩ : ∃ Q, mergeC x0 U = Q := ⟨_, rfl⟩
          obtain ⟨S, hS⟩ : ∃ S, mergeC x0 x0 = S := ⟨_, rfl⟩
          obtain ⟨R, hR⟩ : ∃ R, mergeC X x1 = R := ⟨_, rfl⟩
          have hXY : X = Y := by rw [← hX, ← hY]; exact merge_comm F0.1.2.1 F1.1.2.1
          have hPQ : P = Q := by rw [← hP, ← hQ, ← hX, ← hU]; exact merge_assoc F0.1.2.1 F1.1.2.1 F2.1.2.1
          have hS0 : S = x0 := by rw [← hS]; exact merge_self F0.1.2.1
          have hRX : R = X := by rw [← hR, ← hX]; exact merge_again F0.1.2.1 F1.1.2.1
          have lX : X.length ≤ x0.length + x1.length := by rw [← hX]; exact (ml x0 x1).1
          have lU : U.length ≤ x1.length + x2.length := by rw [← hU]; exact (ml x1 x2).1
          have lP : P.length ≤ X.length + x2.length := by rw [← hP]; exact (ml X x2).1
          have lX40 : X.length ≤ 40 := by omega
          have lY40 : Y.length ≤ 40 := by rw [← hXY]; omega
          have lU40 : U.length ≤ 40 := by omega
          have lP40 : P.length ≤ 40 := by omega
          have lQ40 : Q.length ≤ 40 := by rw [← hPQ]; omega
          have lS40 : S.length ≤ 40 := by rw [hS0]; omega
          have lR40 : R.length ≤ 40 := by rw [hRX]; omega
          have FX : Fine X := by rw [← hX]; exact fine_merge F0 F1 (by rw [hX]; exact lX40)
          have FY : Fine Y := hXY ▸ FX
          have FU : Fine U := by rw [← hU]; exact fine_merge F1 F2 (by rw [hU]; exact lU40)
          have FP : Fine P := by rw [← hP]; exact fine_merge FX F2 (by rw [hP]; exact lP40)
          have FQ : Fine Q := hPQ ▸ FP
          have FS : Fine S := by rw [hS0]; exact F0
          have FR : Fine R := by rw [hRX]; exact FX
          have HX := Lib.hid hX
          have HY := Lib.hid hY
          have HU := Lib.hid hU
          have HP := Lib.hid hP
          have HQ := Lib.hid hQ
          have HS := Lib.hid hS
          have HR := Lib.hid hR
          have HXY := Lib.hid hXY
          have HPQ := Lib.hid hPQ
          have HS0 := Lib.hid hS0
          have HRX := Lib.hid hRX
          clear hX hY hU hP hQ hS hR hXY hPQ hS0 hRX ml lX lU lP
          go_wp2_with fail
          refine (Check_is F2 a2 c2 _ A2).mono ?_
          rintro e w4 ⟨rfl, hb4⟩
          replace A0 := A0.below hb4
          replace A1 := A1.below hb4
          replace A2 := A2.below hb4
          have HB4 := Lib.hid (HB3.out.trans (hb4.mono HB3.out.size))
          clear hb4
          go_wp2_with fail
          all_goals first | (exfalso; omega) | skip
          refine (Join_is HX.out F0 F1 lX40 a0 a1 c0 c1 _ A0 A1).mono ?_
          rintro e w5 ⟨hb5, aX, cX, rfl, AX⟩
          replace A0 := A0.below hb5
          replace A1 := A1.below hb5
          replace A2 := A2.below hb5
          have HB5 := Lib.hid (HB4.out.trans (hb5.mono HB4.out.size))
          clear hb5
          go_wp2_with fail
          refine (Join_is HY.out F1 F0 lY40 a1 a0 c1 c0 _ A1 A0).mono ?_
          rintro e w6 ⟨hb6, aY, cY, rfl, AY⟩
          replace A0 := A0.below hb6
          replace A1 := A1.below hb6
          replace A2 := A2.below hb6
          replace AX := AX.below hb6
          have HB6 := Lib.hid (HB5.out.trans (hb6.mono HB5.out.size))
          clear hb6
          go_wp2_with fail
          refine (Join_is HU.out F1 F2 lU40 a1 a2 c1 c2 _ A1 A2).mono ?_
          rintro e w7 ⟨hb7, aU, cU, rfl, AU⟩
          replace A0 := A0.below hb7
          replace A1 := A1.below hb7
          replace A2 := A2.below hb7
          replace AX := AX.below hb7
          replace AY := AY.below hb7
          have HB7 := Lib.hid (HB6.out.trans (hb7.mono HB6.out.size))
          clear hb7
          go_wp2_with fail
          refine (Join_is HP.out FX F2 lP40 aX a2 cX c2 _ AX A2).mono ?_
          rintro e w8 ⟨hb8, aP, cP, rfl, AP⟩
          replace A0 := A0.below hb8
          replace A1 := A1.below hb8
          replace A2 := A2.below hb8
          replace AX := AX.below hb8
          replace AY := AY.below hb8
          replace AU := AU.below hb8
          have HB8 := Lib.hid (HB7.out.trans (hb8.mono HB7.out.size))
          clear hb8
          go_wp2_with fail
          refine (Join_is HQ.out F0 FU lQ40 a0 aU c0 cU _ A0 AU).mono ?_
          rintro e w9 ⟨hb9, aQ, cQ, rfl, AQ⟩
          replace A0 := A0.below hb9
          replace A1 := A1.below hb9
          replace A2 := A2.below hb9
          replace AX := AX.below hb9
          replace AY := AY.below hb9
          replace AU := AU.below hb9
          replace AP := AP.below hb9
          have HB9 := Lib.hid (HB8.out.trans (hb9.mono HB8.out.size))
          clear hb9
          go_wp2_with fail
          refine (Join_is HS.out F0 F0 lS40 a0 a0 c0 c0 _ A0 A0).mono ?_
          rintro e w10 ⟨hb10, aS, cS, rfl, AS⟩
          replace A0 := A0.below hb10
          replace A1 := A1.below hb10
          replace A2 := A2.below hb10
          replace AX := AX.below hb10
          replace AY := AY.below hb10
          replace AU := AU.below hb10
          replace AP := AP.below hb10
          replace AQ := AQ.below hb10
          have HB10 := Lib.hid (HB9.out.trans (hb10.mono HB9.out.size))
          clear hb10
          go_wp2_with fail
          refine (Join_is HR.out FX F1 lR40 aX a1 cX c1 _ AX A1).mono ?_
          rintro e w11 ⟨hb11, aR, cR, rfl, AR⟩
          replace A0 := A0.below hb11
          replace A1 := A1.below hb11
          replace A2 := A2.below hb11
          replace AX := AX.below hb11
          replace AY := AY.below hb11
          replace AU := AU.below hb11
          replace AP := AP.below hb11
          replace AQ := AQ.below hb11
          replace AS := AS.below hb11
          have HB11 := Lib.hid (HB10.out.trans (hb11.mono HB10.out.size))
          clear hb11
          go_wp2_with fail
          refine (Books_is HXY.out FX FY aX aY cX cY _ AX AY).mono ?_
          rintro e w12 ⟨rfl, hb12⟩
          replace A0 := A0.below hb12
          replace A1 := A1.below hb12
          replace A2 := A2.below hb12
          replace AX := AX.below hb12
          replace AY := AY.below hb12
          replace AU := AU.below hb12
          replace AP := AP.below hb12
          replace AQ := AQ.below hb12
          replace AS := AS.below hb12
          replace AR := AR.below hb12
          have HB12 := Lib.hid (HB11.out.trans (hb12.mono HB11.out.size))
          clear hb12
          go_wp2_with fail
          refine (Books_is HPQ.out FP FQ aP aQ cP cQ _ AP AQ).mono ?_
          rintro e w13 ⟨rfl, hb13⟩
          replace A0 := A0.below hb13
          replace A1 := A1.below hb13
          replace A2 := A2.below hb13
          replace AX := AX.below hb13
          replace AY := AY.below hb13
          replace AU := AU.below hb13
          replace AP := AP.below hb13
          replace AQ := AQ.below hb13
          replace AS := AS.below hb13
          replace AR := AR.below hb13
          have HB13 := Lib.hid (HB12.out.trans (hb13.mono HB12.out.size))
          clear hb13
          go_wp2_with fail
          refine (Books_is HS0.out FS F0 aS a0 cS c0 _ AS A0).mono ?_
          rintro e w14 ⟨rfl, hb14⟩
          replace A0 := A0.below hb14
          replace A1 := A1.below hb14
          replace A2 := A2.below hb14
          replace AX := AX.below hb14
          replace AY := AY.below hb14
          replace AU := AU.below hb14
          replace AP := AP.below hb14
          replace AQ := AQ.below hb14
          replace AS := AS.below hb14
          replace AR := AR.below hb14
          have HB14 := Lib.hid (HB13.out.trans (hb14.mono HB13.out.size))
          clear hb14
          go_wp2_with fail
          refine (Books_is HRX.out FR FX aR aX cR cX _ AR AX).mono ?_
          rintro e w15 ⟨rfl, hb15⟩
          replace A0 := A0.below hb15
          replace A1 := A1.below hb15
          replace A2 := A2.below hb15
          replace AX := AX.below hb15
          replace AY := AY.below hb15
          replace AU := AU.below hb15
          replace AP := AP.below hb15
          replace AQ := AQ.below hb15
          replace AS := AS.below hb15
          replace AR := AR.below hb15
          have HB15 := Lib.hid (HB14.out.trans (hb15.mono HB14.out.size))
          clear hb15
          go_wp2_with fail
          refine (Check_is FP aP cP _ AP).mono ?_
          rintro e w16 ⟨rfl, hb16⟩
          replace A0 := A0.below hb16
          replace A1 := A1.below hb16
          replace A2 := A2.below hb16
          replace AX := AX.below hb16
          replace AY := AY.below hb16
          replace AU := AU.below hb16
          replace AP := AP.below hb16
          replace AQ := AQ.below hb16
          replace AS := AS.below hb16
          replace AR := AR.below hb16
          have HB16 := Lib.hid (HB15.out.trans (hb16.mono HB15.out.size))
          clear hb16
          go_wp2_with fail
          go_ret
          exact ⟨rfl, HB16.out⟩
        · have d1 : decide ((40 : Int) < (x0.length : Int) + (x1.length : Int) + (x2.length : Int)) = true := by rw [decide_eq_true_eq]; omega
          go_wp2_with fail
          refine (Check_is F2 a2 c2 _ A2).mono ?_
          rintro e w4 ⟨rfl, hb4⟩
          have HB4 := Lib.hid (HB3.out.trans (hb4.mono HB3.out.size))
          clear hb4
          go_wp2_with fail
          all_goals first | (exfalso; omega) | skip
          go_ret
          exact ⟨rfl, HB4.out⟩
      · go_wp2_with fail
        refine (Check_not N2.out f2 a2 c2 _ A2).mono ?_
        rintro e w4 ⟨rfl, hb4⟩
        have HB4 := Lib.hid (HB3.out.trans (hb4.mono HB3.out.size))
        clear hb4
        go_wp2_with fail
        go_ret
        exact ⟨rfl, HB4.out⟩
    · go_wp2_with fail
      refine (Check_not N1.out f1 a1 c1 _ A1).mono ?_
      rintro e w3 ⟨rfl, hb3⟩
      have HB3 := Lib.hid (HB2.out.trans (hb3.mono HB2.out.size))
      clear hb3
      go_wp2_with fail
      go_ret
      exact ⟨rfl, HB3.out⟩
  · go_wp2_with fail
    refine (Check_not N0.out f0 a0 c0 _ A0).mono ?_
    rintro e w2 ⟨rfl, hb2⟩
    have HB2 := Lib.hid (HB.out.trans (hb2.mono HB.out.size))
    clear hb2
    go_wp2_with fail
    go_ret
    exact ⟨rfl, HB2.out⟩

set_option maxRecDepth 100000 in
theorem lifted (os : Os) (started : os.Started) (H : Type) (enc : TypeId × Value → H) :
    ReturnsInHanded {} Try.checked os 4 .any (Rows.bookJoinsSpec.pre6 enc Try.prog Try.f4 Rows.bookJoinsRow.domain false) (Rows.bookJoinsSpec.post enc Try.prog Try.f4 false true false false) := by
  refine returnsInHanded_of_change (C := Try.checked) own started (by kernel_rfl) Try.func4
    (ChangeSpec.witness6 (enc := enc) (C := Try.checked) false ⟨#[], #[.slice none 0 0, .slice none 0 0, .slice none 0 0], []⟩ 8 (by kernel_rfl) (by kernel_rfl) (by kernel_rfl) (by kernel_rfl)) ?_
  intro W base args ds gs before hval0 hW hcnd _
  have hval : ∀ (j : Nat) t v, Try.f4.params[j]? = some t → args[j]? = some v → Value.okWide Try.prog W .any base t v := hval0
  have hW' := hW
  obtain ⟨p, q, hA0, hV, rfl, hfz, hnd⟩ := hW
  have hA : DataW.TrodAll enc Try.prog W 0 (fun _ => true) true Try.f4.params.toList args.toList ds p := hA0
  rw [Try.params4] at hA hval
  obtain ⟨v0, vs0, d0, ds0, p0, q0, hargs, rfl, rfl, h0, r0⟩ := trodAll_cons hA
  obtain ⟨v1, vs1, d1, ds1, p1, q1, rfl, rfl, rfl, h1, r1⟩ := trodAll_cons r0
  obtain ⟨v2, vs2, d2, ds2, p2, q2, rfl, rfl, rfl, h2, r2⟩ := trodAll_cons r1
  obtain ⟨rfl, rfl, rfl⟩ := trodAll_nil r2
  obtain rfl : args = #[v0, v1, v2] := by cases args; simp_all
  obtain ⟨rfl, rfl⟩ := trodVars_none hV
  have k0 := h0
  have lt0 : ∀ x ∈ p0, x.block < W.heap.size := by obtain ⟨m, hm⟩ := k0; exact DataW.trod_lt m _ _ _ hm
  obtain ⟨x0, a0, c0, e0, rfl, l0, m0, n0, r_0⟩ := open_book Try.underlying27 contT (hval 0 27 v0 rfl rfl) h0
  have k1 := h1
  have lt1 : ∀ x ∈ p1, x.block < W.heap.size := by obtain ⟨m, hm⟩ := k1; exact DataW.trod_lt m _ _ _ hm
  obtain ⟨x1, a1, c1, e1, rfl, l1, m1, n1, r_1⟩ := open_book Try.underlying27 contT (hval 1 27 v1 rfl rfl) h1
  have k2 := h2
  have lt2 : ∀ x ∈ p2, x.block < W.heap.size := by obtain ⟨m, hm⟩ := k2; exact DataW.trod_lt m _ _ _ hm
  obtain ⟨x2, a2, c2, e2, rfl, l2, m2, n2, r_2⟩ := open_book Try.underlying27 contT (hval 2 27 v2 rfl rfl) h2
  clear hA0 hval0
  refine (walk x0 a0 c0 e0 x1 a1 c1 e1 x2 a2 c2 e2 W l0 m0 n0 r_0 l1 m1 n1 r_1 l2 m2 n2 r_2).mono fun e W' ⟨he, bel⟩ => ?_
  subst he
  exact ⟨_, rfl, _, _, _, [], _, [], hW', trodAll_mk1 (shut_bool Try.underlying4 _), (trodAll_cons_mk (Below.trod laidOut (by kernel_rfl) (of_decide_eq_true (by kernel_rfl)) k0 bel lt0) (trodAll_cons_mk (Below.trod laidOut (by kernel_rfl) (of_decide_eq_true (by kernel_rfl)) k1 bel lt1) (trodAll_cons_mk (Below.trod laidOut (by kernel_rfl) (of_decide_eq_true (by kernel_rfl)) k2 bel lt2) trodAll_mk0))), rfl, bel.frame _, fun h => by cases h⟩

theorem over : Rows.bookJoinsRow.holds Try.pinned (OpenSpec.ofChange Rows.bookJoinsSpec) :=
  OpenClaim.holds_of_wide 4 Try.f4 rfl rfl rfl rfl rfl rfl rfl ⟨rfl, rfl, rfl, rfl, rfl⟩ rfl rfl rfl rfl rfl (by kernel_rfl) Try.func4 (by kernel_rfl)
    (of_decide_eq_true (by kernel_rfl)) (by unfold Func.isWrapper; first | (rw [if_pos (by decide +kernel)]; kernel_rfl) | (rw [if_neg (by decide +kernel)]; exact ⟨rfl, rfl⟩))
    (fun os started H enc _ => lifted os started H enc)

theorem proved : Rows.BookJoinsSaid := over
#print axioms proved
end bookJoins
end Go.Proofs.Ytpfpcklonkgkeaa
