/- Values, shares and errors of splitting are as the document has them; no conditions but that the listed package variable holds what the program text lays. -/
import Derived.Test.YtalbmcidlalicaaDoorRows
import Derived.Test.YtalbmcidlalicaaDoorLaid
import Derived.Test.YtalbmcidlalicaaDoorRefSplit
import Derived.Test.YtalbmcidlalicaaDoorSameShares
import Derived.Test.YtalbmcidlalicaaDoorSplitAny
import Derived.WalkKit
import Derived.ProofKit
import Derived.OpenShut
import Derived.ShutString
import Derived.ChangeOld
import Derived.Below
namespace Go.Proofs.YtalbmcidlalicaaDoor
open Go.ChangeShapes Go.WideShapes Go.ChangeAt Go.RowKit
open Go.ChangeMaps (open_string shut_string)
set_option linter.unusedVariables false
namespace shareTells

-- HOLE: the walk
set_option maxRecDepth 20000 in
set_option maxHeartbeats 4000000 in
theorem walk (x0 : List UInt8) (a0 : Option Addr) (c0 e0 : Nat) (a1 : UInt8) (x2 : List UInt8) (a2 : Option Addr) (c2 e2 : Nat) (a3 : Int) (x4 : List (List UInt8)) (a4 : Option Addr) (c4 e4 : Nat) (v4 : List Value) (w : World) (l0 : x0.length ≤ 9223372036854775807) (r0 : Rd w a0 e0 (x0.map vB)) (l2 : x2.length ≤ 9223372036854775807) (r2 : Rd w a2 e2 (x2.map vB)) (h3 : -9223372036854775808 ≤ a3 ∧ a3 ≤ 9223372036854775807) (l4 : x4.length ≤ 9223372036854775807) (r4 : Rd w a4 e4 v4) (m4 : AreB (fun _ _ => True) w x4 v4) (hg : ErrVar w) :
    Calls Tryd.prog 4 #[.slice a0 x0.length c0, .int .u8 a1.toNat, .slice a2 x2.length c2, .int .i64 a3, .slice a4 x4.length c4] w fun e w' => e = .returned (.bool true) ∧ Below w.heap.size w w' := by
  have VC := fun w h => Value_calls x0 a1 a0 c0 e0 w h l0
  have RC := fun w h => RefValue_calls x0 a1 a0 c0 e0 w h l0
  have FC := fun w ha hb hv => SplitFault_calls x2 a3 x4 a2 c2 e2 a4 c4 e4 v4 w ha hb hv l2 l4
  have t1 : (((Gf.val x0 a1).toNat : Int) != ((Gf.val x0 a1).toNat : Int)) = false := by simp
  generalize Gf.val x0 a1 = y at *
  have M4 := Lib.hid m4
  by_cases hf : splitF x2 a3 x4 = 0
  · obtain ⟨k1, k2, _, _, _⟩ := splitF_zero hf
    obtain ⟨n, rfl⟩ : ∃ n : Nat, a3 = n := ⟨a3.toNat, by omega⟩
    rw [hf] at FC
    have SC := fun w ha hb hv => SplitOf_calls x2 n x4 a2 c2 e2 a4 c4 e4 v4 w ha hb hv hf
    have KC := fun w ha hb hv => Split_ok hf a2 c2 e2 a4 c4 e4 v4 w ha hb hv l2 l4
    have Hf := Lib.hid hf
    clear hf
    go_enter Tryd.func4, Tryd.ntmps4
    go_wp2_with fail
    refine (VC _ r0).mono ?_; rintro e w1 ⟨rfl, hb1⟩
    have RC1 := RC _ (r0.below hb1)
    have FC1 := FC _ (r2.below hb1) (r4.below hb1) (m4.below hb1)
    clear VC RC FC
    go_wp2_with fail
    refine RC1.mono ?_; rintro e w' ⟨rfl, rfl⟩
    go_wp2_with fail
    refine FC1.mono ?_; rintro e w' ⟨rfl, rfl⟩
    clear RC1 FC1
    have SC1 := SC _ (r2.below hb1) (r4.below hb1) (M4.out.below hb1)
    clear SC
    go_wp2_with fail
    refine SC1.mono ?_; rintro e w2 ⟨hb2, aS, cS, vS, rfl, hc1, hc2, rS, mS⟩
    have hb12 : Below w.heap.size w w2 := hb1.trans (hb2.mono hb1.size)
    have KC1 := KC _ (r2.below hb12) (r4.below hb12) (M4.out.below hb12)
    clear KC SC1
    go_wp2_with fail
    refine KC1.mono ?_; rintro e w3 ⟨aT, cT, vT, rfl, hb3, hd1, hd2, rT, mT⟩
    clear KC1
    have hb13 : Below w.heap.size w w3 := hb12.trans (hb3.mono hb12.size)
    simp only [Int.toNat_natCast] at *
    have SH := Shares_calls (splitOf x2 n x4) (splitOf x2 n x4) aT aS cT cS _ _ vT vS w3 rT (mT.mono fun _ _ _ _ => trivial) (rS.below hb3) ((mS.below hb3).mono fun _ _ _ _ => trivial) (by rw [splitOf_length]; omega)
    rw [splitOf_length, (same_iff _ _).2 rfl] at SH
    go_wp2_with fail
    refine (Error_nil 0 true rfl _).mono ?_; rintro e w' ⟨rfl, rfl⟩
    go_wp2_with fail
    refine SH.mono ?_; rintro e w4 ⟨rfl, nd, hw4⟩
    have hb4 : Below w.heap.size w w4 := by rw [hw4]; exact below_drewN hb13 nd
    clear SH hw4
    have VF := Value_calls [5, 1] 2 (some ⟨w4.heap.size, 0, none⟩) 2 5 (w4.alloc (.cells #[.int .u8 5, .int .u8 1] 5)) (Rd.new w4 #[.int .u8 5, .int .u8 1] 5) (by simp)
    have e7 : (Gf.val [5, 1] 2).toNat = 7 := by decide +kernel
    rw [e7] at VF
    clear e7
    go_wp2_with fail
    refine VF.mono ?_; rintro e w5 ⟨rfl, hb5⟩
    clear VF
    go_wp2_with fail
    go_ret
    exact ⟨rfl, (hb4.alloc hb4.size _).trans (hb5.mono (by have := hb4.size; simp; omega))⟩
  · have KC := fun w ha hb hv => Split_no hf a2 c2 e2 a4 c4 e4 v4 w ha hb hv l2 l4
    have q1 : (splitF x2 a3 x4 == 0) = false := by rw [beq_eq_false_iff_ne]; exact hf
    clear hf
    obtain ⟨F, hF⟩ : ∃ F, splitF x2 a3 x4 = F := ⟨_, rfl⟩
    rw [hF] at FC KC q1
    clear hF
    go_enter Tryd.func4, Tryd.ntmps4
    go_wp2_with fail
    refine (VC _ r0).mono ?_; rintro e w1 ⟨rfl, hb1⟩
    have RC1 := RC _ (r0.below hb1)
    have FC1 := FC _ (r2.below hb1) (r4.below hb1) (m4.below hb1)
    clear VC RC FC
    go_wp2_with fail
    refine RC1.mono ?_; rintro e w' ⟨rfl, rfl⟩
    go_wp2_with fail
    refine FC1.mono ?_; rintro e w' ⟨rfl, rfl⟩
    clear RC1 FC1
    have KC1 := KC _ (r2.below hb1) (r4.below hb1) (M4.out.below hb1)
    clear KC
    go_wp2_with fail
    refine KC1.mono ?_; rintro e w2 ⟨rfl, hb2⟩
    have hb12 : Below w.heap.size w w2 := hb1.trans (hb2.mono hb1.size)
    clear KC1
    go_wp2_with fail
    refine (Error_err F F true (by simp) _ (hg.at_ hb12)).mono ?_; rintro e w3 ⟨rfl, hb3⟩
    have hb13 : Below w.heap.size w w3 := hb12.trans (hb3.mono hb12.size)
    have SH := Shares_calls [] [] none none 0 0 49 49 [] [] w3 (.inl rfl) AreS.nil (.inl rfl) AreS.nil (by simp)
    rw [(same_iff _ _).2 rfl] at SH
    go_wp2_with fail
    refine SH.mono ?_; rintro e w4 ⟨rfl, nd, hw4⟩
    have hb4 : Below w.heap.size w w4 := by rw [hw4]; exact below_drewN hb13 nd
    clear SH hw4
    have VF := Value_calls [5, 1] 2 (some ⟨w4.heap.size, 0, none⟩) 2 5 (w4.alloc (.cells #[.int .u8 5, .int .u8 1] 5)) (Rd.new w4 #[.int .u8 5, .int .u8 1] 5) (by simp)
    have e7 : (Gf.val [5, 1] 2).toNat = 7 := by decide +kernel
    rw [e7] at VF
    clear e7
    go_wp2_with fail
    refine VF.mono ?_; rintro e w5 ⟨rfl, hb5⟩
    clear VF
    go_wp2_with fail
    go_ret
    exact ⟨rfl, (hb4.alloc hb4.size _).trans (hb5.mono (by have := hb4.size; simp; omega))⟩

set_option maxRecDepth 100000 in
theorem lifted (os : Os) (started : os.Started) (H : Type) (enc : TypeId × Value → H) :
    ReturnsInHanded {} Tryd.checked os 4 .any (fun w args => (Rows.shareTellsSpec.pre enc Tryd.prog Tryd.f4 Rows.shareTellsRow.domain false w args ∧ laidMetH Tryd.prog Laid.list w) ∧ sizedMet enc Tryd.prog Tryd.f4 (OpenSpec.ofChange Rows.shareTellsSpec) false w args) (Rows.shareTellsSpec.post enc Tryd.prog Tryd.f4 false true false false) := by
  refine returnsInHanded_of_change_and (C := Tryd.checked) (X := fun w _ => laidMetH Tryd.prog Laid.list w) (fun _ _ _ hh h => h.of_heap hh) Laid.own started (by kernel_rfl) Tryd.func4
    (ChangeSpec.witness_at (enc := enc) (C := Tryd.checked) (os := os) (X := fun w _ => laidMetH Tryd.prog Laid.list w) false (laidWorld os) #[.slice none 0 0, .int .u8 0, .slice none 0 0, .int .i64 0, .slice none 0 0] 8 rfl (by kernel_rfl) (by kernel_rfl) (by kernel_rfl) (by kernel_rfl) (by kernel_rfl) (laidWorld_met os _)) ?_
  intro W base args ds gs before hval0 hW _ _ hL _
  have hg := handle_of_laid hL
  have hval : ∀ (j : Nat) t v, Tryd.f4.params[j]? = some t → args[j]? = some v → Value.okWide Tryd.prog W .any base t v := hval0
  have hW' := hW
  obtain ⟨p, q, hA0, hV, rfl, hfz, hnd⟩ := hW
  have hA : DataW.TrodAll enc Tryd.prog W 0 (fun _ => true) true Tryd.f4.params.toList args.toList ds p := hA0
  rw [Tryd.params4] at hA hval
  obtain ⟨v0, vs0, d0, ds0, p0, q0, hargs, rfl, rfl, h0, r0⟩ := trodAll_cons hA
  obtain ⟨v1, vs1, d1, ds1, p1, q1, rfl, rfl, rfl, h1, r1⟩ := trodAll_cons r0
  obtain ⟨v2, vs2, d2, ds2, p2, q2, rfl, rfl, rfl, h2, r2⟩ := trodAll_cons r1
  obtain ⟨v3, vs3, d3, ds3, p3, q3, rfl, rfl, rfl, h3, r3⟩ := trodAll_cons r2
  obtain ⟨v4, vs4, d4, ds4, p4, q4, rfl, rfl, rfl, h4, r4⟩ := trodAll_cons r3
  obtain ⟨rfl, rfl, rfl⟩ := trodAll_nil r4
  obtain rfl : args = #[v0, v1, v2, v3, v4] := by cases args; simp_all
  obtain ⟨rfl, rfl⟩ := trodVars_none hV
  have k0 := h0
  have lt0 : ∀ x ∈ p0, x.block < W.heap.size := by obtain ⟨m, hm⟩ := k0; exact DataW.trod_lt m _ _ _ hm
  obtain ⟨x0, a0, c0, e0, rfl, l0, r_0⟩ := open_bytes Tryd.underlying33 Tryd.underlying5 (by kernel_rfl) (hval 0 33 v0 rfl rfl) h0
  have k1 := h1
  have lt1 : ∀ x ∈ p1, x.block < W.heap.size := by obtain ⟨m, hm⟩ := k1; exact DataW.trod_lt m _ _ _ hm
  obtain ⟨z1, rfl, _, _, w1⟩ := open_int Tryd.underlying5 (hval 1 5 v1 rfl rfl) h1
  have b1 := bounds_u8 w1
  obtain ⟨a1, rfl⟩ : ∃ a : UInt8, z1 = (a.toNat : Int) := ⟨UInt8.ofNat z1.toNat, by simp; omega⟩
  have k2 := h2
  have lt2 : ∀ x ∈ p2, x.block < W.heap.size := by obtain ⟨m, hm⟩ := k2; exact DataW.trod_lt m _ _ _ hm
  obtain ⟨x2, a2, c2, e2, rfl, l2, r_2⟩ := open_bytes Tryd.underlying33 Tryd.underlying5 (by kernel_rfl) (hval 2 33 v2 rfl rfl) h2
  have k3 := h3
  have lt3 : ∀ x ∈ p3, x.block < W.heap.size := by obtain ⟨m, hm⟩ := k3; exact DataW.trod_lt m _ _ _ hm
  obtain ⟨a3, rfl, _, _, w3⟩ := open_int Tryd.underlying3 (hval 3 3 v3 rfl rfl) h3
  have b3 := bounds_i64 w3
  have k4 := h4
  have lt4 : ∀ x ∈ p4, x.block < W.heap.size := by obtain ⟨m, hm⟩ := k4; exact DataW.trod_lt m _ _ _ hm
  obtain ⟨x4, a4, c4, e4, u4, rfl, l4, r_4, m4⟩ := open_rows Tryd.underlying34 Tryd.underlying33 Tryd.underlying5 (by kernel_rfl) (by kernel_rfl) (hval 4 34 v4 rfl rfl) h4
  clear hA0 hval0
  refine (walk x0 a0 c0 e0 a1 x2 a2 c2 e2 a3 x4 a4 c4 e4 u4 W l0 r_0 l2 r_2 b3 l4 r_4 m4 hg).mono fun e W' ⟨he, bel⟩ => ?_
  subst he
  exact ⟨_, rfl, _, _, _, [], _, [], hW', trodAll_mk1 (shut_bool Tryd.underlying4 _), (trodAll_cons_mk (Below.trod Laid.laidOut (by kernel_rfl) (of_decide_eq_true (by kernel_rfl)) k0 bel lt0) (trodAll_cons_mk (Below.trod Laid.laidOut (by kernel_rfl) (of_decide_eq_true (by kernel_rfl)) k1 bel lt1) (trodAll_cons_mk (Below.trod Laid.laidOut (by kernel_rfl) (of_decide_eq_true (by kernel_rfl)) k2 bel lt2) (trodAll_cons_mk (Below.trod Laid.laidOut (by kernel_rfl) (of_decide_eq_true (by kernel_rfl)) k3 bel lt3) (trodAll_cons_mk (Below.trod Laid.laidOut (by kernel_rfl) (of_decide_eq_true (by kernel_rfl)) k4 bel lt4) trodAll_mk0))))), rfl, bel.frame _, fun h => by cases h⟩

theorem over : Rows.shareTellsRow.holds Tryd.pinned (OpenSpec.ofChange Rows.shareTellsSpec) :=
  OpenClaim.holds_of_wide 4 Tryd.f4 rfl rfl rfl rfl rfl rfl rfl ⟨rfl, rfl, rfl, rfl, rfl⟩ rfl rfl rfl rfl rfl (by kernel_rfl) Tryd.func4 (by kernel_rfl)
    (of_decide_eq_true (by kernel_rfl)) (by unfold Func.isWrapper; first | (rw [if_pos (by decide +kernel)]; kernel_rfl) | (rw [if_neg (by decide +kernel)]; exact ⟨rfl, rfl⟩))
    (fun os started H enc _ => lifted os started H enc)

theorem proved : Rows.ShareTellsCardSaid :=
  Claim7.holds_tied_plain_at .later [] [.handle] true (true, "bf1fbc32c3425ab6ada0ace87329c2efbd99e0e7f004f60d603e2408cd6a4aa3") true
    over (fun _ h => by cases h) (by kernel_rfl) (fun _ h => by cases h) shareTells_row_tie rfl ⟨rfl, rfl⟩ (by kernel_rfl) rfl
    (fun f fn hf hfn => by
      obtain rfl : f = 4 := Option.some.inj ((show Tryd.prog.funcNamed "oathbook/oathbooklaw2.ShareTells" = some 4 by kernel_rfl).symm.trans hf) |>.symm
      obtain rfl : fn = Tryd.f4 := (Option.some.inj (Tryd.func4.symm.trans hfn)).symm
      exact ⟨by kernel_rfl, stand_of_all (by kernel_rfl)⟩)
    (by kernel_rfl)
#print axioms proved
end shareTells
end Go.Proofs.YtalbmcidlalicaaDoor
