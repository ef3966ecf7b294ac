/- What shares tell together, and errors, are as the document has them; no conditions but that the listed package variable holds what the program text lays. -/
import Derived.Test.YtalbmcidlalicaaDoorRows
import Derived.Test.YtalbmcidlalicaaDoorLaid
import Derived.Test.YtalbmcidlalicaaDoorJoinedLaw
import Derived.WalkKit
import Derived.ProofKit
import Derived.OpenShut
import Derived.ShutString
import Derived.ChangeOld
import Derived.Below
namespace Go.Proofs.YtalbmcidlalicaaDoor
open Go.ChangeShapes Go.WideShapes Go.ChangeAt Go.RowKit
open Go.ChangeMaps (open_string shut_string)
set_option linter.unusedVariables false
namespace shareJoins

-- HOLE: the walk
set_option maxRecDepth 20000 in
set_option maxHeartbeats 4000000 in
theorem walk (x0 : List Sh) (a0 : Option Addr) (c0 e0 : Nat) (v0 : List Value) (w : World) (l0 : x0.length ≤ 9223372036854775807) (g0 : x0.length ≤ c0) (g_0 : c0 ≤ 9223372036854775807) (r0 : Rd w a0 e0 v0) (m0 : AreS (fun _ _ => True) w x0 v0) (z0 : ∀ i, (h : i < x0.length) → x0[i].data.length ≤ reachBytes) (hg : ErrVar w) :
    Calls Tryd.prog 5 #[.slice a0 x0.length c0] w fun e w' => e = .returned (.bool true) ∧ Below w.heap.size w w' := by
  have hrb : reachBytes = 140737488351232 := rfl
  by_cases h1 : x0.length < 1 ∨ 20 < x0.length
  · have JO := Join_out x0.length a0 c0 w h1 l0
    by_cases h2 : x0.length < 1
    · have q1 : decide ((x0.length : Int) < 1) = true := by rw [decide_eq_true_eq]; omega
      clear h1 h2
      go_enter Tryd.func5, Tryd.ntmps5
      go_wp2_with fail
      refine JO.mono ?_; rintro e w' ⟨rfl, rfl⟩
      clear JO
      go_wp2_with fail
      refine (Error_err 2 2 true (by simp) _ (hg.at_ (Below.refl w.heap.size w))).mono ?_; rintro e w3 ⟨rfl, hb3⟩
      have hb13 : Below w.heap.size w w3 := ((Below.refl w.heap.size w)).trans (hb3.mono ((Below.refl w.heap.size w)).size)
      have SB := Bytes_calls [] [] none none 0 0 5 5 w3 (.inl rfl) (.inl rfl) (by simp)
      go_wp2_with fail
      refine SB.mono ?_; rintro e w4 ⟨rfl, nd, hw4⟩
      have hb4 : Below w.heap.size w w4 := by rw [hw4]; exact below_drewN hb13 nd
      clear SB hw4
      have JF := Join_fact w4
      go_wp2_with fail
      refine JF.mono ?_; rintro e w5 ⟨bF, oF, cF, rfl, hb5, cF0⟩
      clear JF
      have hbF : Below w.heap.size w w5 := hb4.trans (hb5.mono hb4.size)
      go_wp2_with fail
      go_ret
      exact ⟨rfl, hbF⟩
    · have q1 : decide ((x0.length : Int) < 1) = false := by rw [decide_eq_false]; omega
      have q2 : decide ((20 : Int) < (x0.length : Int)) = true := by rw [decide_eq_true_eq]; omega
      clear h1 h2
      go_enter Tryd.func5, Tryd.ntmps5
      go_wp2_with fail
      refine JO.mono ?_; rintro e w' ⟨rfl, rfl⟩
      clear JO
      go_wp2_with fail
      refine (Error_err 2 2 true (by simp) _ (hg.at_ (Below.refl w.heap.size w))).mono ?_; rintro e w3 ⟨rfl, hb3⟩
      have hb13 : Below w.heap.size w w3 := ((Below.refl w.heap.size w)).trans (hb3.mono ((Below.refl w.heap.size w)).size)
      have SB := Bytes_calls [] [] none none 0 0 5 5 w3 (.inl rfl) (.inl rfl) (by simp)
      go_wp2_with fail
      refine SB.mono ?_; rintro e w4 ⟨rfl, nd, hw4⟩
      have hb4 : Below w.heap.size w w4 := by rw [hw4]; exact below_drewN hb13 nd
      clear SB hw4
      have JF := Join_fact w4
      go_wp2_with fail
      refine JF.mono ?_; rintro e w5 ⟨bF, oF, cF, rfl, hb5, cF0⟩
      clear JF
      have hbF : Below w.heap.size w w5 := hb4.trans (hb5.mono hb4.size)
      go_wp2_with fail
      go_ret
      exact ⟨rfl, hbF⟩
  · have q1 : decide ((x0.length : Int) < 1) = false := by rw [decide_eq_false]; omega
    have q2 : decide ((20 : Int) < (x0.length : Int)) = false := by rw [decide_eq_false]; omega
    have hn1 : 1 ≤ x0.length := by omega
    have hn2 : x0.length ≤ 20 := by omega
    have hL0 : (x0.headD default).data.length ≤ 140737488351232 := by
      have := z0 0 (by omega)
      cases x0 with
      | nil => simp at hn1
      | cons s ss => rw [hrb] at this; exact this
    have RF := RefFault_calls x0 1 255 1 255 rfl rfl a0 c0 e0 v0 w r0 m0 l0
    have JC := fun w hr hs => Join_calls x0 x0.length (x0.headD default).data.length a0 c0 e0 v0 w hr hs g0 g_0 hn1 hn2 (Nat.le_refl _) (Nat.le_refl _) rfl (by omega)
    clear h1 z0
    by_cases hf : sharesF 1 255 x0 x0.length = 0
    · have hall : ∀ j, (h : j < x0.length) → x0[j].data.length = (x0.headD default).data.length := fun j h => (noFault hf j h).2.2.2
      have hJ := joined_thrus x0 _ 0 (shares_nodup hf) (by omega) rfl
      have JD := fun w hr hs => Joined_calls x0 0 (x0.headD default).data.length x0.length a0 c0 e0 v0 w hr hs rfl (by omega) (by omega) hall hL0
      rw [hJ] at JD
      rw [show thrus (x0.map (·.at_)) (x0.map (·.data)) 0 = joinOf x0 from rfl] at JD
      rw [hf] at RF
      have Hf := Lib.hid hf
      have M0 := Lib.hid m0
      clear hf hall hJ hL0 hrb
      have e00 : (0 : UInt8).toNat = 0 := rfl
      simp only [e00, Int.ofNat_zero] at JD
      go_enter Tryd.func5, Tryd.ntmps5
      go_wp2_with fail
      refine RF.mono ?_; rintro e w1 ⟨rfl, nf, hw1⟩
      have hb1 : Below w.heap.size w w1 := by rw [hw1]; exact below_drewN (Below.refl _ w) nf
      clear RF hw1
      have JD1 := JD _ (r0.below hb1) (M0.out.below hb1)
      clear JD
      go_wp2_with fail
      refine JD1.mono ?_; rintro e w2 ⟨aW, cW, rfl, hownW, hb2⟩
      clear JD1
      have hb12 : Below w.heap.size w w2 := hb1.trans (hb2.mono hb1.size)
      have JC1 := JC _ (r0.below hb12) (M0.out.below hb12)
      clear JC
      go_wp2_with fail
      refine JC1.mono ?_; rintro e w3 ⟨hb3, ⟨_, aG, cG, rfl, hownG⟩ | ⟨hx, _⟩⟩
      case inr => exact absurd Hf.out hx
      clear JC1
      have hb13 : Below w.heap.size w w3 := hb12.trans (hb3.mono hb12.size)
      have hjl : (joinOf x0).length ≤ 9223372036854775807 := by
        have := own_cap hownG
        omega
      have SB := Bytes_calls (joinOf x0) (joinOf x0) aG aW cG cW 5 5 w3 (Rd.of_own hownG) ((Rd.of_own hownW).below hb3) hjl
      rw [decide_eq_true rfl] at SB
      go_wp2_with fail
      refine (Error_nil 0 true rfl _).mono ?_; rintro e w' ⟨rfl, rfl⟩
      go_wp2_with fail
      refine SB.mono ?_; rintro e w4 ⟨rfl, nd, hw4⟩
      have hb4 : Below w.heap.size w w4 := by rw [hw4]; exact below_drewN hb13 nd
      clear SB hw4
      have JF := Join_fact w4
      go_wp2_with fail
      refine JF.mono ?_; rintro e w5 ⟨bF, oF, cF, rfl, hb5, cF0⟩
      clear JF
      have hbF : Below w.heap.size w w5 := hb4.trans (hb5.mono hb4.size)
      go_wp2_with fail
      go_ret
      exact ⟨rfl, hbF⟩
    · have q3 : (sharesF 1 255 x0 x0.length == 0) = false := by rw [beq_eq_false_iff_ne]; exact hf
      obtain ⟨F, hF⟩ : ∃ F, sharesF 1 255 x0 x0.length = F := ⟨_, rfl⟩
      have M0 := Lib.hid m0
      have HF := Lib.hid hF
      have Hf := Lib.hid hf
      rw [hF] at RF q3
      clear hf hF hL0 hrb
      go_enter Tryd.func5, Tryd.ntmps5
      go_wp2_with fail
      refine RF.mono ?_; rintro e w1 ⟨rfl, nf, hw1⟩
      have hb1 : Below w.heap.size w w1 := by rw [hw1]; exact below_drewN (Below.refl _ w) nf
      clear RF hw1
      have JC1 := JC _ (r0.below hb1) (M0.out.below hb1)
      clear JC
      go_wp2_with fail
      refine JC1.mono ?_; rintro e w2 ⟨hb2, ⟨hx, _⟩ | ⟨_, he⟩⟩
      case inl => exact absurd hx Hf.out
      rw [HF.out] at he
      subst he
      clear JC1
      have hb12 : Below w.heap.size w w2 := hb1.trans (hb2.mono hb1.size)
      go_wp2_with fail
      refine (Error_err F F true (by simp) _ (hg.at_ hb12)).mono ?_; rintro e w3 ⟨rfl, hb3⟩
      have hb13 : Below w.heap.size w w3 := (hb12).trans (hb3.mono (hb12).size)
      have SB := Bytes_calls [] [] none none 0 0 5 5 w3 (.inl rfl) (.inl rfl) (by simp)
      go_wp2_with fail
      refine SB.mono ?_; rintro e w4 ⟨rfl, nd, hw4⟩
      have hb4 : Below w.heap.size w w4 := by rw [hw4]; exact below_drewN hb13 nd
      clear SB hw4
      have JF := Join_fact w4
      go_wp2_with fail
      refine JF.mono ?_; rintro e w5 ⟨bF, oF, cF, rfl, hb5, cF0⟩
      clear JF
      have hbF : Below w.heap.size w w5 := hb4.trans (hb5.mono hb4.size)
      go_wp2_with fail
      go_ret
      exact ⟨rfl, hbF⟩

set_option maxRecDepth 100000 in
theorem lifted (os : Os) (started : os.Started) (H : Type) (enc : TypeId × Value → H) :
    ReturnsInHanded {} Tryd.checked os 5 .any (fun w args => (Rows.shareJoinsSpec.pre enc Tryd.prog Tryd.f5 Rows.shareJoinsRow.domain false w args ∧ laidMetH Tryd.prog Laid.list w) ∧ sizedMet enc Tryd.prog Tryd.f5 (OpenSpec.ofChange Rows.shareJoinsSpec) false w args) (Rows.shareJoinsSpec.post enc Tryd.prog Tryd.f5 false true false false) := by
  refine returnsInHanded_of_change_and (C := Tryd.checked) (X := fun w _ => laidMetH Tryd.prog Laid.list w) (fun _ _ _ hh h => h.of_heap hh) Laid.own started (by kernel_rfl) Tryd.func5
    (ChangeSpec.witness_at (enc := enc) (C := Tryd.checked) (os := os) (X := fun w _ => laidMetH Tryd.prog Laid.list w) false (laidWorld os) #[.slice none 0 0] 8 rfl (by kernel_rfl) (by kernel_rfl) (by kernel_rfl) (by kernel_rfl) (by kernel_rfl) (laidWorld_met os _)) ?_
  intro W base args ds gs before hval0 hW _ hsz hL _
  have hg := handle_of_laid hL
  have hval : ∀ (j : Nat) t v, Tryd.f5.params[j]? = some t → args[j]? = some v → Value.okWide Tryd.prog W .any base t v := hval0
  have hW' := hW
  obtain ⟨p, q, hA0, hV, rfl, hfz, hnd⟩ := hW
  have hA : DataW.TrodAll enc Tryd.prog W 0 (fun _ => true) true Tryd.f5.params.toList args.toList ds p := hA0
  rw [Tryd.params5] at hA hval
  obtain ⟨v0, vs0, d0, ds0, p0, q0, hargs, rfl, rfl, h0, r0⟩ := trodAll_cons hA
  obtain ⟨rfl, rfl, rfl⟩ := trodAll_nil r0
  obtain rfl : args = #[v0] := by cases args; simp_all
  obtain ⟨rfl, rfl⟩ := trodVars_none hV
  have k0 := h0
  have lt0 : ∀ x ∈ p0, x.block < W.heap.size := by obtain ⟨m, hm⟩ := k0; exact DataW.trod_lt m _ _ _ hm
  obtain ⟨x0, a0, c0, e0, u0, rfl, g0, g_0, r_0, m0, z0⟩ := open_shares2 Tryd.underlying37 Tryd.underlying49 Tryd.underlying5 Tryd.underlying33 Tryd.underlying5 (by kernel_rfl) (by kernel_rfl) (by kernel_rfl) (by kernel_rfl) rfl rfl (by kernel_rfl) (fun n hn => of_decide_eq_true (List.all_eq_true.1 hsz n (DataW.weights_mem_each (j := 0) (by first | rfl | kernel_rfl) rfl n hn))) (hval 0 37 v0 rfl rfl) h0
  have l0 : x0.length ≤ 9223372036854775807 := by omega
  clear hA0 hval0
  refine (walk x0 a0 c0 e0 u0 W l0 g0 g_0 r_0 m0 z0 hg).mono fun e W' ⟨he, bel⟩ => ?_
  subst he
  exact ⟨_, rfl, _, _, _, [], _, [], hW', trodAll_mk1 (shut_bool Tryd.underlying4 _), (trodAll_cons_mk (Below.trod Laid.laidOut (by kernel_rfl) (of_decide_eq_true (by kernel_rfl)) k0 bel lt0) trodAll_mk0), rfl, bel.frame _, fun h => by cases h⟩

theorem over : Rows.shareJoinsRow.holds Tryd.pinned (OpenSpec.ofChange Rows.shareJoinsSpec) :=
  OpenClaim.holds_of_wide 5 Tryd.f5 rfl rfl rfl rfl rfl rfl rfl ⟨rfl, rfl, rfl, rfl, rfl⟩ rfl rfl rfl rfl rfl (by kernel_rfl) Tryd.func5 (by kernel_rfl)
    (of_decide_eq_true (by kernel_rfl)) (by unfold Func.isWrapper; first | (rw [if_pos (by decide +kernel)]; kernel_rfl) | (rw [if_neg (by decide +kernel)]; exact ⟨rfl, rfl⟩))
    (fun os started H enc _ => lifted os started H enc)

theorem proved : Rows.ShareJoinsCardSaid :=
  Claim7.holds_tied_plain_at .later [] [.handle] true (true, "bf1fbc32c3425ab6ada0ace87329c2efbd99e0e7f004f60d603e2408cd6a4aa3") true
    over (fun _ h => by cases h) (by kernel_rfl) (fun _ h => by cases h) shareJoins_row_tie rfl ⟨rfl, rfl⟩ (by kernel_rfl) rfl
    (fun f fn hf hfn => by
      obtain rfl : f = 5 := Option.some.inj ((show Tryd.prog.funcNamed "oathbook/oathbooklaw2.ShareJoins" = some 5 by kernel_rfl).symm.trans hf) |>.symm
      obtain rfl : fn = Tryd.f5 := (Option.some.inj (Tryd.func5.symm.trans hfn)).symm
      exact ⟨by kernel_rfl, stand_of_all (by kernel_rfl)⟩)
    (by kernel_rfl)
#print axioms proved
end shareJoins
end Go.Proofs.YtalbmcidlalicaaDoor
