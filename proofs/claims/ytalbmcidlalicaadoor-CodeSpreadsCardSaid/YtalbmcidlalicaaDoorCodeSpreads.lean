/- Rows that are spread, and errors, are as the document has them; no conditions but that the listed package variable holds what the program text lays. -/
import Derived.Test.YtalbmcidlalicaaDoorRows
import Derived.Test.YtalbmcidlalicaaDoorLaid
import Derived.Test.YtalbmcidlalicaaDoorJoinedLaw
import Derived.Test.YtalbmcidlalicaaDoorCode
import Derived.Test.YtalbmcidlalicaaDoorSpread
import Derived.Test.YtalbmcidlalicaaDoorAnyLaw
import Derived.WalkKit
import Derived.ProofKit
import Derived.OpenShut
import Derived.ShutString
import Derived.ChangeOld
import Derived.Below
namespace Go.Proofs.YtalbmcidlalicaaDoor
open Go.ChangeShapes Go.WideShapes Go.ChangeAt Go.RowKit
open Go.ChangeMaps (open_string shut_string)
set_option linter.unusedVariables false
namespace codeSpreads

-- HOLE: the walk
theorem Joined_rows (rows : List (List UInt8)) (x : UInt8) (y : Int) (hy : y = x.toNat) (L : Nat) (a : Option Addr) (ca ea : Nat) (vs : List Value) (w : World) (hr : Rd w a ea vs) (hs : AreS (fun _ _ => True) w (picked rows (List.range rows.length)) vs) (h0 : 0 < rows.length) (h1 : rows.length ≤ 20)
    (hL0 : (rows.headD []).length = L) (hall : ∀ r ∈ rows, r.length = L) (hL : L ≤ 100) :
    Calls Tryd.prog 23 #[.slice a rows.length ca, .int .u8 y] w (RetB w (thrus (ats rows.length) rows x)) := by
  subst hy
  have hd : (picked rows (List.range rows.length)).map (·.data) = rows := by
    rw [picked_data]
    apply List.ext_getElem
    · simp
    · intro i h1 h2
      simp only [List.getElem_map, List.getElem_range]
      rw [List.getD_eq_getElem?_getD, List.getElem?_eq_getElem h2]; rfl
  have ha : (picked rows (List.range rows.length)).map (·.at_) = ats rows.length := by rw [picked_at]; rfl
  have hpl : (picked rows (List.range rows.length)).length = rows.length := by rw [picked_length, List.length_range]
  have hh : ((picked rows (List.range rows.length)).headD default).data.length = L := by
    cases x0' : rows with
    | nil => rw [x0'] at h0; simp at h0
    | cons r rs =>
      rw [x0'] at hL0
      have e1 : List.range (r :: rs).length = 0 :: (List.range rs.length).map Nat.succ := by rw [List.length_cons, List.range_succ_eq_map]
      rw [e1]
      exact hL0
  have hj := joined_thrus (picked rows (List.range rows.length)) L x (by rw [ha]; exact ats_nodup _ (by omega)) (by rw [hpl]; exact h0) hh
  rw [ha, hd] at hj
  rw [← hj]
  refine Joined_calls _ x L rows.length a ca ea vs w hr hs hpl h0 (by omega) (fun j h => ?_) (by omega)
  refine hall _ ?_
  have hm : ((picked rows (List.range rows.length))[j]).data ∈ (picked rows (List.range rows.length)).map (·.data) := List.mem_map.2 ⟨_, List.getElem_mem h, rfl⟩
  exact (congrArg (fun l => ((picked rows (List.range rows.length))[j]).data ∈ l) hd).mp hm
set_option maxRecDepth 20000 in
set_option maxHeartbeats 8000000 in
theorem walk (x0 : List (List UInt8)) (a0 : Option Addr) (c0 e0 : Nat) (v0 : List Value) (a1 : Int) (w : World) (l0 : x0.length ≤ 9223372036854775807) (r0 : Rd w a0 e0 v0) (m0 : AreB (fun _ _ => True) w x0 v0) (h1 : -9223372036854775808 ≤ a1 ∧ a1 ≤ 9223372036854775807) (hg : ErrVar w) :
    Calls Tryd.prog 6 #[.slice a0 x0.length c0, .int .i64 a1] w fun e w' => e = .returned (.bool true) ∧ Below w.heap.size w w' := by
  have M0 := Lib.hid m0
  by_cases hA : (x0.length : Int) < 1 ∨ a1 < x0.length ∨ 20 < a1
  · have hF : spreadF x0 a1 = 2 := by unfold spreadF; rw [if_pos hA]
    have HF := Lib.hid hF
    have SC := fun w hr hs => Spread_no (by rw [HF.out]; decide) a0 c0 e0 v0 w hr hs l0
    clear hF
    by_cases h2 : (x0.length : Int) < 1
    · have q1 : decide ((x0.length : Int) < 1) = true := by rw [decide_eq_true_eq]; omega
      have q4 : decide (0 < x0.length) = false := by rw [decide_eq_false]; omega
      clear hA h2
      by_cases h7 : (0 : Int) < a1
      · have q7 : decide ((0 : Int) < a1) = true := decide_eq_true h7
        clear h7
        go_enter Tryd.func6, Tryd.ntmps6
        go_wp2_with fail
        refine wp_loop_rounds 1 ?_
        rw [rounds_succ]
        go_wp2_with fail
        refine wp_loop_rounds 1 ?_
        rw [rounds_succ]
        go_wp2_with fail
        have SC1 := SC w (r0.below (Below.refl w.heap.size w)) (M0.out.below (Below.refl w.heap.size w))
        clear SC
        refine SC1.mono ?_; rintro e w2 ⟨he, hb2⟩
        rw [HF.out] at he
        subst he
        clear SC1
        have hb12 : Below w.heap.size w w2 := ((Below.refl w.heap.size w)).trans (hb2.mono ((Below.refl w.heap.size w)).size)
        go_wp2_with fail
        refine (Error_err 2 2 true (by simp) _ (hg.at_ hb12)).mono ?_; rintro e w3 ⟨rfl, hb3⟩
        have hb13 : Below w.heap.size w w3 := hb12.trans (hb3.mono hb12.size)
        have SB := Rows_calls [] [] none none 0 0 33 33 [] [] w3 (.inl rfl) AreB.nil (.inl rfl) AreB.nil (by simp)
        rw [decide_eq_true rfl] at SB
        go_wp2_with fail
        refine SB.mono ?_; rintro e w4 ⟨rfl, nd, hw4⟩
        have hb4 : Below w.heap.size w w4 := by rw [hw4]; exact below_drewN hb13 nd
        clear SB hw4
        have FC := Spread_fact w4
        go_wp2_with fail
        refine FC.mono ?_; rintro e w5 ⟨fa, fcap, fvs, rfl, hb5, fr, fA⟩
        clear FC
        have hbF : Below w.heap.size w w5 := hb4.trans (hb5.mono hb4.size)
        obtain ⟨bF, oF, rfl, _, hcF⟩ := fr.cell (k := 1) (by rw [fA.1]; decide)
        obtain ⟨aF, cF, eF, hvF, rF, _⟩ := fA.2 1 (by decide) (by rw [fA.1]; decide)
        have f1 : w5.cell? ⟨bF, oF + 1, none⟩ = some (.slice aF 1 cF) := by
          have h9 := hcF 1 (by rw [fA.1]; decide)
          rw [hvF] at h9
          exact h9
        obtain ⟨bG, oG, rfl, _, hcG⟩ := rF.bytes (k := 0) (by decide)
        have f2 : w5.cell? ⟨bG, oG, none⟩ = some (.int .u8 7) := hcG 0 (by decide)
        clear hcF hcG hvF rF fr fA
        go_wp2_with fail
        go_ret
        exact ⟨rfl, hbF⟩
      · have q7 : decide ((0 : Int) < a1) = false := decide_eq_false h7
        clear h7
        go_enter Tryd.func6, Tryd.ntmps6
        go_wp2_with fail
        refine wp_loop_rounds 1 ?_
        rw [rounds_succ]
        go_wp2_with fail
        refine wp_loop_rounds 1 ?_
        rw [rounds_succ]
        go_wp2_with fail
        have SC1 := SC w (r0.below (Below.refl w.heap.size w)) (M0.out.below (Below.refl w.heap.size w))
        clear SC
        refine SC1.mono ?_; rintro e w2 ⟨he, hb2⟩
        rw [HF.out] at he
        subst he
        clear SC1
        have hb12 : Below w.heap.size w w2 := ((Below.refl w.heap.size w)).trans (hb2.mono ((Below.refl w.heap.size w)).size)
        go_wp2_with fail
        refine (Error_err 2 2 true (by simp) _ (hg.at_ hb12)).mono ?_; rintro e w3 ⟨rfl, hb3⟩
        have hb13 : Below w.heap.size w w3 := hb12.trans (hb3.mono hb12.size)
        have SB := Rows_calls [] [] none none 0 0 33 33 [] [] w3 (.inl rfl) AreB.nil (.inl rfl) AreB.nil (by simp)
        rw [decide_eq_true rfl] at SB
        go_wp2_with fail
        refine SB.mono ?_; rintro e w4 ⟨rfl, nd, hw4⟩
        have hb4 : Below w.heap.size w w4 := by rw [hw4]; exact below_drewN hb13 nd
        clear SB hw4
        have FC := Spread_fact w4
        go_wp2_with fail
        refine FC.mono ?_; rintro e w5 ⟨fa, fcap, fvs, rfl, hb5, fr, fA⟩
        clear FC
        have hbF : Below w.heap.size w w5 := hb4.trans (hb5.mono hb4.size)
        obtain ⟨bF, oF, rfl, _, hcF⟩ := fr.cell (k := 1) (by rw [fA.1]; decide)
        obtain ⟨aF, cF, eF, hvF, rF, _⟩ := fA.2 1 (by decide) (by rw [fA.1]; decide)
        have f1 : w5.cell? ⟨bF, oF + 1, none⟩ = some (.slice aF 1 cF) := by
          have h9 := hcF 1 (by rw [fA.1]; decide)
          rw [hvF] at h9
          exact h9
        obtain ⟨bG, oG, rfl, _, hcG⟩ := rF.bytes (k := 0) (by decide)
        have f2 : w5.cell? ⟨bG, oG, none⟩ = some (.int .u8 7) := hcG 0 (by decide)
        clear hcF hcG hvF rF fr fA
        go_wp2_with fail
        go_ret
        exact ⟨rfl, hbF⟩
    · have q1 : decide ((x0.length : Int) < 1) = false := by rw [decide_eq_false]; omega
      have q4 : decide (0 < x0.length) = true := by rw [decide_eq_true_eq]; omega
      by_cases h3 : a1 < x0.length
      · have q2 : decide (a1 < (x0.length : Int)) = true := by rw [decide_eq_true_eq]; omega
        clear hA h2 h3
        by_cases h7 : (0 : Int) < a1
        · have q7 : decide ((0 : Int) < a1) = true := decide_eq_true h7
          clear h7
          go_enter Tryd.func6, Tryd.ntmps6
          go_wp2_with fail
          refine wp_loop_rounds 1 ?_
          rw [rounds_succ]
          go_wp2_with fail
          refine wp_loop_rounds 1 ?_
          rw [rounds_succ]
          go_wp2_with fail
          have SC1 := SC w (r0.below (Below.refl w.heap.size w)) (M0.out.below (Below.refl w.heap.size w))
          clear SC
          refine SC1.mono ?_; rintro e w2 ⟨he, hb2⟩
          rw [HF.out] at he
          subst he
          clear SC1
          have hb12 : Below w.heap.size w w2 := ((Below.refl w.heap.size w)).trans (hb2.mono ((Below.refl w.heap.size w)).size)
          go_wp2_with fail
          refine (Error_err 2 2 true (by simp) _ (hg.at_ hb12)).mono ?_; rintro e w3 ⟨rfl, hb3⟩
          have hb13 : Below w.heap.size w w3 := hb12.trans (hb3.mono hb12.size)
          have SB := Rows_calls [] [] none none 0 0 33 33 [] [] w3 (.inl rfl) AreB.nil (.inl rfl) AreB.nil (by simp)
          rw [decide_eq_true rfl] at SB
          go_wp2_with fail
          refine SB.mono ?_; rintro e w4 ⟨rfl, nd, hw4⟩
          have hb4 : Below w.heap.size w w4 := by rw [hw4]; exact below_drewN hb13 nd
          clear SB hw4
          have FC := Spread_fact w4
          go_wp2_with fail
          refine FC.mono ?_; rintro e w5 ⟨fa, fcap, fvs, rfl, hb5, fr, fA⟩
          clear FC
          have hbF : Below w.heap.size w w5 := hb4.trans (hb5.mono hb4.size)
          obtain ⟨bF, oF, rfl, _, hcF⟩ := fr.cell (k := 1) (by rw [fA.1]; decide)
          obtain ⟨aF, cF, eF, hvF, rF, _⟩ := fA.2 1 (by decide) (by rw [fA.1]; decide)
          have f1 : w5.cell? ⟨bF, oF + 1, none⟩ = some (.slice aF 1 cF) := by
            have h9 := hcF 1 (by rw [fA.1]; decide)
            rw [hvF] at h9
            exact h9
          obtain ⟨bG, oG, rfl, _, hcG⟩ := rF.bytes (k := 0) (by decide)
          have f2 : w5.cell? ⟨bG, oG, none⟩ = some (.int .u8 7) := hcG 0 (by decide)
          clear hcF hcG hvF rF fr fA
          go_wp2_with fail
          go_ret
          exact ⟨rfl, hbF⟩
        · have q7 : decide ((0 : Int) < a1) = false := decide_eq_false h7
          clear h7
          go_enter Tryd.func6, Tryd.ntmps6
          go_wp2_with fail
          refine wp_loop_rounds 1 ?_
          rw [rounds_succ]
          go_wp2_with fail
          refine wp_loop_rounds 1 ?_
          rw [rounds_succ]
          go_wp2_with fail
          have SC1 := SC w (r0.below (Below.refl w.heap.size w)) (M0.out.below (Below.refl w.heap.size w))
          clear SC
          refine SC1.mono ?_; rintro e w2 ⟨he, hb2⟩
          rw [HF.out] at he
          subst he
          clear SC1
          have hb12 : Below w.heap.size w w2 := ((Below.refl w.heap.size w)).trans (hb2.mono ((Below.refl w.heap.size w)).size)
          go_wp2_with fail
          refine (Error_err 2 2 true (by simp) _ (hg.at_ hb12)).mono ?_; rintro e w3 ⟨rfl, hb3⟩
          have hb13 : Below w.heap.size w w3 := hb12.trans (hb3.mono hb12.size)
          have SB := Rows_calls [] [] none none 0 0 33 33 [] [] w3 (.inl rfl) AreB.nil (.inl rfl) AreB.nil (by simp)
          rw [decide_eq_true rfl] at SB
          go_wp2_with fail
          refine SB.mono ?_; rintro e w4 ⟨rfl, nd, hw4⟩
          have hb4 : Below w.heap.size w w4 := by rw [hw4]; exact below_drewN hb13 nd
          clear SB hw4
          have FC := Spread_fact w4
          go_wp2_with fail
          refine FC.mono ?_; rintro e w5 ⟨fa, fcap, fvs, rfl, hb5, fr, fA⟩
          clear FC
          have hbF : Below w.heap.size w w5 := hb4.trans (hb5.mono hb4.size)
          obtain ⟨bF, oF, rfl, _, hcF⟩ := fr.cell (k := 1) (by rw [fA.1]; decide)
          obtain ⟨aF, cF, eF, hvF, rF, _⟩ := fA.2 1 (by decide) (by rw [fA.1]; decide)
          have f1 : w5.cell? ⟨bF, oF + 1, none⟩ = some (.slice aF 1 cF) := by
            have h9 := hcF 1 (by rw [fA.1]; decide)
            rw [hvF] at h9
            exact h9
          obtain ⟨bG, oG, rfl, _, hcG⟩ := rF.bytes (k := 0) (by decide)
          have f2 : w5.cell? ⟨bG, oG, none⟩ = some (.int .u8 7) := hcG 0 (by decide)
          clear hcF hcG hvF rF fr fA
          go_wp2_with fail
          go_ret
          exact ⟨rfl, hbF⟩
      · have q2 : decide (a1 < (x0.length : Int)) = false := by rw [decide_eq_false]; omega
        have q3 : decide ((20 : Int) < a1) = true := by rw [decide_eq_true_eq]; omega
        have q7 : decide ((0 : Int) < a1) = true := by rw [decide_eq_true_eq]; omega
        clear hA h2 h3
        go_enter Tryd.func6, Tryd.ntmps6
        go_wp2_with fail
        refine wp_loop_rounds 1 ?_
        rw [rounds_succ]
        go_wp2_with fail
        refine wp_loop_rounds 1 ?_
        rw [rounds_succ]
        go_wp2_with fail
        have SC1 := SC w (r0.below (Below.refl w.heap.size w)) (M0.out.below (Below.refl w.heap.size w))
        clear SC
        refine SC1.mono ?_; rintro e w2 ⟨he, hb2⟩
        rw [HF.out] at he
        subst he
        clear SC1
        have hb12 : Below w.heap.size w w2 := ((Below.refl w.heap.size w)).trans (hb2.mono ((Below.refl w.heap.size w)).size)
        go_wp2_with fail
        refine (Error_err 2 2 true (by simp) _ (hg.at_ hb12)).mono ?_; rintro e w3 ⟨rfl, hb3⟩
        have hb13 : Below w.heap.size w w3 := hb12.trans (hb3.mono hb12.size)
        have SB := Rows_calls [] [] none none 0 0 33 33 [] [] w3 (.inl rfl) AreB.nil (.inl rfl) AreB.nil (by simp)
        rw [decide_eq_true rfl] at SB
        go_wp2_with fail
        refine SB.mono ?_; rintro e w4 ⟨rfl, nd, hw4⟩
        have hb4 : Below w.heap.size w w4 := by rw [hw4]; exact below_drewN hb13 nd
        clear SB hw4
        have FC := Spread_fact w4
        go_wp2_with fail
        refine FC.mono ?_; rintro e w5 ⟨fa, fcap, fvs, rfl, hb5, fr, fA⟩
        clear FC
        have hbF : Below w.heap.size w w5 := hb4.trans (hb5.mono hb4.size)
        obtain ⟨bF, oF, rfl, _, hcF⟩ := fr.cell (k := 1) (by rw [fA.1]; decide)
        obtain ⟨aF, cF, eF, hvF, rF, _⟩ := fA.2 1 (by decide) (by rw [fA.1]; decide)
        have f1 : w5.cell? ⟨bF, oF + 1, none⟩ = some (.slice aF 1 cF) := by
          have h9 := hcF 1 (by rw [fA.1]; decide)
          rw [hvF] at h9
          exact h9
        obtain ⟨bG, oG, rfl, _, hcG⟩ := rF.bytes (k := 0) (by decide)
        have f2 : w5.cell? ⟨bG, oG, none⟩ = some (.int .u8 7) := hcG 0 (by decide)
        clear hcF hcG hvF rF fr fA
        go_wp2_with fail
        go_ret
        exact ⟨rfl, hbF⟩
  · obtain ⟨n, rfl⟩ : ∃ n : Nat, a1 = n := ⟨a1.toNat, by omega⟩
    have hn1 : 0 < x0.length := by omega
    have hn2 : x0.length ≤ n := by omega
    have hn3 : n ≤ 20 := by omega
    have q1 : decide ((x0.length : Int) < 1) = false := by rw [decide_eq_false]; omega
    have q4 : decide (0 < x0.length) = true := by rw [decide_eq_true_eq]; omega
    have q2 : decide ((n : Int) < (x0.length : Int)) = false := by rw [decide_eq_false]; omega
    have q2' : decide (n < x0.length) = false := by rw [decide_eq_false]; omega
    have q3 : decide ((20 : Int) < (n : Int)) = false := by rw [decide_eq_false]; omega
    have q7 : decide (0 < n) = true := by rw [decide_eq_true_eq]; omega
    obtain ⟨bb, ob, rfl, hbb, hcb⟩ := r0.cell (k := 0) (by rw [m0.1]; exact hn1)
    obtain ⟨ak, ck, ek, hvk, _, _⟩ := m0.2 0 hn1 (by rw [m0.1]; exact hn1)
    obtain ⟨L, hL⟩ : ∃ L, L = (x0.headD []).length := ⟨_, rfl⟩
    have hL0 : (x0[0]'hn1).length = L := by
      rw [hL]
      cases x0 with
      | nil => simp at hn1
      | cons r rs => rfl
    have d0 : w.cell? ⟨bb, ob, none⟩ = some (.slice ak L ck) := by
      have h9 := hcb 0 (by rw [m0.1]; exact hn1)
      rw [hvk, hL0] at h9
      exact h9
    have j0 : (0 : Int) < (x0.length : Int) := by omega
    have HL := Lib.hid hL
    clear hcb hvk hL0
    by_cases hB : 100 < L
    · have hF : spreadF x0 n = 4 := by unfold spreadF; rw [if_neg hA, if_pos (by rw [← hL]; exact hB)]
      have HF := Lib.hid hF
      have SC := fun w hr hs => Spread_no (by rw [HF.out]; decide) (some ⟨bb, ob, none⟩) c0 e0 v0 w hr hs l0
      have q8 : decide ((100 : Int) < (L : Int)) = true := by rw [decide_eq_true_eq]; omega
      clear hF hA hL
      go_enter Tryd.func6, Tryd.ntmps6
      go_wp2_with fail
      refine wp_loop_rounds 1 ?_
      rw [rounds_succ]
      go_wp2_with fail
      refine wp_loop_rounds 1 ?_
      rw [rounds_succ]
      go_wp2_with fail
      have SC1 := SC w (r0.below (Below.refl w.heap.size w)) (M0.out.below (Below.refl w.heap.size w))
      clear SC
      refine SC1.mono ?_; rintro e w2 ⟨he, hb2⟩
      rw [HF.out] at he
      subst he
      clear SC1
      have hb12 : Below w.heap.size w w2 := ((Below.refl w.heap.size w)).trans (hb2.mono ((Below.refl w.heap.size w)).size)
      go_wp2_with fail
      refine (Error_err 4 4 true (by simp) _ (hg.at_ hb12)).mono ?_; rintro e w3 ⟨rfl, hb3⟩
      have hb13 : Below w.heap.size w w3 := hb12.trans (hb3.mono hb12.size)
      have SB := Rows_calls [] [] none none 0 0 33 33 [] [] w3 (.inl rfl) AreB.nil (.inl rfl) AreB.nil (by simp)
      rw [decide_eq_true rfl] at SB
      go_wp2_with fail
      refine SB.mono ?_; rintro e w4 ⟨rfl, nd, hw4⟩
      have hb4 : Below w.heap.size w w4 := by rw [hw4]; exact below_drewN hb13 nd
      clear SB hw4
      have FC := Spread_fact w4
      go_wp2_with fail
      refine FC.mono ?_; rintro e w5 ⟨fa, fcap, fvs, rfl, hb5, fr, fA⟩
      clear FC
      have hbF : Below w.heap.size w w5 := hb4.trans (hb5.mono hb4.size)
      obtain ⟨bF, oF, rfl, _, hcF⟩ := fr.cell (k := 1) (by rw [fA.1]; decide)
      obtain ⟨aF, cF, eF, hvF, rF, _⟩ := fA.2 1 (by decide) (by rw [fA.1]; decide)
      have f1 : w5.cell? ⟨bF, oF + 1, none⟩ = some (.slice aF 1 cF) := by
        have h9 := hcF 1 (by rw [fA.1]; decide)
        rw [hvF] at h9
        exact h9
      obtain ⟨bG, oG, rfl, _, hcG⟩ := rF.bytes (k := 0) (by decide)
      have f2 : w5.cell? ⟨bG, oG, none⟩ = some (.int .u8 7) := hcG 0 (by decide)
      clear hcF hcG hvF rF fr fA
      go_wp2_with fail
      go_ret
      exact ⟨rfl, hbF⟩
    · have q8 : decide ((100 : Int) < (L : Int)) = false := by rw [decide_eq_false]; omega
      have h3 : (∃ r ∈ x0, r.length ≠ L) → spreadF x0 n = 3 := by
        intro h; unfold spreadF; rw [if_neg hA, if_neg (by rw [← hL]; exact hB), if_pos (by rw [← hL]; exact h)]
      have h0 : (∀ r ∈ x0, r.length = L) → spreadF x0 n = 0 := by
        intro h; unfold spreadF; rw [if_neg hA, if_neg (by rw [← hL]; exact hB), if_neg]
        rintro ⟨r, hr1, hr2⟩
        exact hr2 (by rw [← hL]; exact h r hr1)
      have H3 := Lib.hid h3
      have H0 := Lib.hid h0
      have Hvl := Lib.hid m0.1
      clear h3 h0 hA hL
      go_enter Tryd.func6, Tryd.ntmps6
      go_wp2_with fail
      go_loopw [5, 6] (fun e i wr => ∃ k m : Nat, k ≤ x0.length ∧ i = .int .i64 k ∧ ((e = .int .i64 0 ∧ ∀ r ∈ x0.take k, r.length = L) ∨ (e = .int .i64 3 ∧ ∃ r ∈ x0, r.length ≠ L)) ∧ wr = w.drewN m) (fun _ i _ => x0.length - (intOf i).toNat)
      case atStart => exact ⟨0, 0, Nat.zero_le _, rfl, .inl ⟨rfl, by simp⟩, rfl⟩
      case round =>
        obtain ⟨k, m, hk, rfl, he, hwr⟩ := hrel
        have hbr : Below w.heap.size w wr := by rw [hwr]; exact below_drewN (Below.refl _ w) m
        have Hwr := Lib.hid hwr
        clear hwr
        rcases he with ⟨rfl, hlen⟩ | ⟨rfl, hex⟩
        · have Hlen := Lib.hid hlen
          clear hlen
          by_cases hlt : k < x0.length
          · have q9 : decide ((k : Int) < (x0.length : Int)) = true := by rw [decide_eq_true_eq]; omega
            obtain ⟨b2, o2, he2, _, hc2⟩ := r0.cell (k := k) (by rw [Hvl.out]; exact hlt)
            obtain ⟨rfl, rfl⟩ : bb = b2 ∧ ob = o2 := by simpa using he2
            clear he2
            obtain ⟨a2, p2, e2, hv2, _, _⟩ := M0.out.2 k hlt (by rw [Hvl.out]; exact hlt)
            have d2 : wr.cell? ⟨bb, ob + k, none⟩ = some (.slice a2 x0[k].length p2) := by
              have h9 := hc2 k (by rw [Hvl.out]; exact hlt)
              rw [hv2] at h9
              exact (hbr.cell (p := ⟨bb, ob + k, none⟩) hbb).trans h9
            have d1 : wr.cell? ⟨bb, ob, none⟩ = some (.slice ak L ck) := (hbr.cell (p := ⟨bb, ob, none⟩) hbb).trans d0
            have k0 : (0 : Int) ≤ (k : Int) := by omega
            have k1 : (k : Int) < (x0.length : Int) := by omega
            clear hc2 hv2
            by_cases hkl : x0[k].length = L
            · have hnew : ∀ r ∈ x0.take (k + 1), r.length = L := by
                rw [List.take_succ_eq_append_getElem hlt]
                intro r hr
                rcases List.mem_append.1 hr with hr | hr
                · exact Hlen.out r hr
                · rw [List.mem_singleton.1 hr]; exact hkl
              rw [hkl] at d2
              have t : ((L : Int) != (L : Int)) = false := by simp
              have Hnew := Lib.hid hnew
              clear hkl hnew
              go_wp2_with fail
              go_quiet (fail)
              go_wp2
              go_roundw
              case rel => exact ⟨k + 1, m + nq, by omega, by go_num, .inl ⟨rfl, Hnew.out⟩, by rw [Hwr.out, World.drewN_drewN]⟩
              case measure => simp [intOf] <;> omega
            · have hx : ∃ r ∈ x0, r.length ≠ L := ⟨x0[k], List.getElem_mem _, hkl⟩
              have t : ((x0[k].length : Int) != (L : Int)) = true := by rw [bne_iff_ne]; omega
              have Hx := Lib.hid hx
              clear hkl hx
              generalize x0[k].length = lk at *
              go_wp2_with fail
              go_quiet (fail)
              go_wp2
              go_roundw
              case rel => exact ⟨k + 1, m + nq, by omega, by go_num, .inr ⟨rfl, Hx.out⟩, by rw [Hwr.out, World.drewN_drewN]⟩
              case measure => simp [intOf] <;> omega
          · obtain rfl : k = x0.length := by omega
            have q9 : decide ((x0.length : Int) < (x0.length : Int)) = false := by rw [decide_eq_false]; omega
            have hall : ∀ r ∈ x0, r.length = L := by have := Hlen.out; rwa [List.take_of_length_le (Nat.le_refl _)] at this
            have hF := H0.out hall
            have HF := Lib.hid hF
            have Hall := Lib.hid hall
            have SC := fun w hr hs => Spread_ok HF.out (some ⟨bb, ob, none⟩) c0 e0 v0 w hr hs l0
            have hsl := spreadOf_length x0 n hn2
            have Hsl := Lib.hid hsl
            clear hF hall hsl
            go_wp2_with fail
            go_loopw [7, 8] (fun v i wr => ∃ m : Nat, m ≤ n ∧ i = .int .i64 m ∧ (∃ us, wr.ownsRow w.heap.size 33 1 v m us ∧ AreB (fun b e => e = 5 ∨ b < w.heap.size) wr ((spreadOf x0 n).take m) us) ∧ Below w.heap.size w wr) (fun _ i _ => n - (intOf i).toNat)
            case atStart => exact ⟨0, Nat.zero_le _, rfl, ⟨[], World.ownsRow_nil _ _ _ _, AreB.nil⟩, hbr⟩
            case round =>
              clear hbr Hwr
              obtain ⟨m, hm, rfl, ⟨us, hown, hAr⟩, hbl⟩ := hrel
              have hsz := hbl.size
              by_cases hmn : m < n
              · have q10 : decide ((m : Int) < (n : Int)) = true := by rw [decide_eq_true_eq]; omega
                obtain ⟨aO, cO, rfl⟩ := own_slice hown
                by_cases hml : m < x0.length
                · have q11 : decide ((m : Int) < (x0.length : Int)) = true := by rw [decide_eq_true_eq]; omega
                  obtain ⟨b2, o2, he2, _, hc2⟩ := r0.cell (k := m) (by rw [Hvl.out]; exact hml)
                  obtain ⟨rfl, rfl⟩ : bb = b2 ∧ ob = o2 := by simpa using he2
                  clear he2
                  have hI := ((M0.out.2 m hml (by rw [Hvl.out]; exact hml)).mono (E' := fun b e => e = 5 ∨ b < w.heap.size) fun b e h _ => .inr h).below hbl
                  obtain ⟨a2, p2, e2, hv2, _, _⟩ := M0.out.2 m hml (by rw [Hvl.out]; exact hml)
                  have d2 : wr.cell? ⟨bb, ob + m, none⟩ = some (.slice a2 x0[m].length p2) := by
                    have h9 := hc2 m (by rw [Hvl.out]; exact hml)
                    rw [hv2] at h9
                    exact (hbl.cell (p := ⟨bb, ob + m, none⟩) hbb).trans h9
                  rw [hv2] at hI
                  have hst : (spreadOf x0 n).take (m + 1) = (spreadOf x0 n).take m ++ [x0[m]] := by
                    rw [List.take_succ_eq_append_getElem (by rw [Hsl.out]; exact hmn)]
                    congr 2
                    unfold spreadOf
                    rw [List.getElem_append_left hml]
                  have Hst := Lib.hid hst
                  have k0 : (0 : Int) ≤ (m : Int) := by omega
                  have k1 : (m : Int) < (x0.length : Int) := by omega
                  clear hc2 hv2 hst
                  generalize hxk : x0[m] = r at *
                  clear hxk
                  go_wp2_with (at_builtin; refine app1 34 33 (.slice none 0 0) 24 Tryd.underlying34 info_bs rfl (by omega) rfl _ _ rfl w.heap.size _ m us rfl (hown.alloc _) ⟨wr.heap.size, 0, none⟩ 1 (.slice a2 r.length p2) rfl (by simp) rfl (by omega) (by simp; omega) _ rfl ?_; intro g3 cap3 w3 hown3 hgrow3 hat3 hlt3)
                  have hbl3 : Below w.heap.size w w3 := below_grow (hbl.alloc (by omega) _) (hown.alloc _) hgrow3 (by simp; omega)
                  have hA3 := (hAr.alloc (.cells #[.slice a2 r.length p2] 33)).push (hI.alloc _) (hown.alloc _) hgrow3 (fun g e' hg' h => by
                    rcases h with h | h
                    · rw [h]; decide
                    · exact absurd h (by have := ((hown.alloc (.cells #[.slice a2 r.length p2] 33)).lt g hg').1; omega))
                  clear hgrow3 hat3 hown hAr hI
                  go_wp2
                  go_roundw
                  case rel => exact ⟨m + 1, by omega, by go_num, ⟨_, hown3, by rw [Hst.out]; exact hA3⟩, hbl3⟩
                  case measure => simp [intOf] <;> omega
                · have q11 : decide ((m : Int) < (x0.length : Int)) = false := by rw [decide_eq_false]; omega
                  have Hcf : IntKind.u8.wrap (m : Int) = (m : Int) := by rw [IntKind.wrap_u8]; omega
                  have hy : (m : Int) = ((UInt8.ofNat m).toNat : Int) := by simp; omega
                  have PC := Placed_calls x0 (some ⟨bb, ob, none⟩) c0 e0 v0 wr (r0.below hbl) (M0.out.below hbl) (by omega)
                  have hst := spreadOf_take x0 n m (by omega) hmn
                  obtain ⟨new, hnew⟩ : ∃ x, x = thrus (ats x0.length) x0 (UInt8.ofNat m) := ⟨_, rfl⟩
                  have JC := fun a ca us w hr hs => Joined_rows x0 (UInt8.ofNat m) m hy L a ca 49 us w hr hs hn1 (by omega) HL.out.symm Hall.out (by omega)
                  rw [← hnew] at JC hst
                  have Hst := Lib.hid hst
                  clear hst hnew hy
                  go_wp2_with fail
                  refine PC.mono ?_; rintro e w5 ⟨aP, cP, uP, rfl, rP, mP, hb5⟩
                  clear PC
                  have JC1 := JC aP cP uP w5 rP mP
                  clear JC
                  go_wp2_with fail
                  refine JC1.mono ?_; rintro e w2 ⟨a2, cap2, rfl, hown2, hb6⟩
                  clear JC1
                  have hbl2 : Below wr.heap.size wr w2 := hb5.trans (hb6.mono hb5.size)
                  have hs2 := hbl2.size
                  have hs5 := hb5.size
                  go_wp2_with (at_builtin; refine app1 34 33 (.slice none 0 0) 24 Tryd.underlying34 info_bs rfl (by omega) rfl _ _ rfl w.heap.size _ m us rfl ((own_below hown hbl2).alloc _) ⟨w2.heap.size, 0, none⟩ 1 (.slice a2 new.length cap2) rfl (by simp) rfl (by omega) (by simp; omega) _ rfl ?_; intro g3 cap3 w3 hown3 hgrow3 hat3 hlt3)
                  have hbl3 : Below w.heap.size w w3 := below_grow ((hbl.trans (hbl2.mono hsz)).alloc (by omega) _) ((own_below hown hbl2).alloc _) hgrow3 (by simp; omega)
                  have hin : IsB (fun b e => e = 5 ∨ b < w.heap.size) w2 new (.slice a2 new.length cap2) := (IsB.of_own hown2).mono fun b e _ h => .inl h.1
                  have hA3 := ((hAr.below hbl2).alloc (.cells #[.slice a2 new.length cap2] 33)).push (hin.alloc _) ((own_below hown hbl2).alloc _) hgrow3 (fun g e' hg' h => by
                    rcases h with h | h
                    · rw [h]; decide
                    · exact absurd h (by have := (((own_below hown hbl2).alloc (.cells #[.slice a2 new.length cap2] 33)).lt g hg').1; omega))
                  clear hgrow3 hat3 hin hown2 hown hAr
                  go_wp2
                  go_roundw
                  case rel => exact ⟨m + 1, by omega, by go_num, ⟨_, hown3, by rw [Hst.out]; exact hA3⟩, hbl3⟩
                  case measure => simp [intOf] <;> omega
              · obtain rfl : m = n := by omega
                have q10 : decide ((m : Int) < (m : Int)) = false := by rw [decide_eq_false]; omega
                obtain ⟨aO, cO, rfl⟩ := own_slice hown
                rw [List.take_of_length_le (by rw [Hsl.out]; omega)] at hAr
                have SC1 := SC wr (r0.below hbl) (M0.out.below hbl)
                clear SC
                simp only [Int.toNat_natCast] at SC1
                go_wp2_with fail
                refine SC1.mono ?_; rintro e w2 ⟨aG, cG, uG, rfl, hb2, rG, mG⟩
                clear SC1
                have hb12 : Below w.heap.size w w2 := hbl.trans (hb2.mono hbl.size)
                have SB := Rows_calls (spreadOf x0 m) (spreadOf x0 m) aG aO cG cO 33 33 uG us w2 rG (mG.mono fun _ _ _ _ => trivial) ((Rd.of_own hown).below hb2) ((hAr.below hb2).mono fun _ _ _ _ => trivial) (by rw [Hsl.out]; omega)
                rw [decide_eq_true rfl, Hsl.out] at SB
                go_wp2_with fail
                refine (Error_nil 0 true rfl _).mono ?_; rintro e w' ⟨rfl, rfl⟩
                go_wp2_with fail
                refine SB.mono ?_; rintro e w4 ⟨rfl, nd, hw4⟩
                have hb4 : Below w.heap.size w w4 := by rw [hw4]; exact below_drewN hb12 nd
                clear SB hw4
                have FC := Spread_fact w4
                go_wp2_with fail
                refine FC.mono ?_; rintro e w5 ⟨fa, fcap, fvs, rfl, hb5, fr, fA⟩
                clear FC
                have hbF : Below w.heap.size w w5 := hb4.trans (hb5.mono hb4.size)
                obtain ⟨bF, oF, rfl, _, hcF⟩ := fr.cell (k := 1) (by rw [fA.1]; decide)
                obtain ⟨aF, cF, eF, hvF, rF, _⟩ := fA.2 1 (by decide) (by rw [fA.1]; decide)
                have f1 : w5.cell? ⟨bF, oF + 1, none⟩ = some (.slice aF 1 cF) := by
                  have h9 := hcF 1 (by rw [fA.1]; decide)
                  rw [hvF] at h9
                  exact h9
                obtain ⟨bG, oG, rfl, _, hcG⟩ := rF.bytes (k := 0) (by decide)
                have f2 : w5.cell? ⟨bG, oG, none⟩ = some (.int .u8 7) := hcG 0 (by decide)
                clear hcF hcG hvF rF fr fA
                go_wp2_with fail
                go_ret
                exact ⟨rfl, hbF⟩
        · have hF := H3.out hex
          have HF := Lib.hid hF
          have SC := fun w hr hs => Spread_no (by rw [HF.out]; decide) (some ⟨bb, ob, none⟩) c0 e0 v0 w hr hs l0
          clear hF hex
          obtain ⟨q9b, q9⟩ : ∃ b, decide (k < x0.length) = b := ⟨_, rfl⟩
          cases q9b with
          | true =>
            go_wp2_with fail
            refine wp_loop_rounds 1 ?_
            rw [rounds_succ]
            go_wp2_with fail
            have SC1 := SC wr (r0.below hbr) (M0.out.below hbr)
            clear SC
            refine SC1.mono ?_; rintro e w2 ⟨he, hb2⟩
            rw [HF.out] at he
            subst he
            clear SC1
            have hb12 : Below w.heap.size w w2 := (hbr).trans (hb2.mono (hbr).size)
            go_wp2_with fail
            refine (Error_err 3 3 true (by simp) _ (hg.at_ hb12)).mono ?_; rintro e w3 ⟨rfl, hb3⟩
            have hb13 : Below w.heap.size w w3 := hb12.trans (hb3.mono hb12.size)
            have SB := Rows_calls [] [] none none 0 0 33 33 [] [] w3 (.inl rfl) AreB.nil (.inl rfl) AreB.nil (by simp)
            rw [decide_eq_true rfl] at SB
            go_wp2_with fail
            refine SB.mono ?_; rintro e w4 ⟨rfl, nd, hw4⟩
            have hb4 : Below w.heap.size w w4 := by rw [hw4]; exact below_drewN hb13 nd
            clear SB hw4
            have FC := Spread_fact w4
            go_wp2_with fail
            refine FC.mono ?_; rintro e w5 ⟨fa, fcap, fvs, rfl, hb5, fr, fA⟩
            clear FC
            have hbF : Below w.heap.size w w5 := hb4.trans (hb5.mono hb4.size)
            obtain ⟨bF, oF, rfl, _, hcF⟩ := fr.cell (k := 1) (by rw [fA.1]; decide)
            obtain ⟨aF, cF, eF, hvF, rF, _⟩ := fA.2 1 (by decide) (by rw [fA.1]; decide)
            have f1 : w5.cell? ⟨bF, oF + 1, none⟩ = some (.slice aF 1 cF) := by
              have h9 := hcF 1 (by rw [fA.1]; decide)
              rw [hvF] at h9
              exact h9
            obtain ⟨bG, oG, rfl, _, hcG⟩ := rF.bytes (k := 0) (by decide)
            have f2 : w5.cell? ⟨bG, oG, none⟩ = some (.int .u8 7) := hcG 0 (by decide)
            clear hcF hcG hvF rF fr fA
            go_wp2_with fail
            go_ret
            exact ⟨rfl, hbF⟩
          | false =>
            go_wp2_with fail
            refine wp_loop_rounds 1 ?_
            rw [rounds_succ]
            go_wp2_with fail
            have SC1 := SC wr (r0.below hbr) (M0.out.below hbr)
            clear SC
            refine SC1.mono ?_; rintro e w2 ⟨he, hb2⟩
            rw [HF.out] at he
            subst he
            clear SC1
            have hb12 : Below w.heap.size w w2 := (hbr).trans (hb2.mono (hbr).size)
            go_wp2_with fail
            refine (Error_err 3 3 true (by simp) _ (hg.at_ hb12)).mono ?_; rintro e w3 ⟨rfl, hb3⟩
            have hb13 : Below w.heap.size w w3 := hb12.trans (hb3.mono hb12.size)
            have SB := Rows_calls [] [] none none 0 0 33 33 [] [] w3 (.inl rfl) AreB.nil (.inl rfl) AreB.nil (by simp)
            rw [decide_eq_true rfl] at SB
            go_wp2_with fail
            refine SB.mono ?_; rintro e w4 ⟨rfl, nd, hw4⟩
            have hb4 : Below w.heap.size w w4 := by rw [hw4]; exact below_drewN hb13 nd
            clear SB hw4
            have FC := Spread_fact w4
            go_wp2_with fail
            refine FC.mono ?_; rintro e w5 ⟨fa, fcap, fvs, rfl, hb5, fr, fA⟩
            clear FC
            have hbF : Below w.heap.size w w5 := hb4.trans (hb5.mono hb4.size)
            obtain ⟨bF, oF, rfl, _, hcF⟩ := fr.cell (k := 1) (by rw [fA.1]; decide)
            obtain ⟨aF, cF, eF, hvF, rF, _⟩ := fA.2 1 (by decide) (by rw [fA.1]; decide)
            have f1 : w5.cell? ⟨bF, oF + 1, none⟩ = some (.slice aF 1 cF) := by
              have h9 := hcF 1 (by rw [fA.1]; decide)
              rw [hvF] at h9
              exact h9
            obtain ⟨bG, oG, rfl, _, hcG⟩ := rF.bytes (k := 0) (by decide)
            have f2 : w5.cell? ⟨bG, oG, none⟩ = some (.int .u8 7) := hcG 0 (by decide)
            clear hcF hcG hvF rF fr fA
            go_wp2_with fail
            go_ret
            exact ⟨rfl, hbF⟩

set_option maxRecDepth 100000 in
theorem lifted (os : Os) (started : os.Started) (H : Type) (enc : TypeId × Value → H) :
    ReturnsInHanded {} Tryd.checked os 6 .any (fun w args => (Rows.codeSpreadsSpec.pre enc Tryd.prog Tryd.f6 Rows.codeSpreadsRow.domain false w args ∧ laidMetH Tryd.prog Laid.list w) ∧ sizedMet enc Tryd.prog Tryd.f6 (OpenSpec.ofChange Rows.codeSpreadsSpec) false w args) (Rows.codeSpreadsSpec.post enc Tryd.prog Tryd.f6 false true false false) := by
  refine returnsInHanded_of_change_and (C := Tryd.checked) (X := fun w _ => laidMetH Tryd.prog Laid.list w) (fun _ _ _ hh h => h.of_heap hh) Laid.own started (by kernel_rfl) Tryd.func6
    (ChangeSpec.witness_at (enc := enc) (C := Tryd.checked) (os := os) (X := fun w _ => laidMetH Tryd.prog Laid.list w) false (laidWorld os) #[.slice none 0 0, .int .i64 0] 8 rfl (by kernel_rfl) (by kernel_rfl) (by kernel_rfl) (by kernel_rfl) (by kernel_rfl) (laidWorld_met os _)) ?_
  intro W base args ds gs before hval0 hW _ hsz hL _
  have hg := handle_of_laid hL
  have hval : ∀ (j : Nat) t v, Tryd.f6.params[j]? = some t → args[j]? = some v → Value.okWide Tryd.prog W .any base t v := hval0
  have hW' := hW
  obtain ⟨p, q, hA0, hV, rfl, hfz, hnd⟩ := hW
  have hA : DataW.TrodAll enc Tryd.prog W 0 (fun _ => true) true Tryd.f6.params.toList args.toList ds p := hA0
  rw [Tryd.params6] at hA hval
  obtain ⟨v0, vs0, d0, ds0, p0, q0, hargs, rfl, rfl, h0, r0⟩ := trodAll_cons hA
  obtain ⟨v1, vs1, d1, ds1, p1, q1, rfl, rfl, rfl, h1, r1⟩ := trodAll_cons r0
  obtain ⟨rfl, rfl, rfl⟩ := trodAll_nil r1
  obtain rfl : args = #[v0, v1] := by cases args; simp_all
  obtain ⟨rfl, rfl⟩ := trodVars_none hV
  have k0 := h0
  have lt0 : ∀ x ∈ p0, x.block < W.heap.size := by obtain ⟨m, hm⟩ := k0; exact DataW.trod_lt m _ _ _ hm
  obtain ⟨x0, a0, c0, e0, u0, rfl, l0, r_0, m0⟩ := open_rows Tryd.underlying34 Tryd.underlying33 Tryd.underlying5 (by kernel_rfl) (by kernel_rfl) (hval 0 34 v0 rfl rfl) h0
  have k1 := h1
  have lt1 : ∀ x ∈ p1, x.block < W.heap.size := by obtain ⟨m, hm⟩ := k1; exact DataW.trod_lt m _ _ _ hm
  obtain ⟨a1, rfl, _, _, w1⟩ := open_int Tryd.underlying3 (hval 1 3 v1 rfl rfl) h1
  have b1 := bounds_i64 w1
  clear hA0 hval0
  refine (walk x0 a0 c0 e0 u0 a1 W l0 r_0 m0 b1 hg).mono fun e W' ⟨he, bel⟩ => ?_
  subst he
  exact ⟨_, rfl, _, _, _, [], _, [], hW', trodAll_mk1 (shut_bool Tryd.underlying4 _), (trodAll_cons_mk (Below.trod Laid.laidOut (by kernel_rfl) (of_decide_eq_true (by kernel_rfl)) k0 bel lt0) (trodAll_cons_mk (Below.trod Laid.laidOut (by kernel_rfl) (of_decide_eq_true (by kernel_rfl)) k1 bel lt1) trodAll_mk0)), rfl, bel.frame _, fun h => by cases h⟩

theorem over : Rows.codeSpreadsRow.holds Tryd.pinned (OpenSpec.ofChange Rows.codeSpreadsSpec) :=
  OpenClaim.holds_of_wide 6 Tryd.f6 rfl rfl rfl rfl rfl rfl rfl ⟨rfl, rfl, rfl, rfl, rfl⟩ rfl rfl rfl rfl rfl (by kernel_rfl) Tryd.func6 (by kernel_rfl)
    (of_decide_eq_true (by kernel_rfl)) (by unfold Func.isWrapper; first | (rw [if_pos (by decide +kernel)]; kernel_rfl) | (rw [if_neg (by decide +kernel)]; exact ⟨rfl, rfl⟩))
    (fun os started H enc _ => lifted os started H enc)

theorem proved : Rows.CodeSpreadsCardSaid :=
  Claim7.holds_tied_plain_at .later [] [.handle] true (true, "bf1fbc32c3425ab6ada0ace87329c2efbd99e0e7f004f60d603e2408cd6a4aa3") true
    over (fun _ h => by cases h) (by kernel_rfl) (fun _ h => by cases h) codeSpreads_row_tie rfl ⟨rfl, rfl⟩ (by kernel_rfl) rfl
    (fun f fn hf hfn => by
      obtain rfl : f = 6 := Option.some.inj ((show Tryd.prog.funcNamed "oathbook/oathbooklaw2.CodeSpreads" = some 6 by kernel_rfl).symm.trans hf) |>.symm
      obtain rfl : fn = Tryd.f6 := (Option.some.inj (Tryd.func6.symm.trans hfn)).symm
      exact ⟨by kernel_rfl, stand_of_all (by kernel_rfl)⟩)
    (by kernel_rfl)
#print axioms proved
end codeSpreads
end Go.Proofs.YtalbmcidlalicaaDoor
