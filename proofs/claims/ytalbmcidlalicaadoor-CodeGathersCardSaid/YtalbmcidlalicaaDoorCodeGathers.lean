/- Rows that are gathered, and errors, are as the document has them; no conditions but that the listed package variable holds what the program text lays. -/
import Derived.Test.YtalbmcidlalicaaDoorRows
import Derived.Test.YtalbmcidlalicaaDoorLaid
import Derived.Test.YtalbmcidlalicaaDoorJoinedLaw
import Derived.Test.YtalbmcidlalicaaDoorCode
import Derived.WalkKit
import Derived.ProofKit
import Derived.OpenShut
import Derived.ShutString
import Derived.ChangeOld
import Derived.Below
namespace Go.Proofs.YtalbmcidlalicaaDoor
open Go.ChangeShapes Go.WideShapes Go.ChangeAt Go.RowKit
open Go.ChangeMaps (open_string shut_string)
set_option linter.unusedVariables false
namespace codeGathers

-- HOLE: the walk
theorem Joined_at (ss : List Sh) (x : UInt8) (y : Int) (hy : y = x.toNat) (L n : Nat) (a : Option Addr) (ca ea : Nat) (vs : List Value) (w : World) (hr : Rd w a ea vs) (hs : AreS (fun _ _ => True) w ss vs) (hn : ss.length = n) (h0 : 0 < n) (h1 : n ≤ 1000)
    (hnd : (ss.map (·.at_)).Nodup) (hL0 : (ss.headD default).data.length = L) (hall : ∀ j, (h : j < ss.length) → ss[j].data.length = L) (hL : L ≤ 140737488351232) :
    Calls Tryd.prog 23 #[.slice a n ca, .int .u8 y] w (RetB w (thrus (ss.map (·.at_)) (ss.map (·.data)) x)) := by
  subst hy
  rw [← joined_thrus ss L x hnd (by omega) hL0]
  exact Joined_calls ss x L n a ca ea vs w hr hs hn h0 h1 hall hL
set_option maxRecDepth 20000 in
set_option maxHeartbeats 4000000 in
theorem walk (x0 : List Sh) (a0 : Option Addr) (c0 e0 : Nat) (v0 : List Value) (a1 : Int) (w : World) (l0 : x0.length ≤ 9223372036854775807) (g0 : x0.length ≤ c0) (g_0 : c0 ≤ 9223372036854775807) (r0 : Rd w a0 e0 v0) (m0 : AreS (fun _ _ => True) w x0 v0) (z0 : ∀ i, (h : i < x0.length) → x0[i].data.length ≤ reachBytes) (h1 : -9223372036854775808 ≤ a1 ∧ a1 ≤ 9223372036854775807) (hg : ErrVar w) :
    Calls Tryd.prog 7 #[.slice a0 x0.length c0, .int .i64 a1] w fun e w' => e = .returned (.bool true) ∧ Below w.heap.size w w' := by
  have hrb : reachBytes = 140737488351232 := rfl
  have hL0 : (x0.headD default).data.length ≤ 140737488351232 := by
    by_cases h : 0 < x0.length
    · have := z0 0 h
      cases x0 with
      | nil => simp at h
      | cons s ss => rw [hrb] at this; exact this
    · cases x0 with
      | nil => exact Nat.zero_le _
      | cons s ss => simp at h
  have GC := fun w hr hs => Gather_any x0 a1 a0 c0 e0 v0 w hr hs g0 g_0 (by omega)
  have M0 := Lib.hid m0
  clear z0
  by_cases hA : a1 < 1 ∨ 20 < a1
  · have hF : gatherF x0 a1 = 2 := by unfold gatherF; rw [if_pos hA]
    have HF := Lib.hid hF
    have Hne : Hid (gatherF x0 a1 ≠ 0) := Lib.hid (by rw [hF]; decide)
    clear hF hL0 hrb
    by_cases h2 : a1 < 1
    · have q1 : decide (a1 < 1) = true := by rw [decide_eq_true_eq]; omega
      have q5 : decide ((0 : Int) < a1) = false := by rw [decide_eq_false]; omega
      clear hA h2
      go_enter Tryd.func7, Tryd.ntmps7
      go_wp2_with fail
      refine wp_loop_rounds 1 ?_
      rw [rounds_succ]
      go_wp2_with fail
      have GC1 := GC w (r0.below (Below.refl w.heap.size w)) (M0.out.below (Below.refl w.heap.size w))
      clear GC
      refine GC1.mono ?_; rintro e w2 ⟨hb2, ⟨hx, _⟩ | ⟨_, he⟩⟩
      case inl => exact absurd hx Hne.out
      rw [HF.out] at he
      subst he
      clear GC1
      have hb12 : Below w.heap.size w w2 := ((Below.refl w.heap.size w)).trans (hb2.mono ((Below.refl w.heap.size w)).size)
      go_wp2_with fail
      refine (Error_err 2 2 true (by simp) _ (hg.at_ hb12)).mono ?_; rintro e w3 ⟨rfl, hb3⟩
      have hb13 : Below w.heap.size w w3 := hb12.trans (hb3.mono hb12.size)
      have SB := Rows_calls [] [] none none 0 0 33 33 [] [] w3 (.inl rfl) AreB.nil (.inl rfl) AreB.nil (by simp)
      rw [decide_eq_true rfl] at SB
      go_wp2_with fail
      refine SB.mono ?_; rintro e w4 ⟨rfl, nd, hw4⟩
      have hb4 : Below w.heap.size w w4 := by rw [hw4]; exact below_drewN hb13 nd
      clear SB hw4
      go_wp2_with fail
      go_ret
      exact ⟨rfl, hb4⟩
    · have q1 : decide (a1 < 1) = false := by rw [decide_eq_false]; omega
      have q2 : decide ((20 : Int) < a1) = true := by rw [decide_eq_true_eq]; omega
      have q5 : decide ((0 : Int) < a1) = true := by rw [decide_eq_true_eq]; omega
      clear hA h2
      go_enter Tryd.func7, Tryd.ntmps7
      go_wp2_with fail
      refine wp_loop_rounds 1 ?_
      rw [rounds_succ]
      go_wp2_with fail
      have GC1 := GC w (r0.below (Below.refl w.heap.size w)) (M0.out.below (Below.refl w.heap.size w))
      clear GC
      refine GC1.mono ?_; rintro e w2 ⟨hb2, ⟨hx, _⟩ | ⟨_, he⟩⟩
      case inl => exact absurd hx Hne.out
      rw [HF.out] at he
      subst he
      clear GC1
      have hb12 : Below w.heap.size w w2 := ((Below.refl w.heap.size w)).trans (hb2.mono ((Below.refl w.heap.size w)).size)
      go_wp2_with fail
      refine (Error_err 2 2 true (by simp) _ (hg.at_ hb12)).mono ?_; rintro e w3 ⟨rfl, hb3⟩
      have hb13 : Below w.heap.size w w3 := hb12.trans (hb3.mono hb12.size)
      have SB := Rows_calls [] [] none none 0 0 33 33 [] [] w3 (.inl rfl) AreB.nil (.inl rfl) AreB.nil (by simp)
      rw [decide_eq_true rfl] at SB
      go_wp2_with fail
      refine SB.mono ?_; rintro e w4 ⟨rfl, nd, hw4⟩
      have hb4 : Below w.heap.size w w4 := by rw [hw4]; exact below_drewN hb13 nd
      clear SB hw4
      go_wp2_with fail
      go_ret
      exact ⟨rfl, hb4⟩
  · have q1 : decide (a1 < 1) = false := by rw [decide_eq_false]; omega
    have q2 : decide ((20 : Int) < a1) = false := by rw [decide_eq_false]; omega
    have q5 : decide ((0 : Int) < a1) = true := by rw [decide_eq_true_eq]; omega
    by_cases hB : (x0.length : Int) < a1
    · have hF : gatherF x0 a1 = 3 := by unfold gatherF; rw [if_neg hA, if_pos hB]
      have HF := Lib.hid hF
      have Hne : Hid (gatherF x0 a1 ≠ 0) := Lib.hid (by rw [hF]; decide)
      have q3 : decide ((x0.length : Int) < a1) = true := by rw [decide_eq_true_eq]; omega
      clear hF hL0 hrb hA hB
      go_enter Tryd.func7, Tryd.ntmps7
      go_wp2_with fail
      refine wp_loop_rounds 1 ?_
      rw [rounds_succ]
      go_wp2_with fail
      have GC1 := GC w (r0.below (Below.refl w.heap.size w)) (M0.out.below (Below.refl w.heap.size w))
      clear GC
      refine GC1.mono ?_; rintro e w2 ⟨hb2, ⟨hx, _⟩ | ⟨_, he⟩⟩
      case inl => exact absurd hx Hne.out
      rw [HF.out] at he
      subst he
      clear GC1
      have hb12 : Below w.heap.size w w2 := ((Below.refl w.heap.size w)).trans (hb2.mono ((Below.refl w.heap.size w)).size)
      go_wp2_with fail
      refine (Error_err 3 3 true (by simp) _ (hg.at_ hb12)).mono ?_; rintro e w3 ⟨rfl, hb3⟩
      have hb13 : Below w.heap.size w w3 := hb12.trans (hb3.mono hb12.size)
      have SB := Rows_calls [] [] none none 0 0 33 33 [] [] w3 (.inl rfl) AreB.nil (.inl rfl) AreB.nil (by simp)
      rw [decide_eq_true rfl] at SB
      go_wp2_with fail
      refine SB.mono ?_; rintro e w4 ⟨rfl, nd, hw4⟩
      have hb4 : Below w.heap.size w w4 := by rw [hw4]; exact below_drewN hb13 nd
      clear SB hw4
      go_wp2_with fail
      go_ret
      exact ⟨rfl, hb4⟩
    · obtain ⟨k, rfl⟩ : ∃ k : Nat, a1 = k := ⟨a1.toNat, by omega⟩
      have q3 : decide ((x0.length : Int) < (k : Int)) = false := by rw [decide_eq_false]; omega
      have q3' : decide (x0.length < k) = false := by rw [decide_eq_false]; omega
      have hk1 : 1 ≤ k := by omega
      have hk2 : k ≤ 20 := by omega
      have hk3 : k ≤ x0.length := by omega
      have hk4 : k ≤ c0 := by omega
      have hF : gatherF x0 k = sharesF 0 19 x0 k := by unfold gatherF; rw [if_neg hA, if_neg hB]; rfl
      have htl : (x0.take k).length = k := by rw [List.length_take]; omega
      have RF := RefFault_calls (x0.take k) 0 19 0 19 rfl rfl a0 c0 e0 (v0.take (2 * k)) w (r0.take _) (m0.take k) (by rw [htl]; omega)
      rw [htl, sharesF_take 0 19 x0 k k (Nat.le_refl _)] at RF
      obtain ⟨b, o, a0', c0', e0', rfl, hb, -, -, -, -, -⟩ := AreS.cells r0 m0 (k := 0) (by omega)
      clear hA hB
      by_cases hf : sharesF 0 19 x0 k = 0
      · have hf2 : sharesF 0 19 (x0.take k) (x0.take k).length = 0 := by rw [htl, sharesF_take 0 19 x0 k k (Nat.le_refl _)]; exact hf
        have hall := fun j h => (noFault hf2 j h).2.2.2
        have hnd := shares_nodup hf2
        have hhd : ((x0.take k).headD default) = x0.headD default := by
          cases x0 with
          | nil => simp
          | cons s ss => cases k with
            | zero => omega
            | succ k => rfl
        rw [hhd] at hall
        have hlt : ∀ x, (thrus ((x0.take k).map (·.at_)) ((x0.take k).map (·.data)) x).length = (x0.headD default).data.length := by
          intro x
          rw [thrus_length]
          rw [← hhd]
          cases hc : x0.take k with
          | nil => rw [hc] at htl; simp at htl; omega
          | cons s ss => rfl
        have JC := fun m wr hr hs hm => Joined_at (x0.take k) (UInt8.ofNat m) m hm (x0.headD default).data.length k (some ⟨b, o, none⟩) c0 e0 (v0.take (2 * k)) wr hr hs htl (by omega) (by omega) hnd (by rw [hhd]) hall hL0
        have rT := r0.take (2 * k)
        have mT := m0.take k
        rw [hf] at RF hF
        have HF := Lib.hid hF
        have Hlt := Lib.hid hlt
        have MT := Lib.hid mT
        have hgl : (gatherOf x0 k).length = k := by simp [gatherOf]
        have Hgl := Lib.hid hgl
        clear hf hf2 hall hnd hhd hlt hF htl hL0 hrb mT hgl
        go_enter Tryd.func7, Tryd.ntmps7
        go_wp2_with fail
        refine RF.mono ?_; rintro e w1 ⟨rfl, nf, hw1⟩
        have hb1 : Below w.heap.size w w1 := by rw [hw1]; exact below_drewN (Below.refl _ w) nf
        clear RF hw1
        go_wp2_with fail
        go_loopw [6, 7] (fun v i wr => ∃ m : Nat, m ≤ k ∧ i = .int .i64 m ∧ (∃ us, wr.ownsRow w.heap.size 33 1 v m us ∧ AreB (fun b e => e = 5 ∧ w.heap.size ≤ b) wr ((gatherOf x0 k).take m) us) ∧ Below w.heap.size w wr) (fun _ i _ => k - (intOf i).toNat)
        case atStart => exact ⟨0, Nat.zero_le _, rfl, ⟨[], World.ownsRow_nil _ _ _ _, AreB.nil⟩, hb1⟩
        case round =>
          obtain ⟨m, hm, rfl, ⟨us, hown, hA⟩, hbl⟩ := hrel
          have hsz := hbl.size
          by_cases hmk : m < k
          · have q6 : decide ((m : Int) < (k : Int)) = true := by rw [decide_eq_true_eq]; omega
            have Hcf : IntKind.u8.wrap (m : Int) = (m : Int) := by rw [IntKind.wrap_u8]; omega
            have hy : (m : Int) = ((UInt8.ofNat m).toNat : Int) := by simp; omega
            have TC := JC m wr (rT.below hbl) (MT.out.below hbl) hy
            have htk := gatherOf_take x0 k m hmk
            have htl := Hlt.out (UInt8.ofNat m)
            obtain ⟨new, hnew⟩ : ∃ x, x = thrus ((x0.take k).map (·.at_)) ((x0.take k).map (·.data)) (UInt8.ofNat m) := ⟨_, rfl⟩
            rw [← hnew] at TC htk htl
            have Htk := Lib.hid htk
            have p0 : (0 : Int) ≤ (k : Int) := by omega
            have p1 : (k : Int) ≤ (c0 : Int) := by omega
            clear hnew htl hy htk
            obtain ⟨aO, cO, rfl⟩ := own_slice hown
            go_wp2_with fail
            refine TC.mono ?_; rintro e w2 ⟨a2, cap2, rfl, hown2, hbl2⟩
            clear TC
            have hs2 := hbl2.size
            go_wp2_with (at_builtin; refine app1 34 33 (.slice none 0 0) 24 Tryd.underlying34 info_bs rfl (by omega) rfl _ _ rfl w.heap.size _ m us rfl ((own_below hown hbl2).alloc _) ⟨w2.heap.size, 0, none⟩ 1 (.slice a2 new.length cap2) rfl (by simp) rfl (by omega) (by simp; omega) _ rfl ?_; intro g3 cap3 w3 hown3 hgrow3 hat3 hlt3)
            have hbl3 : Below w.heap.size w w3 := below_grow ((hbl.trans (hbl2.mono hsz)).alloc (by omega) _) ((own_below hown hbl2).alloc _) hgrow3 (by simp; omega)
            have hin : IsB (fun b e => e = 5 ∧ w.heap.size ≤ b) w2 new (.slice a2 new.length cap2) := (IsB.of_own hown2).mono fun b e _ h => ⟨h.1, by omega⟩
            have hA3 := ((hA.below hbl2).alloc (.cells #[.slice a2 new.length cap2] 33)).push (hin.alloc _) ((own_below hown hbl2).alloc _) hgrow3 (fun _ e' _ h => by rw [h.1]; decide)
            clear hgrow3 hat3 hin hown2 hown hA
            go_wp2
            go_roundw
            case rel => exact ⟨m + 1, by omega, by go_num, ⟨_, hown3, by rw [Htk.out]; exact hA3⟩, hbl3⟩
            case measure => simp [intOf] <;> omega
          · obtain rfl : m = k := by omega
            have q6 : decide ((m : Int) < (m : Int)) = false := by rw [decide_eq_false]; omega
            obtain ⟨aO, cO, rfl⟩ := own_slice hown
            rw [List.take_of_length_le (by rw [Hgl.out]; omega)] at hA
            have GC1 := GC wr (r0.below hbl) (M0.out.below hbl)
            clear GC JC
            go_wp2_with fail
            refine GC1.mono ?_; rintro e w2 ⟨hb2, ⟨_, aG, cG, uG, rfl, rG, mG⟩ | ⟨hx, _⟩⟩
            case inr => exact absurd HF.out hx
            clear GC1
            have hb12 : Below w.heap.size w w2 := hbl.trans (hb2.mono hbl.size)
            simp only [Int.toNat_natCast] at *
            have SB := Rows_calls (gatherOf x0 m) (gatherOf x0 m) aG aO cG cO 33 33 uG us w2 rG (mG.mono fun _ _ _ _ => trivial) ((Rd.of_own hown).below hb2) ((hA.below hb2).mono fun _ _ _ _ => trivial) (by rw [Hgl.out]; omega)
            rw [decide_eq_true rfl, Hgl.out] at SB
            go_wp2_with fail
            refine (Error_nil 0 true rfl _).mono ?_; rintro e w' ⟨rfl, rfl⟩
            go_wp2_with fail
            refine SB.mono ?_; rintro e w4 ⟨rfl, nd, hw4⟩
            have hb4 : Below w.heap.size w w4 := by rw [hw4]; exact below_drewN hb12 nd
            clear SB hw4
            go_wp2_with fail
            go_ret
            exact ⟨rfl, hb4⟩
      · have q6 : (sharesF 0 19 x0 k == 0) = false := by rw [beq_eq_false_iff_ne]; exact hf
        have Hne : Hid (gatherF x0 k ≠ 0) := Lib.hid (by rw [hF]; exact hf)
        obtain ⟨F, hFF⟩ : ∃ F, sharesF 0 19 x0 k = F := ⟨_, rfl⟩
        rw [hFF] at RF hF q6
        have HF := Lib.hid hF
        clear hf hF hFF htl hL0 hrb
        go_enter Tryd.func7, Tryd.ntmps7
        go_wp2_with fail
        refine RF.mono ?_; rintro e w1 ⟨rfl, nf, hw1⟩
        have hb1 : Below w.heap.size w w1 := by rw [hw1]; exact below_drewN (Below.refl _ w) nf
        clear RF hw1
        go_wp2_with fail
        refine wp_loop_rounds 1 ?_
        rw [rounds_succ]
        go_wp2_with fail
        have GC1 := GC w1 (r0.below hb1) (M0.out.below hb1)
        clear GC
        refine GC1.mono ?_; rintro e w2 ⟨hb2, ⟨hx, _⟩ | ⟨_, he⟩⟩
        case inl => exact absurd hx Hne.out
        rw [HF.out] at he
        subst he
        clear GC1
        have hb12 : Below w.heap.size w w2 := (hb1).trans (hb2.mono (hb1).size)
        go_wp2_with fail
        refine (Error_err F F true (by simp) _ (hg.at_ hb12)).mono ?_; rintro e w3 ⟨rfl, hb3⟩
        have hb13 : Below w.heap.size w w3 := hb12.trans (hb3.mono hb12.size)
        have SB := Rows_calls [] [] none none 0 0 33 33 [] [] w3 (.inl rfl) AreB.nil (.inl rfl) AreB.nil (by simp)
        rw [decide_eq_true rfl] at SB
        go_wp2_with fail
        refine SB.mono ?_; rintro e w4 ⟨rfl, nd, hw4⟩
        have hb4 : Below w.heap.size w w4 := by rw [hw4]; exact below_drewN hb13 nd
        clear SB hw4
        go_wp2_with fail
        go_ret
        exact ⟨rfl, hb4⟩

set_option maxRecDepth 100000 in
theorem lifted (os : Os) (started : os.Started) (H : Type) (enc : TypeId × Value → H) :
    ReturnsInHanded {} Tryd.checked os 7 .any (fun w args => (Rows.codeGathersSpec.pre enc Tryd.prog Tryd.f7 Rows.codeGathersRow.domain false w args ∧ laidMetH Tryd.prog Laid.list w) ∧ sizedMet enc Tryd.prog Tryd.f7 (OpenSpec.ofChange Rows.codeGathersSpec) false w args) (Rows.codeGathersSpec.post enc Tryd.prog Tryd.f7 false true false false) := by
  refine returnsInHanded_of_change_and (C := Tryd.checked) (X := fun w _ => laidMetH Tryd.prog Laid.list w) (fun _ _ _ hh h => h.of_heap hh) Laid.own started (by kernel_rfl) Tryd.func7
    (ChangeSpec.witness_at (enc := enc) (C := Tryd.checked) (os := os) (X := fun w _ => laidMetH Tryd.prog Laid.list w) false (laidWorld os) #[.slice none 0 0, .int .i64 0] 8 rfl (by kernel_rfl) (by kernel_rfl) (by kernel_rfl) (by kernel_rfl) (by kernel_rfl) (laidWorld_met os _)) ?_
  intro W base args ds gs before hval0 hW _ hsz hL _
  have hg := handle_of_laid hL
  have hval : ∀ (j : Nat) t v, Tryd.f7.params[j]? = some t → args[j]? = some v → Value.okWide Tryd.prog W .any base t v := hval0
  have hW' := hW
  obtain ⟨p, q, hA0, hV, rfl, hfz, hnd⟩ := hW
  have hA : DataW.TrodAll enc Tryd.prog W 0 (fun _ => true) true Tryd.f7.params.toList args.toList ds p := hA0
  rw [Tryd.params7] at hA hval
  obtain ⟨v0, vs0, d0, ds0, p0, q0, hargs, rfl, rfl, h0, r0⟩ := trodAll_cons hA
  obtain ⟨v1, vs1, d1, ds1, p1, q1, rfl, rfl, rfl, h1, r1⟩ := trodAll_cons r0
  obtain ⟨rfl, rfl, rfl⟩ := trodAll_nil r1
  obtain rfl : args = #[v0, v1] := by cases args; simp_all
  obtain ⟨rfl, rfl⟩ := trodVars_none hV
  have k0 := h0
  have lt0 : ∀ x ∈ p0, x.block < W.heap.size := by obtain ⟨m, hm⟩ := k0; exact DataW.trod_lt m _ _ _ hm
  obtain ⟨x0, a0, c0, e0, u0, rfl, g0, g_0, r_0, m0, z0⟩ := open_shares2 Tryd.underlying37 Tryd.underlying49 Tryd.underlying5 Tryd.underlying33 Tryd.underlying5 (by kernel_rfl) (by kernel_rfl) (by kernel_rfl) (by kernel_rfl) rfl rfl (by kernel_rfl) (fun n hn => of_decide_eq_true (List.all_eq_true.1 hsz n (DataW.weights_mem_each (j := 0) (by first | rfl | kernel_rfl) rfl n hn))) (hval 0 37 v0 rfl rfl) h0
  have l0 : x0.length ≤ 9223372036854775807 := by omega
  have k1 := h1
  have lt1 : ∀ x ∈ p1, x.block < W.heap.size := by obtain ⟨m, hm⟩ := k1; exact DataW.trod_lt m _ _ _ hm
  obtain ⟨a1, rfl, _, _, w1⟩ := open_int Tryd.underlying3 (hval 1 3 v1 rfl rfl) h1
  have b1 := bounds_i64 w1
  clear hA0 hval0
  refine (walk x0 a0 c0 e0 u0 a1 W l0 g0 g_0 r_0 m0 z0 b1 hg).mono fun e W' ⟨he, bel⟩ => ?_
  subst he
  exact ⟨_, rfl, _, _, _, [], _, [], hW', trodAll_mk1 (shut_bool Tryd.underlying4 _), (trodAll_cons_mk (Below.trod Laid.laidOut (by kernel_rfl) (of_decide_eq_true (by kernel_rfl)) k0 bel lt0) (trodAll_cons_mk (Below.trod Laid.laidOut (by kernel_rfl) (of_decide_eq_true (by kernel_rfl)) k1 bel lt1) trodAll_mk0)), rfl, bel.frame _, fun h => by cases h⟩

theorem over : Rows.codeGathersRow.holds Tryd.pinned (OpenSpec.ofChange Rows.codeGathersSpec) :=
  OpenClaim.holds_of_wide 7 Tryd.f7 rfl rfl rfl rfl rfl rfl rfl ⟨rfl, rfl, rfl, rfl, rfl⟩ rfl rfl rfl rfl rfl (by kernel_rfl) Tryd.func7 (by kernel_rfl)
    (of_decide_eq_true (by kernel_rfl)) (by unfold Func.isWrapper; first | (rw [if_pos (by decide +kernel)]; kernel_rfl) | (rw [if_neg (by decide +kernel)]; exact ⟨rfl, rfl⟩))
    (fun os started H enc _ => lifted os started H enc)

theorem proved : Rows.CodeGathersCardSaid :=
  Claim7.holds_tied_plain_at .later [] [.handle] true (true, "bf1fbc32c3425ab6ada0ace87329c2efbd99e0e7f004f60d603e2408cd6a4aa3") true
    over (fun _ h => by cases h) (by kernel_rfl) (fun _ h => by cases h) codeGathers_row_tie rfl ⟨rfl, rfl⟩ (by kernel_rfl) rfl
    (fun f fn hf hfn => by
      obtain rfl : f = 7 := Option.some.inj ((show Tryd.prog.funcNamed "oathbook/oathbooklaw2.CodeGathers" = some 7 by kernel_rfl).symm.trans hf) |>.symm
      obtain rfl : fn = Tryd.f7 := (Option.some.inj (Tryd.func7.symm.trans hfn)).symm
      exact ⟨by kernel_rfl, stand_of_all (by kernel_rfl)⟩)
    (by kernel_rfl)
#print axioms proved
end codeGathers
end Go.Proofs.YtalbmcidlalicaaDoor
