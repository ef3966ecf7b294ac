/- Whatever the others bid, who bids what it is worth gains no less than by any other bid, and never loses. -/
import Derived.Test.YteikbbdkpeecaaaDoorRows
import Derived.Test.YteikbbdkpeecaaaDoorBidSold
import Derived.Test.YteikbbdkpeecaaaDoorLaidR
import Derived.WalkKit
import Derived.ProofKit
import Derived.OpenShut
import Derived.ShutString
import Derived.ChangeOld
import Derived.Below
namespace Go.Proofs.YteikbbdkpeecaaaDoor
open Go.ChangeShapes Go.WideShapes Go.ChangeAt Go.RowKit
open Go.ChangeMaps (open_string shut_string)
set_option linter.unusedVariables false
set_option linter.unusedSimpArgs false
namespace bidTruth

-- HOLE: the walk
theorem set_all {xs : List Int} {m : Nat} (hm : m < xs.length) {y : Int} (hy : 0 ≤ y) : (∀ x ∈ xs.set m y, 0 ≤ x) ↔ ∀ j, (h : j < xs.length) → j ≠ m → 0 ≤ xs[j] := by
  constructor
  · intro h j hj hne
    have := h ((xs.set m y)[j]'(by rw [List.length_set]; exact hj)) (List.getElem_mem _)
    rwa [List.getElem_set_ne (fun e => hne e.symm)] at this
  · intro h x hx
    obtain ⟨j, hj, rfl⟩ := List.mem_iff_getElem.1 hx
    rw [List.length_set] at hj
    by_cases hne : j = m
    · subst hne; rw [List.getElem_set_self]; exact hy
    · rw [List.getElem_set_ne (fun e => hne e.symm)]; exact h j hj hne
set_option maxRecDepth 20000 in
set_option maxHeartbeats 8000000 in
theorem walk (x0 : List Int) (a0 : Option Addr) (c0 e0 : Nat) (a1 a2 a3 a4 : Int) (w : World) (l0 : x0.length ≤ 9223372036854775807) (n0 : ∀ n ∈ x0, -9223372036854775808 ≤ n ∧ n ≤ 9223372036854775807) (r0 : Rd w a0 e0 (x0.map vI)) (h1 : -9223372036854775808 ≤ a1 ∧ a1 ≤ 9223372036854775807) (h2 : -9223372036854775808 ≤ a2 ∧ a2 ≤ 9223372036854775807) (h3 : -9223372036854775808 ≤ a3 ∧ a3 ≤ 9223372036854775807) (h4 : -9223372036854775808 ≤ a4 ∧ a4 ≤ 9223372036854775807) (hro : RoundsAt w) :
    Calls Tryd.prog 4 #[.slice a0 x0.length c0, .int .i64 a1, .int .i64 a2, .int .i64 a3, .int .i64 a4] w fun e w' => e = .returned (.bool true) ∧ Below w.heap.size w w' := by
  have HFA := Lib.hid (Fact_calls w hro)
  have HR := Lib.hid r0
  have HN0 := Lib.hid n0
  have RO := Lib.hid hro
  clear r0 n0 hro
  go_enter Tryd.func4, Tryd.ntmps4
  go_wp2_with fail
  refine HFA.out.mono ?_
  rintro e w1 ⟨rfl, hb1⟩
  have B1 := Lib.hid hb1
  clear hb1 HFA
  by_cases c0 : a2 < 0
  · have z0 : decide (a2 < 0) = true := decide_eq_true c0
    clear c0
    go_wp2_with fail
    go_ret
    exact ⟨rfl, B1.out⟩
  · have z0 : decide (a2 < 0) = false := decide_eq_false c0
    obtain ⟨m, rfl⟩ := Int.eq_ofNat_of_zero_le (show 0 ≤ a2 by omega)
    clear c0
    by_cases c1 : x0.length ≤ m
    · have z1 : decide ((x0.length : Int) ≤ (m : Int)) = true := decide_eq_true (by omega)
      have z1b : decide (x0.length ≤ m) = true := decide_eq_true c1
      clear c1
      go_wp2_with fail
      go_ret
      exact ⟨rfl, B1.out⟩
    · have z1 : decide ((x0.length : Int) ≤ (m : Int)) = false := decide_eq_false (by omega)
      have z1b : decide (x0.length ≤ m) = false := decide_eq_false c1
      by_cases c2 : 40 < x0.length
      · have z2 : decide ((40 : Int) < (x0.length : Int)) = true := decide_eq_true (by omega)
        have z2b : decide (40 < x0.length) = true := decide_eq_true c2
        clear c2
        go_wp2_with fail
        go_ret
        exact ⟨rfl, B1.out⟩
      · have z2 : decide ((40 : Int) < (x0.length : Int)) = false := decide_eq_false (by omega)
        have z2b : decide (40 < x0.length) = false := decide_eq_false c2
        have h40 : x0.length ≤ 40 := by omega
        by_cases c3 : a3 < 0
        · have z3 : decide (a3 < 0) = true := decide_eq_true c3
          clear c3
          go_wp2_with fail
          go_ret
          exact ⟨rfl, B1.out⟩
        · have z3 : decide (a3 < 0) = false := decide_eq_false c3
          have hw3 : 0 ≤ a3 := by omega
          by_cases c4 : a4 < 0
          · have z4 : decide (a4 < 0) = true := decide_eq_true c4
            clear c4
            go_wp2_with fail
            go_ret
            exact ⟨rfl, B1.out⟩
          · have z4 : decide (a4 < 0) = false := decide_eq_false c4
            have ho4 : 0 ≤ a4 := by omega
            have hme : m < x0.length := by omega
            have hs3 : (x0.set m a3).length = x0.length := List.length_set
            have hs4 : (x0.set m a4).length = x0.length := List.length_set
            have HALL : Hid (((∀ x ∈ x0.set m a3, 0 ≤ x) ∧ 0 ≤ a1) ↔ ((∀ x ∈ x0.set m a4, 0 ≤ x) ∧ 0 ≤ a1)) := Lib.hid (by rw [set_all hme hw3, set_all hme ho4])
            have HR3 := Lib.hid (show ∀ x ∈ x0.set m a3, -9223372036854775808 ≤ x ∧ x ≤ 9223372036854775807 from fun x hx => (List.mem_or_eq_of_mem_set hx).elim (HN0.out x) (fun h => by rw [h]; exact h3))
            have HR4 := Lib.hid (show ∀ x ∈ x0.set m a4, -9223372036854775808 ≤ x ∧ x ≤ 9223372036854775807 from fun x hx => (List.mem_or_eq_of_mem_set hx).elim (HN0.out x) (fun h => by rw [h]; exact h4))
            have m0 : (0 : Int) ≤ (m : Int) := by omega
            have m1 : (m : Int) < (x0.length : Int) := by omega
            have hs1 : w1.heap.size ≤ (w1.alloc (.cells #[] 3)).heap.size := by rw [World.size_alloc]; omega
            have O01 := Lib.hid (World.ownsRow_made (base := w1.heap.size) (e := 3) (size := 1) w1 #[] 0 (Nat.le_refl _) (Nat.zero_le _) rfl)
            have RX1 := Lib.hid ((HR.out.below B1.out).alloc (.cells #[] 3))
            go_upto_region 7 with (at_builtin; refine appAllw 35 3 (.int .i64 0) 1 8 Tryd.underlying35 info_int rfl (by omega) rfl (.tmp 45) (.tmp 46) (by rfl) w1.heap.size _ 0 [] (by rfl) O01.out a0 x0.length c0 (x0.map vI) (by rfl) _ RX1.out (by rw [List.length_map, Nat.mul_one]) (one_ints x0) (by omega) (by omega) hs1 ?_; intro av1 cp1 wc1 hown1 hbc1; rw [List.nil_append, Nat.zero_add] at hown1)
            have HBC1 := Lib.hid (show Below w1.heap.size w1 wc1 from Below.trans ((Below.refl _ w1).alloc (Nat.le_refl _) _) hbc1)
            obtain ⟨g1, rfl, hbg1, ⟨ov1, hcell1⟩, hfz1, hput1⟩ := own_put hown1 rfl (k := m) hme
            obtain ⟨w2, hw2⟩ : ∃ z, z = wc1.setCell ⟨g1, m, none⟩ (.int .i64 a3) := ⟨_, rfl⟩
            have hown21 := hput1 a3
            rw [← hw2] at hown21
            have hbn1 : Below w1.heap.size w1 w2 := by rw [hw2]; exact HBC1.out.setCell (p := ⟨g1, m, none⟩) hbg1 _
            have RC1 := Lib.hid (Rd.of_own hown21)
            have BN1 := Lib.hid hbn1
            have HNW1 := Lib.hid hw2
            clear hown1 hbc1 hbg1 hput1 hown21 hbn1 hw2
            go_wp2_with fail
            rw [← HNW1.out]
            have S1 := Sold2_calls (x0.set m a3) HR3.out (by rw [hs3]; exact h40) (some ⟨g1, 0, none⟩) cp1 _ a1 w2 RC1.out ((RO.out.at_ B1.out).at_ BN1.out)
            rw [hs3] at S1
            have HSO1 := Lib.hid S1
            clear S1 hcell1 hfz1
            refine HSO1.out.mono ?_
            rintro e w3 ⟨x1, p1, f1, rfl, hf1, hs1, hp1, hx1, hb3⟩
            have B3 := Lib.hid (B1.out.trans (BN1.out.trans (hb3.mono BN1.out.size) |>.mono B1.out.size))
            have HF1 := Lib.hid hf1
            have HS1 := Lib.hid hs1
            have e1 : IntKind.i64.wrap (a3 - p1) = a3 - p1 := IntWalk.i64_in _ (by omega)
            clear hf1 hs1 hb3 HSO1
            by_cases gg : x1 = (m : Int)
            · have zz : (x1 == (m : Int)) = true := beq_iff_eq.2 gg
              have HGG := Lib.hid gg
              clear gg
              have hs3 : w3.heap.size ≤ (w3.alloc (.cells #[] 3)).heap.size := by rw [World.size_alloc]; omega
              have O03 := Lib.hid (World.ownsRow_made (base := w3.heap.size) (e := 3) (size := 1) w3 #[] 0 (Nat.le_refl _) (Nat.zero_le _) rfl)
              have RX3 := Lib.hid ((HR.out.below B3.out).alloc (.cells #[] 3))
              go_upto_region 13 with (at_builtin; refine appAllw 35 3 (.int .i64 0) 1 8 Tryd.underlying35 info_int rfl (by omega) rfl (.tmp 65) (.tmp 66) (by rfl) w3.heap.size _ 0 [] (by rfl) O03.out a0 x0.length c0 (x0.map vI) (by rfl) _ RX3.out (by rw [List.length_map, Nat.mul_one]) (one_ints x0) (by omega) (by omega) hs3 ?_; intro av3 cp3 wc3 hown3 hbc3; rw [List.nil_append, Nat.zero_add] at hown3)
              have HBC3 := Lib.hid (show Below w3.heap.size w3 wc3 from Below.trans ((Below.refl _ w3).alloc (Nat.le_refl _) _) hbc3)
              obtain ⟨g3, rfl, hbg3, ⟨ov3, hcell3⟩, hfz3, hput3⟩ := own_put hown3 rfl (k := m) hme
              obtain ⟨w4, hw4⟩ : ∃ z, z = wc3.setCell ⟨g3, m, none⟩ (.int .i64 a4) := ⟨_, rfl⟩
              have hown23 := hput3 a4
              rw [← hw4] at hown23
              have hbn3 : Below w3.heap.size w3 w4 := by rw [hw4]; exact HBC3.out.setCell (p := ⟨g3, m, none⟩) hbg3 _
              have RC3 := Lib.hid (Rd.of_own hown23)
              have BN3 := Lib.hid hbn3
              have HNW3 := Lib.hid hw4
              clear hown3 hbc3 hbg3 hput3 hown23 hbn3 hw4
              go_wp2_with fail
              rw [← HNW3.out]
              have S2 := Sold2_calls (x0.set m a4) HR4.out (by rw [hs4]; exact h40) (some ⟨g3, 0, none⟩) cp3 _ a1 w4 RC3.out ((RO.out.at_ B3.out).at_ BN3.out)
              rw [hs4] at S2
              have HSO2 := Lib.hid S2
              clear S2 hcell3 hfz3
              refine HSO2.out.mono ?_
              rintro e w7 ⟨x2, p2, f2, rfl, hf2, hs2, hp2, hx2, hb7⟩
              have B7 := Lib.hid (B3.out.trans (BN3.out.trans (hb7.mono BN3.out.size) |>.mono B3.out.size))
              have HF2 := Lib.hid hf2
              have HS2 := Lib.hid hs2
              have e2 : IntKind.i64.wrap (a3 - p2) = a3 - p2 := IntWalk.i64_in _ (by omega)
              clear hf2 hs2 hb7 HSO2
              cases f1 with
              | false =>
                have hf2 : f2 = false := by
                  cases f2 with
                  | false => rfl
                  | true => exact absurd (HF1.out.2 (HALL.out.2 (HF2.out.1 rfl))) (by decide)
                subst hf2
                by_cases g2 : x2 = (m : Int)
                · have z2 : (x2 == (m : Int)) = true := beq_iff_eq.2 g2
                  clear g2
                  go_wp2_with fail
                  go_ret
                  exact ⟨rfl, B7.out⟩
                · have z2 : (x2 == (m : Int)) = false := beq_eq_false_iff_ne.2 g2
                  clear g2
                  go_wp2_with fail
                  go_ret
                  exact ⟨rfl, B7.out⟩
              | true =>
                have hf2 : f2 = true := HF2.out.2 (HALL.out.1 (HF1.out.1 rfl))
                subst hf2
                have hv := vickrey hme (HS1.out rfl) (HS2.out rfl)
                rw [if_pos HGG.out] at hv
                by_cases g2 : x2 = (m : Int)
                · have z2 : (x2 == (m : Int)) = true := beq_iff_eq.2 g2
                  rw [if_pos g2] at hv
                  clear g2
                  have y1 : decide (0 ≤ a3 - p1) = true := decide_eq_true (by omega)
                  have y1b : decide (p1 ≤ a3) = true := decide_eq_true (by omega)
                  have y2 : decide (a3 - p2 ≤ a3 - p1) = true := decide_eq_true (by omega)
                  have y2b : decide (p1 ≤ p2) = true := decide_eq_true (by omega)
                  clear hv
                  go_wp2_with fail
                  go_ret
                  exact ⟨rfl, B7.out⟩
                · have z2 : (x2 == (m : Int)) = false := beq_eq_false_iff_ne.2 g2
                  rw [if_neg g2] at hv
                  clear g2
                  have y1 : decide (0 ≤ a3 - p1) = true := decide_eq_true (by omega)
                  have y1b : decide (p1 ≤ a3) = true := decide_eq_true (by omega)
                  clear hv
                  go_wp2_with fail
                  go_ret
                  exact ⟨rfl, B7.out⟩
            · have zz : (x1 == (m : Int)) = false := beq_eq_false_iff_ne.2 gg
              have HGG := Lib.hid gg
              clear gg
              have hs3 : w3.heap.size ≤ (w3.alloc (.cells #[] 3)).heap.size := by rw [World.size_alloc]; omega
              have O03 := Lib.hid (World.ownsRow_made (base := w3.heap.size) (e := 3) (size := 1) w3 #[] 0 (Nat.le_refl _) (Nat.zero_le _) rfl)
              have RX3 := Lib.hid ((HR.out.below B3.out).alloc (.cells #[] 3))
              go_upto_region 13 with (at_builtin; refine appAllw 35 3 (.int .i64 0) 1 8 Tryd.underlying35 info_int rfl (by omega) rfl (.tmp 65) (.tmp 66) (by rfl) w3.heap.size _ 0 [] (by rfl) O03.out a0 x0.length c0 (x0.map vI) (by rfl) _ RX3.out (by rw [List.length_map, Nat.mul_one]) (one_ints x0) (by omega) (by omega) hs3 ?_; intro av3 cp3 wc3 hown3 hbc3; rw [List.nil_append, Nat.zero_add] at hown3)
              have HBC3 := Lib.hid (show Below w3.heap.size w3 wc3 from Below.trans ((Below.refl _ w3).alloc (Nat.le_refl _) _) hbc3)
              obtain ⟨g3, rfl, hbg3, ⟨ov3, hcell3⟩, hfz3, hput3⟩ := own_put hown3 rfl (k := m) hme
              obtain ⟨w4, hw4⟩ : ∃ z, z = wc3.setCell ⟨g3, m, none⟩ (.int .i64 a4) := ⟨_, rfl⟩
              have hown23 := hput3 a4
              rw [← hw4] at hown23
              have hbn3 : Below w3.heap.size w3 w4 := by rw [hw4]; exact HBC3.out.setCell (p := ⟨g3, m, none⟩) hbg3 _
              have RC3 := Lib.hid (Rd.of_own hown23)
              have BN3 := Lib.hid hbn3
              have HNW3 := Lib.hid hw4
              clear hown3 hbc3 hbg3 hput3 hown23 hbn3 hw4
              go_wp2_with fail
              rw [← HNW3.out]
              have S2 := Sold2_calls (x0.set m a4) HR4.out (by rw [hs4]; exact h40) (some ⟨g3, 0, none⟩) cp3 _ a1 w4 RC3.out ((RO.out.at_ B3.out).at_ BN3.out)
              rw [hs4] at S2
              have HSO2 := Lib.hid S2
              clear S2 hcell3 hfz3
              refine HSO2.out.mono ?_
              rintro e w7 ⟨x2, p2, f2, rfl, hf2, hs2, hp2, hx2, hb7⟩
              have B7 := Lib.hid (B3.out.trans (BN3.out.trans (hb7.mono BN3.out.size) |>.mono B3.out.size))
              have HF2 := Lib.hid hf2
              have HS2 := Lib.hid hs2
              have e2 : IntKind.i64.wrap (a3 - p2) = a3 - p2 := IntWalk.i64_in _ (by omega)
              clear hf2 hs2 hb7 HSO2
              cases f1 with
              | false =>
                have hf2 : f2 = false := by
                  cases f2 with
                  | false => rfl
                  | true => exact absurd (HF1.out.2 (HALL.out.2 (HF2.out.1 rfl))) (by decide)
                subst hf2
                by_cases g2 : x2 = (m : Int)
                · have z2 : (x2 == (m : Int)) = true := beq_iff_eq.2 g2
                  clear g2
                  go_wp2_with fail
                  go_ret
                  exact ⟨rfl, B7.out⟩
                · have z2 : (x2 == (m : Int)) = false := beq_eq_false_iff_ne.2 g2
                  clear g2
                  go_wp2_with fail
                  go_ret
                  exact ⟨rfl, B7.out⟩
              | true =>
                have hf2 : f2 = true := HF2.out.2 (HALL.out.1 (HF1.out.1 rfl))
                subst hf2
                have hv := vickrey hme (HS1.out rfl) (HS2.out rfl)
                rw [if_neg HGG.out] at hv
                by_cases g2 : x2 = (m : Int)
                · have z2 : (x2 == (m : Int)) = true := beq_iff_eq.2 g2
                  rw [if_pos g2] at hv
                  clear g2
                  have y2 : decide (a3 - p2 ≤ 0) = true := decide_eq_true (by omega)
                  have y2b : decide (a3 ≤ p2) = true := decide_eq_true (by omega)
                  clear hv
                  go_wp2_with fail
                  go_ret
                  exact ⟨rfl, B7.out⟩
                · have z2 : (x2 == (m : Int)) = false := beq_eq_false_iff_ne.2 g2
                  rw [if_neg g2] at hv
                  clear g2
                  have y1 : True := trivial
                  clear hv
                  go_wp2_with fail
                  go_ret
                  exact ⟨rfl, B7.out⟩

set_option maxRecDepth 100000 in
theorem lifted (os : Os) (started : os.Started) (H : Type) (enc : TypeId × Value → H) :
    ReturnsInHanded {} Tryd.checked os 4 .any (fun w args => (Rows.bidTruthSpec.pre enc Tryd.prog Tryd.f4 Rows.bidTruthRow.domain false w args ∧ laidMetH Tryd.prog Laid.list w) ∧ sizedMet enc Tryd.prog Tryd.f4 (OpenSpec.ofChange Rows.bidTruthSpec) false w args) (Rows.bidTruthSpec.post enc Tryd.prog Tryd.f4 false true false false) := by
  refine returnsInHanded_of_change_and (C := Tryd.checked) (X := fun w _ => laidMetH Tryd.prog Laid.list w) (fun _ _ _ hh h => h.of_heap hh) Laid.own started (by kernel_rfl) Tryd.func4
    (ChangeSpec.witness_at (enc := enc) (C := Tryd.checked) (os := os) (X := fun w _ => laidMetH Tryd.prog Laid.list w) false (laidWorld os) #[.slice none 0 0, .int .i64 0, .int .i64 0, .int .i64 0, .int .i64 0] 8 rfl (by kernel_rfl) (by kernel_rfl) (by kernel_rfl) (by kernel_rfl) (by kernel_rfl) (laidWorld_met os _)) ?_
  intro W base args ds gs before hval0 hW _ hsz hL _
  have hro := rounds_of_laid hL
  have hval : ∀ (j : Nat) t v, Tryd.f4.params[j]? = some t → args[j]? = some v → Value.okWide Tryd.prog W .any base t v := hval0
  have hW' := hW
  obtain ⟨p, q, hA0, hV, rfl, hfz, hnd⟩ := hW
  have hA : DataW.TrodAll enc Tryd.prog W 0 (fun _ => true) true Tryd.f4.params.toList args.toList ds p := hA0
  rw [Tryd.params4] at hA hval
  obtain ⟨v0, vs0, d0, ds0, p0, q0, hargs, rfl, rfl, h0, r0⟩ := trodAll_cons hA
  obtain ⟨v1, vs1, d1, ds1, p1, q1, rfl, rfl, rfl, h1, r1⟩ := trodAll_cons r0
  obtain ⟨v2, vs2, d2, ds2, p2, q2, rfl, rfl, rfl, h2, r2⟩ := trodAll_cons r1
  obtain ⟨v3, vs3, d3, ds3, p3, q3, rfl, rfl, rfl, h3, r3⟩ := trodAll_cons r2
  obtain ⟨v4, vs4, d4, ds4, p4, q4, rfl, rfl, rfl, h4, r4⟩ := trodAll_cons r3
  obtain ⟨rfl, rfl, rfl⟩ := trodAll_nil r4
  obtain rfl : args = #[v0, v1, v2, v3, v4] := by cases args; simp_all
  obtain ⟨rfl, rfl⟩ := trodVars_none hV
  have k0 := h0
  have lt0 : ∀ x ∈ p0, x.block < W.heap.size := by obtain ⟨m, hm⟩ := k0; exact DataW.trod_lt m _ _ _ hm
  obtain ⟨x0, a0, c0, e0, rfl, l0, n0, r_0⟩ := open_nums Tryd.underlying35 Tryd.underlying3 (by kernel_rfl) (hval 0 35 v0 rfl rfl) h0
  have k1 := h1
  have lt1 : ∀ x ∈ p1, x.block < W.heap.size := by obtain ⟨m, hm⟩ := k1; exact DataW.trod_lt m _ _ _ hm
  obtain ⟨a1, rfl, _, _, w1⟩ := open_int Tryd.underlying3 (hval 1 3 v1 rfl rfl) h1
  have b1 := bounds_i64 w1
  have k2 := h2
  have lt2 : ∀ x ∈ p2, x.block < W.heap.size := by obtain ⟨m, hm⟩ := k2; exact DataW.trod_lt m _ _ _ hm
  obtain ⟨a2, rfl, _, _, w2⟩ := open_int Tryd.underlying3 (hval 2 3 v2 rfl rfl) h2
  have b2 := bounds_i64 w2
  have k3 := h3
  have lt3 : ∀ x ∈ p3, x.block < W.heap.size := by obtain ⟨m, hm⟩ := k3; exact DataW.trod_lt m _ _ _ hm
  obtain ⟨a3, rfl, _, _, w3⟩ := open_int Tryd.underlying3 (hval 3 3 v3 rfl rfl) h3
  have b3 := bounds_i64 w3
  have k4 := h4
  have lt4 : ∀ x ∈ p4, x.block < W.heap.size := by obtain ⟨m, hm⟩ := k4; exact DataW.trod_lt m _ _ _ hm
  obtain ⟨a4, rfl, _, _, w4⟩ := open_int Tryd.underlying3 (hval 4 3 v4 rfl rfl) h4
  have b4 := bounds_i64 w4
  clear hA0 hval0
  refine (walk x0 a0 c0 e0 a1 a2 a3 a4 W l0 n0 r_0 b1 b2 b3 b4 hro).mono fun e W' ⟨he, bel⟩ => ?_
  subst he
  exact ⟨_, rfl, _, _, _, [], _, [], hW', trodAll_mk1 (shut_bool Tryd.underlying4 _), (trodAll_cons_mk (Below.trod Laid.laidOut (by kernel_rfl) (of_decide_eq_true (by kernel_rfl)) k0 bel lt0) (trodAll_cons_mk (Below.trod Laid.laidOut (by kernel_rfl) (of_decide_eq_true (by kernel_rfl)) k1 bel lt1) (trodAll_cons_mk (Below.trod Laid.laidOut (by kernel_rfl) (of_decide_eq_true (by kernel_rfl)) k2 bel lt2) (trodAll_cons_mk (Below.trod Laid.laidOut (by kernel_rfl) (of_decide_eq_true (by kernel_rfl)) k3 bel lt3) (trodAll_cons_mk (Below.trod Laid.laidOut (by kernel_rfl) (of_decide_eq_true (by kernel_rfl)) k4 bel lt4) trodAll_mk0))))), rfl, bel.frame _, fun h => by cases h⟩

theorem over : Rows.bidTruthRow.holds Tryd.pinned (OpenSpec.ofChange Rows.bidTruthSpec) :=
  OpenClaim.holds_of_wide 4 Tryd.f4 rfl rfl rfl rfl rfl rfl rfl ⟨rfl, rfl, rfl, rfl, rfl⟩ rfl rfl rfl rfl rfl (by kernel_rfl) Tryd.func4 (by kernel_rfl)
    (of_decide_eq_true (by kernel_rfl)) (by unfold Func.isWrapper; first | (rw [if_pos (by decide +kernel)]; kernel_rfl) | (rw [if_neg (by decide +kernel)]; exact ⟨rfl, rfl⟩))
    (fun os started H enc _ => lifted os started H enc)

theorem proved : Rows.BidTruthCardSaid :=
  Claim7.holds_tied_plain_at .later [] [.data] true (true, "4f0e9677fe1ccb776bf052845ca0f76ca72d0c0d325736eacb132d69b7600c21") true
    over (fun _ h => by cases h) (by kernel_rfl) (fun _ h => by cases h) bidTruth_row_tie rfl ⟨rfl, rfl⟩ (by kernel_rfl) rfl
    (fun f fn hf hfn => by
      obtain rfl : f = 4 := Option.some.inj ((show Tryd.prog.funcNamed "oathbook/oathbooklaw4.BidTruth" = some 4 by kernel_rfl).symm.trans hf) |>.symm
      obtain rfl : fn = Tryd.f4 := (Option.some.inj (Tryd.func4.symm.trans hfn)).symm
      exact ⟨by kernel_rfl, stand_of_all (by kernel_rfl)⟩)
    (by kernel_rfl)
#print axioms proved
end bidTruth
end Go.Proofs.YteikbbdkpeecaaaDoor
