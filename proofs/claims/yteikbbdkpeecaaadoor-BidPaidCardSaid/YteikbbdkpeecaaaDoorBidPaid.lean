/- A sale goes to nobody just if nobody bids the least price, else to who bids no less than all others, for no more than they bid, and they would buy for that with any higher bid. -/
import Derived.Test.YteikbbdkpeecaaaDoorRows
import Derived.Test.YteikbbdkpeecaaaDoorBidSold
import Derived.Test.YteikbbdkpeecaaaDoorLaidR
import Derived.WalkKit
import Derived.ProofKit
import Derived.OpenShut
import Derived.ShutString
import Derived.ChangeOld
import Derived.Below
namespace Go.Proofs.YteikbbdkpeecaaaDoor
open Go.ChangeShapes Go.WideShapes Go.ChangeAt Go.RowKit
open Go.ChangeMaps (open_string shut_string)
set_option linter.unusedVariables false
set_option linter.unusedSimpArgs false
namespace bidPaid

-- HOLE: the walk
/-- the greatest of the first k, or -1 -/
def MostI (xs : List Int) (k : Nat) (m : Int) : Prop := (∀ j, (h : j < xs.length) → j < k → xs[j] ≤ m) ∧ -1 ≤ m ∧ ((m = -1 ∧ k = 0) ∨ ∃ j, ∃ h : j < xs.length, xs[j] = m)
theorem MostI.zero {xs : List Int} : MostI xs 0 (-1) := ⟨fun j _ h => absurd h (Nat.not_lt_zero _), by omega, .inl ⟨rfl, rfl⟩⟩
theorem MostI.step {xs : List Int} {k : Nat} {m : Int} (h : MostI xs k m) (hk : k < xs.length) (h0 : 0 ≤ xs[k]) : MostI xs (k + 1) (max m xs[k]) := by
  obtain ⟨h1, h2, h3⟩ := h
  refine ⟨fun j hj hlt => ?_, by omega, ?_⟩
  · by_cases e : j = k
    · subst e; omega
    · have := h1 j hj (by omega); omega
  · by_cases e : m ≤ xs[k]
    · exact .inr ⟨k, hk, by omega⟩
    · rcases h3 with ⟨h3, _⟩ | ⟨j, hj, h3⟩
      · omega
      · exact .inr ⟨j, hj, by omega⟩
theorem MostI.all {xs : List Int} {m : Int} (h : MostI xs xs.length m) : ∀ k, (hk : k < xs.length) → xs[k] ≤ m := fun k hk => h.1 k hk hk
theorem MostI.some_ {xs : List Int} {m : Int} (h : MostI xs xs.length m) : (m = -1 ∧ xs = []) ∨ ∃ k, ∃ hk : k < xs.length, xs[k] = m := h.2.2.imp (fun ⟨a, b⟩ => ⟨a, List.length_eq_zero_iff.1 b⟩) id
set_option maxRecDepth 20000 in
set_option maxHeartbeats 8000000 in
theorem walk (x0 : List Int) (a0 : Option Addr) (c0 e0 : Nat) (a1 a2 : Int) (w : World) (l0 : x0.length ≤ 9223372036854775807) (n0 : ∀ n ∈ x0, -9223372036854775808 ≤ n ∧ n ≤ 9223372036854775807) (r0 : Rd w a0 e0 (x0.map vI)) (h1 : -9223372036854775808 ≤ a1 ∧ a1 ≤ 9223372036854775807) (h2 : -9223372036854775808 ≤ a2 ∧ a2 ≤ 9223372036854775807) (hro : RoundsAt w) :
    Calls Tryd.prog 5 #[.slice a0 x0.length c0, .int .i64 a1, .int .i64 a2] w fun e w' => e = .returned (.bool true) ∧ Below w.heap.size w w' := by
  have HFA := Lib.hid (Fact_calls w hro)
  have HR := Lib.hid r0
  have HN0 := Lib.hid n0
  have RO := Lib.hid hro
  clear r0 n0 hro
  go_enter Tryd.func5, Tryd.ntmps5
  go_wp2_with fail
  refine HFA.out.mono ?_
  rintro e w1 ⟨rfl, hb1⟩
  have B1 := Lib.hid hb1
  clear hb1 HFA
  by_cases c2 : 40 < x0.length
  · have z2 : decide ((40 : Int) < (x0.length : Int)) = true := decide_eq_true (by omega)
    have z2b : decide (40 < x0.length) = true := decide_eq_true c2
    clear c2
    go_wp2_with fail
    go_ret
    exact ⟨rfl, B1.out⟩
  · have z2 : decide ((40 : Int) < (x0.length : Int)) = false := decide_eq_false (by omega)
    have z2b : decide (40 < x0.length) = false := decide_eq_false c2
    have h40 : x0.length ≤ 40 := by omega
    have S0 := Sold2_calls x0 HN0.out h40 a0 c0 _ a1 w1 (HR.out.below B1.out) (RO.out.at_ B1.out)
    have HSO := Lib.hid S0
    clear S0 c2
    go_wp2_with fail
    refine HSO.out.mono ?_
    rintro e w2 ⟨x1, p1, f1, rfl, hf1, hs1, hp1, hx1, hb2⟩
    have B2 := Lib.hid (B1.out.trans (hb2.mono B1.out.size))
    have HF1 := Lib.hid hf1
    have HS1 := Lib.hid hs1
    clear hf1 hs1 hb2 HSO
    cases f1 with
    | false =>
      go_wp2_with fail
      go_ret
      exact ⟨rfl, B2.out⟩
    | true =>
      have hall := HF1.out.1 rfl
      have hsold := HS1.out rfl
      have HALL := Lib.hid hall
      have HSOLD := Lib.hid hsold
      clear hall hsold HF1 HS1
      go_wp2_with fail
      go_loop [11, 12] (fun q j => ∃ (k : Nat) (m : Int), k ≤ x0.length ∧ q = .int .i64 m ∧ j = .int .i64 k ∧ MostI x0 k m) (fun _ j => x0.length - (intOf j).toNat)
      case atStart => exact ⟨0, -1, Nat.zero_le _, rfl, rfl, MostI.zero⟩
      case round =>
        obtain ⟨k, m, hk, rfl, rfl, hm⟩ := hrel
        by_cases hlt : k < x0.length
        · obtain ⟨pb, po, hpa, hpl, hck⟩ := (HR.out.below B2.out).cell (k := k) (by rw [List.length_map]; exact hlt)
          subst hpa
          obtain ⟨E, hE⟩ : ∃ E, E = x0[k] := ⟨_, rfl⟩
          have ck : w2.cell? ⟨pb, po + k, none⟩ = some (.int .i64 E) := by
            rw [hck k (by rw [List.length_map]; exact hlt), List.getElem_map, hE]; rfl
          have HM := Lib.hid (show MostI x0 (k + 1) (max m E) by rw [hE]; exact hm.step hlt (HALL.out.1 _ (List.getElem_mem hlt)))
          have k0 : (0 : Int) ≤ (k : Int) := by omega
          have k1 : (k : Int) < (x0.length : Int) := by omega
          clear hck hE hm hpl
          go_wp2_with fail
          go_round
          case rel => exact ⟨k + 1, max m E, hlt, rfl, by go_num, HM.out⟩
          case measure => simp [intOf]; omega
        · obtain rfl : k = x0.length := by omega
          obtain ⟨g1, g2⟩ := paid_law HSOLD.out hm.all hm.some_ HALL.out.2
          have HM := Lib.hid hm
          clear hm hlt hk
          by_cases hlow : m < a1
          · obtain ⟨rfl, rfl⟩ := g1 hlow
            have z1 : decide (m < a1) = true := decide_eq_true hlow
            clear g1 g2 hlow
            go_wp2_with fail
            go_ret
            exact ⟨rfl, B2.out⟩
          · obtain ⟨t, ht, hx, hmost, hwon⟩ := g2 hlow
            subst hx
            have z1 : decide (m < a1) = false := decide_eq_false hlow
            have hw1 := hwon.1
            have hw2 := hwon.2.1
            have hw3 := hwon.2.2.1
            obtain ⟨pb, po, hpa, hpl, hck⟩ := (HR.out.below B2.out).cell (k := t) (by rw [List.length_map]; exact ht)
            subst hpa
            have ck : w2.cell? ⟨pb, po + t, none⟩ = some (.int .i64 m) := by
              rw [hck t (by rw [List.length_map]; exact ht), List.getElem_map, hmost]; rfl
            have t0 : (0 : Int) ≤ (t : Int) := by omega
            have t1 : (t : Int) < (x0.length : Int) := by omega
            have y0 : decide ((t : Int) < 0) = false := decide_eq_false (by omega)
            have y1 : decide ((x0.length : Int) ≤ (t : Int)) = false := decide_eq_false (by omega)
            have y1b : decide (x0.length ≤ t) = false := decide_eq_false (by omega)
            have y2 : decide (p1 < a1) = false := decide_eq_false (by omega)
            have y3 : decide (m < p1) = false := decide_eq_false (by omega)
            have HWON := Lib.hid hwon
            have HMOST := Lib.hid hmost
            have hm0 : 0 ≤ m := by rw [← hmost]; exact HALL.out.1 _ (List.getElem_mem ht)
            clear g1 g2 hlow hw1 hw2 hw3 hpl hck hmost hwon
            go_wp2_with fail
            clear ck y0 y1 y1b y2 y3 z1
            go_loop [13] (fun j => ∃ k : Nat, k ≤ x0.length ∧ j = .int .i64 k) (fun j => x0.length - (intOf j).toNat)
            case atStart => exact ⟨0, Nat.zero_le _, rfl⟩
            case round =>
              obtain ⟨k, hk, rfl⟩ := hrel
              by_cases hlt : k < x0.length
              · have k0 : (0 : Int) ≤ (k : Int) := by omega
                have k1 : (k : Int) < (x0.length : Int) := by omega
                by_cases hkt : k = t
                · have z1 : ((k : Int) != (t : Int)) = false := by rw [hkt]; simp
                  have z2 : (k != t) = false := by rw [hkt]; simp
                  clear hkt
                  go_wp2_with fail
                  go_round
                  case rel => exact ⟨k + 1, hlt, by go_num⟩
                  case measure => simp [intOf]; omega
                · have z1 : ((k : Int) != (t : Int)) = true := by simp; omega
                  have z2 : (k != t) = true := by simp; omega
                  obtain ⟨hle, hor⟩ := HWON.out.2.2.2.1 k hlt hkt
                  obtain ⟨_, _, hpe, _, hck⟩ := (HR.out.below B2.out).cell (k := k) (by rw [List.length_map]; exact hlt)
                  cases hpe
                  obtain ⟨E, hE⟩ : ∃ E, E = x0[k] := ⟨_, rfl⟩
                  have ck : w2.cell? ⟨pb, po + k, none⟩ = some (.int .i64 E) := by
                    rw [hck k (by rw [List.length_map]; exact hlt), List.getElem_map, hE]; rfl
                  rw [← hE] at hle hor
                  rw [HMOST.out] at hor
                  have y4 : decide (p1 < E) = false := decide_eq_false (by omega)
                  clear hck hE hkt hle
                  by_cases hEm : E = m
                  · have y5 : (E == m) = true := beq_iff_eq.2 hEm
                    have hkt2 : ¬ k < t := by omega
                    have y6 : decide ((k : Int) < (t : Int)) = false := decide_eq_false (by omega)
                    have y7 : decide (k < t) = false := decide_eq_false hkt2
                    clear hEm hor hkt2
                    go_wp2_with fail
                    go_round
                    case rel => exact ⟨k + 1, hlt, by go_num⟩
                    case measure => simp [intOf]; omega
                  · have y5 : (E == m) = false := beq_eq_false_iff_ne.2 hEm
                    clear hEm hor
                    go_wp2_with fail
                    go_round
                    case rel => exact ⟨k + 1, hlt, by go_num⟩
                    case measure => simp [intOf]; omega
              · obtain rfl : k = x0.length := by omega
                clear hlt hk
                by_cases hhi : a2 < m
                · have z1 : decide (a2 < m) = true := decide_eq_true hhi
                  clear hhi
                  go_wp2_with fail
                  go_ret
                  exact ⟨rfl, B2.out⟩
                · have z1 : decide (a2 < m) = false := decide_eq_false hhi
                  have hme : t < x0.length := ht
                  have hs3 : (x0.set t a2).length = x0.length := List.length_set
                  have HR3 := Lib.hid (show ∀ x ∈ x0.set t a2, -9223372036854775808 ≤ x ∧ x ≤ 9223372036854775807 from fun x hx => (List.mem_or_eq_of_mem_set hx).elim (HN0.out x) (fun h => by rw [h]; exact h2))
                  have HPOS := Lib.hid (show (∀ x ∈ x0.set t a2, 0 ≤ x) ∧ 0 ≤ a1 from ⟨fun x hx => (List.mem_or_eq_of_mem_set hx).elim (HALL.out.1 x) (fun h => by rw [h]; omega), HALL.out.2⟩)
                  have HHI := Lib.hid (show x0[t] ≤ a2 by rw [HMOST.out]; omega)
                  clear hhi
                  have hs2 : w2.heap.size ≤ (w2.alloc (.cells #[] 3)).heap.size := by rw [World.size_alloc]; omega
                  have O02 := Lib.hid (World.ownsRow_made (base := w2.heap.size) (e := 3) (size := 1) w2 #[] 0 (Nat.le_refl _) (Nat.zero_le _) rfl)
                  have RX2 := Lib.hid ((HR.out.below B2.out).alloc (.cells #[] 3))
                  go_upto_region 26 with (at_builtin; refine appAllw 35 3 (.int .i64 0) 1 8 Tryd.underlying35 info_int rfl (by omega) rfl (.tmp 113) (.tmp 114) (by rfl) w2.heap.size _ 0 [] (by rfl) O02.out (some ⟨pb, po, none⟩) x0.length c0 (x0.map vI) (by rfl) _ RX2.out (by rw [List.length_map, Nat.mul_one]) (one_ints x0) (by omega) (by omega) hs2 ?_; intro av2 cp2 wc2 hown2 hbc2; rw [List.nil_append, Nat.zero_add] at hown2)
                  have HBC2 := Lib.hid (show Below w2.heap.size w2 wc2 from Below.trans ((Below.refl _ w2).alloc (Nat.le_refl _) _) hbc2)
                  obtain ⟨g2, rfl, hbg2, ⟨ov2, hcell2⟩, hfz2, hput2⟩ := own_put hown2 rfl (k := t) hme
                  obtain ⟨w4, hw4⟩ : ∃ z, z = wc2.setCell ⟨g2, t, none⟩ (.int .i64 a2) := ⟨_, rfl⟩
                  have hown22 := hput2 a2
                  rw [← hw4] at hown22
                  have hbn2 : Below w2.heap.size w2 w4 := by rw [hw4]; exact HBC2.out.setCell (p := ⟨g2, t, none⟩) hbg2 _
                  have RC2 := Lib.hid (Rd.of_own hown22)
                  have BN2 := Lib.hid hbn2
                  have HNW2 := Lib.hid hw4
                  clear hown2 hbc2 hbg2 hput2 hown22 hbn2 hw4
                  go_wp2_with fail
                  rw [← HNW2.out]
                  have S1 := Sold2_calls (x0.set t a2) HR3.out (by rw [hs3]; exact h40) (some ⟨g2, 0, none⟩) cp2 _ a1 w4 RC2.out ((RO.out.at_ B2.out).at_ BN2.out)
                  rw [hs3] at S1
                  have HSO1 := Lib.hid S1
                  clear S1 hcell2 hfz2
                  refine HSO1.out.mono ?_
                  rintro e w5 ⟨x2, p2, f2, rfl, hf2, hs2, _, _, hb5⟩
                  have B5 := Lib.hid (B2.out.trans (BN2.out.trans (hb5.mono BN2.out.size) |>.mono B2.out.size))
                  have hft := hf2.2 HPOS.out
                  subst hft
                  obtain ⟨rfl, rfl⟩ := paid_higher HWON.out HHI.out (hs2 rfl)
                  clear hf2 hs2 hb5 HSO1
                  go_wp2_with fail
                  go_ret
                  exact ⟨rfl, B5.out⟩

set_option maxRecDepth 100000 in
theorem lifted (os : Os) (started : os.Started) (H : Type) (enc : TypeId × Value → H) :
    ReturnsInHanded {} Tryd.checked os 5 .any (fun w args => (Rows.bidPaidSpec.pre enc Tryd.prog Tryd.f5 Rows.bidPaidRow.domain false w args ∧ laidMetH Tryd.prog Laid.list w) ∧ sizedMet enc Tryd.prog Tryd.f5 (OpenSpec.ofChange Rows.bidPaidSpec) false w args) (Rows.bidPaidSpec.post enc Tryd.prog Tryd.f5 false true false false) := by
  refine returnsInHanded_of_change_and (C := Tryd.checked) (X := fun w _ => laidMetH Tryd.prog Laid.list w) (fun _ _ _ hh h => h.of_heap hh) Laid.own started (by kernel_rfl) Tryd.func5
    (ChangeSpec.witness_at (enc := enc) (C := Tryd.checked) (os := os) (X := fun w _ => laidMetH Tryd.prog Laid.list w) false (laidWorld os) #[.slice none 0 0, .int .i64 0, .int .i64 0] 8 rfl (by kernel_rfl) (by kernel_rfl) (by kernel_rfl) (by kernel_rfl) (by kernel_rfl) (laidWorld_met os _)) ?_
  intro W base args ds gs before hval0 hW _ hsz hL _
  have hro := rounds_of_laid hL
  have hval : ∀ (j : Nat) t v, Tryd.f5.params[j]? = some t → args[j]? = some v → Value.okWide Tryd.prog W .any base t v := hval0
  have hW' := hW
  obtain ⟨p, q, hA0, hV, rfl, hfz, hnd⟩ := hW
  have hA : DataW.TrodAll enc Tryd.prog W 0 (fun _ => true) true Tryd.f5.params.toList args.toList ds p := hA0
  rw [Tryd.params5] at hA hval
  obtain ⟨v0, vs0, d0, ds0, p0, q0, hargs, rfl, rfl, h0, r0⟩ := trodAll_cons hA
  obtain ⟨v1, vs1, d1, ds1, p1, q1, rfl, rfl, rfl, h1, r1⟩ := trodAll_cons r0
  obtain ⟨v2, vs2, d2, ds2, p2, q2, rfl, rfl, rfl, h2, r2⟩ := trodAll_cons r1
  obtain ⟨rfl, rfl, rfl⟩ := trodAll_nil r2
  obtain rfl : args = #[v0, v1, v2] := by cases args; simp_all
  obtain ⟨rfl, rfl⟩ := trodVars_none hV
  have k0 := h0
  have lt0 : ∀ x ∈ p0, x.block < W.heap.size := by obtain ⟨m, hm⟩ := k0; exact DataW.trod_lt m _ _ _ hm
  obtain ⟨x0, a0, c0, e0, rfl, l0, n0, r_0⟩ := open_nums Tryd.underlying35 Tryd.underlying3 (by kernel_rfl) (hval 0 35 v0 rfl rfl) h0
  have k1 := h1
  have lt1 : ∀ x ∈ p1, x.block < W.heap.size := by obtain ⟨m, hm⟩ := k1; exact DataW.trod_lt m _ _ _ hm
  obtain ⟨a1, rfl, _, _, w1⟩ := open_int Tryd.underlying3 (hval 1 3 v1 rfl rfl) h1
  have b1 := bounds_i64 w1
  have k2 := h2
  have lt2 : ∀ x ∈ p2, x.block < W.heap.size := by obtain ⟨m, hm⟩ := k2; exact DataW.trod_lt m _ _ _ hm
  obtain ⟨a2, rfl, _, _, w2⟩ := open_int Tryd.underlying3 (hval 2 3 v2 rfl rfl) h2
  have b2 := bounds_i64 w2
  clear hA0 hval0
  refine (walk x0 a0 c0 e0 a1 a2 W l0 n0 r_0 b1 b2 hro).mono fun e W' ⟨he, bel⟩ => ?_
  subst he
  exact ⟨_, rfl, _, _, _, [], _, [], hW', trodAll_mk1 (shut_bool Tryd.underlying4 _), (trodAll_cons_mk (Below.trod Laid.laidOut (by kernel_rfl) (of_decide_eq_true (by kernel_rfl)) k0 bel lt0) (trodAll_cons_mk (Below.trod Laid.laidOut (by kernel_rfl) (of_decide_eq_true (by kernel_rfl)) k1 bel lt1) (trodAll_cons_mk (Below.trod Laid.laidOut (by kernel_rfl) (of_decide_eq_true (by kernel_rfl)) k2 bel lt2) trodAll_mk0))), rfl, bel.frame _, fun h => by cases h⟩

theorem over : Rows.bidPaidRow.holds Tryd.pinned (OpenSpec.ofChange Rows.bidPaidSpec) :=
  OpenClaim.holds_of_wide 5 Tryd.f5 rfl rfl rfl rfl rfl rfl rfl ⟨rfl, rfl, rfl, rfl, rfl⟩ rfl rfl rfl rfl rfl (by kernel_rfl) Tryd.func5 (by kernel_rfl)
    (of_decide_eq_true (by kernel_rfl)) (by unfold Func.isWrapper; first | (rw [if_pos (by decide +kernel)]; kernel_rfl) | (rw [if_neg (by decide +kernel)]; exact ⟨rfl, rfl⟩))
    (fun os started H enc _ => lifted os started H enc)

theorem proved : Rows.BidPaidCardSaid :=
  Claim7.holds_tied_plain_at .later [] [.data] true (true, "4f0e9677fe1ccb776bf052845ca0f76ca72d0c0d325736eacb132d69b7600c21") true
    over (fun _ h => by cases h) (by kernel_rfl) (fun _ h => by cases h) bidPaid_row_tie rfl ⟨rfl, rfl⟩ (by kernel_rfl) rfl
    (fun f fn hf hfn => by
      obtain rfl : f = 5 := Option.some.inj ((show Tryd.prog.funcNamed "oathbook/oathbooklaw4.BidPaid" = some 5 by kernel_rfl).symm.trans hf) |>.symm
      obtain rfl : fn = Tryd.f5 := (Option.some.inj (Tryd.func5.symm.trans hfn)).symm
      exact ⟨by kernel_rfl, stand_of_all (by kernel_rfl)⟩)
    (by kernel_rfl)
#print axioms proved
end bidPaid
end Go.Proofs.YteikbbdkpeecaaaDoor
