/- Walk: the document's Counts. -/
import Derived.Test.YteikbbdkpeecaaaDoorBidCnt1
namespace Go.Proofs.YteikbbdkpeecaaaDoor
open Go.RowKit
set_option linter.unusedVariables false
set_option linter.unusedSimpArgs false

theorem cnt_has {v : Bd → Bool} {bs : List Bd} {i : Nat} (hi : i < bs.length) (h : CntAt v bs i) : v bs[i] = true := h.2.1
set_option maxRecDepth 20000 in
set_option maxHeartbeats 8000000 in
theorem Counts_calls (vs : List (List UInt8)) (hvs : ∀ d ∈ vs, d.length = 32) (hl : vs.length ≤ 9223372036854775807) (a : Option Addr) (c e : Nat) (bs : List Bd) (hbs : ∀ b ∈ bs, BdW b) (hbl : bs.length ≤ 9223372036854775807) (ba : Option Addr) (bc be : Nat) (i : Nat) (hi : i < bs.length) (w : World) (hr : Rd w a e (vs.flatten.map vB)) (hrb : Rd w ba be (cellsP bs)) :
    Calls Tryd.prog 32 #[.slice a vs.length c, .slice ba bs.length bc, .int .i64 (i : Int)] w fun e w' => ∃ r : Bool, e = .returned (.bool r) ∧ (r = true ↔ CntAt (hasV vs) bs i) ∧ Below w.heap.size w w' := by
  have hbl2 : ∀ b ∈ bs, b.salt.length = 32 := fun b h => (hbs b h).1
  obtain ⟨pb, po, hpa, hpl, hrg⟩ := hrb.bid hbl2 hi
  subst hpa
  obtain ⟨E, hE⟩ : ∃ E, E = bs[i] := ⟨_, rfl⟩
  have hEW : BdW E := by rw [hE]; exact hbs _ (List.getElem_mem _)
  rw [← hE] at hrg
  have BT := BidText_calls E hEW w
  have HBT := Lib.hid BT
  have HE := Lib.hid hE
  have HEW := Lib.hid hEW
  have HVS := Lib.hid hvs
  have HL := Lib.hid hl
  have HBS := Lib.hid hbs
  have HBS2 := Lib.hid hbl2
  have HR := Lib.hid hr
  have HRB := Lib.hid hrb
  have HRG := Lib.hid hrg
  have HPL := Lib.hid hpl
  have i0 : (0 : Int) ≤ (i : Int) := by omega
  have i1 : (i : Int) < (bs.length : Int) := by omega
  have HBL := Lib.hid hbl
  have HC : Hid (CntAt (hasV vs) bs i → hasV vs E = true) := Lib.hid (fun h => by rw [hE]; exact cnt_has hi h)
  clear BT hE hEW hvs hl hbs hr hrb hrg hpl hbl2 hbl
  go_enter Tryd.func32, Tryd.ntmps32
  go_wp2_with ((refine ld_bidG rfl (.tmp 13) rfl pb (po + i * 34) (by rfl) E HEW.out.1 HRG.out ?_); simp only [Act.put, List.setIfInBounds_toArray, List.set_cons_zero, List.set_cons_succ])
  refine HBT.out.mono ?_
  rintro e w1 ⟨hok, hno, hb1⟩
  have B1 := Lib.hid hb1
  have RB1 := Lib.hid (HRB.out.below hb1)
  have R1 := Lib.hid (HR.out.below hb1)
  have HG1 := Lib.hid (range_low HRG.out hb1 HPL.out)
  have l1 := Nat.lt_of_lt_of_le HPL.out hb1.size
  clear hb1 HBT
  by_cases hk : BdOk E
  · obtain ⟨ta, tc, rfl, hown⟩ := hok hk
    obtain ⟨k, hkk⟩ := Int.eq_ofNat_of_zero_le hk.1.1
    have HK := Lib.hid hk
    have RT := Lib.hid (Rd.of_own hown)
    have F0 := Lib.hid (show ∀ w', InB w1.heap.size w1 w' → w'.cell? ⟨pb, po + i * 34, none⟩ = some (.int .i64 (k : Int)) from fun w' h => (Below.cell h (p := ⟨pb, po + i * 34, none⟩) l1).trans (by rw [← hkk]; exact range_who HG1.out))
    clear hok hno hown hk
    by_cases hfar : k < vs.length
    · obtain ⟨vb, vo, hva, hvb, hrg⟩ := R1.out.range HVS.out hfar
      obtain ⟨V, hV⟩ : ∃ V, V = vs[k] := ⟨_, rfl⟩
      have VL := Lib.hid (show V.length = 32 by rw [hV]; exact HVS.out _ (List.getElem_mem _))
      have hF9 : hasV vs E = (bidD E == V) := by rw [hasV_at HK.out hkk hfar, hV]
      rw [← hV] at hrg
      obtain ⟨D, hD⟩ : ∃ D, D = bidD E := ⟨_, rfl⟩
      rw [← hD] at hF9
      have DL := Lib.hid (show D.length = 32 by rw [hD]; exact bidD_length E)
      subst hva
      have sc : ∀ w', InB w1.heap.size w1 w' → Calls Tryd.prog 24 #[.slice ta 45 tc] w' fun e w'' => e = .returned (.agg (dV D)) ∧ InB w1.heap.size w1 w'' := fun w' h => InB.call h (Nat.le_refl _) (by
        have := RSum_calls (bidT E) ta tc _ w' (RT.out.below h) (by rw [bidT_length E HEW.out.1]; decide)
        rw [bidT_length E HEW.out.1] at this
        rw [hD]; exact this)
      have HSC := Lib.hid sc
      have FV := Lib.hid (show ∀ w', InB w1.heap.size w1 w' → w'.rangeAt vb (vo + k * 32) (V.map vB) from fun w' h => h.range hvb hrg)
      have k0 : (0 : Int) ≤ (k : Int) := by omega
      have k1 : (k : Int) < (vs.length : Int) := by omega
      have k2 : decide ((vs.length : Int) ≤ (k : Int)) = false := decide_eq_false (by omega)
      have k3 : decide (vs.length ≤ k) = false := decide_eq_false (by omega)
      obtain ⟨q, hq⟩ : ∃ q, q = (D == V) := ⟨_, rfl⟩
      have HF9 := Lib.hid hF9
      have HQ := Lib.hid hq
      clear sc hV hD hrg hkk hF9 hq
      go_upto_region 2 with fail
      have hex := inB_ex w1.heap.size w1
      refine wp_region_inB w1.heap.size (by kernel_rfl) (by kernel_rfl) ?_
      repeat (first
        | (with_reducible refine quiet_int rfl (.tmp 24) rfl ⟨pb, po + i * 34, none⟩ (by kernel_rfl) (k : Int) F0.out ?_ (by kernel_rfl); simp only [Act.put, List.setIfInBounds_toArray, List.set_cons_zero, List.set_cons_succ])
        | (with_reducible refine quiet_int rfl (.tmp 37) rfl ⟨pb, po + i * 34, none⟩ (by kernel_rfl) (k : Int) F0.out ?_ (by kernel_rfl); simp only [Act.put, List.setIfInBounds_toArray, List.set_cons_zero, List.set_cons_succ])
        | (with_reducible refine quiet_dig rfl (.tmp 39) rfl (vb) (vo + k * 32) (by kernel_rfl) V VL.out FV.out ?_ (by kernel_rfl); simp only [Act.put, List.setIfInBounds_toArray, List.set_cons_zero, List.set_cons_succ])
        | (with_reducible refine quiet_dig_neq rfl (.tmp 32) (.tmp 40) _ rfl D V (by kernel_rfl) (by kernel_rfl) DL.out VL.out ?_ (by kernel_rfl); rw [← HQ.out]; simp only [Act.put, List.setIfInBounds_toArray, List.set_cons_zero, List.set_cons_succ])
        | go_big_quiet_step ((first | (intro hw'; exact HSC.out _ hw') | (intro _; rfl))))
      refine wpQuiet_nil ?_
      intro wZ hwZ
      have BZ := Lib.hid (B1.out.trans (Below.mono hwZ B1.out.size))
      have RZ := Lib.hid (R1.out.below hwZ)
      have RBZ := Lib.hid (RB1.out.below hwZ)
      clear hwZ hex HSC FV F0 RT
      cases q with
      | false =>
        go_wp2_with fail
        go_ret
        exact ⟨false, rfl, ⟨fun h => absurd h (by decide), fun h => absurd (HC.out h) (by rw [HF9.out, ← HQ.out]; decide)⟩, BZ.out⟩
      | true =>
        have HV1 := Lib.hid (show hasV vs E = true from HF9.out.trans HQ.out.symm)
        clear HQ HF9 HC k0 k1 k2 k3
        have hiM : i ≤ 9223372036854775806 := by have := HBL.out; omega
        go_wp2_with fail
        go_loopw [9] (fun j wr => ∃ k : Nat, k ≤ i ∧ j = .int .i64 k ∧ (∀ j', j' < k → ∀ h : j' < bs.length, ¬ (bs[j'].who = E.who ∧ hasV vs bs[j'] = true)) ∧ Below w.heap.size w wr) (fun j _ => i - (intOf j).toNat)
        case atStart => exact ⟨0, Nat.zero_le _, rfl, fun j' h => absurd h (Nat.not_lt_zero _), BZ.out⟩
        case round =>
          obtain ⟨k, hk, rfl, hno, hbl⟩ := hrel
          by_cases hlt : k < i
          · have hkl : k < bs.length := Nat.lt_trans hlt hi
            have rbr : Rd wr (some ⟨pb, po, none⟩) be (cellsP bs) := HRB.out.below hbl
            have rvr : Rd wr (some ⟨vb, vo, none⟩) _ (vs.flatten.map vB) := HR.out.below hbl
            obtain ⟨_, _, hpe, hpl2, hrk⟩ := rbr.bid HBS2.out hkl
            cases hpe
            obtain ⟨_, _, hpe, _, hri⟩ := rbr.bid HBS2.out hi
            cases hpe
            obtain ⟨X, hX⟩ : ∃ X, X = bs[k] := ⟨_, rfl⟩
            have hXW : BdW X := by rw [hX]; exact HBS.out _ (List.getElem_mem _)
            rw [← hX] at hrk
            rw [← HE.out] at hri
            obtain ⟨kw, hkw⟩ : ∃ z, z = X.who := ⟨_, rfl⟩
            obtain ⟨iw, hiw⟩ : ∃ z, z = E.who := ⟨_, rfl⟩
            obtain ⟨r, hr⟩ : ∃ r, r = hasV vs X := ⟨_, rfl⟩
            have cc : ∀ w', InB wr.heap.size wr w' → Calls Tryd.prog 49 #[.slice (some ⟨vb, vo, none⟩) vs.length c, .agg (bV X.who X.amount X.salt)] w' fun e w'' => e = .returned (.bool r) ∧ InB wr.heap.size wr w'' := fun w' h => InB.call h (Nat.le_refl _) (by rw [hr]; exact Counts1_calls vs HVS.out HL.out _ c _ X hXW w' (rvr.below h))
            have HCC := Lib.hid cc
            have FK := Lib.hid (show ∀ w', InB wr.heap.size wr w' → w'.cell? ⟨pb, po + k * 34, none⟩ = some (.int .i64 kw) from fun w' h => (Below.cell h (p := ⟨pb, po + k * 34, none⟩) hpl2).trans (by rw [hkw]; exact range_who hrk))
            have FI := Lib.hid (show ∀ w', InB wr.heap.size wr w' → w'.cell? ⟨pb, po + i * 34, none⟩ = some (.int .i64 iw) from fun w' h => (Below.cell h (p := ⟨pb, po + i * 34, none⟩) hpl2).trans (by rw [hiw]; exact range_who hri))
            have FX := Lib.hid (show ∀ w', InB wr.heap.size wr w' → w'.rangeAt pb (po + k * 34) (bL X) from fun w' h => h.range hpl2 hrk)
            have k0 : (0 : Int) ≤ (k : Int) := by omega
            have k1 : (k : Int) < (bs.length : Int) := by omega
            have k2 : (k : Int) < (i : Int) := by omega
            have HNO := Lib.hid hno
            have HBLR := Lib.hid hbl
            have HX := Lib.hid hX
            have HXL := Lib.hid hXW.1
            have HR9 := Lib.hid hr
            have HKW := Lib.hid hkw
            have HIW := Lib.hid hiw
            clear rbr rvr hrk hri hX hXW hr cc hno hbl hkw hiw
            by_cases hs : kw = iw
            · have s1 : (kw == iw) = true := beq_iff_eq.2 hs
              have HS := Lib.hid hs
              clear hs
              go_upto_region 7 with fail
              have hex := inB_ex wr.heap.size wr
              refine wp_region_inB wr.heap.size (by kernel_rfl) (by kernel_rfl) ?_
              repeat (first
                | (with_reducible refine quiet_int rfl (.tmp 51) rfl ⟨pb, po + k * 34, none⟩ (by kernel_rfl) (kw) FK.out ?_ (by kernel_rfl); simp only [Act.put, List.setIfInBounds_toArray, List.set_cons_zero, List.set_cons_succ])
                | (with_reducible refine quiet_int rfl (.tmp 56) rfl ⟨pb, po + i * 34, none⟩ (by kernel_rfl) (iw) FI.out ?_ (by kernel_rfl); simp only [Act.put, List.setIfInBounds_toArray, List.set_cons_zero, List.set_cons_succ])
                | (with_reducible refine quiet_bid rfl (.tmp 63) rfl (pb) (po + k * 34) (by kernel_rfl) X HXL.out FX.out ?_ (by kernel_rfl); simp only [Act.put, List.setIfInBounds_toArray, List.set_cons_zero, List.set_cons_succ])
                | go_big_quiet_step ((first | (intro hw'; exact HCC.out _ hw') | (intro _; rfl))))
              refine wpQuiet_nil ?_
              intro wZ hwZ
              have BX := Lib.hid (HBLR.out.trans (Below.mono hwZ HBLR.out.size))
              clear hwZ hex HCC FK FI FX HBLR
              cases r with
              | true =>
                go_wp2_with fail
                go_ret
                exact ⟨false, rfl, ⟨fun h => absurd h (by decide), fun h => absurd (show bs[k].who = bs[i].who ∧ hasV vs bs[k] = true by rw [← HE.out, ← HX.out, ← HKW.out, ← HIW.out]; exact ⟨HS.out, HR9.out.symm⟩) (h.2.2 k hlt)⟩, BX.out⟩
              | false =>
                go_wp2_with fail
                go_roundw
                case rel => exact ⟨k + 1, hlt, by go_num, fun j' hj h => (Nat.lt_or_ge j' k).elim (fun g => HNO.out j' g h) (fun g => by
                  obtain rfl : j' = k := by omega
                  rw [← HX.out, ← HR9.out]; exact fun h => absurd h.2 (by decide)), BX.out⟩
                case measure => simp [intOf]; omega
            · have s1 : (kw == iw) = false := beq_eq_false_iff_ne.2 hs
              have HS := Lib.hid hs
              clear hs
              go_upto_region 7 with fail
              have hex := inB_ex wr.heap.size wr
              refine wp_region_inB wr.heap.size (by kernel_rfl) (by kernel_rfl) ?_
              repeat (first
                | (with_reducible refine quiet_int rfl (.tmp 51) rfl ⟨pb, po + k * 34, none⟩ (by kernel_rfl) (kw) FK.out ?_ (by kernel_rfl); simp only [Act.put, List.setIfInBounds_toArray, List.set_cons_zero, List.set_cons_succ])
                | (with_reducible refine quiet_int rfl (.tmp 56) rfl ⟨pb, po + i * 34, none⟩ (by kernel_rfl) (iw) FI.out ?_ (by kernel_rfl); simp only [Act.put, List.setIfInBounds_toArray, List.set_cons_zero, List.set_cons_succ])
                | go_big_quiet_step ((first | (intro _; rfl))))
              refine wpQuiet_nil ?_
              intro wZ hwZ
              have BX := Lib.hid (HBLR.out.trans (Below.mono hwZ HBLR.out.size))
              clear hwZ hex HCC FK FI FX HBLR
              go_wp2_with fail
              go_roundw
              case rel => exact ⟨k + 1, hlt, by go_num, fun j' hj h => (Nat.lt_or_ge j' k).elim (fun g => HNO.out j' g h) (fun g => by
                obtain rfl : j' = k := by omega
                rw [← HX.out, ← HKW.out, ← HIW.out]; exact fun h => absurd h.1 HS.out), BX.out⟩
              case measure => simp [intOf]; omega
          · obtain rfl : k = i := by omega
            have HNO := Lib.hid hno
            have HBLR := Lib.hid hbl
            clear hno hbl
            go_wp2_with fail
            go_ret
            exact ⟨true, rfl, ⟨fun _ => ⟨hi, by rw [← HE.out]; exact HV1.out, fun j hj => by rw [← HE.out]; exact HNO.out j hj (by omega)⟩, fun _ => rfl⟩, HBLR.out⟩
    · have k2 : decide ((vs.length : Int) ≤ (k : Int)) = true := decide_eq_true (by omega)
      have k3 : decide (vs.length ≤ k) = true := decide_eq_true (by omega)
      have HNF := Lib.hid (show hasV vs E = false from hasV_far (by omega))
      clear hkk
      go_upto_region 2 with fail
      have hex := inB_ex w1.heap.size w1
      refine wp_region_inB w1.heap.size (by kernel_rfl) (by kernel_rfl) ?_
      repeat (first
        | (with_reducible refine quiet_int rfl (.tmp 24) rfl ⟨pb, po + i * 34, none⟩ (by kernel_rfl) (k : Int) F0.out ?_ (by kernel_rfl); simp only [Act.put, List.setIfInBounds_toArray, List.set_cons_zero, List.set_cons_succ])
        | go_big_quiet_step ((first | (intro _; rfl))))
      refine wpQuiet_nil ?_
      intro wZ hwZ
      have BZ := Lib.hid (B1.out.trans (Below.mono hwZ B1.out.size))
      clear hwZ hex
      go_wp2_with fail
      go_ret
      exact ⟨false, rfl, ⟨fun h => absurd h (by decide), fun h => absurd (HC.out h) (by rw [HNF.out]; decide)⟩, BZ.out⟩
  · have he := hno hk
    subst he
    have HNF := Lib.hid (show hasV vs E = false from hasV_no hk)
    clear hok hno hk
    go_upto_region 2 with fail
    have hex := inB_ex w1.heap.size w1
    refine wp_region_inB w1.heap.size (by kernel_rfl) (by kernel_rfl) ?_
    repeat (first
      | go_big_quiet_step ((first | (intro _; rfl))))
    refine wpQuiet_nil ?_
    intro wZ hwZ
    have BZ := Lib.hid (B1.out.trans (Below.mono hwZ B1.out.size))
    clear hwZ hex
    go_wp2_with fail
    go_ret
    exact ⟨false, rfl, ⟨fun h => absurd h (by decide), fun h => absurd (HC.out h) (by rw [HNF.out]; decide)⟩, BZ.out⟩
end Go.Proofs.YteikbbdkpeecaaaDoor
