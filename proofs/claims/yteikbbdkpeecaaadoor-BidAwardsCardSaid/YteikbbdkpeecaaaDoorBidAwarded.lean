/- Walk: the document's Awarded. -/
import Derived.Test.YteikbbdkpeecaaaDoorBidCnts
import Derived.Test.YteikbbdkpeecaaaDoorBidBest
namespace Go.Proofs.YteikbbdkpeecaaaDoor
open Go.RowKit
set_option linter.unusedVariables false
set_option linter.unusedSimpArgs false

set_option maxRecDepth 20000 in
set_option maxHeartbeats 8000000 in
theorem Awarded_calls (vs : List (List UInt8)) (hvs : ∀ d ∈ vs, d.length = 32) (hl : vs.length ≤ 9223372036854775807) (a : Option Addr) (c e : Nat) (bs : List Bd) (hbs : ∀ b ∈ bs, BdW b) (hbl : bs.length ≤ 100) (ba : Option Addr) (bc be : Nat) (l : Int) (w : World) (hr : Rd w a e (vs.flatten.map vB)) (hrb : Rd w ba be (cellsP bs)) :
    Calls Tryd.prog 21 #[.slice a vs.length c, .slice ba bs.length bc, .int .i64 l] w fun e w' => ∃ x p : Int, e = .returned (.tuple #[.int .i64 x, .int .i64 p]) ∧ AwardIs (cntB (hasV vs) bs) l x p ∧ Below w.heap.size w w' := by
  have hbl2 : ∀ b ∈ bs, b.salt.length = 32 := fun b h => (hbs b h).1
  have HVS := Lib.hid hvs
  have HL := Lib.hid hl
  have HBS := Lib.hid hbs
  have HBS2 := Lib.hid hbl2
  have HR := Lib.hid hr
  have HRB := Lib.hid hrb
  have HBL := Lib.hid hbl
  clear hvs hl hbs hbl2 hr hrb hbl
  go_enter Tryd.func21, Tryd.ntmps21
  go_wp2_with fail
  go_loopw [8, 9] (fun q j wr => ∃ (k : Nat) (b : Int), k ≤ bs.length ∧ q = .int .i64 b ∧ j = .int .i64 k ∧ BestI (hasV vs) bs l k b ∧ Below w.heap.size w wr) (fun _ j _ => bs.length - (intOf j).toNat)
  case atStart => exact ⟨0, -1, Nat.zero_le _, rfl, rfl, BestI.zero, Below.refl _ _⟩
  case round =>
    obtain ⟨k, b, hk, rfl, rfl, hbest, hbel⟩ := hrel
    have hn100 := HBL.out
    by_cases hlt : k < bs.length
    · have rbr := HRB.out.below hbel
      obtain ⟨pb, po, hpa, hpl, hrk⟩ := rbr.bid HBS2.out hlt
      subst hpa
      have CC := Counts_calls vs HVS.out HL.out a c _ bs HBS.out (by omega) (some ⟨pb, po, none⟩) bc _ k hlt wr (HR.out.below hbel) rbr
      have HCC := Lib.hid CC
      have HRK := Lib.hid hrk
      have HBB := Lib.hid hbel
      have HBEST := Lib.hid hbest
      have HPL := Lib.hid hpl
      have RBR := Lib.hid rbr
      have k0 : (0 : Int) ≤ (k : Int) := by omega
      have k1 : (k : Int) < (bs.length : Int) := by omega
      have kk : (k : Int) < 100 := by omega
      clear CC hrk hbel hbest hpl rbr
      go_wp2_with fail
      refine HCC.out.mono ?_
      rintro e w1 ⟨r, rfl, hrr, hb1⟩
      have HRK1 := Lib.hid (range_low HRK.out hb1 HPL.out)
      have HB1 := Lib.hid (HBB.out.trans (hb1.mono HBB.out.size))
      have HPL1 := Lib.hid (Nat.lt_of_lt_of_le HPL.out hb1.size)
      have RB1 := Lib.hid (RBR.out.below hb1)
      have HRR := Lib.hid hrr
      clear hb1 HCC hrr
      cases r with
      | false =>
        have hno : ¬ CntAt (hasV vs) bs k := fun h => absurd (HRR.out.2 h) (by decide)
        have HNO := Lib.hid hno
        clear hno
        go_wp2_with fail
        go_roundw
        case rel => exact ⟨k + 1, b, hlt, rfl, by go_num, HBEST.out.skip (fun c => absurd c HNO.out), HB1.out⟩
        case measure => simp [intOf]; omega
      | true =>
        have HCK := Lib.hid (HRR.out.1 rfl)
        obtain ⟨ai, hai⟩ : ∃ z, z = bs[k].amount := ⟨_, rfl⟩
        obtain ⟨wi, hwi⟩ : ∃ z, z = bs[k].who := ⟨_, rfl⟩
        have ca : w1.cell? ⟨pb, po + k * 34 + 1, none⟩ = some (.int .i64 ai) := by rw [hai]; exact range_amount HRK1.out
        have cw : w1.cell? ⟨pb, po + k * 34, none⟩ = some (.int .i64 wi) := by rw [hwi]; exact range_who HRK1.out
        have CW := Lib.hid cw
        have CA := Lib.hid ca
        have HAI := Lib.hid hai
        have HWI := Lib.hid hwi
        clear hai hwi cw HRR
        by_cases hlow : ai < l
        · have z1 : decide (ai < l) = true := decide_eq_true hlow
          have HLOW := Lib.hid hlow
          clear hlow
          go_wp2_with fail
          go_roundw
          case rel => exact ⟨k + 1, b, hlt, rfl, by go_num, HBEST.out.skip (fun c => by rw [← HAI.out]; exact HLOW.out), HB1.out⟩
          case measure => simp [intOf]; omega
        · have z1 : decide (ai < l) = false := decide_eq_false hlow
          have HLOW := Lib.hid (show l ≤ bs[k].amount by rw [← HAI.out]; omega)
          clear hlow
          go_wp2_with fail
          clear ca z1
          have FA := Lib.hid (show ∀ w', InB w1.heap.size w1 w' → w'.cell? ⟨pb, po + k * 34 + 1, none⟩ = some (.int .i64 ai) from fun w' h => (Below.cell h (p := ⟨pb, po + k * 34 + 1, none⟩) HPL1.out).trans CA.out)
          have FW := Lib.hid (show ∀ w', InB w1.heap.size w1 w' → w'.cell? ⟨pb, po + k * 34, none⟩ = some (.int .i64 wi) from fun w' h => (Below.cell h (p := ⟨pb, po + k * 34, none⟩) HPL1.out).trans CW.out)
          by_cases hneg : b < 0
          · have hb9 : b = -1 := by rcases HBEST.out with ⟨h, _⟩ | ⟨m, h, _⟩ <;> omega
            subst hb9
            clear hneg
            have hex := inB_ex w1.heap.size w1
            refine wp_region_inB w1.heap.size (by kernel_rfl) (by kernel_rfl) ?_
            repeat (first
              | go_big_quiet_step ((first | (intro _; rfl))))
            refine wpQuiet_nil ?_
            intro wZ hwZ
            have BX := Lib.hid (HB1.out.trans (Below.mono hwZ HB1.out.size))
            clear hwZ hex
            go_wp2_with fail
            go_roundw
            case rel => exact ⟨k + 1, (k : Int), hlt, rfl, by go_num, HBEST.out.first HCK.out HLOW.out, BX.out⟩
            case measure => simp [intOf]; omega
          · obtain ⟨m, hm⟩ := Int.eq_ofNat_of_zero_le (show 0 ≤ b by omega)
            subst hm
            clear hneg
            have hmk : m < k := (HBEST.out.mem).1
            have hml : m < bs.length := by omega
            obtain ⟨_, _, hpe, _, hrm⟩ := RB1.out.bid HBS2.out hml
            cases hpe
            obtain ⟨am, ham⟩ : ∃ z, z = bs[m].amount := ⟨_, rfl⟩
            obtain ⟨wm, hwm⟩ : ∃ z, z = bs[m].who := ⟨_, rfl⟩
            have FM := Lib.hid (show ∀ w', InB w1.heap.size w1 w' → w'.cell? ⟨pb, po + m * 34 + 1, none⟩ = some (.int .i64 am) from fun w' h => (Below.cell h (p := ⟨pb, po + m * 34 + 1, none⟩) HPL1.out).trans (by rw [ham]; exact range_amount hrm))
            have FN := Lib.hid (show ∀ w', InB w1.heap.size w1 w' → w'.cell? ⟨pb, po + m * 34, none⟩ = some (.int .i64 wm) from fun w' h => (Below.cell h (p := ⟨pb, po + m * 34, none⟩) HPL1.out).trans (by rw [hwm]; exact range_who hrm))
            have HAM := Lib.hid ham
            have HWM := Lib.hid hwm
            have HML := Lib.hid hml
            have zm : decide ((m : Int) < 0) = false := decide_eq_false (by omega)
            have m0 : (0 : Int) ≤ (m : Int) := by omega
            have m1 : (m : Int) < (bs.length : Int) := by omega
            clear ham hwm hrm
            by_cases g1 : am < ai
            · have z1 : decide (am < ai) = true := decide_eq_true g1
              have HG := Lib.hid (show bs[m].amount < bs[k].amount by have h1 := HAI.out; have h2 := HAM.out; omega)
              clear g1
              have hex := inB_ex w1.heap.size w1
              refine wp_region_inB w1.heap.size (by kernel_rfl) (by kernel_rfl) ?_
              repeat (first
                | (with_reducible refine quiet_int rfl (.tmp 38) rfl ⟨pb, po + k * 34 + 1, none⟩ (by kernel_rfl) (ai) FA.out ?_ (by kernel_rfl); simp only [Act.put, List.setIfInBounds_toArray, List.set_cons_zero, List.set_cons_succ])
                | (with_reducible refine quiet_int rfl (.tmp 43) rfl ⟨pb, po + m * 34 + 1, none⟩ (by kernel_rfl) (am) FM.out ?_ (by kernel_rfl); simp only [Act.put, List.setIfInBounds_toArray, List.set_cons_zero, List.set_cons_succ])
                | go_big_quiet_step ((first | (intro _; rfl))))
              refine wpQuiet_nil ?_
              intro wZ hwZ
              have BX := Lib.hid (HB1.out.trans (Below.mono hwZ HB1.out.size))
              clear hwZ hex
              go_wp2_with fail
              go_roundw
              case rel => exact ⟨k + 1, (k : Int), hlt, rfl, by go_num, HBEST.out.next HCK.out HML.out HLOW.out (.inl HG.out), BX.out⟩
              case measure => simp [intOf]; omega
            · have z1 : decide (am < ai) = false := decide_eq_false g1
              by_cases g2 : ai = am
              · have z2 : (ai == am) = true := beq_iff_eq.2 g2
                by_cases g3 : wi < wm
                · have z3 : decide (wi < wm) = true := decide_eq_true g3
                  have HG := Lib.hid (show bs[k].amount = bs[m].amount ∧ bs[k].who < bs[m].who by have h1 := HAI.out; have h2 := HAM.out; have h3 := HWI.out; have h4 := HWM.out; omega)
                  clear g1 g2 g3
                  have hex := inB_ex w1.heap.size w1
                  refine wp_region_inB w1.heap.size (by kernel_rfl) (by kernel_rfl) ?_
                  repeat (first
                    | (with_reducible refine quiet_int rfl (.tmp 38) rfl ⟨pb, po + k * 34 + 1, none⟩ (by kernel_rfl) (ai) FA.out ?_ (by kernel_rfl); simp only [Act.put, List.setIfInBounds_toArray, List.set_cons_zero, List.set_cons_succ])
                    | (with_reducible refine quiet_int rfl (.tmp 43) rfl ⟨pb, po + m * 34 + 1, none⟩ (by kernel_rfl) (am) FM.out ?_ (by kernel_rfl); simp only [Act.put, List.setIfInBounds_toArray, List.set_cons_zero, List.set_cons_succ])
                    | (with_reducible refine quiet_int rfl (.tmp 51) rfl ⟨pb, po + k * 34 + 1, none⟩ (by kernel_rfl) (ai) FA.out ?_ (by kernel_rfl); simp only [Act.put, List.setIfInBounds_toArray, List.set_cons_zero, List.set_cons_succ])
                    | (with_reducible refine quiet_int rfl (.tmp 56) rfl ⟨pb, po + m * 34 + 1, none⟩ (by kernel_rfl) (am) FM.out ?_ (by kernel_rfl); simp only [Act.put, List.setIfInBounds_toArray, List.set_cons_zero, List.set_cons_succ])
                    | (with_reducible refine quiet_int rfl (.tmp 63) rfl ⟨pb, po + k * 34, none⟩ (by kernel_rfl) (wi) FW.out ?_ (by kernel_rfl); simp only [Act.put, List.setIfInBounds_toArray, List.set_cons_zero, List.set_cons_succ])
                    | (with_reducible refine quiet_int rfl (.tmp 68) rfl ⟨pb, po + m * 34, none⟩ (by kernel_rfl) (wm) FN.out ?_ (by kernel_rfl); simp only [Act.put, List.setIfInBounds_toArray, List.set_cons_zero, List.set_cons_succ])
                    | go_big_quiet_step ((first | (intro _; rfl))))
                  refine wpQuiet_nil ?_
                  intro wZ hwZ
                  have BX := Lib.hid (HB1.out.trans (Below.mono hwZ HB1.out.size))
                  clear hwZ hex
                  go_wp2_with fail
                  go_roundw
                  case rel => exact ⟨k + 1, (k : Int), hlt, rfl, by go_num, HBEST.out.next HCK.out HML.out HLOW.out (.inr HG.out), BX.out⟩
                  case measure => simp [intOf]; omega
                · have z3 : decide (wi < wm) = false := decide_eq_false g3
                  have HG := Lib.hid (show ¬ (bs[m].amount < bs[k].amount ∨ (bs[k].amount = bs[m].amount ∧ bs[k].who < bs[m].who)) by have h1 := HAI.out; have h2 := HAM.out; have h3 := HWI.out; have h4 := HWM.out; omega)
                  clear g1 g2 g3
                  have hex := inB_ex w1.heap.size w1
                  refine wp_region_inB w1.heap.size (by kernel_rfl) (by kernel_rfl) ?_
                  repeat (first
                    | (with_reducible refine quiet_int rfl (.tmp 38) rfl ⟨pb, po + k * 34 + 1, none⟩ (by kernel_rfl) (ai) FA.out ?_ (by kernel_rfl); simp only [Act.put, List.setIfInBounds_toArray, List.set_cons_zero, List.set_cons_succ])
                    | (with_reducible refine quiet_int rfl (.tmp 43) rfl ⟨pb, po + m * 34 + 1, none⟩ (by kernel_rfl) (am) FM.out ?_ (by kernel_rfl); simp only [Act.put, List.setIfInBounds_toArray, List.set_cons_zero, List.set_cons_succ])
                    | (with_reducible refine quiet_int rfl (.tmp 51) rfl ⟨pb, po + k * 34 + 1, none⟩ (by kernel_rfl) (ai) FA.out ?_ (by kernel_rfl); simp only [Act.put, List.setIfInBounds_toArray, List.set_cons_zero, List.set_cons_succ])
                    | (with_reducible refine quiet_int rfl (.tmp 56) rfl ⟨pb, po + m * 34 + 1, none⟩ (by kernel_rfl) (am) FM.out ?_ (by kernel_rfl); simp only [Act.put, List.setIfInBounds_toArray, List.set_cons_zero, List.set_cons_succ])
                    | (with_reducible refine quiet_int rfl (.tmp 63) rfl ⟨pb, po + k * 34, none⟩ (by kernel_rfl) (wi) FW.out ?_ (by kernel_rfl); simp only [Act.put, List.setIfInBounds_toArray, List.set_cons_zero, List.set_cons_succ])
                    | (with_reducible refine quiet_int rfl (.tmp 68) rfl ⟨pb, po + m * 34, none⟩ (by kernel_rfl) (wm) FN.out ?_ (by kernel_rfl); simp only [Act.put, List.setIfInBounds_toArray, List.set_cons_zero, List.set_cons_succ])
                    | go_big_quiet_step ((first | (intro _; rfl))))
                  refine wpQuiet_nil ?_
                  intro wZ hwZ
                  have BX := Lib.hid (HB1.out.trans (Below.mono hwZ HB1.out.size))
                  clear hwZ hex
                  go_wp2_with fail
                  go_roundw
                  case rel => exact ⟨k + 1, (m : Int), hlt, rfl, by go_num, HBEST.out.keep HCK.out HML.out HG.out, BX.out⟩
                  case measure => simp [intOf]; omega
              · have z2 : (ai == am) = false := beq_eq_false_iff_ne.2 g2
                have HG := Lib.hid (show ¬ (bs[m].amount < bs[k].amount ∨ (bs[k].amount = bs[m].amount ∧ bs[k].who < bs[m].who)) by have h1 := HAI.out; have h2 := HAM.out; omega)
                clear g1 g2
                have hex := inB_ex w1.heap.size w1
                refine wp_region_inB w1.heap.size (by kernel_rfl) (by kernel_rfl) ?_
                repeat (first
                  | (with_reducible refine quiet_int rfl (.tmp 38) rfl ⟨pb, po + k * 34 + 1, none⟩ (by kernel_rfl) (ai) FA.out ?_ (by kernel_rfl); simp only [Act.put, List.setIfInBounds_toArray, List.set_cons_zero, List.set_cons_succ])
                  | (with_reducible refine quiet_int rfl (.tmp 43) rfl ⟨pb, po + m * 34 + 1, none⟩ (by kernel_rfl) (am) FM.out ?_ (by kernel_rfl); simp only [Act.put, List.setIfInBounds_toArray, List.set_cons_zero, List.set_cons_succ])
                  | (with_reducible refine quiet_int rfl (.tmp 51) rfl ⟨pb, po + k * 34 + 1, none⟩ (by kernel_rfl) (ai) FA.out ?_ (by kernel_rfl); simp only [Act.put, List.setIfInBounds_toArray, List.set_cons_zero, List.set_cons_succ])
                  | (with_reducible refine quiet_int rfl (.tmp 56) rfl ⟨pb, po + m * 34 + 1, none⟩ (by kernel_rfl) (am) FM.out ?_ (by kernel_rfl); simp only [Act.put, List.setIfInBounds_toArray, List.set_cons_zero, List.set_cons_succ])
                  | go_big_quiet_step ((first | (intro _; rfl))))
                refine wpQuiet_nil ?_
                intro wZ hwZ
                have BX := Lib.hid (HB1.out.trans (Below.mono hwZ HB1.out.size))
                clear hwZ hex
                go_wp2_with fail
                go_roundw
                case rel => exact ⟨k + 1, (m : Int), hlt, rfl, by go_num, HBEST.out.keep HCK.out HML.out HG.out, BX.out⟩
                case measure => simp [intOf]; omega
    · obtain rfl : k = bs.length := by omega
      obtain ⟨wA, hwA⟩ : ∃ x, x = wr := ⟨_, rfl⟩
      rw [← hwA] at hbel ⊢
      clear hwA
      have HBA := Lib.hid hbel
      have HBEST := Lib.hid hbest
      clear hbel hbest hlt hk
      by_cases hneg : b < 0
      · have hb9 : b = -1 := by rcases HBEST.out with ⟨h, _⟩ | ⟨m, h, _⟩ <;> omega
        subst hb9
        clear hneg
        go_wp2_with fail
        go_ret2
        exact ⟨-1, 0, rfl, award_no HBEST.out, HBA.out⟩
      · obtain ⟨m, hm⟩ := Int.eq_ofNat_of_zero_le (show 0 ≤ b by omega)
        subst hm
        clear hneg
        have hml : m < bs.length := (HBEST.out.mem).1
        have m0 : (0 : Int) ≤ (m : Int) := by omega
        have m1 : (m : Int) < (bs.length : Int) := by omega
        go_wp2_with fail
        go_loopw [10, 11] (fun q j wr => ∃ (k : Nat) (p : Int), k ≤ bs.length ∧ q = .int .i64 p ∧ j = .int .i64 k ∧ PaidI (hasV vs) bs l m k p ∧ Below w.heap.size w wr) (fun _ j _ => bs.length - (intOf j).toNat)
        case atStart => exact ⟨0, l, Nat.zero_le _, rfl, rfl, PaidI.zero, HBA.out⟩
        case round =>
          obtain ⟨k, p, hk, rfl, rfl, hpaid, hbel⟩ := hrel
          by_cases hlt : k < bs.length
          · have k0 : (0 : Int) ≤ (k : Int) := by omega
            have k1 : (k : Int) < (bs.length : Int) := by omega
            have kk : (k : Int) < 100 := by omega
            by_cases hkm : k = m
            · have z1 : ((k : Int) != (m : Int)) = false := by rw [hkm]; simp
              have z2 : (k != m) = false := by rw [hkm]; simp
              have HKM := Lib.hid hkm
              have HP := Lib.hid hpaid
              have HB1 := Lib.hid hbel
              clear hkm hpaid hbel
              go_wp2_with fail
              go_roundw
              case rel => exact ⟨k + 1, p, hlt, rfl, by go_num, HP.out.skip (fun _ h => absurd HKM.out h), HB1.out⟩
              case measure => simp [intOf]; omega
            · have z1 : ((k : Int) != (m : Int)) = true := by simp; omega
              have z2 : (k != m) = true := by simp; omega
              have rbr := HRB.out.below hbel
              obtain ⟨pb, po, hpa, hpl, hrk⟩ := rbr.bid HBS2.out hlt
              subst hpa
              have CC := Counts_calls vs HVS.out HL.out a c _ bs HBS.out (by omega) (some ⟨pb, po, none⟩) bc _ k hlt wr (HR.out.below hbel) rbr
              have HCC := Lib.hid CC
              have HRK := Lib.hid hrk
              have HBB := Lib.hid hbel
              have HP := Lib.hid hpaid
              have HPL := Lib.hid hpl
              have HKM := Lib.hid hkm
              clear CC hrk hbel hpaid hpl rbr hkm
              go_wp2_with fail
              refine HCC.out.mono ?_
              rintro e w1 ⟨r, rfl, hrr, hb1⟩
              have HRK1 := Lib.hid (range_low HRK.out hb1 HPL.out)
              have HB1 := Lib.hid (HBB.out.trans (hb1.mono HBB.out.size))
              have HRR := Lib.hid hrr
              clear hb1 HCC hrr
              cases r with
              | false =>
                have hno : ¬ CntAt (hasV vs) bs k := fun h => absurd (HRR.out.2 h) (by decide)
                have HNO := Lib.hid hno
                clear hno
                go_wp2_with fail
                go_roundw
                case rel => exact ⟨k + 1, p, hlt, rfl, by go_num, HP.out.skip (fun c _ => absurd c HNO.out), HB1.out⟩
                case measure => simp [intOf]; omega
              | true =>
                have HCK := Lib.hid (HRR.out.1 rfl)
                obtain ⟨ai, hai⟩ : ∃ z, z = bs[k].amount := ⟨_, rfl⟩
                have ca : w1.cell? ⟨pb, po + k * 34 + 1, none⟩ = some (.int .i64 ai) := by rw [hai]; exact range_amount HRK1.out
                have HAI := Lib.hid hai
                clear hai HRR
                by_cases g1 : p < ai
                · have z3 : decide (p < ai) = true := decide_eq_true g1
                  have HG := Lib.hid g1
                  clear g1
                  go_wp2_with fail
                  go_roundw
                  case rel => exact ⟨k + 1, ai, hlt, rfl, by go_num, by rw [HAI.out]; exact HP.out.take HCK.out HKM.out (by rw [← HAI.out]; exact HG.out), HB1.out⟩
                  case measure => simp [intOf]; omega
                · have z3 : decide (p < ai) = false := decide_eq_false g1
                  have HG := Lib.hid (show bs[k].amount ≤ p by rw [← HAI.out]; omega)
                  clear g1
                  go_wp2_with fail
                  go_roundw
                  case rel => exact ⟨k + 1, p, hlt, rfl, by go_num, HP.out.skip (fun _ _ => HG.out), HB1.out⟩
                  case measure => simp [intOf]; omega
          · obtain rfl : k = bs.length := by omega
            have HP := Lib.hid hpaid
            have HB1 := Lib.hid hbel
            obtain ⟨pb, po, hpa, hpl, hrm⟩ := (HRB.out.below hbel).bid HBS2.out hml
            subst hpa
            obtain ⟨wm, hwm⟩ : ∃ z, z = bs[m].who := ⟨_, rfl⟩
            have cw : wr.cell? ⟨pb, po + m * 34, none⟩ = some (.int .i64 wm) := by rw [hwm]; exact range_who hrm
            have HWM := Lib.hid hwm
            clear hpaid hbel hrm hwm hpl
            go_wp2_with fail
            go_ret2
            exact ⟨wm, p, rfl, by rw [HWM.out]; exact award_best HBEST.out HP.out hml, HB1.out⟩
end Go.Proofs.YteikbbdkpeecaaaDoor
