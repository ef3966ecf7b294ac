/- SieveHas: what was added is told to be there. -/
import Derived.Test.YtgngbmmmoecohaaDoorRows
import Derived.Test.YtgngbmmmoecohaaDoorLaidR
import Derived.Test.YtgngbmmmoecohaaDoorSieveOpen
import Derived.Test.YtgngbmmmoecohaaDoorSieveSift
import Derived.WalkKit
import Derived.ProofKit
import Derived.OpenShut
import Derived.ShutString
import Derived.ChangeOld
import Derived.Below
namespace Go.Proofs.YtgngbmmmoecohaaDoor
open Go.ChangeShapes Go.WideShapes Go.ChangeAt Go.RowKit
open Go.ChangeMaps (open_string shut_string)
set_option linter.unusedVariables false
namespace sieveHas

-- HOLE: the walk
set_option maxRecDepth 100000 in
set_option maxHeartbeats 8000000 in
theorem walk (x0 : List UInt8) (a0 : Option Addr) (c0 e0 : Nat) (j0 : Int) (x1 : List (List UInt8)) (a1 : Option Addr) (c1 e1 : Nat) (v1_ : List Value) (x2 : List UInt8) (a2 : Option Addr) (c2 e2 : Nat) (w : World) (l0 : x0.length ≤ 9223372036854775807) (b0 : -9223372036854775808 ≤ j0 ∧ j0 ≤ 9223372036854775807) (r0 : Rd w a0 e0 (x0.map vB)) (l1 : x1.length ≤ 9223372036854775807) (r1 : Rd w a1 e1 v1_) (m1 : AreB (fun _ _ => True) w x1 v1_) (z1 : ∀ i, (h : i < x1.length) → x1[i].length ≤ reachBytes) (l2 : x2.length ≤ 140737488351232) (r2 : Rd w a2 e2 (x2.map vB)) (hro : RoundsAt w) :
    Calls Tryd.prog 5 #[.agg #[.slice a0 x0.length c0, .int .i64 j0], .slice a1 x1.length c1, .slice a2 x2.length c2] w fun e w' => e = .returned (.bool true) ∧ Below w.heap.size w w' := by
  obtain ⟨H, hH⟩ : ∃ H, H = w.heap.size := ⟨_, rfl⟩
  obtain ⟨w0, hw0⟩ : ∃ z, z = w.alloc (.cells #[.slice a0 x0.length c0, .int .i64 j0] 33) := ⟨_, rfl⟩
  have q0 : w0.heap.size = H + 1 := by rw [hw0, hH]; exact World.size_alloc _ _
  have b00 : Below H w w0 := by rw [hw0, hH]; exact (Below.refl _ _).alloc (Nat.le_refl _) _
  have g0 : w0.heap[H]? = some (.cells #[.slice a0 x0.length c0, .int .i64 j0] 33 (0, 0)) := by rw [hw0, hH]; exact heap_alloc_new _ _
  have bw : Below w.heap.size w w0 := by rw [← hH]; exact b00
  have SF := Sifted_calls w0 (hro.at_ bw)
  have HSF := Lib.hid SF
  have HW0 := Lib.hid hw0
  have HH := Lib.hid hH
  have B0 := Lib.hid b00
  have G0 := Lib.hid g0
  have Q0 := Lib.hid q0
  have HR0 := Lib.hid (r0.below bw)
  have HZ : Hid (RowsZ w0 a1 e1 v1_ x1) := Lib.hid ⟨r1.below bw, m1.below bw, fun i h => Nat.le_trans (z1 i h) (by decide)⟩
  have HR2 := Lib.hid (r2.below bw)
  have HRO := Lib.hid (hro.at_ bw)
  clear SF hw0 hH b00 g0 q0 bw r0 r1 m1 z1 r2 hro
  go_enter Tryd.func5, Tryd.ntmps5
  go_wp2_with fail
  rw [← HH.out, ← HW0.out]
  refine HSF.out.mono ?_
  rintro ex wa ⟨rfl, hba⟩
  have ga := (hba.block H (by rw [Q0.out]; omega)).trans G0.out
  have s0 : wa.cell? ⟨H, 0, none⟩ = some (.slice a0 x0.length c0) := by rw [cell_of_row _ _ _ _ _ _ ga]; rfl
  have s1 : wa.cell? ⟨H, 1, none⟩ = some (.int .i64 j0) := by rw [cell_of_row _ _ _ _ _ _ ga]; rfl
  have HBA := Lib.hid hba
  clear hba HSF ga
  by_cases hok : SvOk x0.length j0
  · have CO := fun W => Check_ok a0 x0.length c0 j0 hok W
    have HCO := Lib.hid CO
    obtain ⟨⟨hL1, hL2⟩, hK1, hK2⟩ := hok
    obtain ⟨K, rfl⟩ : ∃ K : Nat, j0 = (K : Int) := ⟨j0.toNat, by omega⟩
    clear CO
    go_wp2_with fail
    refine (HCO.out _).mono ?_
    rintro ex wb ⟨rfl, hbb⟩
    have hb0b : Below w0.heap.size w0 wb := HBA.out.trans (hbb.mono HBA.out.size)
    have gb := (hb0b.block H (by rw [Q0.out]; omega)).trans G0.out
    have t0 : wb.cell? ⟨H, 0, none⟩ = some (.slice a0 x0.length c0) := by rw [cell_of_row _ _ _ _ _ _ gb]; rfl
    have t1 : wb.cell? ⟨H, 1, none⟩ = some (.int .i64 (K : Int)) := by rw [cell_of_row _ _ _ _ _ _ gb]; rfl
    have HBB := Lib.hid hb0b
    clear hbb hb0b gb HCO HBA s0 s1
    by_cases h30 : x1.length ≤ 30
    · have y1 : decide (30 < x1.length) = false := decide_eq_false (by omega)
      have y2 : decide ((30 : Int) < (x1.length : Int)) = false := decide_eq_false (by omega)
      go_wp2_with fail
      refine (Filled_calls x0 (by omega) (by omega) K (by omega) (by omega) x1 h30 a0 c0 e0 a1 c1 e1 v1_ wb (HR0.out.below HBB.out) (HZ.out.below HBB.out) (HRO.out.at_ HBB.out)).mono ?_
      rintro ex wc ⟨at_, ct, et, rfl, hrt, hbc⟩
      obtain ⟨V, hV⟩ : ∃ V, V = wc.heap.size := ⟨_, rfl⟩
      obtain ⟨wd, hwd⟩ : ∃ z, z = wc.alloc (.cells #[.slice at_ x0.length ct, .int .i64 (K : Int)] 33) := ⟨_, rfl⟩
      have qd : wd.heap.size = V + 1 := by rw [hwd, hV]; exact World.size_alloc _ _
      have bcd : Below V wc wd := by rw [hwd, hV]; exact (Below.refl _ _).alloc (Nat.le_refl _) _
      have b0c : Below w0.heap.size w0 wc := HBB.out.trans (hbc.mono HBB.out.size)
      have hV0 : w0.heap.size ≤ V := by rw [hV]; exact b0c.size
      have b0d : Below w0.heap.size w0 wd := b0c.trans (bcd.mono hV0)
      have gd : wd.heap[V]? = some (.cells #[.slice at_ x0.length ct, .int .i64 (K : Int)] 33 (0, 0)) := by rw [hwd, hV]; exact heap_alloc_new _ _
      have hrd : Rd wd at_ et ((fillB K x0 x1).map vB) := hrt.below (by rw [← hV]; exact bcd)
      have gHd := (b0d.block H (by rw [Q0.out]; omega)).trans G0.out
      have HVV := Lib.hid hV
      have HWD := Lib.hid hwd
      have HGD := Lib.hid gd
      have HGH := Lib.hid gHd
      have HRT := Lib.hid hrd
      have HB := Lib.hid b0d
      have QD := Lib.hid qd
      have HV0 : H < V := by rw [Q0.out] at hV0; omega
      have hfl := fillB_length K x1 x0
      clear hV hwd qd bcd b0c b0d gd hrd gHd hrt hbc HBB t0 t1 hV0
      go_upto_region 9 with fail
      rw [← HVV.out, ← HWD.out]
      go_wp2_with fail
      go_loopw [10] (fun i wr => ∃ k : Nat, k ≤ x1.length ∧ i = .int .i64 k ∧ Below wd.heap.size wd wr) (fun i _ => x1.length - (intOf i).toNat)
      case atStart => exact ⟨0, Nat.zero_le _, rfl, Below.refl _ _⟩
      case round =>
        obtain ⟨k, hk, rfl, hbl⟩ := hrel
        obtain ⟨wA, rfl⟩ : ∃ z, z = wr := ⟨_, rfl⟩
        have gA := (hbl.block V (by rw [QD.out]; omega)).trans HGD.out
        have v0 : wA.cell? ⟨V, 0, none⟩ = some (.slice at_ x0.length ct) := by rw [cell_of_row _ _ _ _ _ _ gA]; rfl
        have v1 : wA.cell? ⟨V, 1, none⟩ = some (.int .i64 (K : Int)) := by rw [cell_of_row _ _ _ _ _ _ gA]; rfl
        have b0A := HB.out.trans (hbl.mono HB.out.size)
        by_cases hlt : k < x1.length
        · have hz : (k : Int) < (x1.length : Int) := by omega
          have hz0 : (0 : Int) ≤ (k : Int) := by omega
          have hzA := HZ.out.below b0A
          have hvl : k < v1_.length := by have := hzA.ar.1; omega
          obtain ⟨rb, ro, hrb, hrbl, hrc⟩ := hzA.rr.cell hvl
          subst hrb
          have cr := hrc k hvl
          obtain ⟨ba, bc, be, hv, hbr, _, _⟩ := hzA.ar.2 k hlt hvl
          rw [hv] at cr
          have hbz := hzA.sz k hlt
          have hhas := has_fill K x0 (by omega) x1 x1[k] (List.getElem_mem hlt)
          obtain ⟨bk, hbk⟩ : ∃ z, z = x1[k] := ⟨_, rfl⟩
          rw [← hbk] at cr hbr hbz hhas
          have HO := Has_ok (fillB K x0 x1) (by rw [hfl]; omega) (by rw [hfl]; omega) K (by omega) (by omega) bk hbz at_ ct et ba bc be wA.drew ⟨(HRT.out.below hbl).below (Below.refl _ _).drew, hbr.below (Below.refl _ _).drew, (HRO.out.at_ b0A).at_ (Below.refl _ _).drew⟩
          rw [hfl, hhas] at HO
          have HHO : Hid (Calls Tryd.prog 22 #[.agg #[.slice at_ x0.length ct, .int .i64 (K : Int)], .slice ba bk.length bc] wA.drew fun e w' => e = .returned (.tuple #[.bool true, .nilIface]) ∧ Hid (Below wA.heap.size wA w')) := Lib.hid (HO.mono fun e w' ⟨h1, h2⟩ => ⟨h1, Lib.hid ((Below.refl _ _).drew.trans h2)⟩)
          have e4 : IntKind.i64.wrap ((k : Int) + 1) = (k : Int) + 1 := IntWalk.i64_in _ (by omega)
          have HBL := Lib.hid hbl
          clear HO hhas hbz hbr hzA b0A hrc gA hbl hbk hfl
          go_wp2_with fail
          go_region_with (go_at_call 22; (with_reducible refine HHO.out.mono ?_); rintro e5 wq ⟨rfl, HBQ⟩)
          all_goals (go_wp2_with fail)
          all_goals exact ⟨⟨k + 1, by omega, by go_num, HBL.out.trans (HBQ.out.mono HBL.out.size)⟩, by simp [intOf]; omega⟩
        · obtain rfl : k = x1.length := by omega
          have gHA := (hbl.block H (by rw [QD.out]; omega)).trans HGH.out
          have s0 : wA.cell? ⟨H, 0, none⟩ = some (.slice a0 x0.length c0) := by rw [cell_of_row _ _ _ _ _ _ gHA]; rfl
          have s1 : wA.cell? ⟨H, 1, none⟩ = some (.int .i64 (K : Int)) := by rw [cell_of_row _ _ _ _ _ _ gHA]; rfl
          have H1 := Has_ok x0 (by omega) (by omega) K (by omega) (by omega) x2 l2 a0 c0 e0 a2 c2 e2 wA ⟨HR0.out.below b0A, HR2.out.below b0A, HRO.out.at_ b0A⟩
          have hmore := has_more K x0 (by omega) x1 x2
          obtain ⟨y1b, hy1⟩ : ∃ y, y = hasAll x0 (placesOf x0.length K x2) := ⟨_, rfl⟩
          obtain ⟨y2b, hy2⟩ : ∃ y, y = hasAll (fillB K x0 x1) (placesOf x0.length K x2) := ⟨_, rfl⟩
          rw [← hy1] at H1 hmore
          rw [← hy2] at hmore
          have HH1 := Lib.hid H1
          have HY2 := Lib.hid hy2
          have HBL := Lib.hid hbl
          have HB0A := Lib.hid b0A
          clear H1 hy1 hy2 hbl b0A gHA gA v0 v1
          go_wp2_with fail
          refine HH1.out.mono ?_
          rintro e5 wq ⟨rfl, hbq⟩
          have hbdq : Below wd.heap.size wd wq := HBL.out.trans (hbq.mono HBL.out.size)
          have b0q : Below w0.heap.size w0 wq := HB0A.out.trans (hbq.mono HB0A.out.size)
          have gq := (hbdq.block V (by rw [QD.out]; omega)).trans HGD.out
          have v0 : wq.cell? ⟨V, 0, none⟩ = some (.slice at_ x0.length ct) := by rw [cell_of_row _ _ _ _ _ _ gq]; rfl
          have v1 : wq.cell? ⟨V, 1, none⟩ = some (.int .i64 (K : Int)) := by rw [cell_of_row _ _ _ _ _ _ gq]; rfl
          have H2 := Has_ok (fillB K x0 x1) (by rw [hfl]; omega) (by rw [hfl]; omega) K (by omega) (by omega) x2 l2 at_ ct et a2 c2 e2 wq ⟨HRT.out.below hbdq, HR2.out.below b0q, HRO.out.at_ b0q⟩
          rw [hfl, ← HY2.out] at H2
          have HH2 := Lib.hid H2
          have HB0Q := Lib.hid b0q
          clear H2 hbdq b0q gq hbq HH1 s0 s1 hfl HBL HB0A
          go_wp2_with fail
          refine HH2.out.mono ?_
          rintro e6 wz ⟨rfl, hbz⟩
          have HM := Lib.hid (show Below H w wz from B0.out.trans ((HB0Q.out.trans (hbz.mono HB0Q.out.size)).mono (by rw [Q0.out]; omega)))
          clear hbz HH2 v0 v1
          cases y1b with
          | true =>
            obtain rfl : y2b = true := hmore rfl
            clear hmore HY2
            go_wp2_with fail
            go_ret
            exact ⟨rfl, by rw [← HH.out]; exact HM.out⟩
          | false =>
            clear hmore HY2
            go_wp2_with fail
            go_ret
            exact ⟨rfl, by rw [← HH.out]; exact HM.out⟩
    · have y1 : decide (30 < x1.length) = true := decide_eq_true (by omega)
      have y2 : decide ((30 : Int) < (x1.length : Int)) = true := decide_eq_true (by omega)
      have HM := Lib.hid (show Below H w wb from B0.out.trans (HBB.out.mono (by rw [Q0.out]; omega)))
      clear HBB HR0 HZ HR2 HRO t0 t1
      go_wp2_with fail
      go_ret
      exact ⟨rfl, by rw [← HH.out]; exact HM.out⟩
  · have CN := fun W => Check_no a0 x0.length c0 j0 hok W
    have HCN := Lib.hid CN
    clear CN hok
    go_wp2_with fail
    refine (HCN.out _).mono ?_
    rintro ex wb ⟨rfl, hbb⟩
    have HM := Lib.hid (show Below H w wb from B0.out.trans ((HBA.out.trans (hbb.mono HBA.out.size)).mono (by rw [Q0.out]; omega)))
    clear hbb HBA HCN s0 s1
    go_wp2_with fail
    go_ret
    exact ⟨rfl, by rw [← HH.out]; exact HM.out⟩

set_option maxRecDepth 100000 in
theorem lifted (os : Os) (started : os.Started) (H : Type) (enc : TypeId × Value → H) :
    ReturnsInHanded {} Tryd.checked os 5 .any (fun w args => (Rows.sieveHasSpec.pre enc Tryd.prog Tryd.f5 Rows.sieveHasRow.domain false w args ∧ laidMetH Tryd.prog Laid.list w) ∧ sizedMet enc Tryd.prog Tryd.f5 (OpenSpec.ofChange Rows.sieveHasSpec) false w args) (Rows.sieveHasSpec.post enc Tryd.prog Tryd.f5 false true false false) := by
  refine returnsInHanded_of_change_and (C := Tryd.checked) (X := fun w _ => laidMetH Tryd.prog Laid.list w) (fun _ _ _ hh h => h.of_heap hh) Laid.own started (by kernel_rfl) Tryd.func5
    (ChangeSpec.witness_at (enc := enc) (C := Tryd.checked) (os := os) (X := fun w _ => laidMetH Tryd.prog Laid.list w) false (laidWorld os) #[.agg #[.slice none 0 0, .int .i64 0], .slice none 0 0, .slice none 0 0] 8 rfl (by kernel_rfl) (by kernel_rfl) (by kernel_rfl) (by kernel_rfl) (by kernel_rfl) (laidWorld_met os _)) ?_
  intro W base args ds gs before hval0 hW _ hsz hL _
  have hro := rounds_of_laid hL
  have hval : ∀ (j : Nat) t v, Tryd.f5.params[j]? = some t → args[j]? = some v → Value.okWide Tryd.prog W .any base t v := hval0
  have hW' := hW
  obtain ⟨p, q, hA0, hV, rfl, hfz, hnd⟩ := hW
  have hA : DataW.TrodAll enc Tryd.prog W 0 (fun _ => true) true Tryd.f5.params.toList args.toList ds p := hA0
  rw [Tryd.params5] at hA hval
  obtain ⟨v0, vs0, d0, ds0, p0, q0, hargs, rfl, rfl, h0, r0⟩ := trodAll_cons hA
  obtain ⟨v1, vs1, d1, ds1, p1, q1, rfl, rfl, rfl, h1, r1⟩ := trodAll_cons r0
  obtain ⟨v2, vs2, d2, ds2, p2, q2, rfl, rfl, rfl, h2, r2⟩ := trodAll_cons r1
  obtain ⟨rfl, rfl, rfl⟩ := trodAll_nil r2
  obtain rfl : args = #[v0, v1, v2] := by cases args; simp_all
  obtain ⟨rfl, rfl⟩ := trodVars_none hV
  have k0 := h0
  have lt0 : ∀ x ∈ p0, x.block < W.heap.size := by obtain ⟨m, hm⟩ := k0; exact DataW.trod_lt m _ _ _ hm
  obtain ⟨x0, a0, c0, e0, j0, rfl, l0, b0, r_0⟩ := open_sieve Tryd.underlying33 Tryd.underlying24 Tryd.underlying3 Tryd.underlying5 (by kernel_rfl) (by kernel_rfl) (by kernel_rfl) (by kernel_rfl) rfl rfl (hval 0 33 v0 rfl rfl) h0
  have k1 := h1
  have lt1 : ∀ x ∈ p1, x.block < W.heap.size := by obtain ⟨m, hm⟩ := k1; exact DataW.trod_lt m _ _ _ hm
  obtain ⟨x1, a1, c1, e1, u1, rfl, l1, r_1, m1, z1⟩ := open_rows2 Tryd.underlying34 Tryd.underlying24 Tryd.underlying5 (by kernel_rfl) (by kernel_rfl) (by kernel_rfl) (fun n hn => of_decide_eq_true (List.all_eq_true.1 hsz n (DataW.weights_mem_each (j := 1) (by first | rfl | kernel_rfl) rfl n hn))) (hval 1 34 v1 rfl rfl) h1
  have k2 := h2
  have lt2 : ∀ x ∈ p2, x.block < W.heap.size := by obtain ⟨m, hm⟩ := k2; exact DataW.trod_lt m _ _ _ hm
  obtain ⟨x2, a2, c2, e2, rfl, l_2, r_2⟩ := open_bytes Tryd.underlying24 Tryd.underlying5 (by kernel_rfl) (hval 2 24 v2 rfl rfl) h2
  have l2 : x2.length ≤ 140737488351232 := by have := trod_len (B := reachBytes) Tryd.underlying24 h2 (fun n hn => of_decide_eq_true (List.all_eq_true.1 hsz n (DataW.weights_mem_each (j := 2) (by first | rfl | kernel_rfl) rfl n hn))); rw [show Tryd.prog.bytesOf 5 = 1 by kernel_rfl, Nat.mul_one] at this; exact this
  clear hA0 hval0
  refine (walk x0 a0 c0 e0 j0 x1 a1 c1 e1 u1 x2 a2 c2 e2 W l0 b0 r_0 l1 r_1 m1 z1 l2 r_2 hro).mono fun e W' ⟨he, bel⟩ => ?_
  subst he
  exact ⟨_, rfl, _, _, _, [], _, [], hW', trodAll_mk1 (shut_bool Tryd.underlying4 _), (trodAll_cons_mk (Below.trod Laid.laidOut (by kernel_rfl) (of_decide_eq_true (by kernel_rfl)) k0 bel lt0) (trodAll_cons_mk (Below.trod Laid.laidOut (by kernel_rfl) (of_decide_eq_true (by kernel_rfl)) k1 bel lt1) (trodAll_cons_mk (Below.trod Laid.laidOut (by kernel_rfl) (of_decide_eq_true (by kernel_rfl)) k2 bel lt2) trodAll_mk0))), rfl, bel.frame _, fun h => by cases h⟩

theorem over : Rows.sieveHasRow.holds Tryd.pinned (OpenSpec.ofChange Rows.sieveHasSpec) :=
  OpenClaim.holds_of_wide 5 Tryd.f5 rfl rfl rfl rfl rfl rfl rfl ⟨rfl, rfl, rfl, rfl, rfl⟩ rfl rfl rfl rfl rfl (by kernel_rfl) Tryd.func5 (by kernel_rfl)
    (of_decide_eq_true (by kernel_rfl)) (by unfold Func.isWrapper; first | (rw [if_pos (by decide +kernel)]; kernel_rfl) | (rw [if_neg (by decide +kernel)]; exact ⟨rfl, rfl⟩))
    (fun os started H enc _ => lifted os started H enc)

theorem proved : Rows.SieveHasCardSaid :=
  Claim7.holds_tied_plain_at .later [] [.data] true (true, "d9367f1a9ac0cc7a5f16b7a4c9fa57317a5d4c7769de09c3b166420cc346acc4") true
    over (fun _ h => by cases h) (by kernel_rfl) (fun _ h => by cases h) sieveHas_row_tie rfl ⟨rfl, rfl⟩ (by kernel_rfl) rfl
    (fun f fn hf hfn => by
      obtain rfl : f = 5 := Option.some.inj ((show Tryd.prog.funcNamed "oathbook/oathbooklaw4.SieveHas" = some 5 by kernel_rfl).symm.trans hf) |>.symm
      obtain rfl : fn = Tryd.f5 := (Option.some.inj (Tryd.func5.symm.trans hfn)).symm
      exact ⟨by kernel_rfl, stand_of_all (by kernel_rfl)⟩)
    (by kernel_rfl)
#print axioms proved
end sieveHas
end Go.Proofs.YtgngbmmmoecohaaDoor
