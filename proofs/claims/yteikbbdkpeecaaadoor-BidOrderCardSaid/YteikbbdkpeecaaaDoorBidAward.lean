/- Walk: bid.Award. -/
import Derived.Test.YteikbbdkpeecaaaDoorBidClos
import Derived.Test.YteikbbdkpeecaaaDoorBidCnts
import Derived.Shelf.SlSortCmp.NoneTotal
namespace Go.Proofs.YteikbbdkpeecaaaDoor
open Go.RowKit
set_option linter.unusedVariables false
set_option linter.unusedSimpArgs false
open Go.Shelf Go.Lib Go.Sort
theorem step_pair {v : Bd → Bool} {acc : List Bd} (h : acc.Pairwise fun a b => a.who ≠ b.who) (b : Bd) : (cntStep v acc b).Pairwise fun a b => a.who ≠ b.who := by
  unfold cntStep
  split
  · rename_i hc
    rw [Bool.and_eq_true, Bool.not_eq_true'] at hc
    rw [List.pairwise_append]
    refine ⟨h, List.pairwise_singleton _ _, fun a ha c hcm => ?_⟩
    rw [List.mem_singleton.1 hcm]
    intro he
    have := hasW_iff.2 ⟨a, ha, he⟩
    rw [hc.2] at this
    cases this
  · exact h
theorem cnt_pair (v : Bd → Bool) (bs : List Bd) : (cntB v bs).Pairwise fun a b => a.who ≠ b.who := by
  unfold cntB
  have : ∀ (bs acc : List Bd), (acc.Pairwise fun a b => a.who ≠ b.who) → (bs.foldl (cntStep v) acc).Pairwise fun a b => a.who ≠ b.who := by
    intro bs
    induction bs with
    | nil => exact fun _ h => h
    | cons b bs ih => exact fun acc h => ih _ (step_pair h b)
  exact this bs [] List.Pairwise.nil
theorem cnt_stay {v : Bd → Bool} {bs : List Bd} {k : Nat} (h : k < bs.length) (hn : v bs[k] = false ∨ hasW (cntB v (bs.take k)) bs[k].who = true) : cntB v (bs.take (k + 1)) = cntB v (bs.take k) := by
  rw [cnt_take v bs k h]
  unfold cntStep
  rcases hn with hn | hn <;> simp [hn]
theorem cnt_more {v : Bd → Bool} {bs : List Bd} {k : Nat} (h : k < bs.length) (h1 : v bs[k] = true) (h2 : hasW (cntB v (bs.take k)) bs[k].who = false) : cntB v (bs.take (k + 1)) = cntB v (bs.take k) ++ [bs[k]] := by
  rw [cnt_take v bs k h]
  unfold cntStep
  simp [h1, h2]
theorem sorted_ahead (d : List BdS) (d' : Array BdS) (ha : (valB d).Pairwise fun a b => a.who ≠ b.who) (hp : PermIn 0 d.length d.toArray d') (hs : SortedIn (ltOf cfB) 0 d.length d') : d'.toList.length = d.length ∧ (valB d'.toList).Pairwise Ahead ∧ ∀ x, x ∈ valB d'.toList ↔ x ∈ valB d := by
  obtain ⟨h1, _, h3⟩ := hp
  have hsz : d'.size = d.length := by simpa using h1
  rw [show d'.extract 0 d.length = d' by rw [← hsz]; simp, show d.toArray.extract 0 d.length = d.toArray by simp] at h3
  have hperm : (valB d'.toList).Perm (valB d) := by unfold valB; exact List.Perm.map _ (by simpa using h3)
  have hap : (valB d'.toList).Pairwise fun a b => a.who ≠ b.who := (List.Perm.pairwise_iff (fun {a b} h => fun e => h e.symm) hperm).2 ha
  refine ⟨by simpa using hsz, ?_, fun x => hperm.mem_iff⟩
  rw [List.pairwise_iff_getElem]
  intro i j hi hj hij
  have hap2 := List.pairwise_iff_getElem.1 hap i j hi hj hij
  unfold valB at hi hj hap2 ⊢
  rw [List.length_map, Array.length_toList] at hi hj
  simp only [List.getElem_map, Array.getElem_toList] at hap2 ⊢
  have := hs i j (Nat.zero_le _) hij (by omega)
  rw [ltB, decide_eq_false_iff_not, getElem!_pos d' j hj, getElem!_pos d' i hi] at this
  unfold Ahead at this ⊢
  omega
def liftB (bs : List Bd) (h : ∀ b ∈ bs, b.salt.length = 32) : List BdS := bs.attach.map fun x => ⟨x.1, h x.1 x.2⟩
theorem Rd.bid1 (w : World) (b : Bd) : Rd (w.alloc (.cells (bV b.who b.amount b.salt) 59)) (some ⟨w.heap.size, 0, none⟩) 59 (cellsP [b]) := by
  have := Rd.new w (bV b.who b.amount b.salt) 59
  rw [cellsP_one]
  rwa [bV_list] at this
theorem valB_snoc (d : List BdS) (b : Bd) (h : b.salt.length = 32) : valB (d ++ [⟨b, h⟩]) = valB d ++ [b] := by unfold valB; rw [List.map_append]; rfl
set_option maxRecDepth 20000 in
set_option maxHeartbeats 8000000 in
theorem Award_calls (vs : List (List UInt8)) (hvs : ∀ d ∈ vs, d.length = 32) (hl : vs.length ≤ 9223372036854775807) (a : Option Addr) (c e : Nat) (bs : List Bd) (hbs : ∀ b ∈ bs, BdW b) (hbl : bs.length ≤ 9223372036854775807) (ba : Option Addr) (bc be : Nat) (l : Int) (w : World) (hr : Rd w a e (vs.flatten.map vB)) (hrb : Rd w ba be (cellsP bs)) (hro : RoundsAt w) :
    Calls Tryd.prog 22 #[.slice a vs.length c, .slice ba bs.length bc, .int .i64 l] w fun e w' =>
      (l < 0 → e = .returned (.tuple #[.int .i64 0, .int .i64 0, .iface 25 (.int .i64 2)])) ∧
      (0 ≤ l → (100 < vs.length ∨ 100 < bs.length) → e = .returned (.tuple #[.int .i64 0, .int .i64 0, .iface 25 (.int .i64 4)])) ∧
      (0 ≤ l → vs.length ≤ 100 → bs.length ≤ 100 → ∃ x p : Int, e = .returned (.tuple #[.int .i64 x, .int .i64 p, .nilIface]) ∧ AwardIs (cntB (hasV vs) bs) l x p) ∧ Below w.heap.size w w' := by
  by_cases hneg : l < 0
  · have z1 : decide (l < 0) = true := decide_eq_true hneg
    have HN := Lib.hid hneg
    clear hneg hr hrb hvs hbs
    go_enter Tryd.func22, Tryd.ntmps22
    go_wp2_with fail
    go_ret3
    exact ⟨fun _ => rfl, fun h => absurd HN.out (by omega), fun h => absurd HN.out (by omega), Below.refl _ _⟩
  · have z1 : decide (l < 0) = false := decide_eq_false hneg
    have HN := Lib.hid hneg
    clear hneg
    by_cases hv1 : 100 < vs.length
    · have z2 : decide ((100 : Int) < (vs.length : Int)) = true := decide_eq_true (by omega)
      have z3 : decide (100 < vs.length) = true := decide_eq_true hv1
      have HV1 := Lib.hid hv1
      clear hv1 hr hrb hvs hbs
      go_enter Tryd.func22, Tryd.ntmps22
      go_wp2_with fail
      go_ret3
      exact ⟨fun h => absurd h (by have := HN.out; omega), fun _ _ => rfl, fun _ h => absurd h (Nat.not_le.2 HV1.out), Below.refl _ _⟩
    · have z2 : decide ((100 : Int) < (vs.length : Int)) = false := decide_eq_false (by omega)
      have z3 : decide (100 < vs.length) = false := decide_eq_false hv1
      have HV1 := Lib.hid (Nat.not_lt.1 hv1)
      clear hv1
      by_cases hb1 : 100 < bs.length
      · have z4 : decide ((100 : Int) < (bs.length : Int)) = true := decide_eq_true (by omega)
        have z5 : decide (100 < bs.length) = true := decide_eq_true hb1
        have HB1 := Lib.hid hb1
        clear hb1 hr hrb hvs hbs
        go_enter Tryd.func22, Tryd.ntmps22
        go_wp2_with fail
        go_ret3
        exact ⟨fun h => absurd h (by have := HN.out; omega), fun _ _ => rfl, fun _ _ h => absurd h (Nat.not_le.2 HB1.out), Below.refl _ _⟩
      · have z4 : decide ((100 : Int) < (bs.length : Int)) = false := decide_eq_false (by omega)
        have z5 : decide (100 < bs.length) = false := decide_eq_false hb1
        have hb100 : bs.length ≤ 100 := by omega
        clear hb1
        suffices hmain : Calls Tryd.prog 22 #[.slice a vs.length c, .slice ba bs.length bc, .int .i64 l] w fun e w' => (∃ x p : Int, e = .returned (.tuple #[.int .i64 x, .int .i64 p, .nilIface]) ∧ AwardIs (cntB (hasV vs) bs) l x p) ∧ Below w.heap.size w w' from
          hmain.mono fun e w' ⟨h1, h2⟩ => ⟨fun h => absurd h HN.out, fun _ h => absurd h (by have := HV1.out; omega), fun _ _ _ => h1, h2⟩
        have hbl2 : ∀ b ∈ bs, b.salt.length = 32 := fun b h => (hbs b h).1
        have HVS := Lib.hid hvs
        have HL := Lib.hid hl
        have HBS := Lib.hid hbs
        have HBS2 := Lib.hid hbl2
        have HR := Lib.hid hr
        have HRB := Lib.hid hrb
        have RO := Lib.hid hro
        clear hvs hl hbs hbl2 hr hrb hbl hro
        go_enter Tryd.func22, Tryd.ntmps22
        go_wp2_with fail
        go_loopw [9, 29] (fun q j wr => ∃ (k : Nat) (acc : List BdS) (av : Option Addr) (cp : Nat), k ≤ bs.length ∧ acc.length ≤ k ∧ j = .int .i64 k ∧ q = .slice av acc.length cp ∧ valB acc = cntB (hasV vs) (bs.take k) ∧ wr.ownsRow w.heap.size 59 34 (.slice av acc.length cp) acc.length (cellsP (valB acc)) ∧ Below w.heap.size w wr) (fun _ j _ => bs.length - (intOf j).toNat)
        case atStart => exact ⟨0, [], none, 0, Nat.zero_le _, Nat.le_refl _, rfl, rfl, rfl, World.ownsRow_nil _ _ _ _, Below.refl _ _⟩
        case round =>
          obtain ⟨k, acc, av, cp, hk, hak, rfl, rfl, hacc, hown, hbel⟩ := hrel
          by_cases hlt : k < bs.length
          · obtain ⟨pb, po, hpa, hpl, hrk⟩ := (HRB.out.below hbel).bid HBS2.out hlt
            subst hpa
            obtain ⟨E, hE⟩ : ∃ E, E = bs[k] := ⟨_, rfl⟩
            have hEW : BdW E := by rw [hE]; exact HBS.out _ (List.getElem_mem _)
            rw [← hE] at hrk
            obtain ⟨X, hX⟩ : ∃ X, X = wr.heap.size := ⟨_, rfl⟩
            obtain ⟨w1, hw1⟩ : ∃ z, z = wr.alloc (.cells (bV E.who E.amount E.salt) 59) := ⟨_, rfl⟩
            have b1 : Below wr.heap.size wr w1 := by rw [hw1]; exact (Below.refl _ _).alloc (Nat.le_refl _) _
            have gx : w1.heap[X]? = some (.cells (bV E.who E.amount E.salt) 59 (0, 0)) := by rw [hw1, hX]; exact heap_alloc_new _ _
            have VC := Vow_calls E hEW w1 ((RO.out.at_ hbel).at_ b1)
            have HVC := Lib.hid VC
            have HE := Lib.hid hE
            have HEW := Lib.hid hEW
            have HRK := Lib.hid hrk
            have HX := Lib.hid hX
            have HW1 := Lib.hid hw1
            have GX := Lib.hid gx
            have LX := Lib.hid (lt_of_heap gx)
            have B1 := Lib.hid b1
            have HACC := Lib.hid hacc
            have HO := Lib.hid hown
            have HBL := Lib.hid hbel
            have HRV := Lib.hid (HR.out.below hbel)
            have k0 : (0 : Int) ≤ (k : Int) := by omega
            have k1 : (k : Int) < (bs.length : Int) := by omega
            clear VC hE hEW hrk hX hw1 gx b1 hacc hown hbel hpl
            go_wp2_with (first
              | ((refine ld_bidG rfl (.tmp 31) rfl pb (po + k * 34) (by rfl) E HEW.out.1 HRK.out ?_); simp only [Act.put, List.setIfInBounds_toArray, List.set_cons_zero, List.set_cons_succ])
              | ((refine st_bidNew rfl (.tmp 11) (.tmp 32) rfl E HEW.out.1 (by rfl) _ _ (by rfl) (by rfl) ?_); rw [← HX.out, ← HW1.out])
              | ((refine ld_bidG rfl (.tmp 11) rfl X 0 (by rfl) E HEW.out.1 (range_bid GX.out) ?_); simp only [Act.put, List.setIfInBounds_toArray, List.set_cons_zero, List.set_cons_succ]))
            refine HVC.out.mono ?_
            rintro e w2 ⟨he, hb2⟩
            have B2 := Lib.hid (B1.out.trans (hb2.mono B1.out.size))
            have GX2 := Lib.hid ((hb2.block _ LX.out).trans GX.out)
            have LX2 := Lib.hid (Nat.lt_of_lt_of_le LX.out hb2.size)
            clear hb2 HVC
            by_cases hok : BdOk E
            · rw [if_pos hok] at he
              subst he
              obtain ⟨m, hm⟩ := Int.eq_ofNat_of_zero_le hok.1.1
              have HOK := Lib.hid hok
              obtain ⟨D, hD⟩ : ∃ D, D = bidD E := ⟨_, rfl⟩
              rw [← hD]
              have DL := Lib.hid (show D.length = 32 by rw [hD]; exact bidD_length _)
              have HD := Lib.hid hD
              have HM := Lib.hid hm
              clear hok hD hm
              obtain ⟨Y, hY⟩ : ∃ Y, Y = w2.heap.size := ⟨_, rfl⟩
              obtain ⟨w3, hw3⟩ : ∃ z, z = w2.alloc (.cells (dV D) 55) := ⟨_, rfl⟩
              have b3 : Below w2.heap.size w2 w3 := by rw [hw3]; exact (Below.refl _ _).alloc (Nat.le_refl _) _
              have GY := Lib.hid (show w3.heap[Y]? = some (.cells (dV D) 55 (0, 0)) by rw [hw3, hY]; exact heap_alloc_new _ _)
              have LY := Lib.hid (lt_of_heap GY.out)
              have B3 := Lib.hid (B2.out.trans (b3.mono B2.out.size))
              have LX3 := Lib.hid (Nat.lt_of_lt_of_le LX2.out b3.size)
              have GX3 := Lib.hid ((b3.block _ LX2.out).trans GX2.out)
              have HY := Lib.hid hY
              have HW3 := Lib.hid hw3
              clear hY hw3 b3
              go_upto_region 10 with (first
                | ((refine st_new rfl (.tmp 12) (.tmp 36) rfl D DL.out (by rfl) _ _ (by rfl) (by rfl) ?_); rw [← HY.out, ← HW3.out]))
              have F0 := Lib.hid (show ∀ w', InB w3.heap.size w3 w' → w'.cell? ⟨X, 0, none⟩ = some (.int .i64 (m : Int)) from fun w' h => (Below.cell h (p := ⟨X, 0, none⟩) LX3.out).trans (by rw [← HM.out]; exact bV_cell0 GX3.out))
              by_cases hfar : m < vs.length
              · obtain ⟨vb, vo, hva, hvb, hrg⟩ := HRV.out.range HVS.out hfar
                obtain ⟨V, hV⟩ : ∃ V, V = vs[m] := ⟨_, rfl⟩
                have VL := Lib.hid (show V.length = 32 by rw [hV]; exact HVS.out _ (List.getElem_mem _))
                have hF9 : hasV vs E = (D == V) := by rw [hasV_at HOK.out HM.out hfar, hV, HD.out]
                rw [← hV] at hrg
                subst hva
                have FV := Lib.hid (show ∀ w', InB w3.heap.size w3 w' → w'.rangeAt vb (vo + m * 32) (V.map vB) from fun w' h => h.range (Nat.lt_of_lt_of_le hvb B3.out.size) (range_low hrg B3.out hvb))
                have FD := Lib.hid (show ∀ w', InB w3.heap.size w3 w' → w'.rangeAt Y 0 (D.map vB) from fun w' h => h.range LY.out (range_of_row GY.out))
                have m0 : (0 : Int) ≤ (m : Int) := by omega
                have m1 : (m : Int) < (vs.length : Int) := by omega
                have m2 : decide ((vs.length : Int) ≤ (m : Int)) = false := decide_eq_false (by omega)
                have m3 : decide (vs.length ≤ m) = false := decide_eq_false (by omega)
                obtain ⟨q, hq⟩ : ∃ q, q = (V == D) := ⟨_, rfl⟩
                have hF8 : hasV vs E = q := by rw [hF9, hq, Bool.eq_iff_iff, beq_iff_eq, beq_iff_eq]; exact eq_comm
                have HF9 := Lib.hid hF8
                have HQ := Lib.hid hq
                clear hF9 hF8 hq hV hrg hvb
                have hex := inB_ex w3.heap.size w3
                refine wp_region_inB w3.heap.size (by kernel_rfl) (by kernel_rfl) ?_
                repeat (first
                  | (with_reducible refine quiet_int rfl (.tmp 41) rfl ⟨X, 0, none⟩ (by kernel_rfl) (m : Int) F0.out ?_ (by kernel_rfl); simp only [Act.put, List.setIfInBounds_toArray, List.set_cons_zero, List.set_cons_succ])
                  | (with_reducible refine quiet_int rfl (.tmp 49) rfl ⟨X, 0, none⟩ (by kernel_rfl) (m : Int) F0.out ?_ (by kernel_rfl); simp only [Act.put, List.setIfInBounds_toArray, List.set_cons_zero, List.set_cons_succ])
                  | (with_reducible refine quiet_dig rfl (.tmp 51) rfl (vb) (vo + m * 32) (by kernel_rfl) V VL.out FV.out ?_ (by kernel_rfl); simp only [Act.put, List.setIfInBounds_toArray, List.set_cons_zero, List.set_cons_succ])
                  | (with_reducible refine quiet_dig rfl (.tmp 12) rfl (Y) (0) (by kernel_rfl) D DL.out FD.out ?_ (by kernel_rfl); simp only [Act.put, List.setIfInBounds_toArray, List.set_cons_zero, List.set_cons_succ])
                  | (with_reducible refine quiet_dig_neq rfl (.tmp 52) (.tmp 53) _ rfl V D (by kernel_rfl) (by kernel_rfl) VL.out DL.out ?_ (by kernel_rfl); rw [← HQ.out]; simp only [Act.put, List.setIfInBounds_toArray, List.set_cons_zero, List.set_cons_succ])
                  | go_big_quiet_step ((first | (intro _; rfl))))
                refine wpQuiet_nil ?_
                intro wZ hwZ
                have BX := Lib.hid (show Below w.heap.size w wZ from HBL.out.trans (Below.mono (B3.out.trans (Below.mono hwZ B3.out.size)) HBL.out.size))
                have OZ := Lib.hid (own_below HO.out (B3.out.trans (Below.mono hwZ B3.out.size)))
                have GXZ := Lib.hid ((Below.block hwZ _ LX3.out).trans GX3.out)
                have LXZ := Lib.hid (Nat.lt_of_lt_of_le LX3.out (Below.size hwZ))
                clear hwZ hex FV FD F0
                cases q with
                | false =>
                  go_wp2_with fail
                  go_roundw
                  case rel => exact ⟨k + 1, acc, av, cp, hlt, by omega, by go_num, rfl, by rw [HACC.out, cnt_stay hlt (.inl (by rw [← HE.out]; exact HF9.out))], OZ.out, BX.out⟩
                  case measure => simp [intOf]; omega
                | true =>
                  have HCC := Lib.hid (Has_calls acc av cp _ E.who X wZ OZ.out (by omega) LXZ.out (bV_cell0 GXZ.out))
                  obtain ⟨h, hh⟩ : ∃ h, h = hasW (valB acc) E.who := ⟨_, rfl⟩
                  rw [← hh] at HCC
                  have HH9 := Lib.hid hh
                  clear hh
                  go_wp2_with fail
                  refine HCC.out.mono ?_
                  rintro e w5 ⟨rfl, hb5⟩
                  have BX5 := Lib.hid (BX.out.trans (hb5.mono BX.out.size))
                  have O5 := Lib.hid (own_below OZ.out hb5)
                  have GX5 := Lib.hid ((hb5.block _ LXZ.out).trans GXZ.out)
                  clear hb5 HCC
                  cases h with
                  | true =>
                    go_wp2_with fail
                    go_roundw
                    case rel => exact ⟨k + 1, acc, av, cp, hlt, by omega, by go_num, rfl, by rw [HACC.out, cnt_stay hlt (.inr (by rw [← HACC.out, ← HE.out]; exact HH9.out.symm))], O5.out, BX5.out⟩
                    case measure => simp [intOf]; omega
                  | false =>
                    have hsr : w.heap.size ≤ w5.heap.size := BX5.out.size
                    go_wp2_with (first
                      | ((refine ld_bidG rfl (.tmp 11) rfl X 0 (by rfl) E HEW.out.1 (range_bid GX5.out) ?_); simp only [Act.put, List.setIfInBounds_toArray, List.set_cons_zero, List.set_cons_succ])
                      | ((refine wpl_build1 49 59 _ 34 48 Tryd.underlying49 info_bidz (by omega) (by omega) rfl (.tmp 61) rfl (bV E.who E.amount E.salt) (by rfl) (bVs HEW.out.1) ?_); simp only [Act.put, List.setIfInBounds_toArray, List.set_cons_zero, List.set_cons_succ])
                      | (at_builtin; refine appAllw 49 59 (.agg (bV 0 0 nz)) 34 48 Tryd.underlying49 info_bidz (bV_size 0 0 nz rfl) (by omega) rfl (.tmp 60) (.tmp 62) (by rfl) w.heap.size _ acc.length _ (by rfl) (O5.out.alloc _) (some ⟨w5.heap.size, 0, none⟩) 1 1 (cellsP [E]) (by rfl) _ (Rd.bid1 w5 E) (by rw [cellsP_one, bL_length HEW.out.1]) (cellsP_one_all _) (by omega) (by omega) (by rw [World.size_alloc]; omega) ?_; intro av9 cp9 w9 hown9 hb9; rw [← cellsP_append, ← valB_snoc acc E HEW.out.1] at hown9; have O9 := Lib.hid hown9; have B9 := Lib.hid (BX5.out.trans (Below.trans ((Below.refl _ w5).alloc hsr _) hb9)); clear hown9 hb9))
                    go_roundw
                    case rel => exact ⟨k + 1, acc ++ [⟨E, HEW.out.1⟩], av9, cp9, hlt, by rw [List.length_append]; simp only [List.length_singleton]; omega, by go_num, by rw [List.length_append]; rfl, by rw [valB_snoc, HACC.out, cnt_more hlt (by rw [← HE.out]; exact HF9.out) (by rw [← HACC.out, ← HE.out]; exact HH9.out.symm), HE.out], by rw [List.length_append]; exact O9.out, B9.out⟩
                    case measure => simp [intOf]; omega
              · have m2 : decide ((vs.length : Int) ≤ (m : Int)) = true := decide_eq_true (by omega)
                have m3 : decide (vs.length ≤ m) = true := decide_eq_true (by omega)
                have HF9 := Lib.hid (show hasV vs E = false from hasV_far (by have := HM.out; omega))
                have hex := inB_ex w3.heap.size w3
                refine wp_region_inB w3.heap.size (by kernel_rfl) (by kernel_rfl) ?_
                repeat (first
                  | (with_reducible refine quiet_int rfl (.tmp 41) rfl ⟨X, 0, none⟩ (by kernel_rfl) (m : Int) F0.out ?_ (by kernel_rfl); simp only [Act.put, List.setIfInBounds_toArray, List.set_cons_zero, List.set_cons_succ])
                  | go_big_quiet_step ((first | (intro _; rfl))))
                refine wpQuiet_nil ?_
                intro wZ hwZ
                have BX := Lib.hid (show Below w.heap.size w wZ from HBL.out.trans (Below.mono (B3.out.trans (Below.mono hwZ B3.out.size)) HBL.out.size))
                have OZ := Lib.hid (own_below HO.out (B3.out.trans (Below.mono hwZ B3.out.size)))
                clear hwZ hex F0
                go_wp2_with fail
                go_roundw
                case rel => exact ⟨k + 1, acc, av, cp, hlt, by omega, by go_num, rfl, by rw [HACC.out, cnt_stay hlt (.inl (by rw [← HE.out]; exact HF9.out))], OZ.out, BX.out⟩
                case measure => simp [intOf]; omega
            · rw [if_neg hok] at he
              obtain ⟨D, hD⟩ : ∃ D, D = nz := ⟨_, rfl⟩
              rw [← hD] at he
              subst he
              have DL := Lib.hid (show D.length = 32 by rw [hD]; rfl)
              have HF9 := Lib.hid (show hasV vs E = false from hasV_no hok)
              clear hok hD
              obtain ⟨Y, hY⟩ : ∃ Y, Y = w2.heap.size := ⟨_, rfl⟩
              obtain ⟨w3, hw3⟩ : ∃ z, z = w2.alloc (.cells (dV D) 55) := ⟨_, rfl⟩
              have b3 : Below w2.heap.size w2 w3 := by rw [hw3]; exact (Below.refl _ _).alloc (Nat.le_refl _) _
              have GY := Lib.hid (show w3.heap[Y]? = some (.cells (dV D) 55 (0, 0)) by rw [hw3, hY]; exact heap_alloc_new _ _)
              have LY := Lib.hid (lt_of_heap GY.out)
              have B3 := Lib.hid (B2.out.trans (b3.mono B2.out.size))
              have LX3 := Lib.hid (Nat.lt_of_lt_of_le LX2.out b3.size)
              have GX3 := Lib.hid ((b3.block _ LX2.out).trans GX2.out)
              have HY := Lib.hid hY
              have HW3 := Lib.hid hw3
              clear hY hw3 b3
              go_upto_region 10 with (first
                | ((refine st_new rfl (.tmp 12) (.tmp 36) rfl D DL.out (by rfl) _ _ (by rfl) (by rfl) ?_); rw [← HY.out, ← HW3.out]))
              have hex := inB_ex w3.heap.size w3
              refine wp_region_inB w3.heap.size (by kernel_rfl) (by kernel_rfl) ?_
              repeat (first
                | go_big_quiet_step ((first | (intro _; rfl))))
              refine wpQuiet_nil ?_
              intro wZ hwZ
              have BX := Lib.hid (show Below w.heap.size w wZ from HBL.out.trans (Below.mono (B3.out.trans (Below.mono hwZ B3.out.size)) HBL.out.size))
              have OZ := Lib.hid (own_below HO.out (B3.out.trans (Below.mono hwZ B3.out.size)))
              clear hwZ hex
              go_wp2_with fail
              go_roundw
              case rel => exact ⟨k + 1, acc, av, cp, hlt, by omega, by go_num, rfl, by rw [HACC.out, cnt_stay hlt (.inl (by rw [← HE.out]; exact HF9.out))], OZ.out, BX.out⟩
              case measure => simp [intOf]; omega
          · obtain rfl : k = bs.length := by omega
            rw [List.take_of_length_le (Nat.le_refl _)] at hacc
            obtain ⟨wA, hwA⟩ : ∃ x, x = wr := ⟨_, rfl⟩
            rw [← hwA] at hown hbel ⊢
            clear hwA
            have HACC := Lib.hid hacc
            have HO := Lib.hid hown
            have HBA := Lib.hid hbel
            have HL0 := Lib.hid (show 0 ≤ l by have := HN.out; omega)
            by_cases h0 : acc.length = 0
            · have hd : acc = [] := List.length_eq_zero_iff.1 h0
              subst hd
              have SN := Lib.hid (AnyF.slices_SortFunc_none Lay.sortB av cp (.func (.func 36) #[] #[]) wA)
              have hnil : cntB (hasV vs) bs = [] := by rw [← hacc]; rfl
              have HNIL := Lib.hid hnil
              clear hacc hown hbel h0 hnil
              go_wp2_with fail
              refine SN.out.mono ?_
              rintro e w5 ⟨rfl, rfl⟩
              go_wp2_with fail
              go_ret3
              exact ⟨⟨-1, 0, rfl, by rw [HNIL.out]; exact sold_is (cs := []) List.Pairwise.nil l⟩, HBA.out⟩
            · rcases hown.2 with ⟨h1, h2⟩ | ⟨g, c9, cur, hv, hbg, hg, hn, hm, hs9, ht⟩
              · simp only [Value.slice.injEq] at h1; omega
              · simp only [Value.slice.injEq] at hv
                obtain ⟨rfl, _, hcc⟩ := hv
                have hg2 := lt_of_heap hg
                have eg : ∀ args w, (callFunc 36 args).run Tryd.prog w = .ok (.enter 36 args) w := enters_of Tryd.func36 (by kernel_rfl) rfl
                have hsz : acc.toArray.size = acc.length := by simp
                have SC := AnyQ.slices_SortFunc Lay.sortB 34 Tryd.isAgg59 Tryd.sizeOf59 encB encB_length (fun x => bL_one x.1) cfB swoB 36 #[] g 0 cp acc.toArray wA eg (cmpsB g 0 _ wA) (holdsB acc hown) hg2 (by omega)
                change Calls Tryd.prog 35 _ _ _ at SC
                rw [hsz] at SC
                have HH2 := Lib.hid (holdsB acc hown)
                have HSC := Lib.hid SC
                have HG2 := Lib.hid hg2
                have HBG := Lib.hid hbg
                have HP := Lib.hid (show (valB acc).Pairwise (fun a b => a.who ≠ b.who) by rw [hacc]; exact cnt_pair _ _)
                have hn1 : 0 < acc.length := by omega
                have z8 : ((acc.length : Int) == 0) = false := by rw [beq_eq_false_iff_ne]; omega
                have z9 : (acc.length == 0) = false := by rw [beq_eq_false_iff_ne]; omega
                clear SC hacc hown hbel eg hg ht hs9 hn hm hcc hbg h0 hsz hg2
                go_wp2_with fail
                refine HSC.out.mono ?_
                rintro e w5 ⟨rfl, d', n9, os, hp, hs, hw5⟩
                have hH5 : HoldsK encB 34 w5 g 0 d' := by rw [hw5]; exact holdsK_sortWorldK encB 34 wA g 0 n9 acc.toArray d' os HG2.out HH2.out hp.1
                have hb5 : Below w.heap.size w w5 := by rw [hw5]; exact below_sortB HBA.out HBG.out HG2.out
                obtain ⟨e5, r5⟩ := rdB d'.toList (by simpa using hH5)
                obtain ⟨u1, u2, u3⟩ := sorted_ahead acc d' HP.out hp hs
                have HB5 := Lib.hid hb5
                obtain ⟨ds, hds⟩ : ∃ ds, ds = valB d'.toList := ⟨_, rfl⟩
                have hlen : ds.length = acc.length := by rw [hds, valB_length, u1]
                have hdl : ∀ b ∈ ds, b.salt.length = 32 := by rw [hds]; exact valB_len _
                rw [← hds] at r5 u2 u3
                have HAW := Lib.hid (award_sorted (cs := cntB (hasV vs) bs) (ds := ds) (fun b => by rw [u3 b, HACC.out]) u2 l)
                clear hH5 hb5 hp hs hw5 HSC HH2 u1 u2 u3 hds d'
                match ds, hlen, hdl, r5, HAW with
                | [], hlen, _, _, _ => exact absurd hlen (by simp; omega)
                | [x], hlen, hdl, r5, HAW =>
                  obtain ⟨_, _, hpe, _, hrx⟩ := r5.bid hdl (k := 0) (by simp)
                  cases hpe
                  have hrx2 : w5.rangeAt g 0 (bL x) := by simpa using hrx
                  obtain ⟨am, ham⟩ : ∃ z, z = x.amount := ⟨_, rfl⟩
                  obtain ⟨wh, hwh⟩ : ∃ z, z = x.who := ⟨_, rfl⟩
                  have c1 : w5.cell? ⟨g, 1, none⟩ = some (.int .i64 am) := by rw [ham]; exact range_amount hrx2
                  have c0 : w5.cell? ⟨g, 0, none⟩ = some (.int .i64 wh) := by rw [hwh]; exact range_who hrx2
                  have hl1 : acc.length = 1 := by rw [← hlen]; rfl
                  have haw := HAW.out
                  rw [soldOf_one, ← ham, ← hwh] at haw
                  clear hrx hrx2 ham hwh r5 hdl hlen
                  rw [hl1] at z8 z9 ⊢
                  have HACL := Lib.hid hl1
                  clear hl1 hn1 hak z8 z9
                  by_cases hlow : am < l
                  · have z6 : decide (am < l) = true := decide_eq_true hlow
                    rw [if_pos hlow] at haw
                    have HAW2 := Lib.hid haw
                    clear haw hlow
                    go_wp2_with fail
                    go_ret3
                    exact ⟨⟨-1, 0, rfl, HAW2.out⟩, HB5.out⟩
                  · have z6 : decide (am < l) = false := decide_eq_false hlow
                    rw [if_neg hlow] at haw
                    have HAW2 := Lib.hid haw
                    clear haw hlow
                    go_wp2_with fail
                    go_ret3
                    exact ⟨⟨wh, l, rfl, HAW2.out⟩, HB5.out⟩
                | x :: y :: r, hlen, hdl, r5, HAW =>
                  obtain ⟨_, _, hpe, _, hrx⟩ := r5.bid hdl (k := 0) (by simp)
                  cases hpe
                  obtain ⟨_, _, hpe, _, hry⟩ := r5.bid hdl (k := 1) (by simp)
                  cases hpe
                  have hrx2 : w5.rangeAt g 0 (bL x) := by simpa using hrx
                  have hry2 : w5.rangeAt g 34 (bL y) := by simpa using hry
                  obtain ⟨am, ham⟩ : ∃ z, z = x.amount := ⟨_, rfl⟩
                  obtain ⟨am2, ham2⟩ : ∃ z, z = y.amount := ⟨_, rfl⟩
                  obtain ⟨wh, hwh⟩ : ∃ z, z = x.who := ⟨_, rfl⟩
                  have c1 : w5.cell? ⟨g, 1, none⟩ = some (.int .i64 am) := by rw [ham]; exact range_amount hrx2
                  have c0 : w5.cell? ⟨g, 0, none⟩ = some (.int .i64 wh) := by rw [hwh]; exact range_who hrx2
                  have c35 : w5.cell? ⟨g, 35, none⟩ = some (.int .i64 am2) := by rw [ham2]; exact range_amount hry2
                  have hn2 : 1 < acc.length := by rw [← hlen]; simp
                  have haw := HAW.out
                  rw [soldOf_two, ← ham, ← ham2, ← hwh] at haw
                  have y1 : decide ((1 : Int) < (acc.length : Int)) = true := decide_eq_true (by omega)
                  have y2 : decide (1 < acc.length) = true := decide_eq_true hn2
                  clear hrx hrx2 hry hry2 ham ham2 hwh r5 hdl hlen
                  by_cases hlow : am < l
                  · have z6 : decide (am < l) = true := decide_eq_true hlow
                    rw [if_pos hlow] at haw
                    have HAW2 := Lib.hid haw
                    clear haw hlow
                    go_wp2_with fail
                    go_ret3
                    exact ⟨⟨-1, 0, rfl, HAW2.out⟩, HB5.out⟩
                  · have z6 : decide (am < l) = false := decide_eq_false hlow
                    rw [if_neg hlow] at haw
                    have HAW2 := Lib.hid haw
                    clear haw hlow
                    go_wp2_with fail
                    go_ret3
                    exact ⟨⟨wh, max l am2, rfl, HAW2.out⟩, HB5.out⟩
end Go.Proofs.YteikbbdkpeecaaaDoor
