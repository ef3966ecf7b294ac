/- Walk: team.Right: who has a seal that is right. -/
import Derived.Test.YtkioddmhjbaleaaDoorSealMem
import Derived.Test.YtkioddmhjbaleaaDoorHeadA
import Derived.Deep.CutBlock
import Derived.Deep.CutRange
namespace Go.Proofs.YtkioddmhjbaleaaDoor
open Go.RowKit
set_option linter.unusedVariables false
set_option linter.unusedSimpArgs false
def markD (keys : List (List UInt8)) (zi : Int) (dr dm : List UInt8) (i : Nat) : List UInt8 := macOf (keys.getD i []) (markB zi ++ (dr ++ dm))
def selR (keys : List (List UInt8)) (zi : Int) (dr dm : List UInt8) (ss : List En) (i : Nat) : Bool := decide ((⟨(i : Int), markD keys zi dr dm i⟩ : En) ∈ ss)
def rightL (keys : List (List UInt8)) (zi : Int) (dr dm : List UInt8) (ss : List En) (k : Nat) : List Int := ((List.range k).filter (selR keys zi dr dm ss)).map (fun i : Nat => (i : Int))
theorem rightL_zero (keys : List (List UInt8)) (zi : Int) (dr dm : List UInt8) (ss : List En) : rightL keys zi dr dm ss 0 = [] := rfl
theorem rightL_yes {keys : List (List UInt8)} {zi : Int} {dr dm : List UInt8} {ss : List En} {k : Nat} (h : selR keys zi dr dm ss k = true) : rightL keys zi dr dm ss (k + 1) = rightL keys zi dr dm ss k ++ [(k : Int)] := by
  unfold rightL; rw [List.range_succ, List.filter_append, List.map_append]; simp [h]
theorem rightL_no {keys : List (List UInt8)} {zi : Int} {dr dm : List UInt8} {ss : List En} {k : Nat} (h : selR keys zi dr dm ss k = false) : rightL keys zi dr dm ss (k + 1) = rightL keys zi dr dm ss k := by
  unfold rightL; rw [List.range_succ, List.filter_append, List.map_append]; simp [h]
theorem rightL_len (keys : List (List UInt8)) (zi : Int) (dr dm : List UInt8) (ss : List En) (k : Nat) : (rightL keys zi dr dm ss k).length ≤ k := by
  unfold rightL; rw [List.length_map]; have := List.length_filter_le (selR keys zi dr dm ss) (List.range k); rw [List.length_range] at this; exact this
theorem yieldsIf_bldseal {ops : Array Oper} {S : World → Prop} {op : Oper} {a : Act} (hw : Region.wanted op (yielded ops a.tmps) = true) (x y : Operand) (ho : op.op = .build 80 #[(0, x), (1, y)]) (z : Int) (d : List UInt8) (hd : d.length = 32) (hx : a.eval x = .int .i64 z) (hy : a.eval y = .agg (dV d)) : YieldsIf Tryd.prog ops S op (.agg (eV z d)) a :=
  .inl ⟨hw, fun w _ => by
    unfold execOp
    simp only [ho, List.map_toArray, List.map_cons, List.map_nil, hx, hy, Sem.run_bind, run_build_seal z d hd w, Result.andThen_ok, Sem.run_pure]⟩
theorem push_rdI (W : World) (x : Int) : Rd (W.alloc (.cells #[.int .i64 x] 3)) (some ⟨W.heap.size, 0, none⟩) 3 ([x].map vI) := Rd.new W #[.int .i64 x] 3
theorem one_intsR (xs : List Int) : ∀ u ∈ xs.map vI, u.oneCell' = true := by
  intro u hu
  obtain ⟨x, _, rfl⟩ := List.mem_map.1 hu
  rfl
theorem info_intR : (Tryd.prog.info? 3).map (fun i => (i.zero, i.size, i.bytes)) = some (some (.int .i64 0), 1, 8) := by kernel_rfl
def RetI (w : World) (xs : List Int) (e : Ending) (w' : World) : Prop :=
  ∃ a cap, e = .returned (.slice a xs.length cap) ∧ w'.ownsRow w.heap.size 3 1 (.slice a xs.length cap) xs.length (xs.map vI) ∧ Below w.heap.size w w'
set_option maxRecDepth 20000 in
set_option maxHeartbeats 4000000 in
theorem Right_calls (keys : List (List UInt8)) (n : Nat) (hn : keys.length = n) (hn1 : n ≤ 1000) (hku : ∀ r ∈ keys, r.length ≤ 140737488355328) (ka : Option Addr) (kc ke : Nat) (kvs : List Value) (zi : Int) (dr dm dt : List UInt8) (hr : dr.length = 32) (hm : dm.length = 32) (ht : dt.length = 32) (ss : List En) (hss : ∀ e ∈ ss, e.val.length = 32) (sa : Option Addr) (sc se sn : Nat) (hsn : ss.length = sn) (hsb : sn ≤ 1000) (w : World) (hk : Rd w ka ke kvs) (hab : AreB (fun _ _ => True) w keys kvs) (hs : Rd w sa se (cellsE ss)) (hro : RoundsAt w) :
    Calls Tryd.prog 69 #[.slice ka n kc, .agg (hdV zi dr dm dt), .slice sa sn sc] w (RetI w (rightL keys zi dr dm ss n)) := by
  obtain ⟨X, hX⟩ : ∃ z, z = w.heap.size := ⟨_, rfl⟩
  obtain ⟨w1, hw1⟩ : ∃ z, z = w.alloc (.cells (hdV zi dr dm dt) 75) := ⟨_, rfl⟩
  have HB1 := Lib.hid (show Below w.heap.size w w1 by rw [hw1]; exact (Below.refl _ w).alloc (Nat.le_refl _) _)
  have GX := Lib.hid (show w1.heap[X]? = some (.cells (hdV zi dr dm dt) 75 (0, 0)) by rw [hw1, hX]; exact heap_alloc_new _ _)
  have FX := Lib.hid hX
  have FW := Lib.hid hw1
  have HKN := Lib.hid hn
  have HKU := Lib.hid hku
  have HRK := Lib.hid hk
  have HAB := Lib.hid hab
  have RS := Lib.hid hs
  have RO := Lib.hid hro
  have LR := Lib.hid hr
  have LM := Lib.hid hm
  have LT := Lib.hid ht
  have HSS := Lib.hid hss
  have HSN := Lib.hid hsn
  have HSB := Lib.hid hsb
  clear hX hw1 hn hku hk hab hs hro hr hm ht hss hsn hsb
  go_enter Tryd.func69, Tryd.ntmps69
  go_upto_region 1 with fail
  rw [← FX.out, ← FW.out]
  go_wp2_with fail
  go_loopw [7, 8, 9, 10, 13] (fun t u v y i wr => ∃ (k : Nat) (av : Option Addr) (cp m : Nat), k ≤ n ∧ i = .int .i64 k ∧ t = .slice av m cp ∧ m = (rightL keys zi dr dm ss k).length ∧ wr.ownsRow w1.heap.size 3 1 (.slice av m cp) m ((rightL keys zi dr dm ss k).map vI) ∧ Below w1.heap.size w1 wr) (fun _ _ _ _ i _ => n - (intOf i).toNat)
  case atStart => exact ⟨0, none, 0, 0, Nat.zero_le _, rfl, rfl, rfl, (by rw [rightL_zero]; exact World.ownsRow_nil _ _ _ _), Below.refl _ _⟩
  case round =>
    obtain ⟨k, av, cp, m, hk, rfl, rfl, hm1, hown, hbl⟩ := hrel
    have hml := rightL_len keys zi dr dm ss k
    rw [← hm1] at hml
    have hbs := hbl.size
    by_cases hlt : k < n
    · have hkl : k < keys.length := by have := HKN.out; omega
      have hvl : k < kvs.length := by rw [HAB.out.1]; exact hkl
      have hBW : Below w.heap.size w wr := HB1.out.trans (hbl.mono HB1.out.size)
      obtain ⟨kb, ko, rfl, hkb, hkc⟩ := HRK.out.cell (k := k) hvl
      have ck := (hBW.cell (p := ⟨kb, ko + k, none⟩) hkb).trans (hkc k hvl)
      obtain ⟨ra, rc, re, hrv, hrr, _, _⟩ := HAB.out.2 k hkl hvl
      rw [hrv] at ck
      have hgd : keys.getD k [] = keys[k] := by rw [List.getD_eq_getElem?_getD, List.getElem?_eq_getElem hkl]; rfl
      have RRW := Lib.hid (hrr.below hBW)
      have KLB := HKU.out _ (List.getElem_mem hkl)
      obtain ⟨KY, hKY⟩ : ∃ z, z = keys[k] := ⟨_, rfl⟩
      rw [← hKY] at ck hgd RRW KLB
      obtain ⟨MK, hMK⟩ : ∃ z, z = markD keys zi dr dm k := ⟨_, rfl⟩
      have MKE : macOf KY (markB zi ++ (dr ++ dm)) = MK := by rw [hMK]; unfold markD; rw [hgd]
      have MKL := Lib.hid (show MK.length = 32 by rw [← MKE]; exact macOf_length _ _)
      have HSEL := Lib.hid (show selR keys zi dr dm ss k = decide ((⟨(k : Int), MK⟩ : En) ∈ ss) by rw [hMK]; rfl)
      obtain ⟨bb, hbb⟩ : ∃ b, b = decide ((⟨(k : Int), MK⟩ : En) ∈ ss) := ⟨_, rfl⟩
      rw [← hbb] at HSEL
      have HBB := Lib.hid hbb
      have hGX := (hbl.block X (lt_of_heap GX.out)).trans GX.out
      have GXR := Lib.hid hGX
      have LXR := Lib.hid (lt_of_heap hGX)
      obtain ⟨L, hL⟩ : ∃ z, z = KY.length := ⟨_, rfl⟩
      have CM : Hid (∀ wz, Below wr.heap.size wr wz → Calls Tryd.prog 36 #[.slice ra L rc, .agg (hdV zi dr dm dt)] wz fun e w' => e = .returned (.agg (dV MK)) ∧ Below wz.heap.size wz w') := Lib.hid fun wz hz => by
        have := Mark_calls KY KLB ra rc re zi dr dm dt LR.out LM.out LT.out wz (RRW.out.below hz) (RO.out.at_ (hBW.trans (hz.mono hBW.size)))
        rw [MKE] at this
        rw [hL]; exact this
      rw [← hL] at ck
      have BW := Lib.hid hBW
      have OW := Lib.hid hown
      have BL := Lib.hid hbl
      have HM1 := Lib.hid hm1
      clear hrv hrr hkc hgd hKY hMK MKE hbb hGX KLB hBW hown hbl hm1 RRW hL hkb
      go_wp2_with ((refine ld_headG rfl (.tmp 4) rfl X (by rfl) zi dr dm dt LR.out LM.out LT.out _ _ GXR.out ?_); simp only [Act.put, List.setIfInBounds_toArray, List.set_cons_zero, List.set_cons_succ])
      clear ck
      refine (CM.out wr (Below.refl _ _)).mono ?_
      rintro e wa ⟨rfl, hb⟩
      obtain ⟨U, hU⟩ : ∃ z, z = wa.heap.size := ⟨_, rfl⟩
      obtain ⟨wx, hwx⟩ : ∃ z, z = wa.alloc (.cells (dV MK) 23) := ⟨_, rfl⟩
      have HU := Lib.hid hU
      have HWX := Lib.hid hwx
      have GU := Lib.hid (show wx.heap[U]? = some (.cells (dV MK) 23 (0, 0)) by rw [hwx, hU]; exact heap_alloc_new _ _)
      have hbx : Below wr.heap.size wr wx := by rw [hwx]; exact hb.alloc hb.size _
      have BX := Lib.hid (show Below w.heap.size w wx from BW.out.trans (hbx.mono BW.out.size))
      have BX1 := Lib.hid (show Below w1.heap.size w1 wx from BL.out.trans (hbx.mono hbs))
      have OX := Lib.hid (own_below OW.out hbx)
      have hbs1 := BX1.out.size
      have RU := Lib.hid (range_of_row GU.out)
      clear hU hwx hb hbx CM
      go_wp2_with (first
        | ((refine st_new rfl (.tmp 10) (.tmp 20) rfl MK MKL.out (by rfl) _ _ (by rfl) (by rfl) ?_); rw [← HU.out, ← HWX.out])
        | ((refine ld_digG rfl (.tmp 10) rfl U 0 (by rfl) MK MKL.out RU.out ?_); simp only [Act.put, List.setIfInBounds_toArray, List.set_cons_zero, List.set_cons_succ])
        | ((refine bld_seal rfl (.tmp 22) (.tmp 23) rfl (k : Int) MK MKL.out (by rfl) (by rfl) ?_); simp only [Act.put, List.setIfInBounds_toArray, List.set_cons_zero, List.set_cons_succ]))
      refine (ContainsS_calls ss HSS.out ⟨(k : Int), MK⟩ MKL.out sa sc se sn HSN.out wx (RS.out.below BX.out) (by have := HSB.out; omega)).mono ?_
      rintro e we ⟨rfl, hb⟩
      rw [← HBB.out]
      have BE1 := Lib.hid (show Below w1.heap.size w1 we from BX1.out.trans (hb.mono hbs1))
      have O1 := Lib.hid (own_below OX.out hb)
      have hbs2 := BE1.out.size
      clear hb
      cases bb with
      | false =>
        go_wp2_with fail
        go_roundw
        case rel => exact ⟨k + 1, av, cp, m, by omega, by go_num, rfl, by rw [rightL_no HSEL.out]; exact HM1.out, by rw [rightL_no HSEL.out]; exact O1.out, BE1.out⟩
        case measure => simp [intOf] <;> omega
      | true =>
        go_wp2_with (at_builtin; refine appAllw 57 3 (.int .i64 0) 1 8 Tryd.underlying57 info_intR rfl (by omega) rfl (.tmp 26) (.tmp 28) (by rfl) w1.heap.size (.slice av m cp) m _ (by rfl) (O1.out.alloc _) (some ⟨we.heap.size, 0, none⟩) 1 1 ([(k : Int)].map vI) (by rfl) _ (push_rdI we (k : Int)) (by simp) (one_intsR _) (by omega) (by omega) (by rw [World.size_alloc]; omega) ?_; intro av7 cp7 w7 hown7 hb7; rw [← List.map_append] at hown7; have OWN7 := Lib.hid hown7; have B7 := Lib.hid hb7; clear hown7 hb7)
        have HM2 : m + 1 = (rightL keys zi dr dm ss (k + 1)).length := by rw [rightL_yes HSEL.out, List.length_append, ← HM1.out]; rfl
        have O9 : w7.ownsRow w1.heap.size 3 1 (.slice av7 (m + 1) cp7) (m + 1) ((rightL keys zi dr dm ss (k + 1)).map vI) := by rw [rightL_yes HSEL.out]; exact OWN7.out
        have B9 : Below w1.heap.size w1 w7 := BE1.out.trans ((((Below.refl _ _).alloc (Nat.le_refl _) _ : Below we.heap.size we (we.alloc (.cells #[.int .i64 (k : Int)] 3))).mono hbs2).trans B7.out)
        go_roundw
        case rel => exact ⟨k + 1, av7, cp7, m + 1, by omega, by go_num, rfl, HM2, O9, B9⟩
        case measure => simp [intOf] <;> omega
    · obtain rfl : k = n := by omega
      have OW := Lib.hid hown
      have BL := Lib.hid hbl
      have HM1 := Lib.hid hm1
      clear hown hbl hm1
      go_wp2_with fail
      go_ret
      have e1 := HM1.out
      subst e1
      exact ⟨av, cp, rfl, own_base OW.out HB1.out.size, HB1.out.trans (BL.out.mono HB1.out.size)⟩
end Go.Proofs.YtkioddmhjbaleaaDoor
/- Walks: team.Enough, team.Both, and what it hands slices.DeleteFunc. -/
namespace Go.Proofs.YtkioddmhjbaleaaDoor
open Go.RowKit
set_option linter.unusedVariables false
set_option linter.unusedSimpArgs false
theorem filter_take_succI (zs : List Int) (p : Int → Bool) (j : Nat) (h : j < zs.length) : (zs.take (j + 1)).filter p = (zs.take j).filter p ++ (if p zs[j] then [zs[j]] else []) := by
  rw [List.take_succ_eq_append_getElem h, List.filter_append]
  congr 1
  by_cases c : p zs[j] = true
  · simp [c]
  · simp [c]
/-- the list that the closure looks into -/
def OtherAt (w : World) (O : Nat) (other : List Int) : Prop := ∃ (oa : Option Addr) (oc oe : Nat), w.heap[O]? = some (.cells #[.slice oa other.length oc] 57 (0, 0)) ∧ Rd w oa oe (other.map vI) ∧ other.length ≤ 1000
theorem OtherAt.below {w w' : World} {O : Nat} {other : List Int} (h : OtherAt w O other) (hb : Below w.heap.size w w') : OtherAt w' O other := by
  obtain ⟨oa, oc, oe, h1, h2, h3⟩ := h
  exact ⟨oa, oc, oe, (hb.block O (lt_of_heap h1)).trans h1, h2.below hb, h3⟩
def OtherB (w : World) (B O : Nat) (other : List Int) : Prop := ∃ (oa : Option Addr) (oc oe : Nat), w.heap[O]? = some (.cells #[.slice oa other.length oc] 57 (0, 0)) ∧ Rd w oa oe (other.map vI) ∧ other.length ≤ 1000 ∧ O < B ∧ ∀ x, oa = some x → x.block < B
theorem OtherB.at_ {w w' : World} {B O : Nat} {other : List Int} (h : OtherB w B O other) (hb : Below B w w') : OtherAt w' O other := by
  obtain ⟨oa, oc, oe, h1, h2, h3, h4, h5⟩ := h
  exact ⟨oa, oc, oe, (hb.block O h4).trans h1, h2.of_block fun x hx _ => hb.block _ (h5 x hx), h3⟩
theorem own_someI {w : World} {base : Nat} {e : TypeId} {size : Nat} {a : Option Addr} {n cap : Nat} {xs : List Value} (h : w.ownsRow base e size (.slice a n cap) n xs) (hn : 0 < n) : ∃ g, a = some ⟨g, 0, none⟩ ∧ base ≤ g ∧ g < w.heap.size := by
  rcases h.2 with ⟨h1, h2⟩ | ⟨g, cap', cur, hv, hg, hh, _⟩
  · omega
  · simp only [Value.slice.injEq] at hv
    exact ⟨g, hv.1, hg, lt_of_heap hh⟩
theorem Both1_calls (O : Nat) (other : List Int) (x : Int) (w : World) (h : OtherAt w O other) :
    Calls Tryd.prog 71 #[.int .i64 x, .pointer (some ⟨O, 0, none⟩)] w fun e w' => e = .returned (.bool (!(decide (x ∈ other)))) ∧ Below w.heap.size w w' := by
  obtain ⟨oa, oc, oe, h1, h2, h3⟩ := h
  have c0 := cell_of_row w O 0 _ _ _ h1
  have c1 : w.cell? ⟨O, 0, none⟩ = some (.slice oa other.length oc) := by rw [c0]; rfl
  obtain ⟨bb, hbb⟩ : ∃ b, b = decide (x ∈ other) := ⟨_, rfl⟩
  rw [← hbb]
  have HBB := Lib.hid hbb
  have H2 := Lib.hid h2
  clear h1 c0 hbb h2
  go_enter Tryd.func71, Tryd.ntmps71
  go_wp2_with fail
  refine (ContainsI_calls other x oa oc oe other.length rfl _ H2.out (by omega)).mono ?_
  rintro e w' ⟨rfl, rfl⟩
  rw [← HBB.out]
  go_wp2_with fail
  go_ret
  exact ⟨rfl, Below.refl _ _⟩
def IdxPost (xs other : List Int) (m : Int) : Prop := (m = -1 ∧ ∀ x ∈ xs, x ∈ other) ∨ ∃ k : Nat, m = (k : Int) ∧ (∀ x ∈ xs.take k, x ∈ other) ∧ ∃ h : k < xs.length, xs[k] ∉ other
set_option maxHeartbeats 1000000 in
theorem IdxFI_calls (O : Nat) (other xs : List Int) (n : Nat) (hn : xs.length = n) (hn1 : n ≤ 1000) (a : Option Addr) (ca ea : Nat) (w : World) (ha : Rd w a ea (xs.map vI)) (hO : OtherAt w O other) :
    Calls Tryd.prog 111 #[.slice a n ca, .func (.func 71) #[] #[.pointer (some ⟨O, 0, none⟩)]] w fun e w' => ∃ m : Int, e = .returned (.int .i64 m) ∧ IdxPost xs other m ∧ Below w.heap.size w w' := by
  have HA := Lib.hid ha
  have HO := Lib.hid hO
  clear ha hO
  go_enter Tryd.func111, Tryd.ntmps111
  go_wp2_with fail
  go_loopw [8] (fun i wr => ∃ k : Nat, k ≤ n ∧ i = .int .i64 k ∧ (∀ x ∈ xs.take k, x ∈ other) ∧ Below w.heap.size w wr) (fun i _ => n - (intOf i).toNat)
  case atStart => exact ⟨0, Nat.zero_le _, rfl, by simp, Below.refl _ _⟩
  case round =>
    obtain ⟨k, hk, rfl, ht, hbl⟩ := hrel
    have Ht := Lib.hid ht
    have BL := Lib.hid hbl
    clear ht hbl
    by_cases hlt : k < n
    · have hkx : k < xs.length := by omega
      obtain ⟨ba, oa, rfl, hba, hca⟩ := HA.out.cell (k := k) (by rw [List.length_map]; exact hkx)
      have c1 := (BL.out.cell (p := ⟨ba, oa + k, none⟩) hba).trans (hca k (by rw [List.length_map]; exact hkx))
      rw [List.getElem_map] at c1
      obtain ⟨x, hx⟩ : ∃ x, x = xs[k] := ⟨_, rfl⟩
      rw [← hx] at c1
      unfold vI at c1
      have HX := Lib.hid hx
      have CB := Lib.hid (Both1_calls O other x wr (HO.out.below BL.out))
      clear hca hx hba
      by_cases hxo : x ∈ other
      · have hd : decide (x ∈ other) = true := decide_eq_true hxo
        rw [hd] at CB
        have HXO := Lib.hid hxo
        clear hxo hd
        go_wp2_with fail
        refine CB.out.mono ?_
        rintro e wn ⟨rfl, hb⟩
        have BN := Lib.hid (BL.out.trans (hb.mono BL.out.size))
        clear hb CB c1
        go_wp2_with fail
        go_roundw
        case rel => exact ⟨k + 1, by omega, by go_num, (by rw [List.take_succ_eq_append_getElem hkx]; intro y h; rcases List.mem_append.1 h with h | h; exact Ht.out y h; rw [List.mem_singleton.1 h, ← HX.out]; exact HXO.out), BN.out⟩
        case measure => simp [intOf] <;> omega
      · have hd : decide (x ∈ other) = false := decide_eq_false hxo
        rw [hd] at CB
        have HXO := Lib.hid hxo
        clear hxo hd
        go_wp2_with fail
        refine CB.out.mono ?_
        rintro e wn ⟨rfl, hb⟩
        have BN := Lib.hid (BL.out.trans (hb.mono BL.out.size))
        clear hb CB c1
        go_wp2_with fail
        go_ret
        exact ⟨(k : Int), rfl, .inr ⟨k, rfl, Ht.out, hkx, by rw [← HX.out]; exact HXO.out⟩, BN.out⟩
    · obtain rfl : k = n := by omega
      go_wp2_with fail
      go_ret
      refine ⟨-1, rfl, .inl ⟨rfl, ?_⟩, BL.out⟩
      have := Ht.out
      rwa [List.take_of_length_le (by omega)] at this
def zerosI (n : Nat) : List Value := (Builtin.zeroCells (Value.int .i64 0).cells n).toList
theorem zerosI_length (n : Nat) : (zerosI n).length = n := by
  unfold zerosI Builtin.zeroCells
  simp [Value.cells]
theorem zerosI_one (n : Nat) : ∀ v ∈ zerosI n, v.oneCell' = true := by
  intro v hv
  unfold zerosI Builtin.zeroCells at hv
  simp only [Array.toList_map, List.mem_map] at hv
  obtain ⟨i, _, rfl⟩ := hv
  have : (Value.int .i64 0).cells = #[.int .i64 0] := rfl
  simp [this, Nat.mod_one, Value.oneCell']
theorem run_clearI (w : World) (ty : TypeId) (b o n c : Nat) (hn : 0 < n) (ht : w.there b o n) :
    (Builtin.clear_ #[57] ty #[.slice (some ⟨b, o, none⟩) n c]).run Tryd.prog w = .ok (.tuple #[]) (w.setCells b o (zerosI n)) := by
  have hl := zerosI_length n
  have hst := run_storeCells_cells (P := Tryd.prog) b o (zerosI n) 0 w (fun j hj => by rw [Nat.add_zero]; exact (ht j (by omega)).1) (fun j hj => by rw [Nat.add_zero]; exact (ht j (by omega)).2) (zerosI_one n)
  simp only [Nat.add_zero] at hst
  obtain ⟨m, rfl⟩ : ∃ m, n = m + 1 := ⟨n - 1, by omega⟩
  have hz : ∀ w : World, (zeroValue 3).run Tryd.prog w = .ok (.int .i64 0) w := fun w => Tryd.zeroValue3 w
  unfold zerosI at hst
  simp [Builtin.clear_, run_underlying Tryd.underlying57, hz, hst, zerosI]
theorem own_thereI {w : World} {base g cap : Nat} {Y : List Value} {n : Nat} (h : w.ownsRow base 3 1 (.slice (some ⟨g, 0, none⟩) n cap) n Y) (o m : Nat) (hm : o + m ≤ Y.length) : w.there g o m := by
  intro j hj
  have := own_cellS h (k := o + j) (by omega)
  exact ⟨by rw [this.1]; rfl, this.2⟩
def DelRetI (w : World) (base m : Nat) (e : Ending) (w' : World) : Prop := ∃ a c, e = .returned (.slice a m c) ∧ Below base w w'
set_option maxRecDepth 20000 in
set_option maxHeartbeats 4000000 in
theorem DelI_calls (O : Nat) (other xs : List Int) (n : Nat) (hn : xs.length = n) (hn1 : n ≤ 1000) (base : Nat) (a : Option Addr) (cap : Nat) (w : World) (hO : OtherB w base O other) (hb0 : base ≤ w.heap.size) (hown : w.ownsRow base 3 1 (.slice a n cap) n (xs.map vI)) :
    Calls Tryd.prog 70 #[.slice a n cap, .func (.func 71) #[] #[.pointer (some ⟨O, 0, none⟩)]] w (DelRetI w base (xs.filter fun x => decide (x ∈ other)).length) := by
  obtain ⟨r, hr⟩ : ∃ r, r = (xs.filter fun x => decide (x ∈ other)).length := ⟨_, rfl⟩
  rw [← hr]
  have FR := Lib.hid hr
  clear hr
  have hcp := own_cappW hown
  have IN := IdxFI_calls O other xs n hn hn1 a cap _ w (Rd.of_own hown) (hO.at_ (Below.refl _ _))
  have HIN := Lib.hid IN
  have HO := Lib.hid hO
  have HOWN := Lib.hid hown
  have HN := Lib.hid hn
  clear IN hO hown hn
  go_enter Tryd.func70, Tryd.ntmps70
  go_wp2_with fail
  refine HIN.out.mono ?_
  rintro e w2 ⟨m, rfl, hm, hb2⟩
  have O2 := Lib.hid (own_below HOWN.out hb2)
  have B2 := Lib.hid (hb2.mono hb0)
  have hs2 := hb2.size
  clear HIN hb2
  rcases hm with ⟨rfl, hall⟩ | ⟨k1, rfl, hk2, hk3, hk4⟩
  · have hf : (xs.filter fun x => decide (x ∈ other)) = xs := List.filter_eq_self.2 fun x hx => decide_eq_true (hall x hx)
    obtain rfl : r = n := by rw [FR.out, hf, HN.out]
    clear hf hall
    go_wp2_with fail
    go_ret
    exact ⟨a, cap, rfl, B2.out⟩
  · have hkn : k1 < n := by have := HN.out; omega
    obtain ⟨g, rfl, hgb, hgl⟩ := own_someI HOWN.out (by omega)
    have hgl2 : g < w2.heap.size := by omega
    obtain ⟨n2, hn2⟩ : ∃ n2, n2 = k1 + 1 := ⟨_, rfl⟩
    have q1 : IntKind.i64.wrap ((k1 : Int) + 1) = (n2 : Int) := by rw [IntWalk.i64_in _ (by omega)]; omega
    have q2 : ((k1 : Int) == -1) = false := by rw [beq_eq_false_iff_ne]; omega
    have hc0 : ((xs.take n2).filter fun x => decide (x ∈ other)).length = k1 := by
      rw [hn2, filter_take_succI xs _ k1 hk3, decide_eq_false hk4, List.filter_eq_self.2 (fun x hx => decide_eq_true (hk2 x hx))]
      simp
      omega
    have HC0 := Lib.hid hc0
    have HN2 := Lib.hid hn2
    have HGB := Lib.hid hgb
    clear hk2 hk3 hk4 hc0 hn2 hgb
    go_wp2_with fail
    go_loopw [5, 6] (fun iv jv wr => ∃ (i j : Nat) (Y : List Value), iv = .int .i64 (i : Int) ∧ jv = .int .i64 (j : Int) ∧ i < j ∧ j ≤ n ∧ Hid (Y.length = n) ∧ Hid (((xs.take j).filter fun x => decide (x ∈ other)).length = i) ∧ Hid (Y.drop j = (xs.map vI).drop j) ∧ Hid (wr.ownsRow base 3 1 (.slice (some ⟨g, 0, none⟩) n cap) n Y) ∧ Hid (Below base w wr)) (fun _ jv _ => n - (intOf jv).toNat)
    case atStart => exact ⟨k1, n2, xs.map vI, rfl, rfl, by have := HN2.out; omega, by have := HN2.out; omega, Lib.hid (by rw [List.length_map]; exact HN.out), HC0, Lib.hid rfl, O2, B2⟩
    case round =>
      obtain ⟨i, j, Y, rfl, rfl, hij, hjn, YL, YC, YR, YO, HBL⟩ := hrel
      have hgA := (YO.out.lt g rfl).2
      have hbA : base ≤ wr.heap.size := Nat.le_of_lt (Nat.lt_of_le_of_lt HGB.out hgA)
      by_cases hlt : j < n
      · have hjz : j < xs.length := by rw [HN.out]; exact hlt
        have hjY : j < Y.length := by rw [YL.out]; exact hlt
        obtain ⟨x, hx⟩ : ∃ x, x = xs[j] := ⟨_, rfl⟩
        have h1 := List.drop_eq_getElem_cons hjY
        have h2 := List.drop_eq_getElem_cons (show j < (xs.map vI).length by rw [List.length_map]; exact hjz)
        have h3 := YR.out
        rw [h1, h2, List.getElem_map, ← hx] at h3
        have hYj := (List.cons.inj h3).1
        have HYD := Lib.hid (List.cons.inj h3).2
        have c1 := (own_cellS YO.out hjY).1
        rw [hYj] at c1
        unfold vI at c1
        have hft := filter_take_succI xs (fun x => decide (x ∈ other)) j hjz
        rw [← hx] at hft
        have HFT := Lib.hid hft
        have CB := Lib.hid (Both1_calls O other x wr (HO.out.at_ HBL.out))
        have j0 : (0 : Int) ≤ (j : Int) := by omega
        have j1 : (j : Int) < (n : Int) := by omega
        have i0 : (0 : Int) ≤ (i : Int) := by omega
        have i1 : (i : Int) < (n : Int) := by omega
        have e4 : IntKind.i64.wrap ((j : Int) + 1) = (j : Int) + 1 := IntWalk.i64_in _ (by omega)
        have e5 : IntKind.i64.wrap ((i : Int) + 1) = (i : Int) + 1 := IntWalk.i64_in _ (by omega)
        clear h1 h2 h3 hYj hft hx
        cases hd : decide (x ∈ other) with
        | false =>
          rw [hd] at CB HFT
          have HF := Lib.hid (show (xs.take (j + 1)).filter (fun x => decide (x ∈ other)) = (xs.take j).filter (fun x => decide (x ∈ other)) by rw [HFT.out]; simp)
          clear hd HFT
          go_wp2_with fail
          refine CB.out.mono ?_
          rintro e wn ⟨rfl, hb⟩
          have BN := Lib.hid (HBL.out.trans (hb.mono hbA))
          have ON := Lib.hid (own_below YO.out hb)
          clear hb CB c1
          go_wp2_with fail
          go_roundw
          case rel => exact ⟨i, j + 1, Y, rfl, by go_num, by omega, by omega, YL, Lib.hid (by rw [HF.out]; exact YC.out), HYD, ON, BN⟩
          case measure => simp [intOf]; omega
        | true =>
          rw [hd] at CB HFT
          have HF := Lib.hid (show ((xs.take (j + 1)).filter (fun x => decide (x ∈ other))).length = i + 1 by rw [HFT.out, List.length_append, YC.out]; rfl)
          clear hd HFT
          go_wp2_with fail
          refine CB.out.mono ?_
          rintro e wn ⟨rfl, hb⟩
          have BN := Lib.hid (HBL.out.trans (hb.mono hbA))
          have ON := Lib.hid (own_below YO.out hb)
          have c2 := own_cellS ON.out (k := i) (by rw [YL.out]; omega)
          have c2a := c2.1
          have c2b := c2.2
          obtain ⟨wE, hwE⟩ : ∃ z, z = wn.setCell ⟨g, i, none⟩ (.int .i64 x) := ⟨_, rfl⟩
          have OE := Lib.hid (show wE.ownsRow base 3 1 (.slice (some ⟨g, 0, none⟩) n cap) n (Y.set i (.int .i64 x)) by rw [hwE]; exact own_setS ON.out i _)
          have BE := Lib.hid (show Below base w wE by rw [hwE]; exact BN.out.setCell (p := ⟨g, i, none⟩) HGB.out _)
          have HYS := Lib.hid (show (Y.set i (.int .i64 x)).drop (j + 1) = (xs.map vI).drop (j + 1) by rw [List.drop_set_of_lt (by omega)]; exact HYD.out)
          have HWE := Lib.hid hwE
          clear hb CB c1 c2 hwE
          go_wp2_with fail
          rw [← HWE.out]
          go_roundw
          case rel => exact ⟨i + 1, j + 1, Y.set i (.int .i64 x), by go_num, by go_num, by omega, by omega, Lib.hid (by rw [List.length_set]; exact YL.out), HF, HYS, OE, BE⟩
          case measure => simp [intOf]; omega
      · obtain rfl : n = j := by omega
        have yc := YC.out
        rw [List.take_of_length_le (by rw [HN.out]; exact Nat.le_refl _)] at yc
        obtain rfl : i = r := by rw [FR.out, yc]
        have i0 : (0 : Int) ≤ (i : Int) := by omega
        have i1 : (i : Int) ≤ (n : Int) := by omega
        have i2 : (i : Int) ≤ (cap : Int) := by omega
        have i3 : ((n : Int) - (i : Int)).toNat = n - i := by omega
        have i4 : ((cap : Int) - (i : Int)).toNat = cap - i := by omega
        have i5 : i ≠ cap := by omega
        have i6 : ¬ cap = i := by omega
        have i7 : (i : Int) ≠ (cap : Int) := by omega
        obtain ⟨wE, hwE⟩ : ∃ z, z = wr.setCells g i (zerosI (n - i)) := ⟨_, rfl⟩
        have LE := Lib.hid (show Below base w wE by rw [hwE]; exact below_setCells _ _ HBL.out HGB.out)
        have hcl := run_clearI wr 0 g i (n - i) (cap - i) (by omega) (own_thereI YO.out i (n - i) (by rw [YL.out]; omega))
        rw [← hwE] at hcl
        clear yc hwE
        go_wp2_with fail
        go_ret
        exact ⟨some ⟨g, 0, none⟩, cap, rfl, LE.out⟩
set_option maxRecDepth 20000 in
set_option maxHeartbeats 1000000 in
theorem Enough_calls (keys : List (List UInt8)) (n : Nat) (hn : keys.length = n) (hn1 : n ≤ 1000) (hku : ∀ r ∈ keys, r.length ≤ 140737488355328) (ka : Option Addr) (kc ke : Nat) (kvs : List Value) (need : Int) (zi1 : Int) (dr1 dm1 dt1 : List UInt8) (hr1 : dr1.length = 32) (hm1 : dm1.length = 32) (ht1 : dt1.length = 32) (ss1 : List En) (hss1 : ∀ e ∈ ss1, e.val.length = 32) (sa1 : Option Addr) (sc1 se1 sn1 : Nat) (hsn1 : ss1.length = sn1) (hsb1 : sn1 ≤ 1000) (w : World) (hk : Rd w ka ke kvs) (hab : AreB (fun _ _ => True) w keys kvs) (hs1 : Rd w sa1 se1 (cellsE ss1)) (hro : RoundsAt w) :
    Calls Tryd.prog 37 #[.slice ka n kc, .int .i64 need, .agg (hdV zi1 dr1 dm1 dt1), .slice sa1 sn1 sc1] w fun e w' => e = .returned (.bool (decide (need ≤ ((rightL keys zi1 dr1 dm1 ss1 n).length : Int)))) ∧ Below w.heap.size w w' := by
  have HN := Lib.hid hn
  have HKU := Lib.hid hku
  have RKV := Lib.hid hk
  have ABV := Lib.hid hab
  have RO := Lib.hid hro
  clear hn hku hk hab hro
  have LR1 := Lib.hid hr1
  have LM1 := Lib.hid hm1
  have LT1 := Lib.hid ht1
  have HSS1 := Lib.hid hss1
  have HSN1 := Lib.hid hsn1
  have HSB1 := Lib.hid hsb1
  have RS1 := Lib.hid hs1
  clear hr1 hm1 ht1 hss1 hsn1 hsb1 hs1
  obtain ⟨X, hX⟩ : ∃ z, z = w.heap.size := ⟨_, rfl⟩
  obtain ⟨w1, hw1⟩ : ∃ z, z = w.alloc (.cells (hdV zi1 dr1 dm1 dt1) 75) := ⟨_, rfl⟩
  have st1 : Below w.heap.size w w1 := by rw [hw1]; exact (Below.refl _ _).alloc (Nat.le_refl _) _
  have B1 := Lib.hid (show Below w.heap.size w w1 from Below.trans (Below.refl w.heap.size w) (Below.mono st1 (Below.size (Below.refl w.heap.size w))))
  have GX_1 := Lib.hid (show w1.heap[X]? = some (.cells (hdV zi1 dr1 dm1 dt1) 75 (0, 0)) by rw [hw1, hX]; exact heap_alloc_new _ _)
  have LX_1 := Lib.hid (lt_of_heap GX_1.out)
  have HX := Lib.hid hX
  have Hw1 := Lib.hid hw1
  clear hX hw1 st1
  have SZX := Lib.hid (show X = w.heap.size from HX.out)
  go_enter Tryd.func37, Tryd.ntmps37
  go_upto_region 1 with fail
  rw [← SZX.out, ← Hw1.out]
  go_wp2_with (first
    | ((refine ld_headG rfl (.tmp 6) rfl X (by rfl) zi1 dr1 dm1 dt1 LR1.out LM1.out LT1.out _ _ GX_1.out ?_); simp only [Act.put, List.setIfInBounds_toArray, List.set_cons_zero, List.set_cons_succ]))
  refine (Right_calls keys n HN.out (by omega) HKU.out ka kc ke kvs zi1 dr1 dm1 dt1 LR1.out LM1.out LT1.out ss1 HSS1.out sa1 sc1 se1 sn1 HSN1.out HSB1.out w1 (RKV.out.below B1.out) (ABV.out.below B1.out) (RS1.out.below B1.out) (RO.out.at_ B1.out)).mono ?_
  rintro e w2 ⟨ra, rc, rfl, hown, hb⟩
  have B2 := Lib.hid (show Below w.heap.size w w2 from B1.out.trans (hb.mono B1.out.size))
  clear hown hb
  obtain ⟨L, hL⟩ : ∃ z, z = (rightL keys zi1 dr1 dm1 ss1 n).length := ⟨_, rfl⟩
  rw [← hL]
  have HL := Lib.hid hL
  clear hL
  go_wp2_with fail
  go_ret
  exact ⟨by rw [← HL.out]; rfl, B2.out⟩
set_option maxRecDepth 20000 in
set_option maxHeartbeats 2000000 in
theorem Both_calls (keys : List (List UInt8)) (n : Nat) (hn : keys.length = n) (hn1 : n ≤ 1000) (hku : ∀ r ∈ keys, r.length ≤ 140737488355328) (ka : Option Addr) (kc ke : Nat) (kvs : List Value) (zi1 : Int) (dr1 dm1 dt1 : List UInt8) (hr1 : dr1.length = 32) (hm1 : dm1.length = 32) (ht1 : dt1.length = 32) (ss1 : List En) (hss1 : ∀ e ∈ ss1, e.val.length = 32) (sa1 : Option Addr) (sc1 se1 sn1 : Nat) (hsn1 : ss1.length = sn1) (hsb1 : sn1 ≤ 1000) (zi2 : Int) (dr2 dm2 dt2 : List UInt8) (hr2 : dr2.length = 32) (hm2 : dm2.length = 32) (ht2 : dt2.length = 32) (ss2 : List En) (hss2 : ∀ e ∈ ss2, e.val.length = 32) (sa2 : Option Addr) (sc2 se2 sn2 : Nat) (hsn2 : ss2.length = sn2) (hsb2 : sn2 ≤ 1000) (w : World) (hk : Rd w ka ke kvs) (hab : AreB (fun _ _ => True) w keys kvs) (hs1 : Rd w sa1 se1 (cellsE ss1)) (hs2 : Rd w sa2 se2 (cellsE ss2)) (hro : RoundsAt w) :
    Calls Tryd.prog 38 #[.slice ka n kc, .agg (hdV zi1 dr1 dm1 dt1), .slice sa1 sn1 sc1, .agg (hdV zi2 dr2 dm2 dt2), .slice sa2 sn2 sc2] w fun e w' => ∃ a c, e = .returned (.slice a ((rightL keys zi1 dr1 dm1 ss1 n).filter fun x => decide (x ∈ (rightL keys zi2 dr2 dm2 ss2 n))).length c) ∧ Below w.heap.size w w' := by
  have HN := Lib.hid hn
  have HKU := Lib.hid hku
  have RKV := Lib.hid hk
  have ABV := Lib.hid hab
  have RO := Lib.hid hro
  clear hn hku hk hab hro
  have LR1 := Lib.hid hr1
  have LM1 := Lib.hid hm1
  have LT1 := Lib.hid ht1
  have HSS1 := Lib.hid hss1
  have HSN1 := Lib.hid hsn1
  have HSB1 := Lib.hid hsb1
  have RS1 := Lib.hid hs1
  clear hr1 hm1 ht1 hss1 hsn1 hsb1 hs1
  have LR2 := Lib.hid hr2
  have LM2 := Lib.hid hm2
  have LT2 := Lib.hid ht2
  have HSS2 := Lib.hid hss2
  have HSN2 := Lib.hid hsn2
  have HSB2 := Lib.hid hsb2
  have RS2 := Lib.hid hs2
  clear hr2 hm2 ht2 hss2 hsn2 hsb2 hs2
  obtain ⟨X, hX⟩ : ∃ z, z = w.heap.size := ⟨_, rfl⟩
  obtain ⟨w1, hw1⟩ : ∃ z, z = w.alloc (.cells (hdV zi1 dr1 dm1 dt1) 75) := ⟨_, rfl⟩
  have st1 : Below w.heap.size w w1 := by rw [hw1]; exact (Below.refl _ _).alloc (Nat.le_refl _) _
  have B1 := Lib.hid (show Below w.heap.size w w1 from Below.trans (Below.refl w.heap.size w) (Below.mono st1 (Below.size (Below.refl w.heap.size w))))
  have GX_1 := Lib.hid (show w1.heap[X]? = some (.cells (hdV zi1 dr1 dm1 dt1) 75 (0, 0)) by rw [hw1, hX]; exact heap_alloc_new _ _)
  have LX_1 := Lib.hid (lt_of_heap GX_1.out)
  have HX := Lib.hid hX
  have Hw1 := Lib.hid hw1
  clear hX hw1 st1
  have SZX := Lib.hid (show X = w.heap.size from HX.out)
  obtain ⟨Y, hY⟩ : ∃ z, z = w1.heap.size := ⟨_, rfl⟩
  obtain ⟨w2, hw2⟩ : ∃ z, z = w1.alloc (.cells (hdV zi2 dr2 dm2 dt2) 75) := ⟨_, rfl⟩
  have st2 : Below w1.heap.size w1 w2 := by rw [hw2]; exact (Below.refl _ _).alloc (Nat.le_refl _) _
  have B2 := Lib.hid (show Below w.heap.size w w2 from Below.trans B1.out (Below.mono st2 (Below.size B1.out)))
  have GX_2 := Lib.hid ((Below.block st2 X LX_1.out).trans GX_1.out)
  have LX_2 := Lib.hid (Nat.lt_of_lt_of_le LX_1.out (Below.size st2))
  have GY_2 := Lib.hid (show w2.heap[Y]? = some (.cells (hdV zi2 dr2 dm2 dt2) 75 (0, 0)) by rw [hw2, hY]; exact heap_alloc_new _ _)
  have LY_2 := Lib.hid (lt_of_heap GY_2.out)
  have HY := Lib.hid hY
  have Hw2 := Lib.hid hw2
  clear hY hw2 st2
  have SZY := Lib.hid (show Y = w.heap.size + 1 by rw [HY.out, Hw1.out, World.size_alloc, ← HX.out, SZX.out])
  go_enter Tryd.func38, Tryd.ntmps38
  go_upto_region 1 with fail
  rw [← SZY.out, ← SZX.out, ← Hw1.out, ← Hw2.out]
  go_wp2_with (first
    | ((refine ld_headG rfl (.tmp 8) rfl Y (by rfl) zi2 dr2 dm2 dt2 LR2.out LM2.out LT2.out _ _ GY_2.out ?_); simp only [Act.put, List.setIfInBounds_toArray, List.set_cons_zero, List.set_cons_succ]))
  refine (Right_calls keys n HN.out (by omega) HKU.out ka kc ke kvs zi2 dr2 dm2 dt2 LR2.out LM2.out LT2.out ss2 HSS2.out sa2 sc2 se2 sn2 HSN2.out HSB2.out w2 (RKV.out.below B2.out) (ABV.out.below B2.out) (RS2.out.below B2.out) (RO.out.at_ B2.out)).mono ?_
  rintro e w3 ⟨oa, oc, rfl, hown, hb⟩
  have B3 := Lib.hid (show Below w.heap.size w w3 from Below.trans B2.out (Below.mono hb (Below.size B2.out)))
  have GX_3 := Lib.hid ((Below.block hb X LX_2.out).trans GX_2.out)
  have LX_3 := Lib.hid (Nat.lt_of_lt_of_le LX_2.out (Below.size hb))
  have GY_3 := Lib.hid ((Below.block hb Y LY_2.out).trans GY_2.out)
  have LY_3 := Lib.hid (Nat.lt_of_lt_of_le LY_2.out (Below.size hb))
  have OW := Lib.hid hown
  clear hown hb
  obtain ⟨on, hon⟩ : ∃ z, z = (rightL keys zi2 dr2 dm2 ss2 n).length := ⟨_, rfl⟩
  rw [← hon] at OW ⊢
  have HON := Lib.hid hon
  clear hon
  obtain ⟨O, hO⟩ : ∃ z, z = w3.heap.size := ⟨_, rfl⟩
  obtain ⟨w4, hw4⟩ : ∃ z, z = w3.alloc (.cells #[.slice oa on oc] 57) := ⟨_, rfl⟩
  have st4 : Below w3.heap.size w3 w4 := by rw [hw4]; exact (Below.refl _ _).alloc (Nat.le_refl _) _
  have B4 := Lib.hid (show Below w.heap.size w w4 from Below.trans B3.out (Below.mono st4 (Below.size B3.out)))
  have GX_4 := Lib.hid ((Below.block st4 X LX_3.out).trans GX_3.out)
  have LX_4 := Lib.hid (Nat.lt_of_lt_of_le LX_3.out (Below.size st4))
  have GY_4 := Lib.hid ((Below.block st4 Y LY_3.out).trans GY_3.out)
  have LY_4 := Lib.hid (Nat.lt_of_lt_of_le LY_3.out (Below.size st4))
  have GO_4 := Lib.hid (show w4.heap[O]? = some (.cells #[.slice oa on oc] 57 (0, 0)) by rw [hw4, hO]; exact heap_alloc_new _ _)
  have LO_4 := Lib.hid (lt_of_heap GO_4.out)
  have HO := Lib.hid hO
  have Hw4 := Lib.hid hw4
  clear hO hw4 st4
  have OW2 := Lib.hid (own_below OW.out (show Below w3.heap.size w3 w4 by rw [Hw4.out]; exact (Below.refl _ _).alloc (Nat.le_refl _) _))
  go_upto_region 2 with fail
  rw [← HO.out, ← Hw4.out]
  go_wp2_with (first
    | ((refine ld_headG rfl (.tmp 6) rfl X (by rfl) zi1 dr1 dm1 dt1 LR1.out LM1.out LT1.out _ _ GX_4.out ?_); simp only [Act.put, List.setIfInBounds_toArray, List.set_cons_zero, List.set_cons_succ]))
  refine (Right_calls keys n HN.out (by omega) HKU.out ka kc ke kvs zi1 dr1 dm1 dt1 LR1.out LM1.out LT1.out ss1 HSS1.out sa1 sc1 se1 sn1 HSN1.out HSB1.out w4 (RKV.out.below B4.out) (ABV.out.below B4.out) (RS1.out.below B4.out) (RO.out.at_ B4.out)).mono ?_
  rintro e w5 ⟨xa, xc, rfl, hown, hb⟩
  have B5 := Lib.hid (show Below w.heap.size w w5 from B4.out.trans (hb.mono B4.out.size))
  have OB : OtherB w5 w4.heap.size O (rightL keys zi2 dr2 dm2 ss2 n) := by
    refine ⟨oa, oc, _, ?_, (Rd.of_own OW2.out).below hb, ?_, LO_4.out, ?_⟩
    · rw [← HON.out]; exact (hb.block O LO_4.out).trans GO_4.out
    · exact Nat.le_trans (rightL_len _ _ _ _ _ _) hn1
    · intro x hx
      exact (OW2.out.lt x.block (by subst hx; rfl)).2
  have OB2 := Lib.hid OB
  have hb5 := hb.size
  have OX := Lib.hid hown
  have BS5 := Lib.hid hb
  have hx1 : (rightL keys zi1 dr1 dm1 ss1 n).length ≤ n := rightL_len _ _ _ _ _ _
  obtain ⟨xn, hxn⟩ : ∃ z, z = (rightL keys zi1 dr1 dm1 ss1 n).length := ⟨_, rfl⟩
  rw [← hxn] at OX hx1 ⊢
  have HXN := Lib.hid hxn
  clear hown hb OB hxn
  go_wp2_with fail
  refine (DelI_calls O (rightL keys zi2 dr2 dm2 ss2 n) (rightL keys zi1 dr1 dm1 ss1 n) xn HXN.out.symm (by omega) w4.heap.size xa xc w5 OB2.out hb5 OX.out).mono ?_
  rintro e w6 ⟨ya, yc, rfl, hb⟩
  have B6 := Lib.hid (show Below w.heap.size w w6 from B4.out.trans ((BS5.out.trans hb).mono B4.out.size))
  clear hb
  obtain ⟨r, hr⟩ : ∃ z, z = ((rightL keys zi1 dr1 dm1 ss1 n).filter fun x => decide (x ∈ (rightL keys zi2 dr2 dm2 ss2 n))).length := ⟨_, rfl⟩
  rw [← hr]
  have HR := Lib.hid hr
  clear hr
  go_wp2_with fail
  go_ret
  exact ⟨ya, yc, by rw [← HR.out]; rfl, B6.out⟩
end Go.Proofs.YtkioddmhjbaleaaDoor
/- The plain law: more than half and more than half meet. -/
namespace Go.Proofs.YtkioddmhjbaleaaDoor
open Go.RowKit
set_option linter.unusedVariables false
set_option linter.unusedSimpArgs false
theorem two_meet {α : Type} (P Q : α → Bool) : ∀ l : List α, (l.filter P).length + (l.filter Q).length ≤ l.length + (l.filter fun x => P x && Q x).length
  | [] => by simp
  | x :: l => by
    have := two_meet P Q l
    cases hp : P x <;> cases hq : Q x <;> simp [hp, hq] <;> omega
theorem right_meet (keys : List (List UInt8)) (n : Nat) (need zi zj : Int) (dr dm er em : List UInt8) (ss ts : List En) (h1 : 1 ≤ need) (hneed : (n : Int) / 2 < need) (ha : need ≤ ((rightL keys zi dr dm ss n).length : Int)) (hb : need ≤ ((rightL keys zj er em ts n).length : Int)) :
    0 < ((rightL keys zi dr dm ss n).filter fun x => decide (x ∈ rightL keys zj er em ts n)).length := by
  have h := two_meet (selR keys zi dr dm ss) (selR keys zj er em ts) (List.range n)
  unfold rightL at ha hb
  rw [List.length_map] at ha hb
  rw [List.length_range] at h
  have hp : 0 < ((List.range n).filter fun x => selR keys zi dr dm ss x && selR keys zj er em ts x).length := by omega
  obtain ⟨i, hi⟩ := List.exists_mem_of_length_pos hp
  rw [List.mem_filter, Bool.and_eq_true] at hi
  apply List.length_pos_of_mem (a := (i : Int))
  rw [List.mem_filter]
  refine ⟨List.mem_map.2 ⟨i, List.mem_filter.2 ⟨hi.1, hi.2.1⟩, rfl⟩, decide_eq_true (List.mem_map.2 ⟨i, List.mem_filter.2 ⟨hi.1, hi.2.2⟩, rfl⟩)⟩
end Go.Proofs.YtkioddmhjbaleaaDoor
