/- An order of numbers that is drawn has each of them once, and a number that is picked is below: for any digest and any numbers. -/
import Derived.Test.YtgngbmmmoecohaaDoorRows
import Derived.Test.YtgngbmmmoecohaaDoorOrder
import Derived.Test.YtgngbmmmoecohaaDoorLaidRH
import Derived.WalkKit
import Derived.ProofKit
import Derived.OpenShut
import Derived.ShutString
import Derived.ChangeOld
import Derived.Below
namespace Go.Proofs.YtgngbmmmoecohaaDoor
open Go.ChangeShapes Go.WideShapes Go.ChangeAt Go.RowKit
open Go.ChangeMaps (open_string shut_string)
set_option linter.unusedVariables false
namespace lotOrders

-- HOLE: the walk
/-- which numbers the first k are -/
def metL (o : List Nat) (n k : Nat) : List Bool := (List.range n).map fun v => decide (v ∈ o.take k)
theorem metL_length (o : List Nat) (n k : Nat) : (metL o n k).length = n := by simp [metL]
theorem metL_get (o : List Nat) (n k v : Nat) (hv : v < n) : (metL o n k)[v]? = some (decide (v ∈ o.take k)) := by
  unfold metL
  rw [List.getElem?_map, List.getElem?_range hv]; rfl
theorem metL_zero (o : List Nat) (n : Nat) : (metL o n 0).map Value.bool = List.replicate n (.bool false) := by
  apply List.ext_getElem?
  intro i
  by_cases hi : i < n
  · rw [List.getElem?_map, metL_get _ _ _ _ hi]; simp [hi]
  · rw [List.getElem?_eq_none (by rw [List.length_map, metL_length]; omega), List.getElem?_eq_none (by simp; omega)]
theorem metL_succ (o : List Nat) (n k : Nat) (hk : k < o.length) (hv : o[k] < n) : (metL o n k).set o[k] true = metL o n (k + 1) := by
  apply List.ext_getElem?
  intro i
  by_cases hi : i < n
  · have hm : i ∈ o.take (k + 1) ↔ (i ∈ o.take k ∨ i = o[k]) := by rw [List.take_succ_eq_append_getElem hk, List.mem_append, List.mem_singleton]
    rw [List.getElem?_set, metL_get _ _ _ _ hi, metL_get _ _ _ _ hi]
    by_cases e : o[k] = i
    · rw [if_pos e, if_pos (by rw [metL_length]; omega), decide_eq_true (hm.2 (.inr e.symm))]
    · rw [if_neg e]
      congr 1
      rw [decide_eq_decide, hm]
      exact ⟨.inl, fun h => h.elim id fun h => absurd h.symm e⟩
  · rw [List.getElem?_eq_none (by rw [List.length_set, metL_length]; omega), List.getElem?_eq_none (by rw [metL_length]; omega)]
theorem fresh_of_nodup {o : List Nat} (h : o.Nodup) (k : Nat) (hk : k < o.length) : o[k] ∉ o.take k := by
  intro hm
  obtain ⟨i, hi, he⟩ := List.getElem_of_mem hm
  rw [List.getElem_take] at he
  have hi2 : i < k := by rw [List.length_take] at hi; omega
  exact List.pairwise_iff_getElem.1 h i k (by omega) hk hi2 he
theorem info_bool : (Tryd.prog.info? 4).map (fun i => (i.zero, i.size, i.bytes)) = some (some (.bool false), 1, 1) := by kernel_rfl
set_option maxRecDepth 20000 in
set_option maxHeartbeats 4000000 in
theorem walk (x0 : List UInt8) (a1 : Int) (a2 : Int) (w : World) (n0 : x0.length = 32) (h1 : -9223372036854775808 ≤ a1 ∧ a1 ≤ 9223372036854775807) (h2 : -9223372036854775808 ≤ a2 ∧ a2 ≤ 9223372036854775807) (hro : RoundsAt w) (hg : ErrVar w) :
    Calls Tryd.prog 8 #[.agg (dV x0), .int .i64 a1, .int .i64 a2] w fun e w' => e = .returned (.bool true) ∧ Below w.heap.size w w' := by
  obtain ⟨i0, hi0, hz0, hs0, hb0⟩ := info_parts info_bool
  obtain ⟨H, hH⟩ : ∃ H, H = w.heap.size := ⟨_, rfl⟩
  obtain ⟨w0, hw0⟩ : ∃ x, x = w.alloc (.cells (dV x0) 23) := ⟨_, rfl⟩
  have q0 : w0.heap.size = H + 1 := by rw [hw0, hH]; exact World.size_alloc _ _
  have b0 : Below H w w0 := by rw [hw0, hH]; exact (Below.refl _ _).alloc (Nat.le_refl _) _
  have g0 : w0.heap[H]? = some (.cells (dV x0) 23 (0, 0)) := by rw [hw0, hH]; exact heap_alloc_new _ _
  have RO := Lib.hid (hro.at_ (show Below w.heap.size w w0 by rw [← hH]; exact b0))
  have EG := Lib.hid (hg.at_ (show Below w.heap.size w w0 by rw [← hH]; exact b0))
  have HW0 := Lib.hid hw0
  have HH := Lib.hid hH
  have B0 := Lib.hid b0
  have G0 := Lib.hid g0
  have N0 := Lib.hid n0
  have hH0 : H < w0.heap.size := by omega
  clear hw0 hH b0 g0 q0 n0 hro hg
  by_cases hn : a1 < 0 ∨ 1000 < a1
  · have ON := Order_no x0 a1 hn w0
    have HON := Lib.hid ON
    by_cases hn1 : a1 < 0
    · have q1 : decide (a1 < 0) = true := decide_eq_true hn1
      clear hn hn1 ON
      go_enter Tryd.func8, Tryd.ntmps8
      go_wp2_with (first | (rw [← HH.out, ← HW0.out]; refine ld_row rfl (.tmp 3) rfl H (by rfl) x0 N0.out _ _ G0.out ?_))
      refine HON.out.mono ?_
      rintro e w1 ⟨rfl, hb1⟩
      have B1 := Lib.hid hb1
      clear hb1
      go_wp2_with fail
      refine (Error_err 2 2 true rfl w1 (EG.out.at_ B1.out)).mono ?_
      rintro e w2 ⟨rfl, hb2⟩
      have B2 := Lib.hid hb2
      clear hb2
      go_wp2_with fail
      go_ret
      exact ⟨rfl, by rw [← HH.out]; exact B0.out.trans ((B1.out.trans (B2.out.mono B1.out.size)).mono (by omega))⟩
    · have q1 : decide (a1 < 0) = false := decide_eq_false hn1
      have q2 : decide (1000 < a1) = true := decide_eq_true (by omega)
      clear hn hn1 ON
      go_enter Tryd.func8, Tryd.ntmps8
      go_wp2_with (first | (rw [← HH.out, ← HW0.out]; refine ld_row rfl (.tmp 3) rfl H (by rfl) x0 N0.out _ _ G0.out ?_))
      refine HON.out.mono ?_
      rintro e w1 ⟨rfl, hb1⟩
      have B1 := Lib.hid hb1
      clear hb1
      go_wp2_with fail
      refine (Error_err 2 2 true rfl w1 (EG.out.at_ B1.out)).mono ?_
      rintro e w2 ⟨rfl, hb2⟩
      have B2 := Lib.hid hb2
      clear hb2
      go_wp2_with fail
      go_ret
      exact ⟨rfl, by rw [← HH.out]; exact B0.out.trans ((B1.out.trans (B2.out.mono B1.out.size)).mono (by omega))⟩
  · obtain ⟨n, rfl⟩ : ∃ n : Nat, a1 = n := ⟨a1.toNat, by omega⟩
    have hn1000 : n ≤ 1000 := by omega
    have q1 : decide ((n : Int) < 0) = false := decide_eq_false (by omega)
    have q2 : decide ((1000 : Int) < (n : Int)) = false := decide_eq_false (by omega)
    have q3 : decide (1000 < n) = false := decide_eq_false (by omega)
    have q4 : ((n : Int) != (n : Int)) = false := by simp
    have OC := Order_calls x0 N0.out n hn1000 w0 RO.out
    have HOC := Lib.hid OC
    clear hn OC
    go_enter Tryd.func8, Tryd.ntmps8
    go_wp2_with (first | (rw [← HH.out, ← HW0.out]; refine ld_row rfl (.tmp 3) rfl H (by rfl) x0 N0.out _ _ G0.out ?_))
    refine HOC.out.mono ?_
    rintro e w1 ⟨av, cp, rfl, hown1, hb1⟩
    obtain ⟨o, ho⟩ : ∃ o, o = orderOf x0 n := ⟨_, rfl⟩
    have hol : o.length = n := by rw [ho]; exact orderOf_length x0 n
    have hlt : ∀ x ∈ o, x < n := by rw [ho]; exact orderOf_lt x0 n
    have hnd : o.Nodup := by rw [ho]; exact orderOf_nodup x0 n
    rw [← ho] at hown1 ⊢
    have R1 := Lib.hid (Rd.of_own hown1)
    have I1 := Lib.hid hb1
    rw [hol]
    have OL := Lib.hid hol
    have LT := Lib.hid hlt
    have ND := Lib.hid hnd
    clear hown1 hb1 ho hol hlt hnd HOC
    go_wp2_with (at_make; refine wpList_make_full _ rfl _ _ 59 rfl w1.heap.size 4 i0 (.bool false) 1 Tryd.underlying59 hi0 hz0 hs0 _ _ _ _ n rfl rfl rfl rfl ?c1 ?c2 ?c3 ?_)
    case c1 => rw [hb0]; omega
    case c2 => simp only [maxLen]; omega
    case c3 => exact Nat.le_refl _
    intro w2 hown2 hgrow2
    rw [made_one, ← metL_zero o n] at hown2
    have hb2 : Below w1.heap.size w1 w2 := (Below.refl _ w1).grown hgrow2 (Nat.le_refl _) (fun k hk => by cases hk)
    obtain ⟨V, hV⟩ : ∃ V, V = w1.heap.size := ⟨_, rfl⟩
    rw [← hV] at hown2 hb2 ⊢
    have HV := Lib.hid hV
    have HO2 := Lib.hid hown2
    have HB2 := Lib.hid hb2
    clear hV hgrow2 hown2 hb2
    go_wp2_with fail
    go_loopw [11] (fun i wr => ∃ k : Nat, k ≤ n ∧ i = .int .i64 k ∧ wr.ownsRow V 4 1 (.slice (some ⟨V, 0, none⟩) n n) n ((metL o n k).map Value.bool) ∧ Below V w1 wr) (fun i _ => n - (intOf i).toNat)
    case atStart => exact ⟨0, Nat.zero_le _, rfl, HO2.out, HB2.out⟩
    case round =>
      clear HO2 HB2
      obtain ⟨k, hk, rfl, hown, hbl⟩ := hrel
      by_cases hkn : k < n
      · obtain ⟨bo, oo, hav, hbo, hco⟩ := R1.out.numsK (k := k) (by rw [OL.out]; exact hkn)
        subst hav
        have ck := (hbl.cell (p := ⟨bo, oo + k, none⟩) (by rw [HV.out]; exact hbo)).trans (hco k (by rw [OL.out]; exact hkn))
        have hvn : o[k]'(by rw [OL.out]; exact hkn) < n := LT.out _ (List.getElem_mem _)
        have hfr := fresh_of_nodup ND.out k (by rw [OL.out]; exact hkn)
        have hsucc := metL_succ o n k (by rw [OL.out]; exact hkn) hvn
        obtain ⟨v, hv⟩ : ∃ v, v = o[k]'(by rw [OL.out]; exact hkn) := ⟨_, rfl⟩
        rw [← hv] at ck hvn hfr hsucc
        obtain ⟨cm, fm⟩ := own_cell hown (k := v) (by rw [List.length_map, metL_length]; exact hvn)
        have cm2 : wr.cell? ⟨V, v, none⟩ = some (.bool false) := by
          rw [cm]
          have h9 := metL_get o n k v hvn
          rw [decide_eq_false hfr] at h9
          rw [List.getElem_map]
          obtain ⟨_, h10⟩ := List.getElem?_eq_some_iff.1 h9
          rw [h10]
        have hs := own_set hown v (.bool true)
        rw [show ((metL o n k).map Value.bool).set v (.bool true) = (metL o n (k + 1)).map Value.bool by rw [← hsucc, List.map_set]] at hs
        have hbs := hbl.setCell (p := ⟨V, v, none⟩) (Nat.le_refl _) (.bool true)
        have k0 : (0 : Int) ≤ (k : Int) := by omega
        have k1 : (k : Int) < (n : Int) := by omega
        have v0 : (0 : Int) ≤ (v : Int) := by omega
        have v1 : (v : Int) < (n : Int) := by omega
        have t1 : decide ((v : Int) < 0) = false := decide_eq_false (by omega)
        have t2 : decide ((n : Int) ≤ (v : Int)) = false := decide_eq_false (by omega)
        have t3 : decide (n ≤ v) = false := decide_eq_false (by omega)
        have HS := Lib.hid hs
        have HBS := Lib.hid hbs
        clear cm hs hbs hsucc hfr hv hown hbl hco
        go_wp2_with fail
        go_roundw
        case rel => exact ⟨k + 1, hkn, by go_num, HS.out, HBS.out⟩
        case measure => simp [intOf] <;> omega
      · obtain rfl : k = n := by omega
        obtain ⟨w4, rfl⟩ : ∃ x, x = wr := ⟨_, rfl⟩
        have I4 := Lib.hid (I1.out.trans (hbl.mono (by rw [HV.out]; exact I1.out.size)))
        clear hown hbl hk hkn
        go_wp2_with (first | (refine ld_row rfl (.tmp 3) rfl H (by rfl) x0 N0.out _ _ ((I4.out.block H hH0).trans G0.out) ?_))
        refine (Pick_calls x0 N0.out a2 w4).mono ?_
        rintro e w5 ⟨hpe, hb5⟩
        have I5 := Lib.hid (I4.out.trans (hb5.mono I4.out.size))
        clear hb5
        by_cases hm : a2 < 1 ∨ 2147483647 < a2
        · rw [if_pos hm] at hpe
          obtain rfl := hpe
          clear hm
          go_wp2_with (first | (refine ld_row rfl (.tmp 3) rfl H (by rfl) x0 N0.out _ _ ((I5.out.block H hH0).trans G0.out) ?_))
          refine (Order_calls x0 N0.out 2 (by omega) w5 (RO.out.at_ I5.out)).mono ?_
          rintro e w6 ⟨a6, c6, rfl, hown6, hb6⟩
          have hl6 := orderOf_length x0 2
          rw [hl6]
          have I6 := Lib.hid (I5.out.trans (hb6.mono I5.out.size))
          clear hown6 hb6 hl6
          go_wp2_with fail
          go_ret
          exact ⟨rfl, by rw [← HH.out]; exact B0.out.trans (I6.out.mono (by omega))⟩
        · rw [if_neg hm] at hpe
          obtain rfl := hpe
          obtain ⟨m, rfl⟩ : ∃ m : Nat, a2 = m := ⟨a2.toNat, by omega⟩
          have hpl := pickN_lt x0 m (by omega)
          rw [Int.toNat_natCast]
          obtain ⟨p, hp⟩ : ∃ p, p = pickN x0 m := ⟨_, rfl⟩
          rw [← hp] at hpl ⊢
          have p1 : decide (p < m) = true := decide_eq_true hpl
          have p2 : decide ((p : Int) < (m : Int)) = true := decide_eq_true (by omega)
          have p3 : decide ((0 : Int) ≤ (p : Int)) = true := decide_eq_true (by omega)
          clear hm hp hpl
          go_wp2_with (first | (refine ld_row rfl (.tmp 3) rfl H (by rfl) x0 N0.out _ _ ((I5.out.block H hH0).trans G0.out) ?_))
          refine (Order_calls x0 N0.out 2 (by omega) w5 (RO.out.at_ I5.out)).mono ?_
          rintro e w6 ⟨a6, c6, rfl, hown6, hb6⟩
          have hl6 := orderOf_length x0 2
          rw [hl6]
          have I6 := Lib.hid (I5.out.trans (hb6.mono I5.out.size))
          clear hown6 hb6 hl6
          go_wp2_with fail
          go_ret
          exact ⟨rfl, by rw [← HH.out]; exact B0.out.trans (I6.out.mono (by omega))⟩

set_option maxRecDepth 100000 in
theorem lifted (os : Os) (started : os.Started) (H : Type) (enc : TypeId × Value → H) :
    ReturnsInHanded {} Tryd.checked os 8 .any (fun w args => (Rows.lotOrdersSpec.pre enc Tryd.prog Tryd.f8 Rows.lotOrdersRow.domain false w args ∧ laidMetH Tryd.prog Laid.list w) ∧ sizedMet enc Tryd.prog Tryd.f8 (OpenSpec.ofChange Rows.lotOrdersSpec) false w args) (Rows.lotOrdersSpec.post enc Tryd.prog Tryd.f8 false true false false) := by
  refine returnsInHanded_of_change_and (C := Tryd.checked) (X := fun w _ => laidMetH Tryd.prog Laid.list w) (fun _ _ _ hh h => h.of_heap hh) Laid.own started (by kernel_rfl) Tryd.func8
    (ChangeSpec.witness_at (enc := enc) (C := Tryd.checked) (os := os) (X := fun w _ => laidMetH Tryd.prog Laid.list w) false (laidWorld os) #[.agg #[.int .u8 0, .int .u8 0, .int .u8 0, .int .u8 0, .int .u8 0, .int .u8 0, .int .u8 0, .int .u8 0, .int .u8 0, .int .u8 0, .int .u8 0, .int .u8 0, .int .u8 0, .int .u8 0, .int .u8 0, .int .u8 0, .int .u8 0, .int .u8 0, .int .u8 0, .int .u8 0, .int .u8 0, .int .u8 0, .int .u8 0, .int .u8 0, .int .u8 0, .int .u8 0, .int .u8 0, .int .u8 0, .int .u8 0, .int .u8 0, .int .u8 0, .int .u8 0], .int .i64 0, .int .i64 0] 8 rfl (by kernel_rfl) (by kernel_rfl) (by kernel_rfl) (by kernel_rfl) (by kernel_rfl) (laidWorld_met os _)) ?_
  intro W base args ds gs before hval0 hW _ hsz hL _
  have hro := rounds_of_laid hL
  have hg := handle_of_laid hL
  have hval : ∀ (j : Nat) t v, Tryd.f8.params[j]? = some t → args[j]? = some v → Value.okWide Tryd.prog W .any base t v := hval0
  have hW' := hW
  obtain ⟨p, q, hA0, hV, rfl, hfz, hnd⟩ := hW
  have hA : DataW.TrodAll enc Tryd.prog W 0 (fun _ => true) true Tryd.f8.params.toList args.toList ds p := hA0
  rw [Tryd.params8] at hA hval
  obtain ⟨v0, vs0, d0, ds0, p0, q0, hargs, rfl, rfl, h0, r0⟩ := trodAll_cons hA
  obtain ⟨v1, vs1, d1, ds1, p1, q1, rfl, rfl, rfl, h1, r1⟩ := trodAll_cons r0
  obtain ⟨v2, vs2, d2, ds2, p2, q2, rfl, rfl, rfl, h2, r2⟩ := trodAll_cons r1
  obtain ⟨rfl, rfl, rfl⟩ := trodAll_nil r2
  obtain rfl : args = #[v0, v1, v2] := by cases args; simp_all
  obtain ⟨rfl, rfl⟩ := trodVars_none hV
  have k0 := h0
  have lt0 : ∀ x ∈ p0, x.block < W.heap.size := by obtain ⟨m, hm⟩ := k0; exact DataW.trod_lt m _ _ _ hm
  obtain ⟨x0, n0, rfl⟩ := open_digest Tryd.underlying23 Tryd.underlying5 (by kernel_rfl) (by kernel_rfl) (hval 0 23 v0 rfl rfl) h0
  have k1 := h1
  have lt1 : ∀ x ∈ p1, x.block < W.heap.size := by obtain ⟨m, hm⟩ := k1; exact DataW.trod_lt m _ _ _ hm
  obtain ⟨a1, rfl, _, _, w1⟩ := open_int Tryd.underlying3 (hval 1 3 v1 rfl rfl) h1
  have b1 := bounds_i64 w1
  have k2 := h2
  have lt2 : ∀ x ∈ p2, x.block < W.heap.size := by obtain ⟨m, hm⟩ := k2; exact DataW.trod_lt m _ _ _ hm
  obtain ⟨a2, rfl, _, _, w2⟩ := open_int Tryd.underlying3 (hval 2 3 v2 rfl rfl) h2
  have b2 := bounds_i64 w2
  clear hA0 hval0
  refine (walk x0 a1 a2 W n0 b1 b2 hro hg).mono fun e W' ⟨he, bel⟩ => ?_
  subst he
  exact ⟨_, rfl, _, _, _, [], _, [], hW', trodAll_mk1 (shut_bool Tryd.underlying4 _), (trodAll_cons_mk (Below.trod Laid.laidOut (by kernel_rfl) (of_decide_eq_true (by kernel_rfl)) k0 bel lt0) (trodAll_cons_mk (Below.trod Laid.laidOut (by kernel_rfl) (of_decide_eq_true (by kernel_rfl)) k1 bel lt1) (trodAll_cons_mk (Below.trod Laid.laidOut (by kernel_rfl) (of_decide_eq_true (by kernel_rfl)) k2 bel lt2) trodAll_mk0))), rfl, bel.frame _, fun h => by cases h⟩

theorem over : Rows.lotOrdersRow.holds Tryd.pinned (OpenSpec.ofChange Rows.lotOrdersSpec) :=
  OpenClaim.holds_of_wide 8 Tryd.f8 rfl rfl rfl rfl rfl rfl rfl ⟨rfl, rfl, rfl, rfl, rfl⟩ rfl rfl rfl rfl rfl (by kernel_rfl) Tryd.func8 (by kernel_rfl)
    (of_decide_eq_true (by kernel_rfl)) (by unfold Func.isWrapper; first | (rw [if_pos (by decide +kernel)]; kernel_rfl) | (rw [if_neg (by decide +kernel)]; exact ⟨rfl, rfl⟩))
    (fun os started H enc _ => lifted os started H enc)

theorem proved : Rows.LotOrdersCardSaid :=
  Claim7.holds_tied_plain_at .later [] [.data, .handle] true (true, "d9367f1a9ac0cc7a5f16b7a4c9fa57317a5d4c7769de09c3b166420cc346acc4") true
    over (fun _ h => by cases h) (by kernel_rfl) (fun _ h => by cases h) lotOrders_row_tie rfl ⟨rfl, rfl⟩ (by kernel_rfl) rfl
    (fun f fn hf hfn => by
      obtain rfl : f = 8 := Option.some.inj ((show Tryd.prog.funcNamed "oathbook/oathbooklaw4.LotOrders" = some 8 by kernel_rfl).symm.trans hf) |>.symm
      obtain rfl : fn = Tryd.f8 := (Option.some.inj (Tryd.func8.symm.trans hfn)).symm
      exact ⟨by kernel_rfl, stand_of_all (by kernel_rfl)⟩)
    (by kernel_rfl)
#print axioms proved
end lotOrders
end Go.Proofs.YtgngbmmmoecohaaDoor
