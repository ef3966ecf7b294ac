/- Walk: are two rows of digests the same? -/
import Derived.Test.YtpeomfehdccmmaaDoorTrieFold2
import Derived.Test.YtpeomfehdccmmaaDoorEntMem
import Derived.Test.YtpeomfehdccmmaaDoorSpanLeaf
import Derived.Test.YtpeomfehdccmmaaDoorTrieLeafed
import Derived.Test.YtpeomfehdccmmaaDoorRSum
import Derived.BigQuiet
import Derived.Test.YtpeomfehdccmmaaDoorSpanEq
import Derived.Test.YtpeomfehdccmmaaDoorSpanFitA
namespace Go.Proofs.YtpeomfehdccmmaaDoor
open Go.RowKit
set_option linter.unusedVariables false
set_option linter.unusedSimpArgs false
theorem Digests_calls (xs ys : List (List UInt8)) (hx : ∀ c ∈ xs, c.length = 32) (hy : ∀ c ∈ ys, c.length = 32) (a b : Option Addr) (ca cb ea eb : Nat) (w : World) (ha : Rd w a ea (xs.flatten.map vB)) (hb : Rd w b eb (ys.flatten.map vB)) (hl : xs.length ≤ 9223372036854775807) :
    Calls Tryd.prog 30 #[.slice a xs.length ca, .slice b ys.length cb] w fun e w' => e = .returned (.bool (decide (xs = ys))) ∧ ∃ n, w' = w.drewN n := by
  have Hx := Lib.hid hx
  have Hy := Lib.hid hy
  clear hx hy
  by_cases hlen : xs.length = ys.length
  · have hl1 : xs.length ≤ ys.length := by omega
    have hl2 : ys.length ≤ xs.length := by omega
    clear hlen
    go_enter Tryd.func30, Tryd.ntmps30
    go_wp2
    go_loopw [5] (fun i wr => ∃ k n : Nat, k ≤ xs.length ∧ i = .int .i64 k ∧ xs.take k = ys.take k ∧ wr = w.drewN n) (fun i _ => xs.length - (intOf i).toNat)
    case atStart => exact ⟨0, 0, Nat.zero_le _, rfl, rfl, rfl⟩
    case round =>
      obtain ⟨k, n, hk, rfl, ht, rfl⟩ := hrel
      have Ht := Lib.hid ht
      clear ht
      by_cases hlt : k < xs.length
      · have hlt2 : k < ys.length := by omega
        obtain ⟨ba, oa, rfl, _, hca⟩ := ha.range Hx.out hlt
        obtain ⟨bb, ob, rfl, _, hcb⟩ := hb.range Hy.out hlt2
        have hcw := Hx.out _ (List.getElem_mem hlt)
        have hdw := Hy.out _ (List.getElem_mem hlt2)
        obtain ⟨c, hc⟩ : ∃ c, c = xs[k] := ⟨_, rfl⟩
        obtain ⟨d, hd⟩ : ∃ d, d = ys[k] := ⟨_, rfl⟩
        rw [← hc] at hca hcw
        rw [← hd] at hcb hdw
        have HCA := Lib.hid hca
        have HCB := Lib.hid hcb
        have HCW := Lib.hid hcw
        have HDW := Lib.hid hdw
        have HC := Lib.hid hc
        have HD := Lib.hid hd
        have i1 : (k : Int) < (xs.length : Int) := by omega
        have i2 : (k : Int) < (ys.length : Int) := by omega
        have i0 : (0 : Int) ≤ (k : Int) := by omega
        obtain ⟨q, hq⟩ : ∃ q, (!(c == d)) = !q := ⟨_, rfl⟩
        have HQ := Lib.hid hq
        clear hca hcb ha hb hcw hdw hc hd hq
        go_wp2_with fail
        refine wp_region_quiet_lit (by kernel_rfl) (by kernel_rfl) ?_
        repeat (first
          | (refine quiet_dig rfl (.tmp 19) rfl ba (oa + k * 32) (by rfl) c HCW.out (fun w' hw' => by obtain ⟨n, rfl⟩ := hw'; exact HCA.out) ?_; simp only [Act.put, List.setIfInBounds_toArray, List.set_cons_zero, List.set_cons_succ])
          | (refine quiet_dig rfl (.tmp 23) rfl bb (ob + k * 32) (by rfl) d HDW.out (fun w' hw' => by obtain ⟨n, rfl⟩ := hw'; exact HCB.out) ?_; simp only [Act.put, List.setIfInBounds_toArray, List.set_cons_zero, List.set_cons_succ])
          | (refine quiet_dig_neq rfl (.tmp 20) (.tmp 24) _ rfl c d (by rfl) (by rfl) HCW.out HDW.out ?_; rw [HQ.out]; simp only [Act.put, List.setIfInBounds_toArray, List.set_cons_zero, List.set_cons_succ])
          | go_big_quiet_step (fail))
        refine wpQuiet_nil ?_
        rintro _ ⟨nq, rfl⟩
        cases q with
        | true =>
          have hcd : c = d := by have := HQ.out; simpa using this
          have Hcd := Lib.hid hcd
          clear hcd
          go_wp2_with fail
          go_roundw
          case rel => exact ⟨k + 1, n + nq, by omega, by go_num, by rw [List.take_succ_eq_append_getElem hlt, List.take_succ_eq_append_getElem hlt2, Ht.out, ← HC.out, ← HD.out, Hcd.out], rfl⟩
          case measure => simp [intOf] <;> omega
        | false =>
          have hcd : ¬ c = d := by have := HQ.out; simpa using this
          have Hcd := Lib.hid hcd
          clear hcd
          go_wp2_with fail
          go_ret
          have hne : ¬ xs = ys := fun h => Hcd.out (by rw [HC.out, HD.out]; simp [h])
          exact ⟨by rw [decide_eq_false hne]; try rfl, n + nq, by rw [World.drewN_drewN]⟩
      · obtain rfl : k = xs.length := by omega
        go_wp2
        go_ret
        have := Ht.out
        rw [List.take_of_length_le (Nat.le_refl _), List.take_of_length_le hl2] at this
        exact ⟨by rw [decide_eq_true this]; try rfl, n, rfl⟩
  · have hne : ((xs.length : Int) != (ys.length : Int)) = true := by rw [bne_iff_ne]; omega
    go_enter Tryd.func30, Tryd.ntmps30
    go_wp2
    go_ret
    have hn : ¬ xs = ys := fun h => hlen (by rw [h])
    exact ⟨by rw [decide_eq_false hn]; try rfl, 0, rfl⟩
end Go.Proofs.YtpeomfehdccmmaaDoor
/- Walk: the laws' own 'spanned'. -/
namespace Go.Proofs.YtpeomfehdccmmaaDoor
open Go.RowKit
set_option linter.unusedVariables false
set_option linter.unusedSimpArgs false

theorem span_ne : (itemD ⟨1, nz⟩ == shaOf []) = false := by
  rw [beq_eq_false_iff_ne]
  intro h
  have h2 : (shaOf (0 :: itemT ⟨1, nz⟩)).map UInt8.toNat = (shaOf []).map UInt8.toNat := by show (itemD ⟨1, nz⟩).map _ = _; rw [h]
  rw [sha_n, sha_n] at h2
  exact absurd h2 (by decide +kernel)
set_option maxRecDepth 20000 in
set_option maxHeartbeats 8000000 in
theorem Spanned_calls (w : World) (hro : RoundsAt w) : Calls Tryd.prog 32 #[] w fun e w' => e = .returned (.bool true) ∧ Below w.heap.size w w' := by
  obtain ⟨Z, hZ⟩ : ∃ Z, Z = nz := ⟨_, rfl⟩
  have zl : Z.length = 32 := by rw [hZ]; rfl
  have zlit : (#[.int .u8 0, .int .u8 0, .int .u8 0, .int .u8 0, .int .u8 0, .int .u8 0, .int .u8 0, .int .u8 0, .int .u8 0, .int .u8 0, .int .u8 0, .int .u8 0, .int .u8 0, .int .u8 0, .int .u8 0, .int .u8 0, .int .u8 0, .int .u8 0, .int .u8 0, .int .u8 0, .int .u8 0, .int .u8 0, .int .u8 0, .int .u8 0, .int .u8 0, .int .u8 0, .int .u8 0, .int .u8 0, .int .u8 0, .int .u8 0, .int .u8 0, .int .u8 0] : Array Value) = dV Z := by rw [hZ]; exact zdig
  have ZL := Lib.hid zl
  have ZT := Lib.hid zlit
  have HZ := Lib.hid hZ
  clear zl zlit hZ
  have LC := SRoot_ok [] (fun _ h => by cases h) rfl none 0 0 w (.inl rfl) hro
  rw [show leavesD [] = [] from rfl, troot_nil, show ([] : List En).length = 0 from rfl] at LC
  obtain ⟨S, hS⟩ : ∃ L, L = shaOf [] := ⟨_, rfl⟩
  have SL := Lib.hid (show S.length = 32 by rw [hS]; exact shaOf_length _)
  rw [← hS] at LC
  have HLC := Lib.hid LC
  have RO := Lib.hid hro
  have HS := Lib.hid hS
  have SS := Lib.hid (show (S == S) = true by simp)
  clear LC hro hS
  go_enter Tryd.func32, Tryd.ntmps32
  go_upto_region 2 with (first | (go_at_call 33; refine HLC.out.mono ?_; rintro e w1 ⟨rfl, hb1⟩) | (refine st_new rfl (.tmp 1) (.tmp 7) rfl S SL.out (by rfl) _ _ (by rfl) (by rfl) ?_))
  obtain ⟨Y, hY⟩ : ∃ Y, Y = w1.heap.size := ⟨_, rfl⟩
  obtain ⟨w2, hw2⟩ : ∃ z, z = w1.alloc (.cells (dV S) 23) := ⟨_, rfl⟩
  rw [← hY, ← hw2]
  have b2 : Below w.heap.size w w2 := by rw [hw2]; exact hb1.alloc hb1.size _
  have g2 : w2.heap[Y]? = some (.cells (dV S) 23 (0, 0)) := by rw [hw2, hY]; exact heap_alloc_new _ _
  have hwY : w.heap.size ≤ Y := by rw [hY]; exact hb1.size
  obtain ⟨w3, hw3⟩ : ∃ z, z = w2.alloc (.cells (eV 1 Z) 35) := ⟨_, rfl⟩
  have b23 : Below w2.heap.size w2 w3 := by rw [hw3]; exact (Below.refl _ _).alloc (Nat.le_refl _) _
  have r3 : Rd w3 (some ⟨w2.heap.size, 0, none⟩) 35 (cellsE [⟨1, Z⟩]) := by rw [hw3]; exact Rd.ent1 w2 ⟨1, Z⟩
  have b3 : Below w.heap.size w w3 := b2.trans (b23.mono b2.size)
  have RC := SRoot_ok [⟨1, Z⟩] (enw 1 Z ZL.out (by decide)) (by rfl) (some ⟨w2.heap.size, 0, none⟩) 1 _ w3 r3 (RO.out.at_ b3)
  rw [show leavesD [(⟨1, Z⟩ : En)] = [itemD ⟨1, Z⟩] from rfl, troot_one, show ([(⟨1, Z⟩ : En)]).length = 1 from rfl] at RC
  obtain ⟨Rt, hRt⟩ : ∃ L, L = itemD ⟨1, Z⟩ := ⟨_, rfl⟩
  have rtl : Rt.length = 32 := by rw [hRt]; exact itemD_length _
  have rtn : (Rt == S) = false := by rw [hRt, HZ.out, HS.out]; exact span_ne
  rw [← hRt] at RC
  have HRC := Lib.hid RC
  have RTL := Lib.hid rtl
  have RTN := Lib.hid rtn
  have HW3 := Lib.hid hw3
  have G2 := Lib.hid g2
  have B3 := Lib.hid b3
  have B23 := Lib.hid b23
  have hY2 := lt_of_heap g2
  clear RC hRt rtl rtn hw3 hw2 hY b2 g2 r3 b3 b23 hb1 HLC
  go_upto_region 3 with (first | (refine wpl_ent rfl _ rfl (by rfl) Z HZ.out ?_) | ((refine wpl_build1 40 35 _ 33 40 Tryd.underlying40 info_entz (by omega) (by omega) rfl (.tmp 10) rfl (eV 1 Z) (by rfl) (eV_size 1 Z ZL.out) ?_); rw [← HW3.out]; simp only [Act.put, List.setIfInBounds_toArray, List.set_cons_zero, List.set_cons_succ]) | (go_at_call 33; refine HRC.out.mono ?_; rintro e w4 ⟨rfl, hb4⟩) | (refine st_new rfl (.tmp 3) (.tmp 13) rfl Rt RTL.out (by rfl) _ _ (by rfl) (by rfl) ?_))
  obtain ⟨X, hX⟩ : ∃ X, X = w4.heap.size := ⟨_, rfl⟩
  obtain ⟨w5, hw5⟩ : ∃ z, z = w4.alloc (.cells (dV Rt) 23) := ⟨_, rfl⟩
  rw [← hX, ← hw5]
  have b34 : Below w3.heap.size w3 w5 := by rw [hw5]; exact hb4.alloc hb4.size _
  have g5 : w5.heap[X]? = some (.cells (dV Rt) 23 (0, 0)) := by rw [hw5, hX]; exact heap_alloc_new _ _
  have gL : w5.heap[Y]? = some (.cells (dV S) 23 (0, 0)) := (b34.block Y (Nat.lt_of_lt_of_le hY2 B23.out.size)).trans ((B23.out.block Y hY2).trans G2.out)
  have NC : ∀ w', InB w5.heap.size w5 w' → Calls Tryd.prog 54 #[.slice none 0 0] w' fun e w'' => e = .returned (.agg (dV S)) ∧ InB w5.heap.size w5 w'' :=
    fun w' h => InB.call h (Nat.le_refl _) (by rw [HS.out]; exact RSum_calls [] none 0 0 w' (.inl rfl) (by decide))
  have HNC := Lib.hid NC
  have hex := inB_ex w5.heap.size w5
  have G5 := Lib.hid g5
  have GL := Lib.hid gL
  have B5 := Lib.hid (B3.out.trans (b34.mono B3.out.size))
  have hX5 := lt_of_heap g5
  have hY5 := lt_of_heap gL
  have hw5s := B5.out.size
  clear NC hX hw5 g5 gL b34 hb4 HRC
  refine wp_region_inB w5.heap.size (by kernel_rfl) (by kernel_rfl) ?_
  go_big_quiet_step ((intro _; rfl))
  go_big_quiet_step ((intro _; rfl))
  go_big_quiet_step ((intro _; rfl))
  refine quiet_dig rfl (.tmp 1) rfl (Y) 0 (by rfl) S SL.out (fun w' hw' => hw'.range (by omega) (range_of_row GL.out)) ?_
  simp only [Act.put, List.setIfInBounds_toArray, List.set_cons_zero, List.set_cons_succ]
  go_big_quiet_step ((intro hw'; exact HNC.out _ hw'))
  refine quiet_dig_eq rfl (.tmp 18) (.tmp 19) _ rfl S S (by rfl) (by rfl) SL.out SL.out ?_
  rw [SS.out]
  simp only [Act.put, List.setIfInBounds_toArray, List.set_cons_zero, List.set_cons_succ]
  go_big_quiet_step ((intro _; rfl))
  go_big_quiet_step ((intro _; rfl))
  go_big_quiet_step ((intro _; rfl))
  go_big_quiet_step ((intro _; rfl))
  go_big_quiet_step ((intro _; rfl))
  go_big_quiet_step ((intro _; rfl))
  refine quiet_dig rfl (.tmp 3) rfl (X) 0 (by rfl) Rt RTL.out (fun w' hw' => hw'.range (by omega) (range_of_row G5.out)) ?_
  simp only [Act.put, List.setIfInBounds_toArray, List.set_cons_zero, List.set_cons_succ]
  refine quiet_dig rfl (.tmp 1) rfl (Y) 0 (by rfl) S SL.out (fun w' hw' => hw'.range (by omega) (range_of_row GL.out)) ?_
  simp only [Act.put, List.setIfInBounds_toArray, List.set_cons_zero, List.set_cons_succ]
  refine quiet_dig_neq rfl (.tmp 27) (.tmp 28) _ rfl Rt S (by rfl) (by rfl) RTL.out SL.out ?_
  rw [RTN.out]
  simp only [Act.put, List.setIfInBounds_toArray, List.set_cons_zero, List.set_cons_succ]
  go_big_quiet_step ((intro _; rfl))
  go_big_quiet_step ((intro _; rfl))
  refine wpQuiet_nil ?_
  intro w7 hw7
  have B7 := Lib.hid (B5.out.trans (Below.mono hw7 hw5s))
  clear hw7
  go_wp2_with fail
  go_ret
  exact ⟨rfl, B7.out⟩
end Go.Proofs.YtpeomfehdccmmaaDoor
/- Walk of the document's answer: what is wrong with a list. -/
namespace Go.Proofs.YtpeomfehdccmmaaDoor
open Go.RowKit
set_option linter.unusedVariables false
set_option linter.unusedSimpArgs false
set_option maxRecDepth 20000 in
set_option maxHeartbeats 8000000 in
theorem ListFault_calls (es : List En) (hw : ∀ e ∈ es, EnW e) (a : Option Addr) (cap ea : Nat) (w : World) (hr : Rd w a ea (cellsE es)) (hes : es.length ≤ 9223372036854775807) :
    Calls Tryd.prog 42 #[.slice a es.length cap] w fun e w' => e = .returned (.int .i64 (listF es)) ∧ Below w.heap.size w w' := by
  have hlen : ∀ e ∈ es, e.val.length = 32 := fun e he => (hw e he).1
  by_cases h64 : 256 < es.length
  · have hf : listF es = 4 := listF_big h64
    have z1 : (256 : Int) < (es.length : Int) := by omega
    rw [hf]
    clear hf hr hlen hw
    go_enter Tryd.func42, Tryd.ntmps42
    go_wp2_with fail
    go_ret
    exact ⟨rfl, Below.refl _ _⟩
  · have z1 : ¬ (256 : Int) < (es.length : Int) := by omega
    obtain ⟨F, hF⟩ : ∃ F, F = listG none es := ⟨_, rfl⟩
    have hf : listF es = F := by rw [listF_small h64, hF]
    rw [hf]
    have HS := Lib.hid hF
    have HL := Lib.hid hlen
    have HR := Lib.hid hr
    clear hf hF hlen hw hr
    go_enter Tryd.func42, Tryd.ntmps42
    go_wp2_with fail
    go_loopw [3] (fun i wr => ∃ (k : Nat), k ≤ es.length ∧ i = .int .i64 k ∧ Hid (listG (prevK es k) (es.drop k) = F) ∧ Hid (Below w.heap.size w wr)) (fun i _ => es.length - (intOf i).toNat)
    case atStart => exact ⟨0, Nat.zero_le _, rfl, Lib.hid HS.out.symm, Lib.hid (Below.refl _ _)⟩
    case round =>
      obtain ⟨k, hk, rfl, HSC, HBL⟩ := hrel
      obtain ⟨wA, rfl⟩ : ∃ z, z = wr := ⟨_, rfl⟩
      by_cases hlt : k < es.length
      · obtain ⟨b, o, hab, hb, hrg⟩ := (HR.out.below HBL.out).ent HL.out hlt
        subst hab
        have hsc := HSC.out
        rw [List.drop_eq_getElem_cons hlt, listG_cons] at hsc
        have HPK := Lib.hid (prevK_succ es k hlt)
        have k0 : (0 : Int) ≤ (k : Int) := by omega
        have k1 : (k : Int) < (es.length : Int) := by omega
        have e4 : IntKind.i64.wrap ((k : Int) + 1) = (k : Int) + 1 := IntWalk.i64_in _ (by omega)
        obtain ⟨x, hx⟩ : ∃ x, x = es[k].key := ⟨_, rfl⟩
        have ck := range_ekey hrg
        rw [← hx] at ck hsc
        have HIR := Lib.hid (IsKey_calls x wA)
        have HX := Lib.hid hx
        have HRA := Lib.hid (HR.out.below HBL.out)
        clear hrg hx hb
        by_cases hko : KeyOk x
        · have kk := HIR.out
          rw [decide_eq_true hko] at kk
          have KK := Lib.hid kk
          rw [if_pos hko] at hsc
          clear kk HIR hko
          by_cases hk0 : k = 0
          · subst hk0
            rw [if_neg (by rw [prevK_zero]; simp [badK])] at hsc
            have HSC2 := Lib.hid hsc
            have ck0 := ck
            rw [Nat.zero_mul, Nat.add_zero] at ck0
            clear hsc
            go_wp2_with fail
            refine KK.out.mono ?_
            rintro e w2 ⟨rfl, rfl⟩
            go_wp2_with fail
            go_quiet (fail)
            obtain ⟨wN, hwN⟩ : ∃ z, z = wA.drewN nq := ⟨_, rfl⟩
            rw [← hwN]
            have BN := Lib.hid (show Below w.heap.size w wN by rw [hwN]; exact below_drewN HBL.out nq)
            clear hwN
            go_wp2_with fail
            go_roundw
            case rel => exact ⟨0 + 1, by omega, by go_num, Lib.hid (by rw [HPK.out, ← HX.out]; exact HSC2.out), BN⟩
            case measure => simp [intOf]; omega
          · obtain ⟨p, hp⟩ : ∃ p, p = k - 1 := ⟨_, rfl⟩
            have e5 : IntKind.i64.wrap ((k : Int) - 1) = (p : Int) := by rw [IntWalk.i64_in _ (by omega)]; omega
            have hpl : p < es.length := by omega
            have p0 : (0 : Int) ≤ (p : Int) := by omega
            have p1 : (p : Int) < (es.length : Int) := by omega
            have y0 : decide ((0 : Int) < (k : Int)) = true := decide_eq_true (by omega)
            have y1 : decide (0 < k) = true := decide_eq_true (by omega)
            obtain ⟨b2, o2, hab2, hb2, hrg2⟩ := HRA.out.ent HL.out hpl
            obtain ⟨rfl, rfl⟩ : b2 = b ∧ o2 = o := by simpa using hab2.symm
            obtain ⟨y, hy⟩ : ∃ y, y = es[p].key := ⟨_, rfl⟩
            have cp := range_ekey hrg2
            rw [← hy] at cp
            have hpv : prevK es k = some y := by
              have h1 := prevK_succ es p hpl
              rw [show p + 1 = k by omega] at h1
              rw [h1, hy]
            rw [hpv] at hsc
            clear hrg2 hab2 hb2 hy hpv hp
            by_cases hyx : x ≤ y
            · have y2 : decide (x ≤ y) = true := decide_eq_true hyx
              rw [if_pos (by simpa [badK] using hyx)] at hsc
              subst hsc
              clear hyx
              go_wp2_with fail
              refine KK.out.mono ?_
              rintro e w2 ⟨rfl, rfl⟩
              go_wp2_with fail
              go_quiet (fail)
              obtain ⟨wN, hwN⟩ : ∃ z, z = wA.drewN nq := ⟨_, rfl⟩
              rw [← hwN]
              have BN := Lib.hid (show Below w.heap.size w wN by rw [hwN]; exact below_drewN HBL.out nq)
              clear hwN
              go_wp2_with fail
              go_ret
              exact ⟨rfl, BN.out⟩
            · have y2 : decide (x ≤ y) = false := decide_eq_false hyx
              rw [if_neg (by simpa [badK] using hyx)] at hsc
              have HSC2 := Lib.hid hsc
              clear hsc hyx
              go_wp2_with fail
              refine KK.out.mono ?_
              rintro e w2 ⟨rfl, rfl⟩
              go_wp2_with fail
              go_quiet (fail)
              obtain ⟨wN, hwN⟩ : ∃ z, z = wA.drewN nq := ⟨_, rfl⟩
              rw [← hwN]
              have BN := Lib.hid (show Below w.heap.size w wN by rw [hwN]; exact below_drewN HBL.out nq)
              clear hwN
              go_wp2_with fail
              go_roundw
              case rel => exact ⟨k + 1, by omega, by go_num, Lib.hid (by rw [HPK.out, ← HX.out]; exact HSC2.out), BN⟩
              case measure => simp [intOf]; omega
        · have kk := HIR.out
          rw [decide_eq_false hko] at kk
          have KK := Lib.hid kk
          rw [if_neg hko] at hsc
          subst hsc
          clear kk hko
          go_wp2_with fail
          refine KK.out.mono ?_
          rintro e w2 ⟨rfl, rfl⟩
          go_wp2_with fail
          go_ret
          exact ⟨rfl, HBL.out⟩
      · obtain rfl : k = es.length := by omega
        have hsc := HSC.out
        rw [List.drop_of_length_le (Nat.le_refl _)] at hsc
        have h0 : F = 0 := by rw [← hsc]; rfl
        subst h0
        clear hsc
        go_wp2_with fail
        go_ret
        exact ⟨rfl, HBL.out⟩
end Go.Proofs.YtpeomfehdccmmaaDoor
/- Walk: the laws' own 'ranges' of two ranges that are the same. -/
namespace Go.Proofs.YtpeomfehdccmmaaDoor
open Go.RowKit
set_option linter.unusedVariables false
set_option linter.unusedSimpArgs false
set_option maxRecDepth 20000 in
set_option maxHeartbeats 8000000 in
theorem Ranges_same (fr : Int) (es : List En) (hes : ∀ e ∈ es, e.val.length = 32) (pss : List (List (List UInt8))) (hel : es.length ≤ 9223372036854775807) (hpl : pss.length ≤ 1000) (hps : ∀ i, (h : i < pss.length) → pss[i].length ≤ 9223372036854775807) (ia : Option Addr) (ic ie : Nat) (pa : Option Addr) (pc pe : Nat) (vs : List Value) (ib : Option Addr) (jc je : Nat) (qa : Option Addr) (qc qe : Nat) (us : List Value) (w : World)
    (h1 : Rd w ia ie (cellsE es)) (h2 : Rd w pa pe vs) (h3 : PathsAt w pss vs) (h4 : Rd w ib je (cellsE es)) (h5 : Rd w qa qe us) (h6 : PathsAt w pss us) :
    Calls Tryd.prog 45 #[.agg #[.int .i64 fr, .slice ia es.length ic, .slice pa pss.length pc], .agg #[.int .i64 fr, .slice ib es.length jc, .slice qa pss.length qc]] w fun e w' => e = .returned (.bool true) ∧ Below w.heap.size w w' := by
  obtain ⟨H, hH⟩ : ∃ H, H = w.heap.size := ⟨_, rfl⟩
  obtain ⟨w0, hw0⟩ : ∃ z, z = w.alloc (.cells #[.int .i64 fr, .slice ia es.length ic, .slice pa pss.length pc] 61) := ⟨_, rfl⟩
  obtain ⟨w1, hw1⟩ : ∃ z, z = w0.alloc (.cells #[.int .i64 fr, .slice ib es.length jc, .slice qa pss.length qc] 61) := ⟨_, rfl⟩
  have q0 : w0.heap.size = H + 1 := by rw [hw0, hH]; exact World.size_alloc _ _
  have q1 : w1.heap.size = H + 1 + 1 := by rw [hw1, World.size_alloc, q0]
  have s0 : Below (H) w w0 := by rw [hw0, hH]; exact (Below.refl _ _).alloc (Nat.le_refl _) _
  have s1 : Below (H + 1) w0 w1 := by rw [hw1, ← q0]; exact (Below.refl _ _).alloc (Nat.le_refl _) _
  have t1 : Below (H + 1 + 1) w1 w1 := Below.refl _ _
  have t0 : Below (H + 1) w0 w1 := s1.trans (t1.mono (by omega))
  have bL : Below H w w1 := s0.trans (t0.mono (by omega))
  have g0 : w1.heap[H]? = some (.cells #[.int .i64 fr, .slice ia es.length ic, .slice pa pss.length pc] 61 (0, 0)) := by
    have g : w0.heap[H]? = some (.cells #[.int .i64 fr, .slice ia es.length ic, .slice pa pss.length pc] 61 (0, 0)) := by rw [hw0, hH]; exact heap_alloc_new _ _
    exact (t0.block _ (by omega)).trans g
  have g1 : w1.heap[H + 1]? = some (.cells #[.int .i64 fr, .slice ib es.length jc, .slice qa pss.length qc] 61 (0, 0)) := by
    have g : w1.heap[H + 1]? = some (.cells #[.int .i64 fr, .slice ib es.length jc, .slice qa pss.length qc] 61 (0, 0)) := by rw [hw1, ← q0]; exact heap_alloc_new _ _
    exact (t1.block _ (by omega)).trans g
  have bW : Below w.heap.size w w1 := by rw [← hH]; exact bL
  have hsz : H + 1 < w1.heap.size := by omega
  have HH := Lib.hid hH
  have HW0 := Lib.hid hw0
  have HW1 := Lib.hid hw1
  have BL := Lib.hid bL
  have BW := Lib.hid bW
  have QL := Lib.hid q1
  have G0 := Lib.hid g0
  have G1 := Lib.hid g1
  clear hH hw0 hw1 q0 q1 s0 s1 t0 t1 g0 g1 bL bW
  have HES := Lib.hid hes
  have HPS := Lib.hid hps
  have EC := Entries_calls es es hes hes ia ic ie ib jc je w1 (h1.below BW.out) (h4.below BW.out) hel
  rw [decide_eq_true rfl] at EC
  have HEC := Lib.hid EC
  have RV1 := Lib.hid (h2.below BW.out)
  have RV2 := Lib.hid (h5.below BW.out)
  have PP1 := Lib.hid (h3.below BW.out)
  have PP2 := Lib.hid (h6.below BW.out)
  obtain ⟨a0, a1, a2⟩ := rng_cells G0.out
  obtain ⟨b0, b1, b2⟩ := rng_cells G1.out
  clear EC hes hps h1 h2 h3 h4 h5 h6
  go_enter Tryd.func45, Tryd.ntmps45
  go_upto_region 1 with fail
  rw [← HH.out, ← HW0.out, ← HW1.out]
  go_wp2_with fail
  refine HEC.out.mono ?_
  rintro e w2 ⟨rfl, n2, rfl⟩
  go_wp2_with fail
  go_loopw [6] (fun i wr => ∃ k n : Nat, k ≤ pss.length ∧ i = .int .i64 (k : Int) ∧ wr = w1.drewN n) (fun i _ => pss.length - (intOf i).toNat)
  case atStart => exact ⟨0, n2, Nat.zero_le _, rfl, rfl⟩
  case round =>
    obtain ⟨k, n, hk, rfl, rfl⟩ := hrel
    by_cases hlt : k < pss.length
    · obtain ⟨pb, po, hpb, hpbl, hpc⟩ := RV1.out.cell (k := k) (by rw [PP1.out.1]; exact hlt)
      obtain ⟨qb, qo, hqb, hqbl, hqc⟩ := RV2.out.cell (k := k) (by rw [PP2.out.1]; exact hlt)
      subst hpb
      subst hqb
      obtain ⟨hpd, xa, xc, xe, hv1, hr1⟩ := PP1.out.2 k hlt
      obtain ⟨hqd, ya, yc, ye, hv2, hr2⟩ := PP2.out.2 k hlt
      have c1 := hpc k (by rw [PP1.out.1]; exact hlt)
      have c2 := hqc k (by rw [PP2.out.1]; exact hlt)
      rw [← List.getElem?_eq_getElem (by rw [PP1.out.1]; exact hlt), hv1] at c1
      rw [← List.getElem?_eq_getElem (by rw [PP2.out.1]; exact hlt), hv2] at c2
      have hpk := HPS.out k hlt
      obtain ⟨ps, hps⟩ : ∃ ps, ps = pss[k] := ⟨_, rfl⟩
      rw [← hps] at hpd hv1 hr1 hv2 hr2 c1 c2 hpk
      have k0 : (0 : Int) ≤ (k : Int) := by omega
      have k1 : (k : Int) < (pss.length : Int) := by omega
      have e4 : IntKind.i64.wrap ((k : Int) + 1) = (k : Int) + 1 := IntWalk.i64_in _ (by omega)
      have DC := fun (m : Nat) => (Digests_calls ps ps hpd hpd xa ya xc yc xe ye (w1.drewN (n + m)) (hr1.below (below_drewN (Below.refl _ _) _)) (hr2.below (below_drewN (Below.refl _ _) _)) hpk).mono fun e w'' h => (⟨by rw [h.1, decide_eq_true rfl], by obtain ⟨m2, h2⟩ := h.2; exact ⟨m + m2, by rw [h2, World.drewN_drewN, Nat.add_assoc]⟩⟩ : e = .returned (.bool true) ∧ ∃ q, w'' = w1.drewN (n + q))
      have HDC := Lib.hid DC
      clear DC hpd hqd hv1 hv2 hr1 hr2 hpc hqc hps hpk hpbl hqbl
      go_wp2_with fail
      refine wp_region_quiet_lit (by kernel_rfl) (by kernel_rfl) ?_
      repeat (first
        | go_big_quiet_step (exact HDC.out _))
      refine wpQuiet_nil ?_
      rintro _ ⟨nq, rfl⟩
      go_wp2_with fail
      go_roundw
      case rel => exact ⟨k + 1, n + nq, by omega, by go_num, by first | rfl | exact World.drewN_drewN _ _ _⟩
      case measure => simp [intOf]; omega
    · obtain rfl : k = pss.length := by omega
      go_wp2_with fail
      go_ret
      exact ⟨rfl, below_drewN BW.out n⟩
end Go.Proofs.YtpeomfehdccmmaaDoor
