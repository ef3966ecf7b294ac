/- Walks: are two rows of digests the same; the laws' own mapClash: two ways up from unlike digests to one root have two unlike pairs with one node. -/
import Derived.Test.YtpeomfehdccmmaaDoorTrieFold2
import Derived.Test.YtpeomfehdccmmaaDoorEntMem
namespace Go.Proofs.YtpeomfehdccmmaaDoor
open Go.RowKit
set_option linter.unusedVariables false
set_option linter.unusedSimpArgs false
theorem Digests_calls (xs ys : List (List UInt8)) (hx : ∀ c ∈ xs, c.length = 32) (hy : ∀ c ∈ ys, c.length = 32) (a b : Option Addr) (ca cb ea eb : Nat) (w : World) (ha : Rd w a ea (xs.flatten.map vB)) (hb : Rd w b eb (ys.flatten.map vB)) (hl : xs.length ≤ 9223372036854775807) :
    Calls Tryd.prog 30 #[.slice a xs.length ca, .slice b ys.length cb] w fun e w' => e = .returned (.bool (decide (xs = ys))) ∧ ∃ n, w' = w.drewN n := by
  have Hx := Lib.hid hx
  have Hy := Lib.hid hy
  clear hx hy
  by_cases hlen : xs.length = ys.length
  · have hl1 : xs.length ≤ ys.length := by omega
    have hl2 : ys.length ≤ xs.length := by omega
    clear hlen
    go_enter Tryd.func30, Tryd.ntmps30
    go_wp2
    go_loopw [5] (fun i wr => ∃ k n : Nat, k ≤ xs.length ∧ i = .int .i64 k ∧ xs.take k = ys.take k ∧ wr = w.drewN n) (fun i _ => xs.length - (intOf i).toNat)
    case atStart => exact ⟨0, 0, Nat.zero_le _, rfl, rfl, rfl⟩
    case round =>
      obtain ⟨k, n, hk, rfl, ht, rfl⟩ := hrel
      have Ht := Lib.hid ht
      clear ht
      by_cases hlt : k < xs.length
      · have hlt2 : k < ys.length := by omega
        obtain ⟨ba, oa, rfl, _, hca⟩ := ha.range Hx.out hlt
        obtain ⟨bb, ob, rfl, _, hcb⟩ := hb.range Hy.out hlt2
        have hcw := Hx.out _ (List.getElem_mem hlt)
        have hdw := Hy.out _ (List.getElem_mem hlt2)
        obtain ⟨c, hc⟩ : ∃ c, c = xs[k] := ⟨_, rfl⟩
        obtain ⟨d, hd⟩ : ∃ d, d = ys[k] := ⟨_, rfl⟩
        rw [← hc] at hca hcw
        rw [← hd] at hcb hdw
        have HCA := Lib.hid hca
        have HCB := Lib.hid hcb
        have HCW := Lib.hid hcw
        have HDW := Lib.hid hdw
        have HC := Lib.hid hc
        have HD := Lib.hid hd
        have i1 : (k : Int) < (xs.length : Int) := by omega
        have i2 : (k : Int) < (ys.length : Int) := by omega
        have i0 : (0 : Int) ≤ (k : Int) := by omega
        obtain ⟨q, hq⟩ : ∃ q, (!(c == d)) = !q := ⟨_, rfl⟩
        have HQ := Lib.hid hq
        clear hca hcb ha hb hcw hdw hc hd hq
        go_wp2_with fail
        refine wp_region_quiet_lit (by kernel_rfl) (by kernel_rfl) ?_
        repeat (first
          | (refine quiet_dig rfl (.tmp 19) rfl ba (oa + k * 32) (by rfl) c HCW.out (fun w' hw' => by obtain ⟨n, rfl⟩ := hw'; exact HCA.out) ?_; simp only [Act.put, List.setIfInBounds_toArray, List.set_cons_zero, List.set_cons_succ])
          | (refine quiet_dig rfl (.tmp 23) rfl bb (ob + k * 32) (by rfl) d HDW.out (fun w' hw' => by obtain ⟨n, rfl⟩ := hw'; exact HCB.out) ?_; simp only [Act.put, List.setIfInBounds_toArray, List.set_cons_zero, List.set_cons_succ])
          | (refine quiet_dig_neq rfl (.tmp 20) (.tmp 24) _ rfl c d (by rfl) (by rfl) HCW.out HDW.out ?_; rw [HQ.out]; simp only [Act.put, List.setIfInBounds_toArray, List.set_cons_zero, List.set_cons_succ])
          | go_big_quiet_step (fail))
        refine wpQuiet_nil ?_
        rintro _ ⟨nq, rfl⟩
        cases q with
        | true =>
          have hcd : c = d := by have := HQ.out; simpa using this
          have Hcd := Lib.hid hcd
          clear hcd
          go_wp2_with fail
          go_roundw
          case rel => exact ⟨k + 1, n + nq, by omega, by go_num, by rw [List.take_succ_eq_append_getElem hlt, List.take_succ_eq_append_getElem hlt2, Ht.out, ← HC.out, ← HD.out, Hcd.out], rfl⟩
          case measure => simp [intOf] <;> omega
        | false =>
          have hcd : ¬ c = d := by have := HQ.out; simpa using this
          have Hcd := Lib.hid hcd
          clear hcd
          go_wp2_with fail
          go_ret
          have hne : ¬ xs = ys := fun h => Hcd.out (by rw [HC.out, HD.out]; simp [h])
          exact ⟨by rw [decide_eq_false hne]; try rfl, n + nq, by rw [World.drewN_drewN]⟩
      · obtain rfl : k = xs.length := by omega
        go_wp2
        go_ret
        have := Ht.out
        rw [List.take_of_length_le (Nat.le_refl _), List.take_of_length_le hl2] at this
        exact ⟨by rw [decide_eq_true this]; try rfl, n, rfl⟩
  · have hne : ((xs.length : Int) != (ys.length : Int)) = true := by rw [bne_iff_ne]; omega
    go_enter Tryd.func30, Tryd.ntmps30
    go_wp2
    go_ret
    have hn : ¬ xs = ys := fun h => hlen (by rw [h])
    exact ⟨by rw [decide_eq_false hn]; try rfl, 0, rfl⟩
theorem pair_at (w : World) (E : Nat) (l r : List UInt8) (hl : l.length = 32) (hr : r.length = 32) {t : TypeId} {fr : Nat × Nat} (h : w.heap[E]? = some (.cells (dV (l ++ r)) t fr)) : w.rangeAt E 0 (l.map vB) ∧ w.rangeAt E 32 (r.map vB) := by
  have hg := range_of_row h
  rw [List.map_append] at hg
  constructor
  · intro j v hj
    exact hg j v (by rw [List.getElem?_append_left (by have := (List.getElem?_eq_some_iff.1 hj).1; simpa using this)]; exact hj)
  · intro j v hj
    have := hg (32 + j) v (by rw [List.getElem?_append_right (by simp [hl])]; simpa [hl] using hj)
    rw [Nat.zero_add] at this
    exact this
theorem rd_pair {w : World} {E : Nat} {l r : List UInt8} {t : TypeId} {fr : Nat × Nat} (h : w.heap[E]? = some (.cells (dV (l ++ r)) t fr)) : Rd w (some ⟨E, 0, none⟩) t ([l, r].flatten.map vB) := by
  rw [show [l, r].flatten = l ++ r by simp]
  refine .inr ⟨E, 0, dV (l ++ r), fr, rfl, h, fun i hi => ?_⟩
  have hi2 : i < (l ++ r).length := by simpa using hi
  rw [Nat.zero_add, dV_get hi2, List.getElem_map]
  rfl
theorem two_len {l r : List UInt8} (hl : l.length = 32) (hr : r.length = 32) : ∀ d ∈ [l, r], d.length = 32 := by
  intro d hd
  rcases List.mem_cons.1 hd with rfl | hd
  · exact hl
  · rw [List.mem_singleton.1 hd]; exact hr
theorem World.drew_heap_size (w : World) : w.drew.heap.size = w.heap.size := rfl
set_option maxRecDepth 100000 in
set_option maxHeartbeats 16000000 in
theorem Clash_calls (k : Nat) (hk : k < 4294967296) (a b : List UInt8) (ha : a.length = 32) (hb : b.length = 32) (hab : a ≠ b) (ps qs : List (List UInt8)) (hpn : ps.length = 32) (hqn : qs.length = 32) (hp : ∀ p ∈ ps, p.length = 32) (hq : ∀ p ∈ qs, p.length = 32) (hfo : foldD k a ps = foldD k b qs) (pa : Option Addr) (pc pe : Nat) (qa : Option Addr) (qc qe : Nat) (w : World) (hrp : Rd w pa pe (ps.flatten.map vB)) (hrq : Rd w qa qe (qs.flatten.map vB)) :
    Calls Tryd.prog 21 #[.int .i64 (k : Int), .agg (dV a), .slice pa 32 pc, .agg (dV b), .slice qa 32 qc] w fun e w' => e = .returned (.bool true) ∧ Below w.heap.size w w' := by
  obtain ⟨H, hH⟩ : ∃ H, H = w.heap.size := ⟨_, rfl⟩
  obtain ⟨w0, hw0⟩ : ∃ z, z = w.alloc (.cells (dV a) 23) := ⟨_, rfl⟩
  obtain ⟨w1, hw1⟩ : ∃ z, z = w0.alloc (.cells (dV b) 23) := ⟨_, rfl⟩
  have q0 : w0.heap.size = H + 1 := by rw [hw0, hH]; exact World.size_alloc _ _
  have q1 : w1.heap.size = H + 1 + 1 := by rw [hw1, World.size_alloc, q0]
  have s0 : Below (H) w w0 := by rw [hw0, hH]; exact (Below.refl _ _).alloc (Nat.le_refl _) _
  have s1 : Below (H + 1) w0 w1 := by rw [hw1, ← q0]; exact (Below.refl _ _).alloc (Nat.le_refl _) _
  have t1 : Below (H + 1 + 1) w1 w1 := Below.refl _ _
  have t0 : Below (H + 1) w0 w1 := s1.trans (t1.mono (by omega))
  have bL : Below H w w1 := s0.trans (t0.mono (by omega))
  have g0 : w1.heap[H]? = some (.cells (dV a) 23 (0, 0)) := by
    have g : w0.heap[H]? = some (.cells (dV a) 23 (0, 0)) := by rw [hw0, hH]; exact heap_alloc_new _ _
    exact (t0.block _ (by omega)).trans g
  have g1 : w1.heap[H + 1]? = some (.cells (dV b) 23 (0, 0)) := by
    have g : w1.heap[H + 1]? = some (.cells (dV b) 23 (0, 0)) := by rw [hw1, ← q0]; exact heap_alloc_new _ _
    exact (t1.block _ (by omega)).trans g
  have bW : Below w.heap.size w w1 := by rw [← hH]; exact bL
  have hsz : H + 1 < w1.heap.size := by omega
  have HH := Lib.hid hH
  have HW0 := Lib.hid hw0
  have HW1 := Lib.hid hw1
  have BL := Lib.hid bL
  have BW := Lib.hid bW
  have QL := Lib.hid q1
  have G0 := Lib.hid g0
  have G1 := Lib.hid g1
  clear hH hw0 hw1 q0 q1 s0 s1 t0 t1 g0 g1 bL bW
  have HRP := Lib.hid hrp
  have HRQ := Lib.hid hrq
  have HP := Lib.hid hp
  have HQQ := Lib.hid hq
  have HPN := Lib.hid hpn
  have HQN := Lib.hid hqn
  have HA := Lib.hid ha
  have HB := Lib.hid hb
  have HFO := Lib.hid hfo
  have HAB0 := Lib.hid hab
  clear hrp hrq hp hq hpn hqn ha hb hfo hab
  go_enter Tryd.func21, Tryd.ntmps21
  go_upto_region 1 with fail
  rw [← HH.out, ← HW0.out, ← HW1.out]
  go_wp2_with fail
  go_loopw [0, 11] (fun kv i wr => ∃ j : Nat, j ≤ 32 ∧ i = .int .i64 j ∧ kv = .int .i64 ((k / 2 ^ j : Nat) : Int) ∧ wr.heap[H]? = some (.cells (dV (foldD k a (ps.take j))) 23 (0, 0)) ∧ wr.heap[H + 1]? = some (.cells (dV (foldD k b (qs.take j))) 23 (0, 0)) ∧ foldD k a (ps.take j) ≠ foldD k b (qs.take j) ∧ Below H w wr) (fun _ i _ => 32 - (intOf i).toNat)
  case atStart => exact ⟨0, Nat.zero_le _, rfl, by simp, G0.out, G1.out, by simpa [foldD] using HAB0.out, BL.out⟩
  case round =>
    obtain ⟨j, hj, rfl, rfl, hga, hgb, hne, hbl⟩ := hrel
    have hH1 := lt_of_heap hgb
    have j0 : (0 : Int) ≤ (j : Int) := by omega
    have hwH : w.heap.size ≤ H := by rw [HH.out]; exact Nat.le_refl _
    by_cases hlj : j < 32
    · have hjp : j < ps.length := by rw [HPN.out]; exact hlj
      have hjq : j < qs.length := by rw [HQN.out]; exact hlj
      obtain ⟨bp, op, rfl, hbp0, hrgp⟩ := HRP.out.range HP.out hjp
      obtain ⟨bq, oq, rfl, hbq0, hrgq⟩ := HRQ.out.range HQQ.out hjq
      have rp : wr.rangeAt bp (op + j * 32) (ps[j].map vB) := range_low hrgp hbl (by rw [HH.out]; exact hbp0)
      have rq : wr.rangeAt bq (oq + j * 32) (qs[j].map vB) := range_low hrgq hbl (by rw [HH.out]; exact hbq0)
      have hbp : bp < wr.heap.size := by omega
      have hbq : bq < wr.heap.size := by omega
      have pl : ps[j].length = 32 := HP.out _ (List.getElem_mem _)
      have ql : qs[j].length = 32 := HQQ.out _ (List.getElem_mem _)
      have ta := foldD_take k a ps j hjp
      have tb := foldD_take k b qs j hjq
      have al := foldD_length k (ps.take j) a HA.out
      have bl := foldD_length k (qs.take j) b HB.out
      have a2l := foldD_length k (ps.take (j + 1)) a HA.out
      have b2l := foldD_length k (qs.take (j + 1)) b HB.out
      have j1 : (j : Int) < 32 := by omega
      have e4 : IntKind.i64.wrap ((j : Int) + 1) = (j : Int) + 1 := IntWalk.i64_in _ (by omega)
      obtain ⟨P, hPP⟩ : ∃ P, P = ps[j] := ⟨_, rfl⟩
      obtain ⟨Q, hQQ⟩ : ∃ Q, Q = qs[j] := ⟨_, rfl⟩
      obtain ⟨A, hAA⟩ : ∃ A, A = foldD k a (ps.take j) := ⟨_, rfl⟩
      obtain ⟨B, hBB⟩ : ∃ B, B = foldD k b (qs.take j) := ⟨_, rfl⟩
      obtain ⟨A2, hA2⟩ : ∃ A2, A2 = foldD k a (ps.take (j + 1)) := ⟨_, rfl⟩
      obtain ⟨B2, hB2⟩ : ∃ B2, B2 = foldD k b (qs.take (j + 1)) := ⟨_, rfl⟩
      obtain ⟨x, hx⟩ : ∃ x, x = k / 2 ^ j := ⟨_, rfl⟩
      have hx2 : k / 2 ^ (j + 1) = x / 2 := by rw [hx, Nat.pow_succ, Nat.div_div_eq_div_mul]
      rw [← hPP] at rp pl ta
      rw [← hQQ] at rq ql tb
      rw [← hAA] at hga ta al hne
      rw [← hBB] at hgb tb bl hne
      rw [← hA2] at ta a2l
      rw [← hB2] at tb b2l
      rw [← hx] at ta tb ⊢
      have xl : x < 4294967296 := by rw [hx]; exact Nat.lt_of_le_of_lt (Nat.div_le_self _ _) hk
      obtain ⟨x2, hx22⟩ : ∃ x2, x2 = x / 2 := ⟨_, rfl⟩
      rw [← hx22] at hx2
      have m1 : (x : Int) / 2 = (x2 : Int) := by omega
      have m1t : (x : Int).tdiv 2 = (x2 : Int) := by rw [Int.tdiv_eq_ediv_of_nonneg (by omega)]; exact m1
      have m1w : IntKind.i64.wrap (x2 : Int) = (x2 : Int) := IntWalk.i64_in _ (by omega)
      have RP := Lib.hid rp
      have RQ := Lib.hid rq
      have PL := Lib.hid pl
      have QL := Lib.hid ql
      have AL := Lib.hid al
      have BL2 := Lib.hid bl
      have A2L := Lib.hid a2l
      have B2L := Lib.hid b2l
      have GA := Lib.hid hga
      have GB := Lib.hid hgb
      have NE := Lib.hid hne
      have HBL := Lib.hid hbl
      have HX2 := Lib.hid hx2
      have HA2 := Lib.hid hA2
      have HB2 := Lib.hid hB2
      have TA := Lib.hid ta
      have TB := Lib.hid tb
      clear rp rq pl ql al bl a2l b2l hga hgb hne hbl hx2 hA2 hB2 ta tb hPP hQQ hAA hBB hx hx22 hrgp hrgq hbp0 hbq0 BL G0 G1
      by_cases hb1 : x % 2 = 1
      · have m2 : (x : Int) % 2 = 1 := by omega
        have m2t : (x : Int).tmod 2 = 1 := by rw [Int.tmod_eq_emod_of_nonneg (by omega)]; exact m2
        have na := TA.out
        have nb := TB.out
        rw [if_pos hb1] at na nb
        have NA := Lib.hid na.symm
        have NB := Lib.hid nb.symm
        clear na nb
        go_wp2_with fail
        refine wp_region_still_tail 5 (by kernel_rfl) (by kernel_rfl) ?_
        simp only [List.take_succ_cons, List.take_zero, List.drop_succ_cons, List.drop_zero]
        refine still_dig rfl (.tmp 6) rfl H 0 (by rfl) A AL.out (range_of_row GA.out) ?_
        simp only [Act.put, List.setIfInBounds_toArray, List.set_cons_zero, List.set_cons_succ]
        still_step
        still_step
        still_step
        refine still_dig rfl (.tmp 22) rfl bp (op + j * 32) (by rfl) P PL.out RP.out ?_
        simp only [Act.put, List.setIfInBounds_toArray, List.set_cons_zero, List.set_cons_succ]
        refine wpStill_nil ?_
        change wpList _ _ _ _ _ wr.drew
        obtain ⟨Ea, hEa⟩ : ∃ z, z = wr.heap.size := ⟨_, rfl⟩
        obtain ⟨wa, hwa⟩ : ∃ z, z = wr.drew.alloc (.cells (dV (A ++ P)) 23) := ⟨_, rfl⟩
        have b1 : Below wr.heap.size wr wa := by rw [hwa]; exact ((Below.refl _ wr).drew).alloc (Nat.le_refl _) _
        have x1 : wa.heap[Ea]? = some (.cells (dV (A ++ P)) 23 (0, 0)) := by rw [hwa, hEa]; exact heap_alloc_new wr.drew _
        have HEa := Lib.hid hEa
        have Hwa := Lib.hid hwa
        have Bk1 := Lib.hid b1
        have X1 := Lib.hid x1
        have l1 := lt_of_heap x1
        clear hEa hwa b1 x1
        go_wp2_with ((refine wpl_build2 24 23 _ 32 32 Tryd.underlying24 info_dig (by omega) (by omega) rfl (.tmp 19) (.tmp 23) rfl (dV A) (dV P) (by rfl) (by rfl) (dV_size AL.out) (dV_size PL.out) ?_); rw [dV_app]; simp only [World.drew_heap_size]; rw [← HEa.out, ← Hwa.out]; simp only [Act.put, List.setIfInBounds_toArray, List.set_cons_zero, List.set_cons_succ])
        have GBa := Lib.hid ((Bk1.out.block (H + 1) hH1).trans GB.out)
        have GAa := Lib.hid ((Bk1.out.block H (by omega)).trans GA.out)
        have RPa := Lib.hid (range_low RP.out Bk1.out hbp)
        have RQa := Lib.hid (range_low RQ.out Bk1.out hbq)
        refine wp_region_still_tail 5 (by kernel_rfl) (by kernel_rfl) ?_
        simp only [List.take_succ_cons, List.take_zero, List.drop_succ_cons, List.drop_zero]
        refine still_dig rfl (.tmp 8) rfl (H + 1) 0 (by rfl) B BL2.out (range_of_row GBa.out) ?_
        simp only [Act.put, List.setIfInBounds_toArray, List.set_cons_zero, List.set_cons_succ]
        still_step
        still_step
        still_step
        refine still_dig rfl (.tmp 28) rfl bq (oq + j * 32) (by rfl) Q QL.out RQa.out ?_
        simp only [Act.put, List.setIfInBounds_toArray, List.set_cons_zero, List.set_cons_succ]
        refine wpStill_nil ?_
        change wpList _ _ _ _ _ wa.drew
        obtain ⟨Eb, hEb⟩ : ∃ z, z = wa.heap.size := ⟨_, rfl⟩
        obtain ⟨wb, hwb⟩ : ∃ z, z = wa.drew.alloc (.cells (dV (B ++ Q)) 23) := ⟨_, rfl⟩
        have b2 : Below wa.heap.size wa wb := by rw [hwb]; exact ((Below.refl _ wa).drew).alloc (Nat.le_refl _) _
        have x2 : wb.heap[Eb]? = some (.cells (dV (B ++ Q)) 23 (0, 0)) := by rw [hwb, hEb]; exact heap_alloc_new wa.drew _
        have HEb := Lib.hid hEb
        have Hwb := Lib.hid hwb
        have Bk2 := Lib.hid b2
        have X2 := Lib.hid x2
        have l2 := lt_of_heap x2
        clear hEb hwb b2 x2
        go_wp2_with ((refine wpl_build2 24 23 _ 32 32 Tryd.underlying24 info_dig (by omega) (by omega) rfl (.tmp 25) (.tmp 29) rfl (dV B) (dV Q) (by rfl) (by rfl) (dV_size BL2.out) (dV_size QL.out) ?_); rw [dV_app]; simp only [World.drew_heap_size]; rw [← HEb.out, ← Hwb.out]; simp only [Act.put, List.setIfInBounds_toArray, List.set_cons_zero, List.set_cons_succ])
        have B2w := Lib.hid (Bk1.out.trans (Bk2.out.mono Bk1.out.size))
        have GAb := Lib.hid ((B2w.out.block H (by omega)).trans GA.out)
        have RPb := Lib.hid (range_low RP.out B2w.out hbp)
        refine wp_region_still_tail 5 (by kernel_rfl) (by kernel_rfl) ?_
        simp only [List.take_succ_cons, List.take_zero, List.drop_succ_cons, List.drop_zero]
        still_step
        still_step
        still_step
        refine still_dig rfl (.tmp 36) rfl bp (op + j * 32) (by rfl) P PL.out RPb.out ?_
        simp only [Act.put, List.setIfInBounds_toArray, List.set_cons_zero, List.set_cons_succ]
        refine still_dig rfl (.tmp 6) rfl H 0 (by rfl) A AL.out (range_of_row GAb.out) ?_
        simp only [Act.put, List.setIfInBounds_toArray, List.set_cons_zero, List.set_cons_succ]
        refine wpStill_nil ?_
        change wpList _ _ _ _ _ wb.drew
        obtain ⟨Ec, hEc⟩ : ∃ z, z = wb.heap.size := ⟨_, rfl⟩
        obtain ⟨wc, hwc⟩ : ∃ z, z = wb.drew.alloc (.cells (dV (P ++ A)) 23) := ⟨_, rfl⟩
        have b3 : Below wb.heap.size wb wc := by rw [hwc]; exact ((Below.refl _ wb).drew).alloc (Nat.le_refl _) _
        have x3 : wc.heap[Ec]? = some (.cells (dV (P ++ A)) 23 (0, 0)) := by rw [hwc, hEc]; exact heap_alloc_new wb.drew _
        have HEc := Lib.hid hEc
        have Hwc := Lib.hid hwc
        have Bk3 := Lib.hid b3
        have X3 := Lib.hid x3
        have l3 := lt_of_heap x3
        clear hEc hwc b3 x3
        go_wp2_with ((refine wpl_build2 24 23 _ 32 32 Tryd.underlying24 info_dig (by omega) (by omega) rfl (.tmp 37) (.tmp 38) rfl (dV P) (dV A) (by rfl) (by rfl) (dV_size PL.out) (dV_size AL.out) ?_); rw [dV_app]; simp only [World.drew_heap_size]; rw [← HEc.out, ← Hwc.out]; simp only [Act.put, List.setIfInBounds_toArray, List.set_cons_zero, List.set_cons_succ])
        have B3w := Lib.hid (B2w.out.trans (Bk3.out.mono B2w.out.size))
        have GBc := Lib.hid ((B3w.out.block (H + 1) hH1).trans GB.out)
        have RQc := Lib.hid (range_low RQ.out B3w.out hbq)
        refine wp_region_still_tail 5 (by kernel_rfl) (by kernel_rfl) ?_
        simp only [List.take_succ_cons, List.take_zero, List.drop_succ_cons, List.drop_zero]
        still_step
        still_step
        still_step
        refine still_dig rfl (.tmp 42) rfl bq (oq + j * 32) (by rfl) Q QL.out RQc.out ?_
        simp only [Act.put, List.setIfInBounds_toArray, List.set_cons_zero, List.set_cons_succ]
        refine still_dig rfl (.tmp 8) rfl (H + 1) 0 (by rfl) B BL2.out (range_of_row GBc.out) ?_
        simp only [Act.put, List.setIfInBounds_toArray, List.set_cons_zero, List.set_cons_succ]
        refine wpStill_nil ?_
        change wpList _ _ _ _ _ wc.drew
        obtain ⟨Ed, hEd⟩ : ∃ z, z = wc.heap.size := ⟨_, rfl⟩
        obtain ⟨wd, hwd⟩ : ∃ z, z = wc.drew.alloc (.cells (dV (Q ++ B)) 23) := ⟨_, rfl⟩
        have b4 : Below wc.heap.size wc wd := by rw [hwd]; exact ((Below.refl _ wc).drew).alloc (Nat.le_refl _) _
        have x4 : wd.heap[Ed]? = some (.cells (dV (Q ++ B)) 23 (0, 0)) := by rw [hwd, hEd]; exact heap_alloc_new wc.drew _
        have HEd := Lib.hid hEd
        have Hwd := Lib.hid hwd
        have Bk4 := Lib.hid b4
        have X4 := Lib.hid x4
        have l4 := lt_of_heap x4
        clear hEd hwd b4 x4
        go_wp2_with ((refine wpl_build2 24 23 _ 32 32 Tryd.underlying24 info_dig (by omega) (by omega) rfl (.tmp 43) (.tmp 44) rfl (dV Q) (dV B) (by rfl) (by rfl) (dV_size QL.out) (dV_size BL2.out) ?_); rw [dV_app]; simp only [World.drew_heap_size]; rw [← HEd.out, ← Hwd.out]; simp only [Act.put, List.setIfInBounds_toArray, List.set_cons_zero, List.set_cons_succ])
        have B4w := Lib.hid (B3w.out.trans (Bk4.out.mono B3w.out.size))
        have XX := Lib.hid ((Bk4.out.block Ec l3).trans X3.out)
        have XY := Lib.hid X4.out
        have hEx : wr.heap.size ≤ Ec := by rw [HEc.out]; exact B2w.out.size
        have hEy : wr.heap.size ≤ Ed := by rw [HEd.out]; exact B3w.out.size
        obtain ⟨u1, u2⟩ := pair_at wd Ec P A PL.out AL.out XX.out
        have U1 := Lib.hid u1
        have U2 := Lib.hid u2
        have GH := Lib.hid ((B4w.out.block H (by omega)).trans GA.out)
        have GH1 := Lib.hid ((B4w.out.block (H + 1) hH1).trans GB.out)
        have hs9 := B4w.out.size
        clear u1 u2
        refine wp_region_still_tail 6 (by kernel_rfl) (by kernel_rfl) ?_
        simp only [List.take_succ_cons, List.take_zero, List.drop_succ_cons, List.drop_zero]
        still_step
        still_step
        refine still_dig rfl (.tmp 47) rfl Ec 0 (by rfl) P PL.out U1.out ?_
        simp only [Act.put, List.setIfInBounds_toArray, List.set_cons_zero, List.set_cons_succ]
        still_step
        still_step
        refine still_dig rfl (.tmp 50) rfl Ec 32 (by rfl) A AL.out U2.out ?_
        simp only [Act.put, List.setIfInBounds_toArray, List.set_cons_zero, List.set_cons_succ]
        refine wpStill_nil ?_
        change wpList _ _ _ _ _ wd.drew
        have GHd := Lib.hid (show wd.drew.heap[H]? = some (.cells (dV A) 23 (0, 0)) from GH.out)
        have GH1d := Lib.hid (show wd.drew.heap[H + 1]? = some (.cells (dV B) 23 (0, 0)) from GH1.out)
        have XXd := Lib.hid (show wd.drew.heap[Ec]? = some (.cells (dV (P ++ A)) 23 (0, 0)) from XX.out)
        have XYd := Lib.hid (show wd.drew.heap[Ed]? = some (.cells (dV (Q ++ B)) 23 (0, 0)) from XY.out)
        have Bd := Lib.hid (HBL.out.trans ((B4w.out.drew).mono (by omega)))
        have sd : wr.heap.size ≤ wd.drew.heap.size := hs9
        generalize wd.drew = v1 at *
        go_wp2_with fail
        refine (RMapNode_calls P A PL.out AL.out v1).mono ?_
        rintro e v2 ⟨rfl, hv2⟩
        rw [show nodeD P A = A2 from NA.out]
        have hx2 := lt_of_heap XXd.out
        have hy2 := lt_of_heap XYd.out
        have GH2 := Lib.hid ((hv2.block H (by omega)).trans GHd.out)
        have GH12 := Lib.hid ((hv2.block (H + 1) (by omega)).trans GH1d.out)
        have XX2 := Lib.hid ((hv2.block Ec hx2).trans XXd.out)
        have XY2 := Lib.hid ((hv2.block Ed hy2).trans XYd.out)
        have Bd2 := Lib.hid (Bd.out.trans (hv2.mono (by omega)))
        have s2 := Nat.le_trans sd hv2.size
        clear hv2
        obtain ⟨v3, hv3⟩ : ∃ z, z = v2.setRow H (dV A2) := ⟨_, rfl⟩
        have GH3 := Lib.hid (show v3.heap[H]? = some (.cells (dV A2) 23 (0, 0)) by rw [hv3]; exact setRow_heap _ _ _ _ _ _ GH2.out)
        have GH13 := Lib.hid (show v3.heap[H + 1]? = some (.cells (dV B) 23 (0, 0)) by rw [hv3, setRow_other _ _ _ _ (by omega)]; exact GH12.out)
        have XX3 := Lib.hid (show v3.heap[Ec]? = some (.cells (dV (P ++ A)) 23 (0, 0)) by rw [hv3, setRow_other _ _ _ _ (by omega)]; exact XX2.out)
        have XY3 := Lib.hid (show v3.heap[Ed]? = some (.cells (dV (Q ++ B)) 23 (0, 0)) by rw [hv3, setRow_other _ _ _ _ (by omega)]; exact XY2.out)
        have Bd3 := Lib.hid (show Below H w v3 by rw [hv3]; exact below_setRowW Bd2.out (Nat.le_refl _) _)
        have HV3 := Lib.hid hv3
        have s3 : wr.heap.size ≤ v3.heap.size := by rw [hv3, setRow_size]; exact s2
        clear hv3
        go_wp2_with ((refine st_row rfl (.tmp 6) (.tmp 52) rfl H A2 A2L.out (by rfl) (by rfl) (dV A) (dV_size AL.out) _ GH2.out ?_); rw [← HV3.out]; simp only [Act.put, List.setIfInBounds_toArray, List.set_cons_zero, List.set_cons_succ])
        obtain ⟨y1, y2⟩ := pair_at v3 Ed Q B QL.out BL2.out XY3.out
        have Y1 := Lib.hid y1
        have Y2 := Lib.hid y2
        clear y1 y2
        refine wp_region_still_tail 6 (by kernel_rfl) (by kernel_rfl) ?_
        simp only [List.take_succ_cons, List.take_zero, List.drop_succ_cons, List.drop_zero]
        still_step
        still_step
        refine still_dig rfl (.tmp 54) rfl Ed 0 (by rfl) Q QL.out Y1.out ?_
        simp only [Act.put, List.setIfInBounds_toArray, List.set_cons_zero, List.set_cons_succ]
        still_step
        still_step
        refine still_dig rfl (.tmp 57) rfl Ed 32 (by rfl) B BL2.out Y2.out ?_
        simp only [Act.put, List.setIfInBounds_toArray, List.set_cons_zero, List.set_cons_succ]
        refine wpStill_nil ?_
        change wpList _ _ _ _ _ v3.drew
        have GH4 := Lib.hid (show v3.drew.heap[H]? = some (.cells (dV A2) 23 (0, 0)) from GH3.out)
        have GH14 := Lib.hid (show v3.drew.heap[H + 1]? = some (.cells (dV B) 23 (0, 0)) from GH13.out)
        have XX4 := Lib.hid (show v3.drew.heap[Ec]? = some (.cells (dV (P ++ A)) 23 (0, 0)) from XX3.out)
        have XY4 := Lib.hid (show v3.drew.heap[Ed]? = some (.cells (dV (Q ++ B)) 23 (0, 0)) from XY3.out)
        have Bd4 := Lib.hid (Bd3.out.drew)
        have s4 : wr.heap.size ≤ v3.drew.heap.size := s3
        generalize v3.drew = v4 at *
        go_wp2_with fail
        refine (RMapNode_calls Q B QL.out BL2.out v4).mono ?_
        rintro e v5 ⟨rfl, hv5⟩
        rw [show nodeD Q B = B2 from NB.out]
        have hx5 := lt_of_heap XX4.out
        have hy5 := lt_of_heap XY4.out
        have GH5 := Lib.hid ((hv5.block H (by omega)).trans GH4.out)
        have GH15 := Lib.hid ((hv5.block (H + 1) (by omega)).trans GH14.out)
        have XX5 := Lib.hid ((hv5.block Ec hx5).trans XX4.out)
        have XY5 := Lib.hid ((hv5.block Ed hy5).trans XY4.out)
        have Bd5 := Lib.hid (Bd4.out.trans (hv5.mono (by omega)))
        clear hv5
        obtain ⟨v6, hv6⟩ : ∃ z, z = v5.setRow (H + 1) (dV B2) := ⟨_, rfl⟩
        have GH6 := Lib.hid (show v6.heap[H]? = some (.cells (dV A2) 23 (0, 0)) by rw [hv6, setRow_other _ _ _ _ (by omega)]; exact GH5.out)
        have GH16 := Lib.hid (show v6.heap[H + 1]? = some (.cells (dV B2) 23 (0, 0)) by rw [hv6]; exact setRow_heap _ _ _ _ _ _ GH15.out)
        have XX6 := Lib.hid (show v6.heap[Ec]? = some (.cells (dV (P ++ A)) 23 (0, 0)) by rw [hv6, setRow_other _ _ _ _ (by omega)]; exact XX5.out)
        have XY6 := Lib.hid (show v6.heap[Ed]? = some (.cells (dV (Q ++ B)) 23 (0, 0)) by rw [hv6, setRow_other _ _ _ _ (by omega)]; exact XY5.out)
        have Bd6 := Lib.hid (show Below H w v6 by rw [hv6]; exact below_setRowW Bd5.out (by omega) _)
        have HV6 := Lib.hid hv6
        clear hv6
        have DC := Digests_calls [P, A] [Q, B] (two_len PL.out AL.out) (two_len QL.out BL2.out) (some ⟨Ec, 0, none⟩) (some ⟨Ed, 0, none⟩) 2 2 _ _ v6 (rd_pair XX6.out) (rd_pair XY6.out) (by simp)
        rw [decide_eq_false (by intro h; simp only [List.cons.injEq, and_true] at h; exact NE.out h.2)] at DC
        have HDC := Lib.hid DC
        clear DC
        go_wp2_with (first
          | ((refine st_row rfl (.tmp 8) (.tmp 59) rfl (H + 1) B2 B2L.out (by rfl) (by rfl) (dV B) (dV_size BL2.out) _ GH15.out ?_); rw [← HV6.out]; simp only [Act.put, List.setIfInBounds_toArray, List.set_cons_zero, List.set_cons_succ]))
        refine HDC.out.mono ?_
        rintro e v7 ⟨rfl, n7, rfl⟩
        have GH7 := Lib.hid (show (v6.drewN n7).heap[H]? = some (.cells (dV A2) 23 (0, 0)) from GH6.out)
        have GH17 := Lib.hid (show (v6.drewN n7).heap[H + 1]? = some (.cells (dV B2) 23 (0, 0)) from GH16.out)
        have Bd7 := Lib.hid (below_drewN Bd6.out n7)
        generalize v6.drewN n7 = v7 at *
        clear HDC
        by_cases hab : A2 = B2
        · have hq : (A2 == B2) = true := by rw [hab]; simp
          have HQ := Lib.hid hq
          clear hab hq
          go_wp2_with (first
            | ((refine ld_digG rfl (.tmp 6) rfl (H) 0 (by rfl) A2 A2L.out (range_of_row GH7.out) ?_); simp only [Act.put, List.setIfInBounds_toArray, List.set_cons_zero, List.set_cons_succ])
            | ((refine ld_digG rfl (.tmp 8) rfl (H + 1) 0 (by rfl) B2 B2L.out (range_of_row GH17.out) ?_); simp only [Act.put, List.setIfInBounds_toArray, List.set_cons_zero, List.set_cons_succ])
            | ((refine eq_digG rfl (.tmp 66) (.tmp 67) _ rfl A2 B2 (by rfl) (by rfl) A2L.out B2L.out ?_); rw [HQ.out]; simp only [Act.put, List.setIfInBounds_toArray, List.set_cons_zero, List.set_cons_succ]))
          go_ret
          exact ⟨rfl, by rw [← HH.out]; exact Bd7.out⟩
        · have hq : (A2 == B2) = false := by rw [beq_eq_false_iff_ne]; exact hab
          have HQ := Lib.hid hq
          have HAB := Lib.hid hab
          clear hab hq
          go_wp2_with (first
            | ((refine ld_digG rfl (.tmp 6) rfl (H) 0 (by rfl) A2 A2L.out (range_of_row GH7.out) ?_); simp only [Act.put, List.setIfInBounds_toArray, List.set_cons_zero, List.set_cons_succ])
            | ((refine ld_digG rfl (.tmp 8) rfl (H + 1) 0 (by rfl) B2 B2L.out (range_of_row GH17.out) ?_); simp only [Act.put, List.setIfInBounds_toArray, List.set_cons_zero, List.set_cons_succ])
            | ((refine eq_digG rfl (.tmp 66) (.tmp 67) _ rfl A2 B2 (by rfl) (by rfl) A2L.out B2L.out ?_); rw [HQ.out]; simp only [Act.put, List.setIfInBounds_toArray, List.set_cons_zero, List.set_cons_succ]))
          go_roundw
          case rel => exact ⟨j + 1, hlj, by go_num, by rw [HX2.out], by rw [← HA2.out]; exact GH7.out, by rw [← HB2.out]; exact GH17.out, by rw [← HA2.out, ← HB2.out]; exact HAB.out, Bd7.out⟩
          case measure => simp [intOf]; omega
      · have m2 : (x : Int) % 2 = 0 := by omega
        have m2t : (x : Int).tmod 2 = 0 := by rw [Int.tmod_eq_emod_of_nonneg (by omega)]; exact m2
        have na := TA.out
        have nb := TB.out
        rw [if_neg hb1] at na nb
        have NA := Lib.hid na.symm
        have NB := Lib.hid nb.symm
        clear na nb
        go_wp2_with fail
        refine wp_region_still_tail 5 (by kernel_rfl) (by kernel_rfl) ?_
        simp only [List.take_succ_cons, List.take_zero, List.drop_succ_cons, List.drop_zero]
        refine still_dig rfl (.tmp 6) rfl H 0 (by rfl) A AL.out (range_of_row GA.out) ?_
        simp only [Act.put, List.setIfInBounds_toArray, List.set_cons_zero, List.set_cons_succ]
        still_step
        still_step
        still_step
        refine still_dig rfl (.tmp 22) rfl bp (op + j * 32) (by rfl) P PL.out RP.out ?_
        simp only [Act.put, List.setIfInBounds_toArray, List.set_cons_zero, List.set_cons_succ]
        refine wpStill_nil ?_
        change wpList _ _ _ _ _ wr.drew
        obtain ⟨Ea, hEa⟩ : ∃ z, z = wr.heap.size := ⟨_, rfl⟩
        obtain ⟨wa, hwa⟩ : ∃ z, z = wr.drew.alloc (.cells (dV (A ++ P)) 23) := ⟨_, rfl⟩
        have b1 : Below wr.heap.size wr wa := by rw [hwa]; exact ((Below.refl _ wr).drew).alloc (Nat.le_refl _) _
        have x1 : wa.heap[Ea]? = some (.cells (dV (A ++ P)) 23 (0, 0)) := by rw [hwa, hEa]; exact heap_alloc_new wr.drew _
        have HEa := Lib.hid hEa
        have Hwa := Lib.hid hwa
        have Bk1 := Lib.hid b1
        have X1 := Lib.hid x1
        have l1 := lt_of_heap x1
        clear hEa hwa b1 x1
        go_wp2_with ((refine wpl_build2 24 23 _ 32 32 Tryd.underlying24 info_dig (by omega) (by omega) rfl (.tmp 19) (.tmp 23) rfl (dV A) (dV P) (by rfl) (by rfl) (dV_size AL.out) (dV_size PL.out) ?_); rw [dV_app]; simp only [World.drew_heap_size]; rw [← HEa.out, ← Hwa.out]; simp only [Act.put, List.setIfInBounds_toArray, List.set_cons_zero, List.set_cons_succ])
        have GBa := Lib.hid ((Bk1.out.block (H + 1) hH1).trans GB.out)
        have GAa := Lib.hid ((Bk1.out.block H (by omega)).trans GA.out)
        have RPa := Lib.hid (range_low RP.out Bk1.out hbp)
        have RQa := Lib.hid (range_low RQ.out Bk1.out hbq)
        refine wp_region_still_tail 5 (by kernel_rfl) (by kernel_rfl) ?_
        simp only [List.take_succ_cons, List.take_zero, List.drop_succ_cons, List.drop_zero]
        refine still_dig rfl (.tmp 8) rfl (H + 1) 0 (by rfl) B BL2.out (range_of_row GBa.out) ?_
        simp only [Act.put, List.setIfInBounds_toArray, List.set_cons_zero, List.set_cons_succ]
        still_step
        still_step
        still_step
        refine still_dig rfl (.tmp 28) rfl bq (oq + j * 32) (by rfl) Q QL.out RQa.out ?_
        simp only [Act.put, List.setIfInBounds_toArray, List.set_cons_zero, List.set_cons_succ]
        refine wpStill_nil ?_
        change wpList _ _ _ _ _ wa.drew
        obtain ⟨Eb, hEb⟩ : ∃ z, z = wa.heap.size := ⟨_, rfl⟩
        obtain ⟨wb, hwb⟩ : ∃ z, z = wa.drew.alloc (.cells (dV (B ++ Q)) 23) := ⟨_, rfl⟩
        have b2 : Below wa.heap.size wa wb := by rw [hwb]; exact ((Below.refl _ wa).drew).alloc (Nat.le_refl _) _
        have x2 : wb.heap[Eb]? = some (.cells (dV (B ++ Q)) 23 (0, 0)) := by rw [hwb, hEb]; exact heap_alloc_new wa.drew _
        have HEb := Lib.hid hEb
        have Hwb := Lib.hid hwb
        have Bk2 := Lib.hid b2
        have X2 := Lib.hid x2
        have l2 := lt_of_heap x2
        clear hEb hwb b2 x2
        go_wp2_with ((refine wpl_build2 24 23 _ 32 32 Tryd.underlying24 info_dig (by omega) (by omega) rfl (.tmp 25) (.tmp 29) rfl (dV B) (dV Q) (by rfl) (by rfl) (dV_size BL2.out) (dV_size QL.out) ?_); rw [dV_app]; simp only [World.drew_heap_size]; rw [← HEb.out, ← Hwb.out]; simp only [Act.put, List.setIfInBounds_toArray, List.set_cons_zero, List.set_cons_succ])
        have B2w := Lib.hid (Bk1.out.trans (Bk2.out.mono Bk1.out.size))
        have XX := Lib.hid ((Bk2.out.block Ea l1).trans X1.out)
        have XY := Lib.hid X2.out
        have hEx : wr.heap.size ≤ Ea := by rw [HEa.out]; exact Nat.le_refl _
        have hEy : wr.heap.size ≤ Eb := by rw [HEb.out]; exact Bk1.out.size
        obtain ⟨u1, u2⟩ := pair_at wb Ea A P AL.out PL.out XX.out
        have U1 := Lib.hid u1
        have U2 := Lib.hid u2
        have GH := Lib.hid ((B2w.out.block H (by omega)).trans GA.out)
        have GH1 := Lib.hid ((B2w.out.block (H + 1) hH1).trans GB.out)
        have hs9 := B2w.out.size
        clear u1 u2
        refine wp_region_still_tail 6 (by kernel_rfl) (by kernel_rfl) ?_
        simp only [List.take_succ_cons, List.take_zero, List.drop_succ_cons, List.drop_zero]
        still_step
        still_step
        refine still_dig rfl (.tmp 47) rfl Ea 0 (by rfl) A AL.out U1.out ?_
        simp only [Act.put, List.setIfInBounds_toArray, List.set_cons_zero, List.set_cons_succ]
        still_step
        still_step
        refine still_dig rfl (.tmp 50) rfl Ea 32 (by rfl) P PL.out U2.out ?_
        simp only [Act.put, List.setIfInBounds_toArray, List.set_cons_zero, List.set_cons_succ]
        refine wpStill_nil ?_
        change wpList _ _ _ _ _ wb.drew
        have GHd := Lib.hid (show wb.drew.heap[H]? = some (.cells (dV A) 23 (0, 0)) from GH.out)
        have GH1d := Lib.hid (show wb.drew.heap[H + 1]? = some (.cells (dV B) 23 (0, 0)) from GH1.out)
        have XXd := Lib.hid (show wb.drew.heap[Ea]? = some (.cells (dV (A ++ P)) 23 (0, 0)) from XX.out)
        have XYd := Lib.hid (show wb.drew.heap[Eb]? = some (.cells (dV (B ++ Q)) 23 (0, 0)) from XY.out)
        have Bd := Lib.hid (HBL.out.trans ((B2w.out.drew).mono (by omega)))
        have sd : wr.heap.size ≤ wb.drew.heap.size := hs9
        generalize wb.drew = v1 at *
        go_wp2_with fail
        refine (RMapNode_calls A P AL.out PL.out v1).mono ?_
        rintro e v2 ⟨rfl, hv2⟩
        rw [show nodeD A P = A2 from NA.out]
        have hx2 := lt_of_heap XXd.out
        have hy2 := lt_of_heap XYd.out
        have GH2 := Lib.hid ((hv2.block H (by omega)).trans GHd.out)
        have GH12 := Lib.hid ((hv2.block (H + 1) (by omega)).trans GH1d.out)
        have XX2 := Lib.hid ((hv2.block Ea hx2).trans XXd.out)
        have XY2 := Lib.hid ((hv2.block Eb hy2).trans XYd.out)
        have Bd2 := Lib.hid (Bd.out.trans (hv2.mono (by omega)))
        have s2 := Nat.le_trans sd hv2.size
        clear hv2
        obtain ⟨v3, hv3⟩ : ∃ z, z = v2.setRow H (dV A2) := ⟨_, rfl⟩
        have GH3 := Lib.hid (show v3.heap[H]? = some (.cells (dV A2) 23 (0, 0)) by rw [hv3]; exact setRow_heap _ _ _ _ _ _ GH2.out)
        have GH13 := Lib.hid (show v3.heap[H + 1]? = some (.cells (dV B) 23 (0, 0)) by rw [hv3, setRow_other _ _ _ _ (by omega)]; exact GH12.out)
        have XX3 := Lib.hid (show v3.heap[Ea]? = some (.cells (dV (A ++ P)) 23 (0, 0)) by rw [hv3, setRow_other _ _ _ _ (by omega)]; exact XX2.out)
        have XY3 := Lib.hid (show v3.heap[Eb]? = some (.cells (dV (B ++ Q)) 23 (0, 0)) by rw [hv3, setRow_other _ _ _ _ (by omega)]; exact XY2.out)
        have Bd3 := Lib.hid (show Below H w v3 by rw [hv3]; exact below_setRowW Bd2.out (Nat.le_refl _) _)
        have HV3 := Lib.hid hv3
        have s3 : wr.heap.size ≤ v3.heap.size := by rw [hv3, setRow_size]; exact s2
        clear hv3
        go_wp2_with ((refine st_row rfl (.tmp 6) (.tmp 52) rfl H A2 A2L.out (by rfl) (by rfl) (dV A) (dV_size AL.out) _ GH2.out ?_); rw [← HV3.out]; simp only [Act.put, List.setIfInBounds_toArray, List.set_cons_zero, List.set_cons_succ])
        obtain ⟨y1, y2⟩ := pair_at v3 Eb B Q BL2.out QL.out XY3.out
        have Y1 := Lib.hid y1
        have Y2 := Lib.hid y2
        clear y1 y2
        refine wp_region_still_tail 6 (by kernel_rfl) (by kernel_rfl) ?_
        simp only [List.take_succ_cons, List.take_zero, List.drop_succ_cons, List.drop_zero]
        still_step
        still_step
        refine still_dig rfl (.tmp 54) rfl Eb 0 (by rfl) B BL2.out Y1.out ?_
        simp only [Act.put, List.setIfInBounds_toArray, List.set_cons_zero, List.set_cons_succ]
        still_step
        still_step
        refine still_dig rfl (.tmp 57) rfl Eb 32 (by rfl) Q QL.out Y2.out ?_
        simp only [Act.put, List.setIfInBounds_toArray, List.set_cons_zero, List.set_cons_succ]
        refine wpStill_nil ?_
        change wpList _ _ _ _ _ v3.drew
        have GH4 := Lib.hid (show v3.drew.heap[H]? = some (.cells (dV A2) 23 (0, 0)) from GH3.out)
        have GH14 := Lib.hid (show v3.drew.heap[H + 1]? = some (.cells (dV B) 23 (0, 0)) from GH13.out)
        have XX4 := Lib.hid (show v3.drew.heap[Ea]? = some (.cells (dV (A ++ P)) 23 (0, 0)) from XX3.out)
        have XY4 := Lib.hid (show v3.drew.heap[Eb]? = some (.cells (dV (B ++ Q)) 23 (0, 0)) from XY3.out)
        have Bd4 := Lib.hid (Bd3.out.drew)
        have s4 : wr.heap.size ≤ v3.drew.heap.size := s3
        generalize v3.drew = v4 at *
        go_wp2_with fail
        refine (RMapNode_calls B Q BL2.out QL.out v4).mono ?_
        rintro e v5 ⟨rfl, hv5⟩
        rw [show nodeD B Q = B2 from NB.out]
        have hx5 := lt_of_heap XX4.out
        have hy5 := lt_of_heap XY4.out
        have GH5 := Lib.hid ((hv5.block H (by omega)).trans GH4.out)
        have GH15 := Lib.hid ((hv5.block (H + 1) (by omega)).trans GH14.out)
        have XX5 := Lib.hid ((hv5.block Ea hx5).trans XX4.out)
        have XY5 := Lib.hid ((hv5.block Eb hy5).trans XY4.out)
        have Bd5 := Lib.hid (Bd4.out.trans (hv5.mono (by omega)))
        clear hv5
        obtain ⟨v6, hv6⟩ : ∃ z, z = v5.setRow (H + 1) (dV B2) := ⟨_, rfl⟩
        have GH6 := Lib.hid (show v6.heap[H]? = some (.cells (dV A2) 23 (0, 0)) by rw [hv6, setRow_other _ _ _ _ (by omega)]; exact GH5.out)
        have GH16 := Lib.hid (show v6.heap[H + 1]? = some (.cells (dV B2) 23 (0, 0)) by rw [hv6]; exact setRow_heap _ _ _ _ _ _ GH15.out)
        have XX6 := Lib.hid (show v6.heap[Ea]? = some (.cells (dV (A ++ P)) 23 (0, 0)) by rw [hv6, setRow_other _ _ _ _ (by omega)]; exact XX5.out)
        have XY6 := Lib.hid (show v6.heap[Eb]? = some (.cells (dV (B ++ Q)) 23 (0, 0)) by rw [hv6, setRow_other _ _ _ _ (by omega)]; exact XY5.out)
        have Bd6 := Lib.hid (show Below H w v6 by rw [hv6]; exact below_setRowW Bd5.out (by omega) _)
        have HV6 := Lib.hid hv6
        clear hv6
        have DC := Digests_calls [A, P] [B, Q] (two_len AL.out PL.out) (two_len BL2.out QL.out) (some ⟨Ea, 0, none⟩) (some ⟨Eb, 0, none⟩) 2 2 _ _ v6 (rd_pair XX6.out) (rd_pair XY6.out) (by simp)
        rw [decide_eq_false (by intro h; simp only [List.cons.injEq, and_true] at h; exact NE.out h.1)] at DC
        have HDC := Lib.hid DC
        clear DC
        go_wp2_with (first
          | ((refine st_row rfl (.tmp 8) (.tmp 59) rfl (H + 1) B2 B2L.out (by rfl) (by rfl) (dV B) (dV_size BL2.out) _ GH15.out ?_); rw [← HV6.out]; simp only [Act.put, List.setIfInBounds_toArray, List.set_cons_zero, List.set_cons_succ]))
        refine HDC.out.mono ?_
        rintro e v7 ⟨rfl, n7, rfl⟩
        have GH7 := Lib.hid (show (v6.drewN n7).heap[H]? = some (.cells (dV A2) 23 (0, 0)) from GH6.out)
        have GH17 := Lib.hid (show (v6.drewN n7).heap[H + 1]? = some (.cells (dV B2) 23 (0, 0)) from GH16.out)
        have Bd7 := Lib.hid (below_drewN Bd6.out n7)
        generalize v6.drewN n7 = v7 at *
        clear HDC
        by_cases hab : A2 = B2
        · have hq : (A2 == B2) = true := by rw [hab]; simp
          have HQ := Lib.hid hq
          clear hab hq
          go_wp2_with (first
            | ((refine ld_digG rfl (.tmp 6) rfl (H) 0 (by rfl) A2 A2L.out (range_of_row GH7.out) ?_); simp only [Act.put, List.setIfInBounds_toArray, List.set_cons_zero, List.set_cons_succ])
            | ((refine ld_digG rfl (.tmp 8) rfl (H + 1) 0 (by rfl) B2 B2L.out (range_of_row GH17.out) ?_); simp only [Act.put, List.setIfInBounds_toArray, List.set_cons_zero, List.set_cons_succ])
            | ((refine eq_digG rfl (.tmp 66) (.tmp 67) _ rfl A2 B2 (by rfl) (by rfl) A2L.out B2L.out ?_); rw [HQ.out]; simp only [Act.put, List.setIfInBounds_toArray, List.set_cons_zero, List.set_cons_succ]))
          go_ret
          exact ⟨rfl, by rw [← HH.out]; exact Bd7.out⟩
        · have hq : (A2 == B2) = false := by rw [beq_eq_false_iff_ne]; exact hab
          have HQ := Lib.hid hq
          have HAB := Lib.hid hab
          clear hab hq
          go_wp2_with (first
            | ((refine ld_digG rfl (.tmp 6) rfl (H) 0 (by rfl) A2 A2L.out (range_of_row GH7.out) ?_); simp only [Act.put, List.setIfInBounds_toArray, List.set_cons_zero, List.set_cons_succ])
            | ((refine ld_digG rfl (.tmp 8) rfl (H + 1) 0 (by rfl) B2 B2L.out (range_of_row GH17.out) ?_); simp only [Act.put, List.setIfInBounds_toArray, List.set_cons_zero, List.set_cons_succ])
            | ((refine eq_digG rfl (.tmp 66) (.tmp 67) _ rfl A2 B2 (by rfl) (by rfl) A2L.out B2L.out ?_); rw [HQ.out]; simp only [Act.put, List.setIfInBounds_toArray, List.set_cons_zero, List.set_cons_succ]))
          go_roundw
          case rel => exact ⟨j + 1, hlj, by go_num, by rw [HX2.out], by rw [← HA2.out]; exact GH7.out, by rw [← HB2.out]; exact GH17.out, by rw [← HA2.out, ← HB2.out]; exact HAB.out, Bd7.out⟩
          case measure => simp [intOf]; omega
    · obtain rfl : j = 32 := by omega
      rw [List.take_of_length_le (by rw [HPN.out]; exact Nat.le_refl _), List.take_of_length_le (by rw [HQN.out]; exact Nat.le_refl _)] at hne
      exact absurd HFO.out hne
end Go.Proofs.YtpeomfehdccmmaaDoor
