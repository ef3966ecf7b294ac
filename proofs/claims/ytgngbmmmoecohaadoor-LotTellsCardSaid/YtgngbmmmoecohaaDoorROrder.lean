/- Walks: oathbookref4.Picked and oathbookref4.Ordered: what the document says of lots. -/
import Derived.Test.YtgngbmmmoecohaaDoorOrder
namespace Go.Proofs.YtgngbmmmoecohaaDoor
open Go.RowKit
set_option linter.unusedVariables false
set_option linter.unusedSimpArgs false
theorem RPicked_calls (d : List UInt8) (hd : d.length = 32) (n : Nat) (hn : n ≤ 2147483647) (w : World) : Calls Tryd.prog 34 #[.agg (dV d), .int .i64 n] w fun e w' => e = .returned (.int .i64 (pickN d n)) ∧ Below w.heap.size w w' := by
  have hl4 : (d.take 4).length = 4 := by rw [List.length_take, hd]; rfl
  have hr4 : Rd (w.alloc (.cells (dV d) 23)) (some ⟨w.heap.size, 0, none⟩) 23 ((d.take 4).map vB) := by
    rw [List.map_take]; exact (Rd.box w d _).take 4
  have NC := RNum_calls (d.take 4) (by omega) (by omega) (some ⟨w.heap.size, 0, none⟩) 32 _ _ hr4
  rw [hl4] at NC
  have hN32 := num4_lt d
  obtain ⟨N, hN⟩ : ∃ N, N = numB (d.take 4) := ⟨_, rfl⟩
  obtain ⟨M, hM⟩ : ∃ M, M = N * n := ⟨_, rfl⟩
  have hR : pickN d n = M / 4294967296 := by unfold pickN; rw [← hN, hM]
  obtain ⟨R, hRR⟩ : ∃ R, R = pickN d n := ⟨_, rfl⟩
  rw [← hRR] at hR
  rw [← hN] at NC hN32
  have hM63 : M ≤ 4294967295 * 2147483647 := by rw [hM]; exact Nat.mul_le_mul (by omega) hn
  have hMi : (N : Int) * (n : Int) = (M : Int) := by rw [hM, Int.natCast_mul]
  have e2 : IntKind.i64.wrap ((N : Int) * (n : Int)) = (M : Int) := by rw [hMi]; exact IntWalk.i64_in _ (by omega)
  have e3 : (M : Int) / 4294967296 = (R : Int) := by omega
  have e4 : (M : Int).tdiv 4294967296 = (R : Int) := by rw [Int.tdiv_eq_ediv_of_nonneg (by omega)]; exact e3
  have e5 : IntKind.i64.wrap (R : Int) = (R : Int) := IntWalk.i64_in _ (by omega)
  have HR := Lib.hid hRR
  have HNC := Lib.hid NC
  clear hl4 hr4 NC hN hM hR hRR hd
  go_enter Tryd.func34, Tryd.ntmps34
  go_wp2_with fail
  refine HNC.out.mono ?_
  rintro e w' ⟨rfl, rfl⟩
  clear HNC
  go_wp2_with fail
  go_ret
  exact ⟨by rw [← HR.out]; rfl, (Below.refl _ w).alloc (Nat.le_refl _) _⟩
/-- a row of numbers of the call's own -/
def RetKs (w : World) (l : List Nat) (e : Ending) (w' : World) : Prop :=
  ∃ a cap, e = .returned (.slice a l.length cap) ∧ w'.ownsRow w.heap.size 3 1 (.slice a l.length cap) l.length (l.map vK) ∧ Below w.heap.size w w'
theorem own_someO {w : World} {base : Nat} {e : TypeId} {size : Nat} {a : Option Addr} {n cap : Nat} {xs : List Value} (h : w.ownsRow base e size (.slice a n cap) n xs) (hn : 0 < n) : ∃ g, a = some ⟨g, 0, none⟩ ∧ base ≤ g := by
  rcases h.2 with ⟨h1, h2⟩ | ⟨g, cap', cur, hv, hb, _⟩
  · simp only [Value.slice.injEq] at h1; omega
  · simp only [Value.slice.injEq] at hv; exact ⟨g, hv.1, hb⟩
set_option maxRecDepth 20000 in
set_option maxHeartbeats 4000000 in
theorem ROrdered_calls (d : List UInt8) (hd : d.length = 32) (n : Nat) (hn : n ≤ 1000) (w : World) : Calls Tryd.prog 35 #[.agg (dV d), .int .i64 n] w (RetKs w (orderOf d n)) := by
  obtain ⟨H, hH⟩ : ∃ H, H = w.heap.size := ⟨_, rfl⟩
  obtain ⟨w0, hw0⟩ : ∃ x, x = w.alloc (.cells (dV d) 23) := ⟨_, rfl⟩
  have q0 : w0.heap.size = H + 1 := by rw [hw0, hH]; exact World.size_alloc _ _
  have b0 : Below H w w0 := by rw [hw0, hH]; exact (Below.refl _ _).alloc (Nat.le_refl _) _
  have g0 : w0.heap[H]? = some (.cells (dV d) 23 (0, 0)) := by rw [hw0, hH]; exact heap_alloc_new _ _
  obtain ⟨W, hW⟩ : ∃ W, W = w0.heap.size := ⟨_, rfl⟩
  have HW0 := Lib.hid hw0
  have HH := Lib.hid hH
  have HW := Lib.hid hW
  have B0 := Lib.hid b0
  have G0 := Lib.hid g0
  have HD := Lib.hid hd
  have hH0 : H < W := by omega
  clear hw0 hH hW b0 g0 q0 hd
  go_enter Tryd.func35, Tryd.ntmps35
  go_wp2_with fail
  rw [← HH.out, ← HW0.out]
  go_loopw [5, 6] (fun o i wr => ∃ (k : Nat) (av : Option Addr) (cp : Nat), k ≤ n ∧ i = .int .i64 k ∧ o = .slice av k cp ∧ wr.ownsRow W 3 1 (.slice av k cp) k ((List.range k).map vK) ∧ Below W w0 wr) (fun _ i _ => n - (intOf i).toNat)
  case atStart => exact ⟨0, none, 0, Nat.zero_le _, rfl, rfl, World.ownsRow_nil _ _ _ _, Below.refl _ _⟩
  case round =>
    obtain ⟨k, av, cp, hk, rfl, rfl, hown, hbl⟩ := hrel
    have hWr : W ≤ wr.heap.size := by have := hbl.size; rw [HW.out]; exact this
    by_cases hkn : k < n
    · have hr1 := Rd.new wr #[.int .i64 (k : Int)] 3
      have HO := Lib.hid hown
      have HBL := Lib.hid hbl
      have HR1 := Lib.hid hr1
      clear hown hbl hr1
      go_wp2_with (at_builtin; refine appAllw 52 3 (.int .i64 0) 1 8 Tryd.underlying52 info_intO rfl (by omega) rfl (.tmp 18) (.tmp 20) (by rfl) W _ k _ (by rfl) (HO.out.alloc _) (some ⟨wr.heap.size, 0, none⟩) 1 1 ([k].map vK) (by rfl) _ HR1.out (by simp) (one_nums _) (by omega) (by omega) (by rw [World.size_alloc]; omega) ?_; intro av7 cp7 w7 hown7 hb7; rw [← List.map_append, ← List.range_succ] at hown7; have O7 := Lib.hid hown7; have B7 := Lib.hid (HBL.out.trans (Below.trans ((Below.refl _ wr).alloc hWr _) hb7)); clear hown7 hb7)
      go_roundw
      case rel => exact ⟨k + 1, av7, cp7, hkn, by go_num, rfl, O7.out, B7.out⟩
      case measure => simp [intOf] <;> omega
    · obtain rfl : k = n := by omega
      have m1 : IntKind.i64.wrap ((k : Int) - 1) = (k : Int) - 1 := IntWalk.i64_in _ (by omega)
      obtain ⟨wA, rfl⟩ : ∃ x, x = wr := ⟨_, rfl⟩
      have HOWN := Lib.hid hown
      have HBL := Lib.hid hbl
      clear hkn hown hbl hk hWr
      go_wp2_with fail
      go_loopw [7] (fun i wr => ∃ (m : Nat) (l : List Nat), m ≤ k ∧ i = .int .i64 ((m : Int) - 1) ∧ l.length = k ∧ ordGo d (m - 1) l = orderOf d k ∧ wr.ownsRow W 3 1 (.slice av k cp) k (l.map vK) ∧ Below W w0 wr) (fun i _ => (intOf i + 1).toNat)
      case atStart => exact ⟨k, List.range k, Nat.le_refl _, rfl, by simp, rfl, HOWN.out, HBL.out⟩
      case round =>
        clear HOWN HBL m1
        obtain ⟨m, l, hm, rfl, hll, hgo, hown, hbl⟩ := hrel
        by_cases hm2 : 2 ≤ m
        · obtain ⟨q, rfl⟩ : ∃ q, m = q + 1 := ⟨m - 1, by omega⟩
          have hqi : ((q + 1 : Nat) : Int) - 1 = (q : Int) := by omega
          rw [hqi]
          have hgo2 : ordGo d (q - 1) (swp l q (ordAt d q)) = orderOf d k := by
            rw [← hgo]
            obtain ⟨r, rfl⟩ : ∃ r, q = r + 1 := ⟨q - 1, by omega⟩
            rfl
          have hq1 : 1 ≤ q := by omega
          have hqk : q < k := by omega
          have q0i : (0 : Int) < (q : Int) := by omega
          obtain ⟨V, hav, hWV⟩ := own_someO hown (by omega)
          subst hav
          obtain ⟨wB, rfl⟩ : ∃ x, x = wr := ⟨_, rfl⟩
          have hWB : W ≤ wB.heap.size := by have := hbl.size; rw [HW.out]; exact this
          have e4 : IntKind.i64.wrap ((q : Int) + 1) = (q : Int) + 1 := IntWalk.i64_in _ (by omega)
          have PC := RPut_calls q 4 (by omega) (by omega) (by omega) wB
          rw [decide_eq_true (show q < 2 ^ (8 * 4) from Nat.lt_of_le_of_lt (show q ≤ 1000 by omega) (by decide))] at PC
          have HPC := Lib.hid PC
          have HO := Lib.hid hown
          have HBL := Lib.hid hbl
          have HGO := Lib.hid hgo2
          have HLL := Lib.hid hll
          clear PC hown hbl hgo hgo2 hll hqi hm hm2
          go_wp2_with fail
          refine HPC.out.mono ?_
          rintro e wP ⟨ap, cq, rfl, hownp, hbp⟩
          obtain ⟨E, hE⟩ : ∃ E, E = wP.heap.size := ⟨_, rfl⟩
          have hWE : W ≤ E := by rw [hE]; exact Nat.le_trans hWB hbp.size
          have hVE : V < E := by rw [hE]; exact Nat.lt_of_lt_of_le (HO.out.lt V rfl).2 hbp.size
          have o1 : (wP.alloc (.cells #[.int .u8 16] 5)).ownsRow E 5 1 (.slice (some ⟨E, 0, none⟩) 1 1) 1 ([(16 : UInt8)].map vB) := by rw [hE]; exact own_byte1 _ 16 _ (Nat.le_refl _)
          have bE : Below E wP (wP.alloc (.cells #[.int .u8 16] 5)) := by rw [hE]; exact (Below.refl _ _).alloc (Nat.le_refl _) _
          have hP0 : wP.heap[H]? = some (.cells (dV d) 23 (0, 0)) := (hbp.block H (by omega)).trans ((HBL.out.block H hH0).trans G0.out)
          have rd1 : Rd (wP.alloc (.cells #[.int .u8 16] 5)) (some ⟨H, 0, none⟩) 23 (d.map vB) := by
            refine Rd.alloc (.inr ⟨H, 0, dV d, (0, 0), rfl, hP0, fun i hi => ?_⟩) _
            have hi2 : i < d.length := by simpa using hi
            rw [Nat.zero_add, dV_get hi2]; simp [vB]
          have O1 := Lib.hid o1
          have BE := Lib.hid bE
          have RD1 := Lib.hid rd1
          have HE := Lib.hid hE
          have RP := Lib.hid (Rd.of_own hownp)
          have HO2 := Lib.hid (own_below HO.out hbp)
          have HB2 := Lib.hid (HBL.out.trans (hbp.mono hWB))
          have sE : E ≤ (wP.alloc (.cells #[.int .u8 16] 5)).heap.size := by rw [World.size_alloc]; omega
          clear o1 bE rd1 hE hownp hbp HO HBL HPC hP0
          go_wp2_with (first
            | (at_builtin; rw [← HE.out]; refine appAllw 24 5 (.int .u8 0) 1 1 Tryd.underlying24 info_byte rfl (by omega) rfl (.tmp 33) (.tmp 34) (by rfl) E _ 1 _ (by rfl) O1.out (some ⟨H, 0, none⟩) 32 32 (d.map vB) (by rfl) _ RD1.out (by rw [List.length_map]; exact HD.out) (one_bytes d) (by omega) (by omega) sE ?_; intro av3 cp3 w3 hown3 hb3; rw [← List.map_append] at hown3; have O3 := Lib.hid hown3; have B3 := Lib.hid (BE.out.trans hb3); have s3 := Nat.le_trans sE hb3.size; have RP3 := Lib.hid (RP.out.below (show Below wP.heap.size wP w3 by rw [← HE.out]; exact BE.out.trans hb3)); clear hown3 hb3)
            | (at_builtin; refine appAllw 24 5 (.int .u8 0) 1 1 Tryd.underlying24 info_byte rfl (by omega) rfl (.tmp 36) (.tmp 37) (by rfl) E _ 33 _ (by rfl) O3.out ap 4 cq ((beS 4 q).map vB) (by rfl) _ RP3.out (by rw [List.length_map, beS_length]) (one_bytes _) (by omega) (by omega) s3 ?_; intro av5 cp5 w5 hown5 hb5; rw [← List.map_append] at hown5; have O5 := Lib.hid hown5; have B5 := Lib.hid (B3.out.trans hb5); have s5 := hb5.size; clear hown5 hb5))
          have hown5 := (own_below HO2.out (show Below wP.heap.size wP w5 by rw [← HE.out]; exact B5.out))
          have b5 : Below W w0 w5 := HB2.out.trans (B5.out.mono hWE)
          have SC := RSum_calls (ordText d q) av5 cp5 _ w5 (Rd.of_own O5.out) (by rw [ordText_length d q HD.out]; omega)
          rw [ordText_length d q HD.out] at SC
          have HSC := Lib.hid SC
          have HO5 := Lib.hid hown5
          have B5W := Lib.hid b5
          clear SC hown5 b5 O3 B3 O1 BE RD1 HO2 HB2 B5 O5 sE s3 s5 RP RP3
          refine HSC.out.mono ?_
          rintro e w6 ⟨rfl, hb6⟩
          have PC := RPicked_calls (shaOf (ordText d q)) (shaOf_length _) (q + 1) (by omega) w6
          rw [Int.natCast_add] at PC
          have HPC := Lib.hid PC
          have HO6 := Lib.hid (own_below HO5.out hb6)
          have hW5 := (HO5.out.lt V rfl).2
          have B6W := Lib.hid (B5W.out.trans (hb6.mono (by omega)))
          clear PC HSC hb6 HO5 B5W
          go_wp2_with fail
          refine HPC.out.mono ?_
          rintro e w7 ⟨rfl, hb7⟩
          have hW6 := (HO6.out.lt V rfl).2
          have hown7 := own_below HO6.out hb7
          have hbl7 := B6W.out.trans (hb7.mono (by omega))
          obtain ⟨j, hj⟩ : ∃ j, j = ordAt d q := ⟨_, rfl⟩
          have hje : pickN (shaOf (ordText d q)) (q + 1) = j := by rw [hj]; rfl
          have hjq : j < q + 1 := by rw [hj]; exact ordAt_lt d q
          have hjk : j < k := by omega
          rw [hje]
          obtain ⟨cq9, fq⟩ := ownK hown7 (k := q) (by rw [HLL.out]; exact hqk)
          obtain ⟨cj, fj⟩ := ownK hown7 (k := j) (by rw [HLL.out]; exact hjk)
          obtain ⟨x, hx⟩ : ∃ x, x = l.getD q 0 := ⟨_, rfl⟩
          obtain ⟨y, hy⟩ : ∃ y, y = l.getD j 0 := ⟨_, rfl⟩
          rw [← hx] at cq9
          rw [← hy] at cj
          have hs : ((w7.setCell ⟨V, q, none⟩ (.int .i64 (y : Int))).setCell ⟨V, j, none⟩ (.int .i64 (x : Int))).ownsRow W 3 1 (.slice (some ⟨V, 0, none⟩) k cp) k ((swp l q (ordAt d q)).map vK) := by
            have := ownK_set (ownK_set hown7 q y) j x
            rw [hx, hy, hj] at this ⊢
            exact this
          have hbs : Below W w0 ((w7.setCell ⟨V, q, none⟩ (.int .i64 (y : Int))).setCell ⟨V, j, none⟩ (.int .i64 (x : Int))) := (hbl7.setCell (p := ⟨V, q, none⟩) hWV _).setCell (p := ⟨V, j, none⟩) hWV _
          obtain ⟨v2, hv2⟩ := cell?_setCell_some (w := w7) (p := ⟨V, q, none⟩) (x := .int .i64 (y : Int)) (q := ⟨V, j, none⟩) (v := .int .i64 (y : Int)) cj
          have HS := Lib.hid hs
          have HBS := Lib.hid hbs
          have j0 : (0 : Int) ≤ (j : Int) := by omega
          have jk : (j : Int) < (k : Int) := by omega
          have qk : (q : Int) < (k : Int) := by omega
          have q00 : (0 : Int) ≤ (q : Int) := by omega
          clear HPC hb7 hown7 hbl7 hje hj hx hy hs hbs HO6 B6W
          go_wp2_with fail
          go_roundw
          case rel => exact ⟨q, swp l q (ordAt d q), by omega, rfl, by rw [swp_length]; exact HLL.out, HGO.out, HS.out, HBS.out⟩
          case measure => simp only [intOf]; omega
        · have hm1 : m - 1 = 0 := by omega
          rw [hm1] at hgo
          have hlo : l = orderOf d k := hgo
          have hmi : (m : Int) - 1 ≤ 0 := by omega
          obtain ⟨M, hM⟩ : ∃ M : Int, M = (m : Int) - 1 := ⟨_, rfl⟩
          rw [← hM] at hmi ⊢
          have qm : decide (0 < M) = false := decide_eq_false (by omega)
          have HO := Lib.hid hown
          have HBL := Lib.hid hbl
          have HL := Lib.hid hlo
          clear hgo hlo hown hbl hm1 hM hll hm hm2
          go_wp2_with fail
          go_ret
          have hkl := orderOf_length d k
          have hWH : w.heap.size ≤ W := by rw [← HH.out]; omega
          refine ⟨av, cp, by rw [hkl]; rfl, ?_, ?_⟩
          · rw [hkl]
            have := HO.out.mono hWH
            rw [HL.out] at this
            exact this
          · have := B0.out.trans (HBL.out.mono (by omega))
            rw [HH.out] at this
            exact this
end Go.Proofs.YtgngbmmmoecohaaDoor
