/- Walk: oathbookref1.Sum tells the digest of bytes, as the document reckons it. -/
import Derived.Test.YtkioddmhjbaleaaDoorSha
import Derived.Test.YtkioddmhjbaleaaDoorRPut
import Derived.Test.YtkioddmhjbaleaaDoorRBlkA
namespace Go.Proofs.YtkioddmhjbaleaaDoor
open Go.RowKit
set_option linter.unusedVariables false
set_option linter.unusedSimpArgs false
theorem run_cutR (B o n c i j : Nat) (hi : i < c) (hij : i ≤ j) (hj : j ≤ c) (w : World) : (Instr.slice 67 (.slice (some ⟨B, o, none⟩) n c) (some (.int .i64 (i : Int))) (some (.int .i64 (j : Int))) none).run Tryd.prog w = .ok (.slice (some ⟨B, o + i, none⟩) (j - i) (c - i)) w := by
  have hs : (sizeOf 5).run Tryd.prog w = .ok 1 w := by kernel_rfl
  have h1 : (j : Int) ≤ (c : Int) := by omega
  have h2 : (i : Int) ≤ (j : Int) := by omega
  have h3 : ¬ c = i := by omega
  unfold Instr.slice
  simp only [Sem.run_bind, run_underlying Tryd.underlying67 w, Result.andThen_ok]
  simp [go_sem, hs, h1, h2, h3, hij, hj, Instr.sliceBounds, Addr.add, Ne.symm h3]
theorem be8_S (n : Nat) : be8 n = beS 8 n := rfl
set_option maxRecDepth 100000 in
set_option maxHeartbeats 8000000 in
theorem RSum_calls (b : List UInt8) (a : Option Addr) (cap e : Nat) (w : World) (hr : Rd w a e (b.map vB)) (hl : b.length ≤ 140737488355200) :
    Calls Tryd.prog 50 #[.slice a b.length cap] w fun e w' => e = .returned (.agg (dV (shaOf b))) ∧ Below w.heap.size w w' := by
  obtain ⟨H, hH⟩ : ∃ H, H = w.heap.size := ⟨_, rfl⟩
  obtain ⟨w1, hw1⟩ : ∃ w1, w1 = w.alloc (.cells (dV (List.replicate 32 0)) 23) := ⟨_, rfl⟩
  have b1 : Below H w w1 := by rw [hw1, hH]; exact (Below.refl _ _).alloc (Nat.le_refl _) _
  have s1 : w1.heap.size = H + 1 := by rw [hw1, hH]; exact World.size_alloc _ _
  have g1 : w1.heap[H]? = some (.cells (dV (List.replicate 32 0)) 23 (0, 0)) := by rw [hw1, hH]; exact heap_alloc_new _ _
  have r1 := hr.below (show Below w.heap.size w w1 by rw [← hH]; exact b1)
  have zd : (#[.int .u8 0, .int .u8 0, .int .u8 0, .int .u8 0, .int .u8 0, .int .u8 0, .int .u8 0, .int .u8 0, .int .u8 0, .int .u8 0, .int .u8 0, .int .u8 0, .int .u8 0, .int .u8 0, .int .u8 0, .int .u8 0, .int .u8 0, .int .u8 0, .int .u8 0, .int .u8 0, .int .u8 0, .int .u8 0, .int .u8 0, .int .u8 0, .int .u8 0, .int .u8 0, .int .u8 0, .int .u8 0, .int .u8 0, .int .u8 0, .int .u8 0, .int .u8 0] : Array Value) = dV (List.replicate 32 0) := by kernel_rfl
  have z8 : (#[.int .i64 1779033703, .int .i64 3144134277, .int .i64 1013904242, .int .i64 2773480762, .int .i64 1359893119, .int .i64 2600822924, .int .i64 528734635, .int .i64 1541459225] : Array Value) = nW h0 := by kernel_rfl
  obtain ⟨D, hD⟩ : ∃ D, D = w1.heap.size := ⟨_, rfl⟩
  have hHD : H < D := by omega
  have s1' : D ≤ (w1.alloc (.cells #[] 5)).heap.size := by rw [World.size_alloc]; omega
  have oD : (w1.alloc (.cells #[] 5)).ownsRow D 5 1 (.slice (some ⟨H + 1, 0, none⟩) 0 0) 0 [] := by rw [← s1]; exact World.ownsRow_made w1 #[] 0 (by omega) (Nat.zero_le _) rfl
  have bD : Below D w1 (w1.alloc (.cells #[] 5)) := by rw [hD]; exact (Below.refl _ _).alloc (Nat.le_refl _) _
  have HW1 := Lib.hid hw1
  have HH := Lib.hid hH
  have B1 := Lib.hid b1
  have G1 := Lib.hid g1
  have HD := Lib.hid hD
  have ZD := Lib.hid zd
  have Z8 := Lib.hid z8
  have OD := Lib.hid oD
  have R1 := Lib.hid (r1.alloc (.cells #[] 5))
  have BD := Lib.hid bD
  clear hw1 b1 g1 s1 hr zd z8 hD hH oD r1 bD
  go_enter Tryd.func50, Tryd.ntmps50
  go_wp2_with (first
    | (at_builtin; rw [ZD.out, ← HW1.out, ← HH.out]; refine appAllw 67 5 (.int .u8 0) 1 1 Tryd.underlying67 info_byte rfl (by omega) rfl (.tmp 11) (.tmp 12) (by rfl) D _ 0 [] (by rfl) OD.out a b.length cap (b.map vB) (by rfl) e R1.out (by simp) (one_bytes b) (by omega) (by omega) s1' ?_; intro av3 cp3 w3 hown3 hb3; rw [Nat.zero_add, List.nil_append] at hown3; rw [Nat.zero_add]; have OWN3 := Lib.hid hown3; have B3 := Lib.hid (BD.out.trans hb3); have s3 := hb3.size; clear hown3 hb3)
    | (at_builtin; refine appAllw 67 5 (.int .u8 0) 1 1 Tryd.underlying67 info_byte rfl (by omega) rfl (.tmp 13) (.tmp 14) (by rfl) D (.slice av3 b.length cp3) b.length (b.map vB) (by rfl) (OWN3.out.alloc _) (some ⟨w3.heap.size, 0, none⟩) 1 1 ([(128 : UInt8)].map vB) (by rfl) _ (push_rd w3 128) (by simp) (one_bytes _) (by omega) (by omega) (by rw [World.size_alloc]; omega) ?_; intro av5 cp5 w5 hown5 hb5; rw [← List.map_append] at hown5; have OWN5 := Lib.hid hown5; have B5 := Lib.hid hb5; have s5 := hb5.size; clear hown5 hb5))
  have B15 : Below D w1 w5 := B3.out.trans ((((Below.refl _ _).alloc (Nat.le_refl _) _ : Below w3.heap.size w3 (w3.alloc (.cells #[.int .u8 (128 : UInt8).toNat] 5))).mono (by omega)).trans B5.out)
  have BB5 := Lib.hid B15
  clear B15
  obtain ⟨n, hn⟩ : ∃ n, n = b.length := ⟨_, rfl⟩
  rw [← hn] at hl OWN5 ⊢
  go_loopw [3] (fun t wr => ∃ (k : Nat) (av : Option Addr) (cp : Nat), k ≤ zeros n ∧ t = .slice av (n + 1 + k) cp ∧ wr.ownsRow D 5 1 (.slice av (n + 1 + k) cp) (n + 1 + k) ((b ++ 128 :: List.replicate k 0).map vB) ∧ Below D w1 wr) (fun t _ => n + 200 - lenS t)
  case atStart => exact ⟨0, av5, cp5, Nat.zero_le _, rfl, OWN5.out, BB5.out⟩
  case round =>
    clear OWN3 B3 OWN5 B5 BB5 OD R1 BD
    obtain ⟨k, av, cpp, hk, rfl, hown, hbl⟩ := hrel
    have hz64 := zeros_lt n
    obtain ⟨N, hN⟩ : ∃ N, N = n + 1 + k := ⟨_, rfl⟩
    obtain ⟨m, hm⟩ : ∃ m, m = N % 64 := ⟨_, rfl⟩
    have htm : (N : Int).tmod 64 = (m : Int) := by rw [Int.tmod_eq_emod_of_nonneg (by omega)]; omega
    have htm2 : (N : Int) % 64 = (m : Int) := by omega
    rw [← hN] at hown ⊢
    have HN := Lib.hid hN
    have hbs := hbl.size
    have hN200 : N ≤ n + 70 := by omega
    by_cases hlt : k < zeros n
    · have hne : m ≠ 56 := by have := zeros_more n k hlt; omega
      have q1 : ((m : Int) != 56) = true := by rw [bne_iff_ne]; omega
      have q2 : ((m : Int) == 56) = false := by rw [beq_eq_false_iff_ne]; omega
      have OWN := Lib.hid hown
      have BL := Lib.hid hbl
      have HNB := Lib.hid hn
      have hDw : D ≤ wr.heap.size := Nat.le_trans (by have := HD.out; omega) hbs
      have hk1 : k + 1 ≤ zeros n := hlt
      clear hown hbl hN hm hne hlt hn
      go_wp2_with (at_builtin; refine appAllw 67 5 (.int .u8 0) 1 1 Tryd.underlying67 info_byte rfl (by omega) rfl (.tmp 20) (.tmp 21) (by rfl) D (.slice av N cpp) N _ (by rfl) (OWN.out.alloc _) (some ⟨wr.heap.size, 0, none⟩) 1 1 ([(0 : UInt8)].map vB) (by rfl) _ (push_rd wr 0) (by simp) (one_bytes _) (by omega) (by omega) (by rw [World.size_alloc]; omega) ?_; intro av7 cp7 w7 hown7 hb7; rw [← List.map_append] at hown7; have OWN7 := Lib.hid hown7; have B7 := Lib.hid hb7; clear hown7 hb7)
      have B17 : Below D w1 w7 := BL.out.trans ((((Below.refl _ _).alloc (Nat.le_refl _) _ : Below wr.heap.size wr (wr.alloc (.cells #[.int .u8 (0 : UInt8).toNat] 5))).mono (by omega)).trans B7.out)
      have hlist : (b ++ 128 :: List.replicate k 0) ++ [(0 : UInt8)] = b ++ 128 :: List.replicate (k + 1) 0 := by rw [List.append_assoc, List.cons_append, List.replicate_succ']
      have hN1 : N + 1 = n + 1 + (k + 1) := by rw [HN.out]; omega
      have OWN8 : w7.ownsRow D 5 1 (.slice av7 (n + 1 + (k + 1)) cp7) (n + 1 + (k + 1)) ((b ++ 128 :: List.replicate (k + 1) 0).map vB) := by rw [← hlist, ← hN1]; exact OWN7.out
      have O8 := Lib.hid OWN8
      have BB8 := Lib.hid B17
      have HN1 := Lib.hid hN1
      clear B17 hlist OWN8 hN1
      go_roundw
      case rel => exact ⟨k + 1, av7, cp7, hk1, by rw [HN1.out], O8.out, BB8.out⟩
      case measure => simp only [lenS]; omega
    · obtain rfl : k = zeros n := by omega
      have hne : m = 56 := by have := zeros_done n; omega
      have q1 : ((m : Int) != 56) = false := by rw [hne]; rfl
      have q2 : ((m : Int) == 56) = true := by rw [hne]; rfl
      have hL1 : (b ++ 128 :: List.replicate (zeros n) 0).length = N := by rw [hN, List.length_append, ← hn]; simp; omega
      obtain ⟨L1, hLL⟩ : ∃ L1, L1 = b ++ 128 :: List.replicate (zeros n) 0 := ⟨_, rfl⟩
      rw [← hLL] at hown hL1
      obtain ⟨L8, hL8⟩ : ∃ L8, L8 = n * 8 := ⟨_, rfl⟩
      have e1 : IntKind.i64.wrap ((n : Int) * 8) = (L8 : Int) := by rw [IntWalk.i64_in _ (by omega)]; omega
      have e2 : (n : Int) * 8 = (L8 : Int) := by omega
      have hL8s : L8 < 2 ^ (8 * 8) := Nat.lt_of_le_of_lt (show L8 ≤ 1125899906841600 by omega) (by decide)
      have hL8t : L8 ≤ 9223372036854775807 := by omega
      have PC := RPut_calls L8 8 (by omega) (by omega) hL8t
      rw [decide_eq_true hL8s] at PC
      have hN56 : N % 64 = 56 := by omega
      obtain ⟨wA, rfl⟩ : ∃ x, x = wr := ⟨_, rfl⟩
      have hDw : D ≤ wA.heap.size := Nat.le_trans (by have := HD.out; omega) hbs
      have OWN := Lib.hid hown
      have BL := Lib.hid hbl
      have HLL := Lib.hid hLL
      have HL1 := Lib.hid hL1
      have HL8 := Lib.hid hL8
      have HNB := Lib.hid hn
      have HPC := Lib.hid PC
      clear hown hbl hN hm hlt hk hLL hL1 hL8 hn hL8s PC hbs
      subst hne
      go_wp2_with fail
      refine (HPC.out _).mono ?_
      rintro e w7 ⟨ap, cpq, rfl, hownp, hbp⟩
      have OWN7 := Lib.hid (own_below OWN.out hbp)
      have OWNP := Lib.hid (Rd.of_own hownp)
      have B7 := Lib.hid (BL.out.trans (hbp.mono hDw))
      have hDw7 : D ≤ w7.heap.size := Nat.le_trans hDw hbp.size
      clear hownp hbp HPC OWN BL e1 e2 q1 q2 htm htm2
      go_wp2_with (at_builtin; refine appAllw 67 5 (.int .u8 0) 1 1 Tryd.underlying67 info_byte rfl (by omega) rfl (.tmp 30) (.tmp 31) (by rfl) D (.slice av N cpp) N _ (by rfl) OWN7.out ap 8 cpq ((beS 8 L8).map vB) (by rfl) _ OWNP.out (by rw [List.length_map, beS_length]) (one_bytes _) (by omega) (by omega) hDw7 ?_; intro av9 cp9 w9 hown9 hb9; rw [← List.map_append] at hown9; have OWN9 := Lib.hid hown9; have B9 := Lib.hid (B7.out.trans hb9); have hDw9 := Nat.le_trans hDw7 hb9.size; clear hown9 hb9)
      rw [Z8.out]
      obtain ⟨F, hF⟩ : ∃ F, F = b ++ pad n := ⟨_, rfl⟩
      have hFL : L1 ++ beS 8 L8 = F := by rw [hF, HLL.out, HL8.out]; unfold pad; rw [be8_S, List.append_assoc, List.cons_append]
      obtain ⟨M, hM⟩ : ∃ M, M = N + 8 := ⟨_, rfl⟩
      have hFM : F.length = M := by rw [← hFL, List.length_append, HL1.out, beS_length, hM]
      have hFl : M % 64 = 0 := by omega
      rw [hFL, ← hM] at OWN9
      rw [← hM]
      have hMs : M ≤ 140737488355328 := by omega
      obtain ⟨K, hK⟩ : ∃ K, K = w9.heap.size := ⟨_, rfl⟩
      obtain ⟨wB, hwB⟩ : ∃ x, x = w9.alloc (.cells (nW h0) 3) := ⟨_, rfl⟩
      have rH : Rd wB (some ⟨K, 0, none⟩) 3 (h0.map vN) := by rw [hwB, hK]; have := Rd.new w9 (nW h0) 3; simpa [nW] using this
      have bB : Below K w9 wB := by rw [hwB, hK]; exact (Below.refl _ _).alloc (Nat.le_refl _) _
      have hKB : wB.heap.size = K + 1 := by rw [hwB, hK]; exact World.size_alloc _ _
      rw [← hwB, ← hK]
      have hDK : D ≤ K := by omega
      have RC := RRounds_calls wB
      have OWNB := Lib.hid (own_below OWN9.out (show Below w9.heap.size w9 wB by rw [← hK]; exact bB))
      have BB := Lib.hid (B9.out.trans (bB.mono (by omega)))
      have RH := Lib.hid rH
      have HF := Lib.hid hF
      have HFM := Lib.hid hFM
      have HM := Lib.hid hM
      clear hFL hF hFM hM hwB rH bB hK OWN9 B9 OWN7 OWNP B7 HLL HL1
      refine RC.mono ?_
      rintro e w8 ⟨rfl, rfl⟩
      obtain ⟨wC, hwC⟩ : ∃ x, x = wB.alloc (.cells (nW rk64) 3) := ⟨_, rfl⟩
      rw [← hwC]
      have bC : Below wB.heap.size wB wC := by rw [hwC]; exact (Below.refl _ _).alloc (Nat.le_refl _) _
      have rK : Rd wC (some ⟨wB.heap.size, 0, none⟩) 3 (rk64.map vN) := by rw [hwC]; have := Rd.new wB (nW rk64) 3; rwa [nW_rk] at this
      have sC : wC.heap.size = K + 2 := by rw [hwC, World.size_alloc, hKB]
      have RK := Lib.hid rK
      have RH2 := Lib.hid (RH.out.below bC)
      have OWNC := Lib.hid (own_below OWNB.out bC)
      have BC := Lib.hid (BB.out.trans (bC.mono (by omega)))
      clear rK bC hwC OWNB BB RH RC
      go_wp2_with fail
      go_loopw [6, 8] (fun h i wr => ∃ (j : Nat) (s' : List UInt32) (av : Option Addr) (cv ev : Nat), 64 * j ≤ M ∧ s'.length = 8 ∧ i = .int .i64 ((64 * j : Nat) : Int) ∧ h = .slice av 8 cv ∧ Rd wr av ev (s'.map vN) ∧ run s' (F.drop (64 * j)) = run h0 F ∧ Below wC.heap.size wC wr) (fun _ i _ => M - (intOf i).toNat)
      case atStart => exact ⟨0, h0, _, _, _, by omega, rfl, rfl, rfl, RH2.out, by simp, Below.refl _ _⟩
      case round =>
        clear RH2
        obtain ⟨j, s', ah, cv, ev, hj, hs8, rfl, rfl, hrs, hrun, hbl⟩ := hrel
        obtain ⟨i, hi⟩ : ∃ i, i = 64 * j := ⟨_, rfl⟩
        rw [← hi] at hj hrun ⊢
        have hown := own_below OWNC.out hbl
        by_cases hlt : i < M
        · have hi64 : i + 64 ≤ M := by omega
          obtain ⟨V, hav, hDV⟩ := own_some hown (by omega)
          subst hav
          have hcap := own_cappW hown
          have hrF := (((Rd.of_own hown).drop i).take 64)
          rw [← List.map_drop, ← List.map_take] at hrF
          have hc64 : ((F.drop i).take 64).length = 64 := by rw [List.length_take, List.length_drop, HFM.out]; omega
          have hc64' : 64 ≤ cp9 - i := by omega
          have CUT := run_cutR V 0 M cp9 i (i + 64) (by omega) (by omega) (by omega) wr
          rw [show i + 64 - i = 64 by omega, Int.natCast_add] at CUT
          have BCc := RBlock_calls s' hs8 ((F.drop i).take 64) hc64 (cp9 - i) hc64' ah (some ⟨wB.heap.size, 0, none⟩) (some ⟨V, 0 + i, none⟩) cv 64 ev _ _ wr hrs (RK.out.below hbl) hrF
          rw [hKB, Nat.zero_add] at BCc
          rw [Nat.zero_add] at CUT
          have hc9 : (i : Int) + 64 ≤ (cp9 : Int) := by omega
          have hc9n : i + 64 ≤ cp9 := by omega
          have hstep : run (blk s' ((F.drop i).take 64)) (F.drop (64 * (j + 1))) = run h0 F := by
            rw [← hrun, run_step (l := F.drop i) (by rw [List.length_drop, HFM.out]; omega), List.drop_drop]
            congr 2; omega
          have m1 : IntKind.i64.wrap ((i : Int) + 64) = (i : Int) + 64 := IntWalk.i64_in _ (by omega)
          have i0 : (0 : Int) ≤ (i : Int) := by omega
          have iM : (i : Int) < (M : Int) := by omega
          have hij : (i : Int) + 64 = ((64 * (j + 1) : Nat) : Int) := by omega
          have hj1 : 64 * (j + 1) ≤ M := by omega
          have HIJ := Lib.hid hij
          have HST := Lib.hid hstep
          have HBC := Lib.hid BCc
          have HBL := Lib.hid hbl
          clear hij hstep BCc hbl hown hrF hc64 hc64' hcap hrun hrs hs8 hi
          go_wp2_with fail
          refine HBC.out.mono ?_
          rintro e w7 ⟨av7, cv7, rfl, hown7, hb7⟩
          have R7 := Lib.hid (Rd.of_own hown7)
          have B7 := Lib.hid (HBL.out.trans (hb7.mono HBL.out.size))
          clear hown7 hb7 HBC HBL
          go_wp2_with fail
          go_roundw
          case rel => exact ⟨j + 1, blk s' ((F.drop i).take 64), av7, cv7, _, hj1, blk_length _ _, by rw [HIJ.out], rfl, R7.out, HST.out, B7.out⟩
          case measure => simp only [intOf]; omega
        · obtain rfl : i = M := by omega
          have hsr : s' = run h0 F := by rw [← hrun, run_short]; rw [List.length_drop, HFM.out]; omega
          obtain ⟨wE, rfl⟩ : ∃ x, x = wr := ⟨_, rfl⟩
          obtain ⟨X, hX⟩ : ∃ X, X = wE.heap.size := ⟨_, rfl⟩
          have hKX : K + 2 ≤ X := by have := hbl.size; omega
          obtain ⟨wG, hwG⟩ : ∃ x, x = wE.alloc (.cells (dV (List.replicate 32 0)) 23) := ⟨_, rfl⟩
          have gX : wG.heap[X]? = some (.cells (dV (List.replicate 32 0)) 23 (0, 0)) := by rw [hwG, hX]; exact heap_alloc_new _ _
          have bG : Below X wE wG := by rw [hwG, hX]; exact (Below.refl _ _).alloc (Nat.le_refl _) _
          have rG : Rd wG ah ev (s'.map vN) := hrs.below (by rw [← hX]; exact bG)
          have b1G : Below D w1 wG := BC.out.trans ((hbl.mono (by omega)).trans (bG.mono (by omega)))
          have HAX : ∀ x, ah = some x → x.block < X := fun x hx => by
            subst hx
            rw [hX]
            exact hrs.block_lt (by intro h; have := congrArg List.length h; simp [hs8] at this)
          have HSR := Lib.hid hsr
          have HS8 := Lib.hid hs8
          have HXX := Lib.hid hX
          have HWG := Lib.hid hwG
          have GX := Lib.hid gX
          have RG := Lib.hid rG
          have B1G := Lib.hid b1G
          clear hsr hrun hs8 hwG gX bG rG b1G hown hbl hrs hX hi hlt hj OWNC RK BC
          go_wp2_with fail
          rw [ZD.out, ← HWG.out, ← HXX.out]
          have I0 : BInv X 0 s' wG wG := ⟨_, by simp, fun p hp => by omega, GX.out, Below.refl _ _⟩
          have HI0 := Lib.hid I0
          clear I0 HWG
          go_loopw [10] (fun i wr => ∃ k : Nat, k ≤ 32 ∧ i = .int .i64 k ∧ BInv X k s' wG wr) (fun i _ => 32 - (intOf i).toNat)
          case atStart => exact ⟨0, by omega, rfl, HI0.out⟩
          case round =>
            clear HI0
            obtain ⟨q, hk, rfl, d, hd, hp, hgd, hbd⟩ := hrel
            by_cases hq32 : q < 32
            · obtain ⟨Q, hQ⟩ : ∃ Q, Q = q / 4 := ⟨_, rfl⟩
              obtain ⟨R, hR⟩ : ∃ R, R = q % 4 := ⟨_, rfl⟩
              obtain ⟨c, hc⟩ : ∃ c : Nat, c = 24 - R * 8 := ⟨_, rfl⟩
              obtain ⟨bh, oh, hah, _, hch⟩ := Rd.words (RG.out.of_block (fun x hx _ => hbd.block _ (HAX x hx))) (k := Q) (by rw [HS8.out]; omega)
              subst hah
              have c0 := hch Q (by rw [HS8.out]; omega)
              obtain ⟨x, hx⟩ : ∃ x, x = g s' Q := ⟨_, rfl⟩
              rw [← hx] at c0
              obtain ⟨Y, hY⟩ : ∃ Y : UInt8, Y = UInt8.ofNat (x.toNat / 2 ^ c) := ⟨_, rfl⟩
              have hYb : (bytesOf s')[q]? = some Y := by
                unfold bytesOf
                rw [List.getElem?_map, List.getElem?_range hq32, hY, hx, hc, hQ, hR]
                rfl
              have NX := BInv.step hd hp hgd hbd hq32 Y hYb
              have cq := cellD hgd q (by omega)
              obtain ⟨z, hz⟩ : ∃ z, z = d[q]'(by omega) := ⟨_, rfl⟩
              rw [← hz] at cq
              have fq := frozenW hgd q
              have f1 : (q : Int) / 4 = (Q : Int) := by omega
              have f2 : (q : Int) % 4 = (R : Int) := by omega
              have f1t : (q : Int).tdiv 4 = (Q : Int) := by rw [Int.tdiv_eq_ediv_of_nonneg (by omega)]; omega
              have f2t : (q : Int).tmod 4 = (R : Int) := by rw [Int.tmod_eq_emod_of_nonneg (by omega)]; omega
              have e1 : IntKind.i64.wrap ((R : Int) * 8) = (R : Int) * 8 := IntWalk.i64_in _ (by omega)
              have e2 : IntKind.i64.wrap (24 - (R : Int) * 8) = (c : Int) := by rw [IntWalk.i64_in _ (by omega)]; omega
              have e2b : (24 : Int) - (R : Int) * 8 = (c : Int) := by omega
              have c0' : (0 : Int) ≤ (c : Int) := by omega
              have c64 : (c : Int) ≤ 64 := by omega
              have Q0 : (0 : Int) ≤ (Q : Int) := by omega
              have Q8 : (Q : Int) < 8 := by omega
              have q0 : (0 : Int) ≤ (q : Int) := by omega
              have q32 : (q : Int) < 32 := by omega
              have ex : (x.toNat : Int) / 2 ^ c % 256 = (Y.toNat : Int) := by
                rw [hY, UInt8.toNat_ofNat']
                show (x.toNat : Int) / 2 ^ c % 256 = ((x.toNat / 2 ^ c % 256 : Nat) : Int)
                rw [Int.natCast_emod, Int.natCast_ediv, Int.natCast_pow]
                rfl
              have HNX := Lib.hid NX
              clear hz hYb hY hx hc hQ hR hp hgd hbd NX hch
              go_wp2_with fail
              clear e1 e2 f1 f2 f1t f2t e2b ex cq fq
              go_roundw
              case rel => exact ⟨q + 1, by omega, by go_num, HNX.out⟩
              case measure => simp [intOf] <;> omega
            · obtain rfl : q = 32 := by omega
              have hdd : d = bytesOf s' := by
                apply List.ext_getElem?
                intro p
                rcases Nat.lt_or_ge p 32 with h | h
                · exact hp p (by omega)
                · rw [List.getElem?_eq_none (by omega), List.getElem?_eq_none (by rw [bytesOf_length]; exact h)]
              subst hdd
              have b1r : Below D w1 wr := B1G.out.trans (hbd.mono (by omega))
              have gH := (b1r.block H hHD).trans G1.out
              have GH := Lib.hid gH
              have HGD := Lib.hid hgd
              have B1R := Lib.hid b1r
              clear hp hgd hbd gH b1r
              rw [show (((32 : Nat) : Int)) = (32 : Int) from rfl]
              go_wp2_with (first
                | (refine ld_row rfl (.tmp 9) rfl X (by rfl) (bytesOf s') (bytesOf_length _) _ _ HGD.out ?_)
                | (refine st_row rfl (.tmp 2) (.tmp 66) rfl H (bytesOf s') (bytesOf_length _) (by rfl) (by rfl) (dV (List.replicate 32 0)) (by rfl) _ GH.out ?_))
              try simp only [Exit.inBlock, Exit.then]
              refine bodyPost_ret (v := .agg (dV (bytesOf s'))) (results_cellW rfl _ _ _ ⟨H, 0, none⟩ _ rfl ?_) rfl ?_
              · exact dig_load (bytesOf_length _) (range_of_row (setRow_heap _ _ _ _ _ _ GH.out))
              · refine ⟨by rw [HSR.out, HF.out, HNB.out]; rfl, ?_⟩
                rw [← HH.out]
                exact below_setRowW (B1.out.trans (B1R.out.mono (by omega))) (Nat.le_refl _) _
end Go.Proofs.YtkioddmhjbaleaaDoor
