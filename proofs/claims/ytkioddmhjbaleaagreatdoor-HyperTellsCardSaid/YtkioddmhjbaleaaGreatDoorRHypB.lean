/- Walk: the document's HyperSigned. -/
import Derived.Test.YtkioddmhjbaleaaGreatDoorRHyp
import Derived.Test.YtkioddmhjbaleaaGreatDoorTreeFolded
namespace Go.Proofs.YtkioddmhjbaleaaGreatDoor
open Go.RowKit
set_option linter.unusedVariables false
set_option linter.unusedSimpArgs false
set_option maxRecDepth 20000 in
set_option maxHeartbeats 8000000 in
theorem RHSigned_calls (seed m : List UInt8) (hs : seed.length = 32) (hm : m.length = 32) (h : Int) (N : Nat) (hg : High3 h N) (i t nx : Nat) (hi : i ≤ 1000000) (hti : t = i / N) (hni : nx = i % N) (ht : t < N) (hnx : nx < N) (w : World) :
    Calls Tryz.prog 10 #[.agg (dV seed), .int .i64 h, .int .i64 (i : Int), .agg (dV m)] w fun e w' => ∃ ua uc va vc sa sc pa pc, e = .returned (.agg #[.int .i64 (t : Int), .slice ua 67 uc, .slice va (tlong t N) vc, .int .i64 (nx : Int), .slice sa 67 sc, .slice pa (tlong nx N) pc]) ∧ Rd w' ua 23 ((wsig (skey (hup seed) t) (troot (leavesK (hlow seed t) N))).flatten.map vB) ∧ Rd w' va 23 ((tpath (leavesK (hup seed) N) t).flatten.map vB) ∧ Rd w' sa 23 ((wsig (skey (hlow seed t) nx) m).flatten.map vB) ∧ Rd w' pa 23 ((tpath (leavesK (hlow seed t) N) nx).flatten.map vB) ∧ Below w.heap.size w w' := by
  have ML := Lib.hid hm
  have SL := Lib.hid hs
  have HG := Lib.hid hg
  have hN := hg.bounds
  have hN256 : N ≤ 256 := by omega
  have t256 : t < 256 := by omega
  have n256 : nx < 256 := by omega
  have ediv : (i : Int).tdiv (N : Int) = (t : Int) := by rw [Int.tdiv_eq_ediv_of_nonneg (by omega), hti]; rfl
  have emod : (i : Int).tmod (N : Int) = (nx : Int) := by rw [Int.tmod_eq_emod_of_nonneg (by omega), hni]; rfl
  have et : IntKind.i64.wrap (t : Int) = (t : Int) := IntWalk.i64_in _ (by omega)
  have en : IntKind.i64.wrap (nx : Int) = (nx : Int) := IntWalk.i64_in _ (by omega)
  have z1 : ((N : Int) == 0) = false := by rw [beq_eq_false_iff_ne]; omega
  have z2 : decide ((N : Int) = 0) = false := decide_eq_false (by omega)
  have z3 : ¬ (N : Int) = 0 := by omega
  have z4 : ¬ N = 0 := by omega
  have HT := Lib.hid ht
  have HNX := Lib.hid hnx
  obtain ⟨LO, hLO⟩ : ∃ z, z = hlow seed t := ⟨_, rfl⟩
  have HLO := Lib.hid hLO
  have LOL := Lib.hid (show LO.length = 32 by rw [hLO]; exact hlow_length _ _)
  obtain ⟨UP, hUP⟩ : ∃ z, z = hup seed := ⟨_, rfl⟩
  have HUP := Lib.hid hUP
  have UPL := Lib.hid (show UP.length = 32 by rw [hUP]; exact hup_length _)
  obtain ⟨RT, hRT⟩ : ∃ z, z = troot (leavesK LO N) := ⟨_, rfl⟩
  have HRT := Lib.hid hRT
  have RTL := Lib.hid (show RT.length = 32 by rw [hRT]; exact troot_length _ (leavesK_dig _ _))
  have HIM := Lib.hid (show (Tryz.prog.info? 23).map (·.size) = some (m.map vB).length by rw [List.length_map, hm]; exact dig_size)
  have HIO := Lib.hid (show (Tryz.prog.info? 23).map (·.size) = some (LO.map vB).length by rw [List.length_map, LOL.out]; exact dig_size)
  clear hm hs hg hLO hUP hRT hti hni
  obtain ⟨S, hS⟩ : ∃ z, z = w.heap.size := ⟨_, rfl⟩
  obtain ⟨w1, hw1⟩ : ∃ z, z = w.alloc (.cells (dV seed) 23) := ⟨_, rfl⟩
  have st1 : Below w.heap.size w w1 := by rw [hw1]; exact (Below.refl _ _).alloc (Nat.le_refl _) _
  have B1 := Lib.hid (show Below w.heap.size w w1 from Below.trans (Below.refl w.heap.size w) (Below.mono st1 (Below.size (Below.refl w.heap.size w))))
  have GS_1 := Lib.hid (show w1.heap[S]? = some (.cells (dV seed) 23 (0, 0)) by rw [hw1, hS]; exact heap_alloc_new _ _)
  have LS_1 := Lib.hid (lt_of_heap GS_1.out)
  have HS := Lib.hid hS
  have Hw1 := Lib.hid hw1
  clear hS hw1 st1
  have SZS := Lib.hid (show S = w.heap.size from HS.out)
  obtain ⟨M, hM⟩ : ∃ z, z = w1.heap.size := ⟨_, rfl⟩
  obtain ⟨w2, hw2⟩ : ∃ z, z = w1.alloc (.cells (dV m) 23) := ⟨_, rfl⟩
  have st2 : Below w1.heap.size w1 w2 := by rw [hw2]; exact (Below.refl _ _).alloc (Nat.le_refl _) _
  have B2 := Lib.hid (show Below w.heap.size w w2 from Below.trans B1.out (Below.mono st2 (Below.size B1.out)))
  have GS_2 := Lib.hid ((Below.block st2 S LS_1.out).trans GS_1.out)
  have LS_2 := Lib.hid (Nat.lt_of_lt_of_le LS_1.out (Below.size st2))
  have GM_2 := Lib.hid (show w2.heap[M]? = some (.cells (dV m) 23 (0, 0)) by rw [hw2, hM]; exact heap_alloc_new _ _)
  have LM_2 := Lib.hid (lt_of_heap GM_2.out)
  have HM := Lib.hid hM
  have Hw2 := Lib.hid hw2
  clear hM hw2 st2
  have SZM := Lib.hid (show M = w.heap.size + 1 by rw [HM.out, Hw1.out, World.size_alloc, ← HS.out, SZS.out])
  obtain ⟨R, hR⟩ : ∃ z, z = w2.heap.size := ⟨_, rfl⟩
  obtain ⟨w3, hw3⟩ : ∃ z, z = w2.alloc (.cells #[.int .i64 0, .slice none 0 0, .slice none 0 0, .int .i64 0, .slice none 0 0, .slice none 0 0] 28) := ⟨_, rfl⟩
  have st3 : Below w2.heap.size w2 w3 := by rw [hw3]; exact (Below.refl _ _).alloc (Nat.le_refl _) _
  have B3 := Lib.hid (show Below w.heap.size w w3 from Below.trans B2.out (Below.mono st3 (Below.size B2.out)))
  have GS_3 := Lib.hid ((Below.block st3 S LS_2.out).trans GS_2.out)
  have LS_3 := Lib.hid (Nat.lt_of_lt_of_le LS_2.out (Below.size st3))
  have GM_3 := Lib.hid ((Below.block st3 M LM_2.out).trans GM_2.out)
  have LM_3 := Lib.hid (Nat.lt_of_lt_of_le LM_2.out (Below.size st3))
  have GR_3 := Lib.hid (show w3.heap[R]? = some (.cells #[.int .i64 0, .slice none 0 0, .slice none 0 0, .int .i64 0, .slice none 0 0, .slice none 0 0] 28 (0, 0)) by rw [hw3, hR]; exact heap_alloc_new _ _)
  have LR_3 := Lib.hid (lt_of_heap GR_3.out)
  have HR := Lib.hid hR
  have Hw3 := Lib.hid hw3
  clear hR hw3 st3
  have SZR := Lib.hid (show R = w.heap.size + 1 + 1 by rw [HR.out, Hw2.out, World.size_alloc, ← HM.out, SZM.out])
  go_enter Tryz.func10, Tryz.ntmps10
  go_upto_region 1 with fail
  rw [← SZR.out, ← SZM.out, ← SZS.out, ← Hw1.out, ← Hw2.out, ← Hw3.out]
  go_wp2_with (first
    | (refine at_ld 23 (.tmp 4) rfl ?_; (refine ld_digG rfl (.tmp 4) rfl (S) 0 (by rfl) seed SL.out (range_of_row GS_3.out) ?_); simp only [Act.put, List.setIfInBounds_toArray, List.set_cons_zero, List.set_cons_succ]))
  refine (RLeavesH seed SL.out h N HG.out w3).mono ?_
  rintro e w4 ⟨la1, lc1, rfl, _, _, _, hb4⟩
  have B4 := Lib.hid (show Below w.heap.size w w4 from Below.trans B3.out (Below.mono hb4 (Below.size B3.out)))
  have GS_4 := Lib.hid ((Below.block hb4 S LS_3.out).trans GS_3.out)
  have LS_4 := Lib.hid (Nat.lt_of_lt_of_le LS_3.out (Below.size hb4))
  have GM_4 := Lib.hid ((Below.block hb4 M LM_3.out).trans GM_3.out)
  have LM_4 := Lib.hid (Nat.lt_of_lt_of_le LM_3.out (Below.size hb4))
  have GR_4 := Lib.hid ((Below.block hb4 R LR_3.out).trans GR_3.out)
  have LR_4 := Lib.hid (Nat.lt_of_lt_of_le LR_3.out (Below.size hb4))
  clear hb4
  go_wp2_with (first
    | (refine at_ld 23 (.tmp 4) rfl ?_; (refine ld_digG rfl (.tmp 4) rfl (S) 0 (by rfl) seed SL.out (range_of_row GS_4.out) ?_); simp only [Act.put, List.setIfInBounds_toArray, List.set_cons_zero, List.set_cons_succ]))
  refine ((show Calls _ _ _ _ _ by have := RHLow_calls seed SL.out t t256 w4; rw [← HLO.out] at this; exact this)).mono ?_
  rintro e w5 ⟨rfl, hb5⟩
  have B5 := Lib.hid (show Below w.heap.size w w5 from Below.trans B4.out (Below.mono hb5 (Below.size B4.out)))
  have GS_5 := Lib.hid ((Below.block hb5 S LS_4.out).trans GS_4.out)
  have LS_5 := Lib.hid (Nat.lt_of_lt_of_le LS_4.out (Below.size hb5))
  have GM_5 := Lib.hid ((Below.block hb5 M LM_4.out).trans GM_4.out)
  have LM_5 := Lib.hid (Nat.lt_of_lt_of_le LM_4.out (Below.size hb5))
  have GR_5 := Lib.hid ((Below.block hb5 R LR_4.out).trans GR_4.out)
  have LR_5 := Lib.hid (Nat.lt_of_lt_of_le LR_4.out (Below.size hb5))
  clear hb5
  obtain ⟨L, hL⟩ : ∃ z, z = w5.heap.size := ⟨_, rfl⟩
  obtain ⟨w6, hw6⟩ : ∃ z, z = w5.alloc (.cells (dV LO) 23) := ⟨_, rfl⟩
  have st6 : Below w5.heap.size w5 w6 := by rw [hw6]; exact (Below.refl _ _).alloc (Nat.le_refl _) _
  have B6 := Lib.hid (show Below w.heap.size w w6 from Below.trans B5.out (Below.mono st6 (Below.size B5.out)))
  have GS_6 := Lib.hid ((Below.block st6 S LS_5.out).trans GS_5.out)
  have LS_6 := Lib.hid (Nat.lt_of_lt_of_le LS_5.out (Below.size st6))
  have GM_6 := Lib.hid ((Below.block st6 M LM_5.out).trans GM_5.out)
  have LM_6 := Lib.hid (Nat.lt_of_lt_of_le LM_5.out (Below.size st6))
  have GR_6 := Lib.hid ((Below.block st6 R LR_5.out).trans GR_5.out)
  have LR_6 := Lib.hid (Nat.lt_of_lt_of_le LR_5.out (Below.size st6))
  have GL_6 := Lib.hid (show w6.heap[L]? = some (.cells (dV LO) 23 (0, 0)) by rw [hw6, hL]; exact heap_alloc_new _ _)
  have LL_6 := Lib.hid (lt_of_heap GL_6.out)
  have HL := Lib.hid hL
  have Hw6 := Lib.hid hw6
  clear hL hw6 st6
  go_wp2_with (first
    | (refine at_st 23 (.tmp 11) (.tmp 25) rfl ?_; (refine st_new rfl (.tmp 11) (.tmp 25) rfl LO LOL.out (by rfl) _ _ (by rfl) (by rfl) ?_); rw [← HL.out, ← Hw6.out])
    | (refine at_ld 23 (.tmp 11) rfl ?_; (refine ld_digG rfl (.tmp 11) rfl (L) 0 (by rfl) LO LOL.out (range_of_row GL_6.out) ?_); simp only [Act.put, List.setIfInBounds_toArray, List.set_cons_zero, List.set_cons_succ]))
  refine (RLeavesH LO LOL.out h N HG.out w6).mono ?_
  rintro e w7 ⟨la2, lc2, rfl, hc21, hc22, hr2, hb7⟩
  have B7 := Lib.hid (show Below w.heap.size w w7 from Below.trans B6.out (Below.mono hb7 (Below.size B6.out)))
  have GS_7 := Lib.hid ((Below.block hb7 S LS_6.out).trans GS_6.out)
  have LS_7 := Lib.hid (Nat.lt_of_lt_of_le LS_6.out (Below.size hb7))
  have GM_7 := Lib.hid ((Below.block hb7 M LM_6.out).trans GM_6.out)
  have LM_7 := Lib.hid (Nat.lt_of_lt_of_le LM_6.out (Below.size hb7))
  have GR_7 := Lib.hid ((Below.block hb7 R LR_6.out).trans GR_6.out)
  have LR_7 := Lib.hid (Nat.lt_of_lt_of_le LR_6.out (Below.size hb7))
  have GL_7 := Lib.hid ((Below.block hb7 L LL_6.out).trans GL_6.out)
  have LL_7 := Lib.hid (Nat.lt_of_lt_of_le LL_6.out (Below.size hb7))
  have RLa_7 := Lib.hid hr2
  have HC2 := Lib.hid (And.intro hc21 hc22)
  clear hr2 hc21 hc22
  clear hb7
  go_wp2_with (first
    | (refine at_ld 23 (.tmp 4) rfl ?_; (refine ld_digG rfl (.tmp 4) rfl (S) 0 (by rfl) seed SL.out (range_of_row GS_7.out) ?_); simp only [Act.put, List.setIfInBounds_toArray, List.set_cons_zero, List.set_cons_succ]))
  refine ((show Calls _ _ _ _ _ by have := RHUp_calls seed SL.out w7; rw [← HUP.out] at this; exact this)).mono ?_
  rintro e w8 ⟨rfl, hb8⟩
  have B8 := Lib.hid (show Below w.heap.size w w8 from Below.trans B7.out (Below.mono hb8 (Below.size B7.out)))
  have GS_8 := Lib.hid ((Below.block hb8 S LS_7.out).trans GS_7.out)
  have LS_8 := Lib.hid (Nat.lt_of_lt_of_le LS_7.out (Below.size hb8))
  have GM_8 := Lib.hid ((Below.block hb8 M LM_7.out).trans GM_7.out)
  have LM_8 := Lib.hid (Nat.lt_of_lt_of_le LM_7.out (Below.size hb8))
  have GR_8 := Lib.hid ((Below.block hb8 R LR_7.out).trans GR_7.out)
  have LR_8 := Lib.hid (Nat.lt_of_lt_of_le LR_7.out (Below.size hb8))
  have GL_8 := Lib.hid ((Below.block hb8 L LL_7.out).trans GL_7.out)
  have LL_8 := Lib.hid (Nat.lt_of_lt_of_le LL_7.out (Below.size hb8))
  have RLa_8 := Lib.hid (RLa_7.out.below hb8)
  clear hb8
  obtain ⟨U, hU⟩ : ∃ z, z = w8.heap.size := ⟨_, rfl⟩
  obtain ⟨w9, hw9⟩ : ∃ z, z = w8.alloc (.cells (dV UP) 23) := ⟨_, rfl⟩
  have st9 : Below w8.heap.size w8 w9 := by rw [hw9]; exact (Below.refl _ _).alloc (Nat.le_refl _) _
  have B9 := Lib.hid (show Below w.heap.size w w9 from Below.trans B8.out (Below.mono st9 (Below.size B8.out)))
  have GS_9 := Lib.hid ((Below.block st9 S LS_8.out).trans GS_8.out)
  have LS_9 := Lib.hid (Nat.lt_of_lt_of_le LS_8.out (Below.size st9))
  have GM_9 := Lib.hid ((Below.block st9 M LM_8.out).trans GM_8.out)
  have LM_9 := Lib.hid (Nat.lt_of_lt_of_le LM_8.out (Below.size st9))
  have GR_9 := Lib.hid ((Below.block st9 R LR_8.out).trans GR_8.out)
  have LR_9 := Lib.hid (Nat.lt_of_lt_of_le LR_8.out (Below.size st9))
  have GL_9 := Lib.hid ((Below.block st9 L LL_8.out).trans GL_8.out)
  have LL_9 := Lib.hid (Nat.lt_of_lt_of_le LL_8.out (Below.size st9))
  have RLa_9 := Lib.hid (RLa_8.out.below st9)
  have GU_9 := Lib.hid (show w9.heap[U]? = some (.cells (dV UP) 23 (0, 0)) by rw [hw9, hU]; exact heap_alloc_new _ _)
  have LU_9 := Lib.hid (lt_of_heap GU_9.out)
  have HU := Lib.hid hU
  have Hw9 := Lib.hid hw9
  clear hU hw9 st9
  go_wp2_with (first
    | (refine at_st 23 (.tmp 13) (.tmp 30) rfl ?_; (refine st_new rfl (.tmp 13) (.tmp 30) rfl UP UPL.out (by rfl) _ _ (by rfl) (by rfl) ?_); rw [← HU.out, ← Hw9.out])
    | (refine at_ld 23 (.tmp 13) rfl ?_; (refine ld_digG rfl (.tmp 13) rfl (U) 0 (by rfl) UP UPL.out (range_of_row GU_9.out) ?_); simp only [Act.put, List.setIfInBounds_toArray, List.set_cons_zero, List.set_cons_succ]))
  refine (RLeavesH UP UPL.out h N HG.out w9).mono ?_
  rintro e w10 ⟨la3, lc3, rfl, hc31, hc32, hr3, hb10⟩
  have B10 := Lib.hid (show Below w.heap.size w w10 from Below.trans B9.out (Below.mono hb10 (Below.size B9.out)))
  have GS_10 := Lib.hid ((Below.block hb10 S LS_9.out).trans GS_9.out)
  have LS_10 := Lib.hid (Nat.lt_of_lt_of_le LS_9.out (Below.size hb10))
  have GM_10 := Lib.hid ((Below.block hb10 M LM_9.out).trans GM_9.out)
  have LM_10 := Lib.hid (Nat.lt_of_lt_of_le LM_9.out (Below.size hb10))
  have GR_10 := Lib.hid ((Below.block hb10 R LR_9.out).trans GR_9.out)
  have LR_10 := Lib.hid (Nat.lt_of_lt_of_le LR_9.out (Below.size hb10))
  have GL_10 := Lib.hid ((Below.block hb10 L LL_9.out).trans GL_9.out)
  have LL_10 := Lib.hid (Nat.lt_of_lt_of_le LL_9.out (Below.size hb10))
  have GU_10 := Lib.hid ((Below.block hb10 U LU_9.out).trans GU_9.out)
  have LU_10 := Lib.hid (Nat.lt_of_lt_of_le LU_9.out (Below.size hb10))
  have RLa_10 := Lib.hid (RLa_9.out.below hb10)
  have RLb_10 := Lib.hid hr3
  have HC3 := Lib.hid (And.intro hc31 hc32)
  clear hr3 hc31 hc32
  clear hb10
  have LRold := LR_10
  obtain ⟨D, hD⟩ : ∃ z, z = w10.heap.size := ⟨_, rfl⟩
  obtain ⟨w11, hw11⟩ : ∃ z, z = w10.alloc (.cells #[.int .i64 0, .slice none 0 0, .slice none 0 0, .int .i64 0, .slice none 0 0, .slice none 0 0] 28) := ⟨_, rfl⟩
  have st11 : Below w10.heap.size w10 w11 := by rw [hw11]; exact (Below.refl _ _).alloc (Nat.le_refl _) _
  have B11 := Lib.hid (show Below w.heap.size w w11 from Below.trans B10.out (Below.mono st11 (Below.size B10.out)))
  have GS_11 := Lib.hid ((Below.block st11 S LS_10.out).trans GS_10.out)
  have LS_11 := Lib.hid (Nat.lt_of_lt_of_le LS_10.out (Below.size st11))
  have GM_11 := Lib.hid ((Below.block st11 M LM_10.out).trans GM_10.out)
  have LM_11 := Lib.hid (Nat.lt_of_lt_of_le LM_10.out (Below.size st11))
  have GR_11 := Lib.hid ((Below.block st11 R LR_10.out).trans GR_10.out)
  have LR_11 := Lib.hid (Nat.lt_of_lt_of_le LR_10.out (Below.size st11))
  have GL_11 := Lib.hid ((Below.block st11 L LL_10.out).trans GL_10.out)
  have LL_11 := Lib.hid (Nat.lt_of_lt_of_le LL_10.out (Below.size st11))
  have GU_11 := Lib.hid ((Below.block st11 U LU_10.out).trans GU_10.out)
  have LU_11 := Lib.hid (Nat.lt_of_lt_of_le LU_10.out (Below.size st11))
  have RLa_11 := Lib.hid (RLa_10.out.below st11)
  have RLb_11 := Lib.hid (RLb_10.out.below st11)
  have GD_11 := Lib.hid (show w11.heap[D]? = some (.cells #[.int .i64 0, .slice none 0 0, .slice none 0 0, .int .i64 0, .slice none 0 0, .slice none 0 0] 28 (0, 0)) by rw [hw11, hD]; exact heap_alloc_new _ _)
  have LD_11 := Lib.hid (lt_of_heap GD_11.out)
  have HD := Lib.hid hD
  have Hw11 := Lib.hid hw11
  clear hD hw11 st11
  go_upto_region 8 with fail
  rw [← HD.out, ← Hw11.out]
  have hRD : R ≠ D := by rw [HD.out]; exact Nat.ne_of_lt LRold.out
  have KS : ∀ w' : World, Below w11.heap.size w11 w' → (w'.heap[L]? = some (.cells (dV LO) 23 (0, 0)) ∧ w'.heap[M]? = some (.cells (dV m) 23 (0, 0))) := fun w' hb => ⟨(hb.block L LL_11.out).trans GL_11.out, (hb.block M LM_11.out).trans GM_11.out⟩
  have HKS := Lib.hid KS
  obtain ⟨wd, hwd⟩ : ∃ z, z = w11.drew := ⟨_, rfl⟩
  have BD_wd := Lib.hid (show Below w11.heap.size w11 wd by rw [hwd]; exact (Below.refl _ _).drew)
  refine wp_region_held_drew (S := fun w' => w'.heap[L]? = some (.cells (dV LO) 23 (0, 0)) ∧ w'.heap[M]? = some (.cells (dV m) 23 (0, 0))) (by kernel_rfl) (by rw [← hwd]; exact KS wd BD_wd.out) (fun hHeld => ?_)
  rw [← hwd] at hHeld ⊢
  clear hwd KS
  refine wpAnyH_take (i := 0) (oi := _) (v := .int .i64 (i : Int)) rfl (by kernel_rfl) (by kernel_rfl) (by kernel_rfl) (fun _ _ _ h => h) (Or.inl ⟨by rfl, fun w hw => by go_simp⟩) hHeld ?_
  simp only [Act.put, List.getElem_toArray, List.getElem_cons_zero, List.getElem_cons_succ, List.setIfInBounds_toArray, List.set_cons_zero, List.set_cons_succ]
  refine wpAnyH_take (i := 1) (oi := _) (v := .int .i64 (N : Int)) rfl (by kernel_rfl) (by kernel_rfl) (by kernel_rfl) (fun _ _ _ h => h) (Or.inl ⟨by rfl, fun w hw => by go_simp⟩) hHeld ?_
  simp only [Act.put, List.getElem_toArray, List.getElem_cons_zero, List.getElem_cons_succ, List.setIfInBounds_toArray, List.set_cons_zero, List.set_cons_succ]
  refine wpAnyH_take (i := 2) (oi := _) (v := .int .i64 (nx : Int)) rfl (by kernel_rfl) (by kernel_rfl) (by kernel_rfl) (fun _ _ _ h => h) (Or.inl ⟨by rfl, fun w hw => by go_simp⟩) hHeld ?_
  simp only [Act.put, List.getElem_toArray, List.getElem_cons_zero, List.getElem_cons_succ, List.setIfInBounds_toArray, List.set_cons_zero, List.set_cons_succ]
  refine wpAnyH_take (i := 3) (oi := _) (v := _) rfl (by kernel_rfl) (by kernel_rfl) (by kernel_rfl) (fun _ _ _ h => h) (yieldsIf_load_mid (by rfl) _ _ rfl _ _ rfl (LO.map vB) _ (fun w hw => range_of_row hw.1) Tryz.underlying23 rfl HIO.out) hHeld ?_
  simp only [Act.put, List.getElem_toArray, List.getElem_cons_zero, List.getElem_cons_succ, List.setIfInBounds_toArray, List.set_cons_zero, List.set_cons_succ]
  refine wpAnyH_take (i := 4) (oi := _) (v := .int .i64 (i : Int)) rfl (by kernel_rfl) (by kernel_rfl) (by kernel_rfl) (fun _ _ _ h => h) (Or.inl ⟨by rfl, fun w hw => by go_simp⟩) hHeld ?_
  simp only [Act.put, List.getElem_toArray, List.getElem_cons_zero, List.getElem_cons_succ, List.setIfInBounds_toArray, List.set_cons_zero, List.set_cons_succ]
  refine wpAnyH_take (i := 5) (oi := _) (v := .int .i64 (N : Int)) rfl (by kernel_rfl) (by kernel_rfl) (by kernel_rfl) (fun _ _ _ h => h) (Or.inl ⟨by rfl, fun w hw => by go_simp⟩) hHeld ?_
  simp only [Act.put, List.getElem_toArray, List.getElem_cons_zero, List.getElem_cons_succ, List.setIfInBounds_toArray, List.set_cons_zero, List.set_cons_succ]
  refine wpAnyH_take (i := 6) (oi := _) (v := .int .i64 (nx : Int)) rfl (by kernel_rfl) (by kernel_rfl) (by kernel_rfl) (fun _ _ _ h => h) (Or.inl ⟨by rfl, fun w hw => by go_simp⟩) hHeld ?_
  simp only [Act.put, List.getElem_toArray, List.getElem_cons_zero, List.getElem_cons_succ, List.setIfInBounds_toArray, List.set_cons_zero, List.set_cons_succ]
  refine wpAnyH_take (i := 8) (oi := _) (v := _) rfl (by kernel_rfl) (by kernel_rfl) (by kernel_rfl) (fun _ _ _ h => h) (yieldsIf_load_mid (by rfl) _ _ rfl _ _ rfl (m.map vB) _ (fun w hw => range_of_row hw.2) Tryz.underlying23 rfl HIM.out) hHeld ?_
  simp only [Act.put, List.getElem_toArray, List.getElem_cons_zero, List.getElem_cons_succ, List.setIfInBounds_toArray, List.set_cons_zero, List.set_cons_succ]
  refine wpAnyH_take (i := 10) (oi := _) (v := .slice la2 N lc2) rfl (by kernel_rfl) (by kernel_rfl) (by kernel_rfl) (fun _ _ _ h => h) (Or.inl ⟨by rfl, fun w hw => by go_simp⟩) hHeld ?_
  simp only [Act.put, List.getElem_toArray, List.getElem_cons_zero, List.getElem_cons_succ, List.setIfInBounds_toArray, List.set_cons_zero, List.set_cons_succ]
  refine wpAnyH_take (i := 11) (oi := _) (v := .int .i64 (i : Int)) rfl (by kernel_rfl) (by kernel_rfl) (by kernel_rfl) (fun _ _ _ h => h) (Or.inl ⟨by rfl, fun w hw => by go_simp⟩) hHeld ?_
  simp only [Act.put, List.getElem_toArray, List.getElem_cons_zero, List.getElem_cons_succ, List.setIfInBounds_toArray, List.set_cons_zero, List.set_cons_succ]
  refine wpAnyH_take (i := 12) (oi := _) (v := .int .i64 (N : Int)) rfl (by kernel_rfl) (by kernel_rfl) (by kernel_rfl) (fun _ _ _ h => h) (Or.inl ⟨by rfl, fun w hw => by go_simp⟩) hHeld ?_
  simp only [Act.put, List.getElem_toArray, List.getElem_cons_zero, List.getElem_cons_succ, List.setIfInBounds_toArray, List.set_cons_zero, List.set_cons_succ]
  refine wpAnyH_take (i := 13) (oi := _) (v := .int .i64 (nx : Int)) rfl (by kernel_rfl) (by kernel_rfl) (by kernel_rfl) (fun _ _ _ h => h) (Or.inl ⟨by rfl, fun w hw => by go_simp⟩) hHeld ?_
  simp only [Act.put, List.getElem_toArray, List.getElem_cons_zero, List.getElem_cons_succ, List.setIfInBounds_toArray, List.set_cons_zero, List.set_cons_succ]
  refine wpAnyH_ready (rs := [7]) (by kernel_rfl) (by simp) ?_
  refine AllReadyH.cons (o := _) rfl (fun K hK => ?_) AllReadyH.nil
  have HK := Lib.hid hK
  clear hK
  go_simp
  go_at_call 18
  refine (RStampK LO LOL.out nx n256 wd).mono ?_
  rintro e we ⟨rfl, hb⟩
  have BD_we := Lib.hid (show Below w11.heap.size w11 we from BD_wd.out.trans (hb.mono BD_wd.out.size))
  clear hb
  dsimp only
  refine HK.out _ _ (HKS.out we BD_we.out) ?_
  clear HK K hHeld
  try simp only [Act.put, List.getElem_toArray, List.getElem_cons_zero, List.getElem_cons_succ, List.setIfInBounds_toArray, List.set_cons_zero, List.set_cons_succ]
  intro hHeld
  refine wpAnyH_ready (rs := [9]) (by kernel_rfl) (by simp) ?_
  refine AllReadyH.cons (o := _) rfl (fun K hK => ?_) AllReadyH.nil
  have HK := Lib.hid hK
  clear hK
  go_simp
  go_at_call 29
  refine (RWSignedH (skey LO nx) m (skey_length _ _) ML.out we).mono ?_
  rintro e wf ⟨sa, sc, rfl, hrs, hb⟩
  have BD_wf := Lib.hid (show Below w11.heap.size w11 wf from BD_we.out.trans (hb.mono BD_we.out.size))
  have RSf := Lib.hid hrs
  clear hrs
  clear hb
  dsimp only
  refine HK.out _ _ (HKS.out wf BD_wf.out) ?_
  clear HK K hHeld
  try simp only [Act.put, List.getElem_toArray, List.getElem_cons_zero, List.getElem_cons_succ, List.setIfInBounds_toArray, List.set_cons_zero, List.set_cons_succ]
  intro hHeld
  refine wpAnyH_ready (rs := [14]) (by kernel_rfl) (by simp) ?_
  refine AllReadyH.cons (o := _) rfl (fun K hK => ?_) AllReadyH.nil
  have HK := Lib.hid hK
  clear hK
  go_simp
  go_at_call 30
  refine (RPathH LO N nx hN256 HNX.out la2 lc2 _ HC2.out.1 HC2.out.2 wf (RLa_11.out.below BD_wf.out)).mono ?_
  rintro e wg ⟨pa, pc, rfl, hrp, hb⟩
  have BD_wg := Lib.hid (show Below w11.heap.size w11 wg from BD_wf.out.trans (hb.mono BD_wf.out.size))
  have RPg := Lib.hid hrp
  have RSg := Lib.hid (RSf.out.below hb)
  clear hrp
  clear hb
  dsimp only
  refine HK.out _ _ (HKS.out wg BD_wg.out) ?_
  clear HK K hHeld
  try simp only [Act.put, List.getElem_toArray, List.getElem_cons_zero, List.getElem_cons_succ, List.setIfInBounds_toArray, List.set_cons_zero, List.set_cons_succ]
  intro hHeld
  refine wpAnyH_take (i := 15) (oi := _) (v := .agg #[.int .i64 (nx : Int), .slice sa 67 sc, .slice pa (tlong nx N) pc]) rfl (by kernel_rfl) (by kernel_rfl) (by kernel_rfl) (fun _ _ _ h => h) (Or.inl ⟨by rfl, fun w hw => by have hcc := run_build_sig nx sa 67 sc pa (tlong nx N) pc w; go_simp⟩) hHeld ?_
  simp only [Act.put, List.getElem_toArray, List.getElem_cons_zero, List.getElem_cons_succ, List.setIfInBounds_toArray, List.set_cons_zero, List.set_cons_succ]
  refine wpAnyH_take (i := 16) (oi := _) (v := .pointer (some ⟨D, 3, none⟩)) rfl (by kernel_rfl) (by kernel_rfl) (by kernel_rfl) (fun _ _ _ h => h) (Or.inl ⟨by rfl, fun w hw => by go_simp⟩) hHeld ?_
  simp only [Act.put, List.getElem_toArray, List.getElem_cons_zero, List.getElem_cons_succ, List.setIfInBounds_toArray, List.set_cons_zero, List.set_cons_succ]
  refine wpAnyH_ready (rs := [17]) (by kernel_rfl) (by simp) ?_
  refine AllReadyH.cons (o := _) rfl (fun K hK => ?_) AllReadyH.nil
  have HK := Lib.hid hK
  clear hK
  rw [if_pos (by rfl)]
  have GDg := Lib.hid ((BD_wg.out.block D LD_11.out).trans GD_11.out)
  refine wp_store_mid _ _ _ rfl D 3 #[.int .i64 (nx : Int), .slice sa 67 sc, .slice pa (tlong nx N) pc] (by rfl) (by rfl) (dbl_there 3 (by omega) GDg.out) (info_sig _ _ _) (sig_one _ _ _ _ _ _ _) ?_
  obtain ⟨wh, hwh⟩ : ∃ z, z = wg.setCells D 3 [.int .i64 (nx : Int), .slice sa 67 sc, .slice pa (tlong nx N) pc] := ⟨_, rfl⟩
  have hon : Only wg wh D := by rw [hwh]; exact Only.setCells3 _ _ _ _ _ _
  have hDw : w.heap.size ≤ D := by rw [HD.out]; exact Below.size B10.out
  have B100 := Lib.hid (show Below w.heap.size w wh by rw [hwh]; exact below_setCells _ _ (Below.trans B11.out (BD_wg.out.mono (Below.size B11.out))) hDw)
  have GD_100 := Lib.hid (show wh.heap[D]? = some (.cells #[.int .i64 0, .slice none 0 0, .slice none 0 0, .int .i64 (nx : Int), .slice sa 67 sc, .slice pa (tlong nx N) pc] 28 (0, 0)) by rw [hwh]; exact dbl_putlow GDg.out _ _ _)
  have GU_100 := Lib.hid (hon.blk GDg.out ((BD_wg.out.block U LU_11.out).trans GU_11.out) (by decide))
  have GR_100 := Lib.hid ((hon.2 R hRD).trans ((BD_wg.out.block R LR_11.out).trans GR_11.out))
  have LD_100 := Lib.hid (lt_of_heap GD_100.out)
  have LU_100 := Lib.hid (lt_of_heap GU_100.out)
  have LR_100 := Lib.hid (lt_of_heap GR_100.out)
  have RLa_100 := Lib.hid (hon.rd GDg.out (by decide) (RLa_11.out.below BD_wg.out))
  have RLb_100 := Lib.hid (hon.rd GDg.out (by decide) (RLb_11.out.below BD_wg.out))
  have RS_100 := Lib.hid (hon.rd GDg.out (by decide) RSg.out)
  have RP_100 := Lib.hid (hon.rd GDg.out (by decide) RPg.out)
  have S3 := Lib.hid (show wh.heap[L]? = some (.cells (dV LO) 23 (0, 0)) ∧ wh.heap[M]? = some (.cells (dV m) 23 (0, 0)) from ⟨hon.blk GDg.out ((BD_wg.out.block L LL_11.out).trans GL_11.out) (by decide), hon.blk GDg.out ((BD_wg.out.block M LM_11.out).trans GM_11.out) (by decide)⟩)
  rw [← hwh]
  clear hwh hon
  refine HK.out _ _ S3.out ?_
  clear HK K hHeld
  try simp only [Act.put, List.getElem_toArray, List.getElem_cons_zero, List.getElem_cons_succ, List.setIfInBounds_toArray, List.set_cons_zero, List.set_cons_succ]
  intro hHeld
  refine wpAnyH_done (by kernel_rfl) ?_ _
  clear hHeld HKS S3 GDg RSf RSg RPg
  go_wp2_with (first
    | (refine at_ld 23 (.tmp 13) rfl ?_; (refine ld_digG rfl (.tmp 13) rfl (U) 0 (by rfl) UP UPL.out (range_of_row GU_100.out) ?_); simp only [Act.put, List.setIfInBounds_toArray, List.set_cons_zero, List.set_cons_succ]))
  refine (RStampK UP UPL.out t t256 wh).mono ?_
  rintro e w101 ⟨rfl, hb101⟩
  have B101 := Lib.hid (show Below w.heap.size w w101 from Below.trans B100.out (Below.mono hb101 (Below.size B100.out)))
  have GD_101 := Lib.hid ((Below.block hb101 D LD_100.out).trans GD_100.out)
  have LD_101 := Lib.hid (Nat.lt_of_lt_of_le LD_100.out (Below.size hb101))
  have GU_101 := Lib.hid ((Below.block hb101 U LU_100.out).trans GU_100.out)
  have LU_101 := Lib.hid (Nat.lt_of_lt_of_le LU_100.out (Below.size hb101))
  have GR_101 := Lib.hid ((Below.block hb101 R LR_100.out).trans GR_100.out)
  have LR_101 := Lib.hid (Nat.lt_of_lt_of_le LR_100.out (Below.size hb101))
  have RLa_101 := Lib.hid (RLa_100.out.below hb101)
  have RLb_101 := Lib.hid (RLb_100.out.below hb101)
  have RS_101 := Lib.hid (RS_100.out.below hb101)
  have RP_101 := Lib.hid (RP_100.out.below hb101)
  clear hb101
  go_wp2_with fail
  refine (RRootH LO N hN256 RT HRT.out la2 lc2 _ HC2.out.1 HC2.out.2 w101 RLa_101.out).mono ?_
  rintro e w102 ⟨rfl, hb102⟩
  have B102 := Lib.hid (show Below w.heap.size w w102 from Below.trans B101.out (Below.mono hb102 (Below.size B101.out)))
  have GD_102 := Lib.hid ((Below.block hb102 D LD_101.out).trans GD_101.out)
  have LD_102 := Lib.hid (Nat.lt_of_lt_of_le LD_101.out (Below.size hb102))
  have GU_102 := Lib.hid ((Below.block hb102 U LU_101.out).trans GU_101.out)
  have LU_102 := Lib.hid (Nat.lt_of_lt_of_le LU_101.out (Below.size hb102))
  have GR_102 := Lib.hid ((Below.block hb102 R LR_101.out).trans GR_101.out)
  have LR_102 := Lib.hid (Nat.lt_of_lt_of_le LR_101.out (Below.size hb102))
  have RLa_102 := Lib.hid (RLa_101.out.below hb102)
  have RLb_102 := Lib.hid (RLb_101.out.below hb102)
  have RS_102 := Lib.hid (RS_101.out.below hb102)
  have RP_102 := Lib.hid (RP_101.out.below hb102)
  clear hb102
  go_wp2_with fail
  refine (RWSignedH (skey UP t) RT (skey_length _ _) RTL.out w102).mono ?_
  rintro e w103 ⟨ua, uc, rfl, hru, hb103⟩
  have B103 := Lib.hid (show Below w.heap.size w w103 from Below.trans B102.out (Below.mono hb103 (Below.size B102.out)))
  have GD_103 := Lib.hid ((Below.block hb103 D LD_102.out).trans GD_102.out)
  have LD_103 := Lib.hid (Nat.lt_of_lt_of_le LD_102.out (Below.size hb103))
  have GU_103 := Lib.hid ((Below.block hb103 U LU_102.out).trans GU_102.out)
  have LU_103 := Lib.hid (Nat.lt_of_lt_of_le LU_102.out (Below.size hb103))
  have GR_103 := Lib.hid ((Below.block hb103 R LR_102.out).trans GR_102.out)
  have LR_103 := Lib.hid (Nat.lt_of_lt_of_le LR_102.out (Below.size hb103))
  have RLa_103 := Lib.hid (RLa_102.out.below hb103)
  have RLb_103 := Lib.hid (RLb_102.out.below hb103)
  have RS_103 := Lib.hid (RS_102.out.below hb103)
  have RP_103 := Lib.hid (RP_102.out.below hb103)
  have RU_103 := Lib.hid hru
  clear hru
  clear hb103
  go_wp2_with fail
  refine (RPathH UP N t hN256 HT.out la3 lc3 _ HC3.out.1 HC3.out.2 w103 RLb_103.out).mono ?_
  rintro e w104 ⟨va, vc, rfl, hrv, hb104⟩
  have B104 := Lib.hid (show Below w.heap.size w w104 from Below.trans B103.out (Below.mono hb104 (Below.size B103.out)))
  have GD_104 := Lib.hid ((Below.block hb104 D LD_103.out).trans GD_103.out)
  have LD_104 := Lib.hid (Nat.lt_of_lt_of_le LD_103.out (Below.size hb104))
  have GU_104 := Lib.hid ((Below.block hb104 U LU_103.out).trans GU_103.out)
  have LU_104 := Lib.hid (Nat.lt_of_lt_of_le LU_103.out (Below.size hb104))
  have GR_104 := Lib.hid ((Below.block hb104 R LR_103.out).trans GR_103.out)
  have LR_104 := Lib.hid (Nat.lt_of_lt_of_le LR_103.out (Below.size hb104))
  have RLa_104 := Lib.hid (RLa_103.out.below hb104)
  have RLb_104 := Lib.hid (RLb_103.out.below hb104)
  have RS_104 := Lib.hid (RS_103.out.below hb104)
  have RP_104 := Lib.hid (RP_103.out.below hb104)
  have RU_104 := Lib.hid (RU_103.out.below hb104)
  have RV_104 := Lib.hid hrv
  clear hrv
  clear hb104
  obtain ⟨wm, hwm⟩ : ∃ z, z = w104.setCells D 0 [.int .i64 (t : Int), .slice ua 67 uc, .slice va (tlong t N) vc] := ⟨_, rfl⟩
  have hon : Only w104 wm D := by rw [hwm]; exact Only.setCells3 _ _ _ _ _ _
  have GDm := Lib.hid (show wm.heap[D]? = some (.cells #[.int .i64 (t : Int), .slice ua 67 uc, .slice va (tlong t N) vc, .int .i64 (nx : Int), .slice sa 67 sc, .slice pa (tlong nx N) pc] 28 (0, 0)) by rw [hwm]; exact dbl_putup GD_104.out _ _ _)
  have GRm := Lib.hid ((hon.2 R hRD).trans GR_104.out)
  have hRw : w.heap.size ≤ R := by rw [SZR.out]; omega
  have Bm := Lib.hid (show Below w.heap.size w wm by rw [hwm]; exact below_setCells _ _ B104.out hDw)
  have HWM := Lib.hid hwm
  have FIN := Lib.hid (show _ ∧ _ ∧ _ ∧ _ ∧ Below w.heap.size w (wm.setRow R #[.int .i64 (t : Int), .slice ua 67 uc, .slice va (tlong t N) vc, .int .i64 (nx : Int), .slice sa 67 sc, .slice pa (tlong nx N) pc]) from by
    have hon2 := Only.setRow wm R #[.int .i64 (t : Int), .slice ua 67 uc, .slice va (tlong t N) vc, .int .i64 (nx : Int), .slice sa 67 sc, .slice pa (tlong nx N) pc]
    exact ⟨hon2.rd GRm.out (by decide) (hon.rd GD_104.out (by decide) RU_104.out), hon2.rd GRm.out (by decide) (hon.rd GD_104.out (by decide) RV_104.out), hon2.rd GRm.out (by decide) (hon.rd GD_104.out (by decide) RS_104.out), hon2.rd GRm.out (by decide) (hon.rd GD_104.out (by decide) RP_104.out), below_setRowW Bm.out hRw _⟩)
  clear hwm hon
  go_wp2_with (first
    | ((refine wpList_store_mid rfl 26 (.tmp 62) (.tmp 61) rfl D 0 #[.int .i64 (t : Int), .slice ua 67 uc, .slice va (tlong t N) vc] (by rfl) (by rfl) (dbl_there 0 (by omega) GD_104.out) (info_sig _ _ _) (sig_one _ _ _ _ _ _ _) ?_); show wpList _ _ _ _ _ (w104.setCells D 0 [.int .i64 (t : Int), .slice ua 67 uc, .slice va (tlong t N) vc]); rw [← HWM.out])
    | (refine ld_dbl rfl (.tmp 15) rfl D (by rfl) _ _ _ _ _ _ _ _ GDm.out ?_)
    | (refine st_dbl rfl (.tmp 8) (.tmp 63) rfl R _ _ _ _ _ _ (by rfl) (by rfl) #[.int .i64 0, .slice none 0 0, .slice none 0 0, .int .i64 0, .slice none 0 0, .slice none 0 0] rfl _ GRm.out (dbl_one _ _ _ _ _ _ _ _ _ _ _ _ _ _) ?_))
  try simp only [Exit.inBlock, Exit.then]
  refine bodyPost_ret (v := .agg #[.int .i64 (t : Int), .slice ua 67 uc, .slice va (tlong t N) vc, .int .i64 (nx : Int), .slice sa 67 sc, .slice pa (tlong nx N) pc]) (results_cellW rfl _ _ _ ⟨R, 0, none⟩ _ rfl ?_) rfl ?_
  · exact load_dbl (setRow_heap _ _ _ _ _ _ GRm.out)
  · exact ⟨ua, uc, va, vc, sa, sc, pa, pc, rfl, by rw [← HUP.out, ← HLO.out, ← HRT.out]; exact FIN.out.1, by rw [← HUP.out]; exact FIN.out.2.1, by rw [← HLO.out]; exact FIN.out.2.2.1, by rw [← HLO.out]; exact FIN.out.2.2.2.1, FIN.out.2.2.2.2⟩
end Go.Proofs.YtkioddmhjbaleaaGreatDoor
/- Walks: the document's StampFault and StampRoot. -/
namespace Go.Proofs.YtkioddmhjbaleaaGreatDoor
open Go.RowKit
set_option linter.unusedVariables false
set_option linter.unusedSimpArgs false
theorem load_sl {p : Addr} {a : Option Addr} {n c : Nat} {w : World} (h : w.cell? p = some (.slice a n c)) : (loadVar 24 p).run Tryz.prog w = .ok (.slice a n c) w := by go_simp
theorem quiet_sl {ops : Array Oper} {C : World → Prop} {Q : Act → Prop} {a : Act} {op : Oper} {rest : List Oper} {x1 : Operand} (ho : op.op = .load 24 x1) (x : Operand) (he_ : x1 = x) (p : Addr) (hx : a.eval x = .pointer (some p)) (b : Option Addr) (n c : Nat) (hC : ∀ w, C w → w.cell? p = some (.slice b n c))
    (h : wpQuiet Tryz.prog ops C Q rest (a.put op.dst (.slice b n c))) (hgd : Region.wanted op (yielded ops a.tmps) = true) : wpQuiet Tryz.prog ops C Q (op :: rest) a := by
  cases he_
  exact quiet_cell hgd _ _ ho p hx _ (fun w hw => load_sl (hC w hw)) h
set_option maxRecDepth 20000 in
set_option maxHeartbeats 2000000 in
theorem RSFault_calls (N : Nat) (hN1 : 1 ≤ N) (hN : N ≤ 4) (i : Int) (hi : -9223372036854775808 ≤ i ∧ i ≤ 9223372036854775807) (sa pa : Option Addr) (sl sc pl pc : Nat) (hsl : sl ≤ 9223372036854775807) (hpl : pl ≤ 9223372036854775807) (w : World) :
    Calls Tryz.prog 14 #[.agg #[.int .i64 i, .slice sa sl sc, .slice pa pl pc], .int .i64 (N : Int)] w fun e w' => e = .returned (.int .i64 (sfault N sl i pl)) ∧ Below w.heap.size w w' := by
  obtain ⟨S, hS⟩ : ∃ z, z = w.heap.size := ⟨_, rfl⟩
  obtain ⟨w1, hw1⟩ : ∃ z, z = w.alloc (.cells #[.int .i64 i, .slice sa sl sc, .slice pa pl pc] 26) := ⟨_, rfl⟩
  have hb1 : Below w.heap.size w w1 := by rw [hw1]; exact (Below.refl _ _).alloc (Nat.le_refl _) _
  have hg : w1.heap[S]? = some (.cells #[.int .i64 i, .slice sa sl sc, .slice pa pl pc] 26 (0, 0)) := by rw [hw1, hS]; exact heap_alloc_new _ _
  obtain ⟨k0, k1, k2⟩ := cellQ hg
  have B1 := Lib.hid hb1
  have HW1 := Lib.hid hw1
  have HS := Lib.hid hS
  have G1 := Lib.hid hg
  clear hb1 hw1 hg hS
  obtain ⟨f, hf⟩ : ∃ z, z = sfault N sl i pl := ⟨_, rfl⟩
  have HF := Lib.hid hf
  rw [← hf]
  clear hf
  have p0 : decide (sl = 67) = decide (sl = 67) := rfl
  by_cases h67 : sl = 67
  · have a1 : ((sl : Int) != 67) = false := by rw [h67]; rfl
    by_cases hr : i < 0 ∨ (N : Int) ≤ i
    · have hf2 : f = 2 := by rw [HF.out]; unfold sfault; rw [if_neg (by simpa using h67), if_pos hr]
      have HF2 := Lib.hid hf2
      clear hf2 p0
      subst h67
      rcases hr with hr | hr
      · have a2 : decide (i < 0) = true := decide_eq_true hr
        go_enter Tryz.func14, Tryz.ntmps14
        go_upto_region 1 with fail
        rw [← HW1.out, ← HS.out]
        go_wp2_with fail
        go_ret
        exact ⟨by rw [HF2.out]; rfl, B1.out⟩
      · have a2 : decide (i < 0) = false := decide_eq_false (by omega)
        have a3 : decide ((N : Int) ≤ i) = true := decide_eq_true hr
        go_enter Tryz.func14, Tryz.ntmps14
        go_upto_region 1 with fail
        rw [← HW1.out, ← HS.out]
        go_wp2_with fail
        go_ret
        exact ⟨by rw [HF2.out]; rfl, B1.out⟩
    · obtain ⟨n, rfl⟩ : ∃ n : Nat, i = (n : Int) := ⟨i.toNat, by omega⟩
      have hn : n < N := by omega
      have a2 : decide ((n : Int) < 0) = false := decide_eq_false (by omega)
      have a3 : decide ((N : Int) ≤ (n : Int)) = false := decide_eq_false (by omega)
      have a3' : decide (N ≤ n) = false := decide_eq_false (by omega)
      obtain ⟨tl, htl⟩ : ∃ z, z = tlong n N := ⟨_, rfl⟩
      have LC := Lib.hid (fun w' (h : InB w1.heap.size w1 w') => InB.calm h (show Calls Tryz.prog 36 #[.int .i64 (n : Int), .int .i64 (N : Int)] w' fun e w'' => e = .returned (.int .i64 (tl : Int)) ∧ w' = w'' by rw [htl]; exact RLong_calls N N n (Nat.le_refl _) hN1 (by omega) hn w'))
      have LS := lt_of_heap G1.out
      have FC0 := Lib.hid (fun w' (h : InB w1.heap.size w1 w') => (Below.cell h (p := ⟨S, 0, none⟩) LS).trans k0)
      have FC2 := Lib.hid (fun w' (h : InB w1.heap.size w1 w') => (Below.cell h (p := ⟨S, 2, none⟩) LS).trans k2)
      have hf2 : f = if pl ≠ tl then 3 else 0 := by rw [HF.out]; unfold sfault; rw [if_neg (by simpa using h67), if_neg hr, Int.toNat_natCast, ← htl]
      have HF2 := Lib.hid hf2
      clear hf2 htl hr p0
      subst h67
      by_cases hp : pl = tl
      · have a4 : ((pl : Int) != (tl : Int)) = false := by rw [hp]; simp
        have HF3 := Lib.hid (show f = 0 by rw [HF2.out, if_neg (by simpa using hp)])
        clear hp
        go_enter Tryz.func14, Tryz.ntmps14
        go_upto_region 1 with fail
        rw [← HW1.out, ← HS.out]
        go_upto_region 5 with fail
        have hex := inB_ex w1.heap.size w1
        refine wp_region_inB w1.heap.size (by kernel_rfl) (by kernel_rfl) ?_
        repeat (first
          | (with_reducible refine quiet_sl rfl (.tmp 18) rfl ⟨S, 2, none⟩ (by kernel_rfl) pa pl pc FC2.out ?_ (by kernel_rfl); simp only [Act.put, List.setIfInBounds_toArray, List.set_cons_zero, List.set_cons_succ])
          | (with_reducible refine quiet_int rfl (.tmp 21) rfl ⟨S, 0, none⟩ (by kernel_rfl) ((n : Int)) FC0.out ?_ (by kernel_rfl); simp only [Act.put, List.setIfInBounds_toArray, List.set_cons_zero, List.set_cons_succ])
          | go_big_quiet_step ((first | (intro hw'; exact LC.out _ hw') | (intro _; rfl))))
        refine wpQuiet_nil ?_
        intro wZ hwZ
        have BZ := Lib.hid (B1.out.trans (Below.mono hwZ B1.out.size))
        clear hwZ hex
        go_wp2_with fail
        go_ret
        exact ⟨by rw [HF3.out]; rfl, BZ.out⟩
      · have a4 : ((pl : Int) != (tl : Int)) = true := by rw [bne_iff_ne]; omega
        have HF3 := Lib.hid (show f = 3 by rw [HF2.out, if_pos hp])
        clear hp
        go_enter Tryz.func14, Tryz.ntmps14
        go_upto_region 1 with fail
        rw [← HW1.out, ← HS.out]
        go_upto_region 5 with fail
        have hex := inB_ex w1.heap.size w1
        refine wp_region_inB w1.heap.size (by kernel_rfl) (by kernel_rfl) ?_
        repeat (first
          | (with_reducible refine quiet_sl rfl (.tmp 18) rfl ⟨S, 2, none⟩ (by kernel_rfl) pa pl pc FC2.out ?_ (by kernel_rfl); simp only [Act.put, List.setIfInBounds_toArray, List.set_cons_zero, List.set_cons_succ])
          | (with_reducible refine quiet_int rfl (.tmp 21) rfl ⟨S, 0, none⟩ (by kernel_rfl) ((n : Int)) FC0.out ?_ (by kernel_rfl); simp only [Act.put, List.setIfInBounds_toArray, List.set_cons_zero, List.set_cons_succ])
          | go_big_quiet_step ((first | (intro hw'; exact LC.out _ hw') | (intro _; rfl))))
        refine wpQuiet_nil ?_
        intro wZ hwZ
        have BZ := Lib.hid (B1.out.trans (Below.mono hwZ B1.out.size))
        clear hwZ hex
        go_wp2_with fail
        go_ret
        exact ⟨by rw [HF3.out]; rfl, BZ.out⟩
  · have hf2 : f = 3 := by rw [HF.out]; unfold sfault; rw [if_pos h67]
    have HF2 := Lib.hid hf2
    have a1 : ((sl : Int) != 67) = true := by rw [bne_iff_ne]; omega
    have a1' : decide (sl = 67) = false := decide_eq_false h67
    clear hf2 p0
    go_enter Tryz.func14, Tryz.ntmps14
    go_upto_region 1 with fail
    rw [← HW1.out, ← HS.out]
    go_wp2_with fail
    go_ret
    exact ⟨by rw [HF2.out]; rfl, B1.out⟩
set_option maxRecDepth 20000 in
set_option maxHeartbeats 4000000 in
theorem RSRoot_calls (m : List UInt8) (hm : m.length = 32) (N : Nat) (hN : N ≤ 4) (n : Nat) (hn : n < N) (sig ps : List (List UInt8)) (h67 : sig.length = 67) (hd : ∀ d ∈ sig, d.length = 32) (hp : ∀ p ∈ ps, p.length = 32) (hpl : ps.length = tlong n N) (sa pa : Option Addr) (sc pc se pe : Nat) (hpc : tlong n N ≤ pc) (hpc2 : pc ≤ 9223372036854775807) (w : World) (hrs : Rd w sa se (sig.flatten.map vB)) (hrp : Rd w pa pe (ps.flatten.map vB)) :
    Calls Tryz.prog 15 #[.agg (dV m), .agg #[.int .i64 (n : Int), .slice sa 67 sc, .slice pa (tlong n N) pc], .int .i64 (N : Int)] w fun e w' => e = .returned (.agg (dV (tfold (wkey m sig) n N ps))) ∧ Below w.heap.size w w' := by
  have ML := Lib.hid hm
  have RS_0 := Lib.hid hrs
  have RP_0 := Lib.hid hrp
  have HIM := Lib.hid (show (Tryz.prog.info? 23).map (·.size) = some (m.map vB).length by rw [List.length_map, hm]; exact dig_size)
  clear hm hrs hrp
  obtain ⟨M, hM⟩ : ∃ z, z = w.heap.size := ⟨_, rfl⟩
  obtain ⟨w1, hw1⟩ : ∃ z, z = w.alloc (.cells (dV m) 23) := ⟨_, rfl⟩
  have st1 : Below w.heap.size w w1 := by rw [hw1]; exact (Below.refl _ _).alloc (Nat.le_refl _) _
  have B1 := Lib.hid (show Below w.heap.size w w1 from Below.trans (Below.refl w.heap.size w) (Below.mono st1 (Below.size (Below.refl w.heap.size w))))
  have RS_1 := Lib.hid (RS_0.out.below st1)
  have RP_1 := Lib.hid (RP_0.out.below st1)
  have GM_1 := Lib.hid (show w1.heap[M]? = some (.cells (dV m) 23 (0, 0)) by rw [hw1, hM]; exact heap_alloc_new _ _)
  have LM_1 := Lib.hid (lt_of_heap GM_1.out)
  have HM := Lib.hid hM
  have Hw1 := Lib.hid hw1
  clear hM hw1 st1
  have SZM := Lib.hid (show M = w.heap.size from HM.out)
  obtain ⟨S, hS⟩ : ∃ z, z = w1.heap.size := ⟨_, rfl⟩
  obtain ⟨w2, hw2⟩ : ∃ z, z = w1.alloc (.cells #[.int .i64 (n : Int), .slice sa 67 sc, .slice pa (tlong n N) pc] 26) := ⟨_, rfl⟩
  have st2 : Below w1.heap.size w1 w2 := by rw [hw2]; exact (Below.refl _ _).alloc (Nat.le_refl _) _
  have B2 := Lib.hid (show Below w.heap.size w w2 from Below.trans B1.out (Below.mono st2 (Below.size B1.out)))
  have GM_2 := Lib.hid ((Below.block st2 M LM_1.out).trans GM_1.out)
  have LM_2 := Lib.hid (Nat.lt_of_lt_of_le LM_1.out (Below.size st2))
  have RS_2 := Lib.hid (RS_1.out.below st2)
  have RP_2 := Lib.hid (RP_1.out.below st2)
  have GS_2 := Lib.hid (show w2.heap[S]? = some (.cells #[.int .i64 (n : Int), .slice sa 67 sc, .slice pa (tlong n N) pc] 26 (0, 0)) by rw [hw2, hS]; exact heap_alloc_new _ _)
  have LS_2 := Lib.hid (lt_of_heap GS_2.out)
  have HS := Lib.hid hS
  have Hw2 := Lib.hid hw2
  clear hS hw2 st2
  have SZS := Lib.hid (show S = w.heap.size + 1 by rw [HS.out, Hw1.out, World.size_alloc, ← HM.out, SZM.out])
  obtain ⟨R, hR⟩ : ∃ z, z = w2.heap.size := ⟨_, rfl⟩
  obtain ⟨w3, hw3⟩ : ∃ z, z = w2.alloc (.cells (dV nz) 23) := ⟨_, rfl⟩
  have st3 : Below w2.heap.size w2 w3 := by rw [hw3]; exact (Below.refl _ _).alloc (Nat.le_refl _) _
  have B3 := Lib.hid (show Below w.heap.size w w3 from Below.trans B2.out (Below.mono st3 (Below.size B2.out)))
  have GM_3 := Lib.hid ((Below.block st3 M LM_2.out).trans GM_2.out)
  have LM_3 := Lib.hid (Nat.lt_of_lt_of_le LM_2.out (Below.size st3))
  have GS_3 := Lib.hid ((Below.block st3 S LS_2.out).trans GS_2.out)
  have LS_3 := Lib.hid (Nat.lt_of_lt_of_le LS_2.out (Below.size st3))
  have RS_3 := Lib.hid (RS_2.out.below st3)
  have RP_3 := Lib.hid (RP_2.out.below st3)
  have GR_3 := Lib.hid (show w3.heap[R]? = some (.cells (dV nz) 23 (0, 0)) by rw [hw3, hR]; exact heap_alloc_new _ _)
  have LR_3 := Lib.hid (lt_of_heap GR_3.out)
  have HR := Lib.hid hR
  have Hw3 := Lib.hid hw3
  clear hR hw3 st3
  have SZR := Lib.hid (show R = w.heap.size + 1 + 1 by rw [HR.out, Hw2.out, World.size_alloc, ← HS.out, SZS.out])
  go_enter Tryz.func15, Tryz.ntmps15
  go_upto_region 1 with fail
  rw [zdig]
  rw [← SZR.out, ← SZS.out, ← SZM.out, ← Hw1.out, ← Hw2.out, ← Hw3.out]
  have KS : ∀ w' : World, Below w3.heap.size w3 w' → (w'.heap[M]? = some (.cells (dV m) 23 (0, 0)) ∧ w'.heap[S]? = some (.cells #[.int .i64 (n : Int), .slice sa 67 sc, .slice pa (tlong n N) pc] 26 (0, 0))) := fun w' hb => ⟨(hb.block M LM_3.out).trans GM_3.out, (hb.block S LS_3.out).trans GS_3.out⟩
  have HKS := Lib.hid KS
  obtain ⟨wd, hwd⟩ : ∃ z, z = w3.drew := ⟨_, rfl⟩
  have BD_wd := Lib.hid (show Below w3.heap.size w3 wd by rw [hwd]; exact (Below.refl _ _).drew)
  refine wp_region_held_drew (S := fun w' => w'.heap[M]? = some (.cells (dV m) 23 (0, 0)) ∧ w'.heap[S]? = some (.cells #[.int .i64 (n : Int), .slice sa 67 sc, .slice pa (tlong n N) pc] 26 (0, 0))) (by kernel_rfl) (by rw [← hwd]; exact KS wd BD_wd.out) (fun hHeld => ?_)
  rw [← hwd] at hHeld ⊢
  clear hwd KS
  refine wpAnyH_take (i := 0) (oi := _) (v := _) rfl (by kernel_rfl) (by kernel_rfl) (by kernel_rfl) (fun _ _ _ h => h) (yieldsIf_load_mid (by rfl) _ _ rfl _ _ rfl (m.map vB) _ (fun w hw => range_of_row hw.1) Tryz.underlying23 rfl HIM.out) hHeld ?_
  simp only [Act.put, List.getElem_toArray, List.getElem_cons_zero, List.getElem_cons_succ, List.setIfInBounds_toArray, List.set_cons_zero, List.set_cons_succ]
  refine wpAnyH_take (i := 1) (oi := _) (v := .pointer (some ⟨S, 1, none⟩)) rfl (by kernel_rfl) (by kernel_rfl) (by kernel_rfl) (fun _ _ _ h => h) (Or.inl ⟨by rfl, fun w hw => by go_simp⟩) hHeld ?_
  simp only [Act.put, List.getElem_toArray, List.getElem_cons_zero, List.getElem_cons_succ, List.setIfInBounds_toArray, List.set_cons_zero, List.set_cons_succ]
  refine wpAnyH_take (i := 2) (oi := _) (v := .slice sa 67 sc) rfl (by kernel_rfl) (by kernel_rfl) (by kernel_rfl) (fun _ _ _ h => h) (Or.inl ⟨by rfl, fun w hw => by have hcc := (cellQ hw.2).2.1; go_simp⟩) hHeld ?_
  simp only [Act.put, List.getElem_toArray, List.getElem_cons_zero, List.getElem_cons_succ, List.setIfInBounds_toArray, List.set_cons_zero, List.set_cons_succ]
  refine wpAnyH_take (i := 4) (oi := _) (v := .pointer (some ⟨S, 0, none⟩)) rfl (by kernel_rfl) (by kernel_rfl) (by kernel_rfl) (fun _ _ _ h => h) (Or.inl ⟨by rfl, fun w hw => by go_simp⟩) hHeld ?_
  simp only [Act.put, List.getElem_toArray, List.getElem_cons_zero, List.getElem_cons_succ, List.setIfInBounds_toArray, List.set_cons_zero, List.set_cons_succ]
  refine wpAnyH_take (i := 5) (oi := _) (v := .int .i64 (n : Int)) rfl (by kernel_rfl) (by kernel_rfl) (by kernel_rfl) (fun _ _ _ h => h) (Or.inl ⟨by rfl, fun w hw => by have hcc := (cellQ hw.2).1; go_simp⟩) hHeld ?_
  simp only [Act.put, List.getElem_toArray, List.getElem_cons_zero, List.getElem_cons_succ, List.setIfInBounds_toArray, List.set_cons_zero, List.set_cons_succ]
  refine wpAnyH_take (i := 6) (oi := _) (v := .int .i64 (N : Int)) rfl (by kernel_rfl) (by kernel_rfl) (by kernel_rfl) (fun _ _ _ h => h) (Or.inl ⟨by rfl, fun w hw => by go_simp⟩) hHeld ?_
  simp only [Act.put, List.getElem_toArray, List.getElem_cons_zero, List.getElem_cons_succ, List.setIfInBounds_toArray, List.set_cons_zero, List.set_cons_succ]
  refine wpAnyH_take (i := 7) (oi := _) (v := .pointer (some ⟨S, 2, none⟩)) rfl (by kernel_rfl) (by kernel_rfl) (by kernel_rfl) (fun _ _ _ h => h) (Or.inl ⟨by rfl, fun w hw => by go_simp⟩) hHeld ?_
  simp only [Act.put, List.getElem_toArray, List.getElem_cons_zero, List.getElem_cons_succ, List.setIfInBounds_toArray, List.set_cons_zero, List.set_cons_succ]
  refine wpAnyH_take (i := 8) (oi := _) (v := .slice pa (tlong n N) pc) rfl (by kernel_rfl) (by kernel_rfl) (by kernel_rfl) (fun _ _ _ h => h) (Or.inl ⟨by rfl, fun w hw => by have hcc := (cellQ hw.2).2.2; go_simp⟩) hHeld ?_
  simp only [Act.put, List.getElem_toArray, List.getElem_cons_zero, List.getElem_cons_succ, List.setIfInBounds_toArray, List.set_cons_zero, List.set_cons_succ]
  have HK1 := Lib.hid (RWKey_calls m ML.out sig h67 hd sa sc _ wd (RS_3.out.below BD_wd.out))
  rw [h67] at HK1
  refine wpAnyH_ready (rs := [3]) (by kernel_rfl) (by simp) ?_
  refine AllReadyH.cons (o := _) rfl (fun K hK => ?_) AllReadyH.nil
  have HK := Lib.hid hK
  clear hK
  go_simp
  go_at_call 38
  refine (HK1.out).mono ?_
  rintro e we ⟨rfl, hb⟩
  have BD_we := Lib.hid (show Below w3.heap.size w3 we from BD_wd.out.trans (hb.mono BD_wd.out.size))
  clear hb
  dsimp only
  refine HK.out _ _ (HKS.out we BD_we.out) ?_
  clear HK K hHeld
  try simp only [Act.put, List.getElem_toArray, List.getElem_cons_zero, List.getElem_cons_succ, List.setIfInBounds_toArray, List.set_cons_zero, List.set_cons_succ]
  intro hHeld
  have HK2 := Lib.hid (RFolded_calls N N n (Nat.le_refl _) (by omega) (by omega) hn (wkey m sig) ps (wkey_length _ _) hp hpl pa pc _ (by rw [hpl]; exact hpc) hpc2 we (RP_3.out.below BD_we.out))
  rw [hpl] at HK2
  obtain ⟨D, hD⟩ : ∃ z, z = tfold (wkey m sig) n N ps := ⟨_, rfl⟩
  rw [← hD] at HK2
  have HD := Lib.hid hD
  have DL := Lib.hid (show D.length = 32 by rw [hD]; exact tfold_length _ _ _ _ (wkey_length _ _))
  clear hD
  refine wpAnyH_ready (rs := [9]) (by kernel_rfl) (by simp) ?_
  refine AllReadyH.cons (o := _) rfl (fun K hK => ?_) AllReadyH.nil
  have HK := Lib.hid hK
  clear hK
  go_simp
  go_at_call 37
  refine (HK2.out).mono ?_
  rintro e wf ⟨rfl, hb⟩
  have BD_wf := Lib.hid (show Below w3.heap.size w3 wf from BD_we.out.trans (hb.mono BD_we.out.size))
  clear hb
  dsimp only
  refine HK.out _ _ (HKS.out wf BD_wf.out) ?_
  clear HK K hHeld
  try simp only [Act.put, List.getElem_toArray, List.getElem_cons_zero, List.getElem_cons_succ, List.setIfInBounds_toArray, List.set_cons_zero, List.set_cons_succ]
  intro hHeld
  refine wpAnyH_ready (rs := [10]) (by kernel_rfl) (by simp) ?_
  refine AllReadyH.cons (o := _) rfl (fun K hK => ?_) AllReadyH.nil
  have HK := Lib.hid hK
  clear hK
  rw [if_pos (by rfl)]
  have GRf := Lib.hid ((BD_wf.out.block R LR_3.out).trans GR_3.out)
  refine wp_store_row _ _ _ rfl R (dV D) (by rfl) (by rfl) _ (dV nz) GRf.out (by rw [dV_size DL.out]; exact dig_size) (by rw [dV_size DL.out, dV_size nz_length]) (dV_one _) ?_
  obtain ⟨wg, hwg⟩ : ∃ z, z = wf.setRow R (dV D) := ⟨_, rfl⟩
  have GF := Lib.hid (show wg.heap[R]? = some (.cells (dV D) 23 (0, 0)) by rw [hwg]; exact setRow_heap _ _ _ _ _ _ GRf.out)
  have hMR : M ≠ R := by rw [SZR.out, SZM.out]; omega
  have hSR : S ≠ R := by rw [SZR.out, SZS.out]; omega
  have S3 := Lib.hid (show wg.heap[M]? = some (.cells (dV m) 23 (0, 0)) ∧ wg.heap[S]? = some (.cells #[.int .i64 (n : Int), .slice sa 67 sc, .slice pa (tlong n N) pc] 26 (0, 0)) from ⟨by rw [hwg]; exact (_root_.Go.setRow_other _ _ _ _ hMR).trans (HKS.out wf BD_wf.out).1, by rw [hwg]; exact (_root_.Go.setRow_other _ _ _ _ hSR).trans (HKS.out wf BD_wf.out).2⟩)
  have BF := Lib.hid (show Below w.heap.size w wg by rw [hwg]; exact below_setRowW (Below.trans B3.out (BD_wf.out.mono (Below.size B3.out))) (by rw [SZR.out]; omega) _)
  rw [← hwg]
  clear hwg hMR hSR
  refine HK.out _ _ S3.out ?_
  clear HK K hHeld
  try simp only [Act.put, List.getElem_toArray, List.getElem_cons_zero, List.getElem_cons_succ, List.setIfInBounds_toArray, List.set_cons_zero, List.set_cons_succ]
  intro hHeld
  refine wpAnyH_done (by kernel_rfl) ?_ _
  clear hHeld HKS S3
  go_wp2_with fail
  try simp only [Exit.inBlock, Exit.then]
  refine bodyPost_ret (v := .agg (dV D)) (results_cellW rfl _ _ _ ⟨R, 0, none⟩ _ rfl ?_) rfl ?_
  · exact dig_load DL.out (range_of_row GF.out)
  · exact ⟨by rw [HD.out], BF.out⟩
end Go.Proofs.YtkioddmhjbaleaaGreatDoor
