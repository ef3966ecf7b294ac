/- StampOthers: for every seed, digest and place, a signature that is put at another place tells another public key, or the keys are alike, or two unlike pairs have one node; conditions: the laid start, arguments as the card says. -/
import Derived.Test.YtkioddmhjbaleaaDoorRows
import Derived.Test.YtkioddmhjbaleaaDoorStampL
import Derived.Test.YtkioddmhjbaleaaDoorLaidR
import Derived.WalkKit
import Derived.ProofKit
import Derived.OpenShut
import Derived.ShutString
import Derived.ChangeOld
import Derived.Below
namespace Go.Proofs.YtkioddmhjbaleaaDoor
open Go.ChangeShapes Go.WideShapes Go.ChangeAt Go.RowKit
open Go.ChangeMaps (open_string shut_string)
set_option linter.unusedVariables false
set_option linter.unusedSimpArgs false
namespace stampOthers

-- HOLE: the walk
set_option maxRecDepth 20000 in
set_option maxHeartbeats 8000000 in
theorem walk (x0 x1 : List UInt8) (a2 : Int) (w : World) (n0 : x0.length = 32) (n1 : x1.length = 32) (b2 : -9223372036854775808 ≤ a2 ∧ a2 ≤ 9223372036854775807) (hro : RoundsAt w) :
    Calls Tryd.prog 3 #[.agg (dV x0), .agg (dV x1), .int .i64 a2] w fun e w' => e = .returned (.bool true) ∧ Below w.heap.size w w' := by
  have SL := Lib.hid n0
  have ML := Lib.hid n1
  have RO := Lib.hid hro
  obtain ⟨l0, hl0⟩ : ∃ l, l = wpub (skey x0 0) := ⟨_, rfl⟩
  obtain ⟨l1, hl1⟩ : ∃ l, l = wpub (skey x0 1) := ⟨_, rfl⟩
  have L0L := Lib.hid (show l0.length = 32 by rw [hl0]; exact wpub_length _)
  have L1L := Lib.hid (show l1.length = 32 by rw [hl1]; exact wpub_length _)
  have HL0 := Lib.hid hl0
  have HL1 := Lib.hid hl1
  have HLK := Lib.hid (show leavesK x0 2 = [l0, l1] by rw [hl0, hl1]; rfl)
  clear n0 n1 hro hl0 hl1
  obtain ⟨S, hS⟩ : ∃ z, z = w.heap.size := ⟨_, rfl⟩
  obtain ⟨w1, hw1⟩ : ∃ z, z = w.alloc (.cells (dV x0) 23) := ⟨_, rfl⟩
  have st1 : Below w.heap.size w w1 := by rw [hw1]; exact (Below.refl _ _).alloc (Nat.le_refl _) _
  have B1 := Lib.hid (show Below w.heap.size w w1 from Below.trans (Below.refl w.heap.size w) (Below.mono st1 (Below.size (Below.refl w.heap.size w))))
  have GS_1 := Lib.hid (show w1.heap[S]? = some (.cells (dV x0) 23 (0, 0)) by rw [hw1, hS]; exact heap_alloc_new _ _)
  have LS_1 := Lib.hid (lt_of_heap GS_1.out)
  have HS := Lib.hid hS
  have Hw1 := Lib.hid hw1
  clear hS hw1 st1
  have SZS := Lib.hid (show S = w.heap.size from HS.out)
  obtain ⟨M, hM⟩ : ∃ z, z = w1.heap.size := ⟨_, rfl⟩
  obtain ⟨w2, hw2⟩ : ∃ z, z = w1.alloc (.cells (dV x1) 23) := ⟨_, rfl⟩
  have st2 : Below w1.heap.size w1 w2 := by rw [hw2]; exact (Below.refl _ _).alloc (Nat.le_refl _) _
  have B2 := Lib.hid (show Below w.heap.size w w2 from Below.trans B1.out (Below.mono st2 (Below.size B1.out)))
  have GS_2 := Lib.hid ((Below.block st2 S LS_1.out).trans GS_1.out)
  have LS_2 := Lib.hid (Nat.lt_of_lt_of_le LS_1.out (Below.size st2))
  have GM_2 := Lib.hid (show w2.heap[M]? = some (.cells (dV x1) 23 (0, 0)) by rw [hw2, hM]; exact heap_alloc_new _ _)
  have LM_2 := Lib.hid (lt_of_heap GM_2.out)
  have HM := Lib.hid hM
  have Hw2 := Lib.hid hw2
  clear hM hw2 st2
  have SZM := Lib.hid (show M = w.heap.size + 1 by rw [HM.out, Hw1.out, World.size_alloc, ← HS.out, SZS.out])
  go_enter Tryd.func3, Tryd.ntmps3
  go_upto_region 1 with fail
  rw [← SZM.out, ← SZS.out, ← Hw1.out, ← Hw2.out]
  go_wp2_with (first
    | (refine at_ld 23 (.tmp 3) rfl ?_; (refine ld_digG rfl (.tmp 3) rfl (S) 0 (by rfl) x0 SL.out (range_of_row GS_2.out) ?_); simp only [Act.put, List.setIfInBounds_toArray, List.set_cons_zero, List.set_cons_succ]))
  refine (New_z x0 SL.out 1 1 rfl (by omega) 2 rfl w2 (RO.out.at_ B2.out)).mono ?_
  rintro e w3 ⟨P, rfl, hP, hSAP, hb3⟩
  have B3 := Lib.hid (show Below w.heap.size w w3 from Below.trans B2.out (Below.mono hb3 (Below.size B2.out)))
  have GS_3 := Lib.hid ((Below.block hb3 S LS_2.out).trans GS_2.out)
  have LS_3 := Lib.hid (Nat.lt_of_lt_of_le LS_2.out (Below.size hb3))
  have GM_3 := Lib.hid ((Below.block hb3 M LM_2.out).trans GM_2.out)
  have LM_3 := Lib.hid (Nat.lt_of_lt_of_le LM_2.out (Below.size hb3))
  have SAP_3 := Lib.hid hSAP
  have HBP := Lib.hid (show w.heap.size ≤ P from Nat.le_trans (Below.size B2.out) hP)
  clear hP hSAP
  clear hb3
  go_wp2_with (first
    | (refine at_ld 23 (.tmp 3) rfl ?_; (refine ld_digG rfl (.tmp 3) rfl (S) 0 (by rfl) x0 SL.out (range_of_row GS_3.out) ?_); simp only [Act.put, List.setIfInBounds_toArray, List.set_cons_zero, List.set_cons_succ]))
  refine (Public_z x0 SL.out 1 1 rfl (by omega) 2 rfl w3 (RO.out.at_ B3.out)).mono ?_
  rintro e w4 ⟨rfl, hb4⟩
  have B4 := Lib.hid (show Below w.heap.size w w4 from Below.trans B3.out (Below.mono hb4 (Below.size B3.out)))
  have GS_4 := Lib.hid ((Below.block hb4 S LS_3.out).trans GS_3.out)
  have LS_4 := Lib.hid (Nat.lt_of_lt_of_le LS_3.out (Below.size hb4))
  have GM_4 := Lib.hid ((Below.block hb4 M LM_3.out).trans GM_3.out)
  have LM_4 := Lib.hid (Nat.lt_of_lt_of_le LM_3.out (Below.size hb4))
  have SAP_4 := Lib.hid (SAP_3.out.below hb4)
  clear hb4
  rw [HLK.out, troot_2]
  obtain ⟨PB, hPB⟩ : ∃ z, z = tnode l0 l1 := ⟨_, rfl⟩
  rw [← hPB]
  have PBL := Lib.hid (show PB.length = 32 by rw [hPB]; exact tnode_length _ _)
  have HPB' := Lib.hid hPB
  clear hPB
  obtain ⟨Q, hQ⟩ : ∃ z, z = w4.heap.size := ⟨_, rfl⟩
  obtain ⟨w5, hw5⟩ : ∃ z, z = w4.alloc (.cells (dV PB) 23) := ⟨_, rfl⟩
  have st5 : Below w4.heap.size w4 w5 := by rw [hw5]; exact (Below.refl _ _).alloc (Nat.le_refl _) _
  have B5 := Lib.hid (show Below w.heap.size w w5 from Below.trans B4.out (Below.mono st5 (Below.size B4.out)))
  have GS_5 := Lib.hid ((Below.block st5 S LS_4.out).trans GS_4.out)
  have LS_5 := Lib.hid (Nat.lt_of_lt_of_le LS_4.out (Below.size st5))
  have GM_5 := Lib.hid ((Below.block st5 M LM_4.out).trans GM_4.out)
  have LM_5 := Lib.hid (Nat.lt_of_lt_of_le LM_4.out (Below.size st5))
  have SAP_5 := Lib.hid (SAP_4.out.below st5)
  have GQ_5 := Lib.hid (show w5.heap[Q]? = some (.cells (dV PB) 23 (0, 0)) by rw [hw5, hQ]; exact heap_alloc_new _ _)
  have LQ_5 := Lib.hid (lt_of_heap GQ_5.out)
  have HQ := Lib.hid hQ
  have Hw5 := Lib.hid hw5
  clear hQ hw5 st5
  go_wp2_with (first
    | (refine at_st 23 (.tmp 9) (.tmp 29) rfl ?_; (refine st_new rfl (.tmp 9) (.tmp 29) rfl PB PBL.out (by rfl) _ _ (by rfl) (by rfl) ?_); rw [← HQ.out, ← Hw5.out])
    | (refine at_ld 23 (.tmp 4) rfl ?_; (refine ld_digG rfl (.tmp 4) rfl (M) 0 (by rfl) x1 ML.out (range_of_row GM_5.out) ?_); simp only [Act.put, List.setIfInBounds_toArray, List.set_cons_zero, List.set_cons_succ]))
  refine (Sign_z x0 x1 SL.out ML.out P 2 0 0 rfl (by omega) (by omega) w5 SAP_5.out (RO.out.at_ B5.out)).mono ?_
  rintro e w6 ⟨saA, scA, paA, pcA, rfl, hsg, hpt, hst, hsv⟩
  have B6 := Lib.hid (show Below w.heap.size w w6 from hsv.below B5.out HBP.out)
  have GS_6 := Lib.hid (hsv.blk SAP_5.out GS_5.out (by decide))
  have LS_6 := Lib.hid (Nat.lt_of_lt_of_le LS_5.out hsv.2.1)
  have GM_6 := Lib.hid (hsv.blk SAP_5.out GM_5.out (by decide))
  have LM_6 := Lib.hid (Nat.lt_of_lt_of_le LM_5.out hsv.2.1)
  have GQ_6 := Lib.hid (hsv.blk SAP_5.out GQ_5.out (by decide))
  have LQ_6 := Lib.hid (Nat.lt_of_lt_of_le LQ_5.out hsv.2.1)
  have SAP_6 := Lib.hid hst
  have RSA_6 := Lib.hid hsg
  have RPA_6 := Lib.hid hpt
  clear hsg hpt hst hsv
  rw [tlong_02]
  obtain ⟨A, hA⟩ : ∃ z, z = w6.heap.size := ⟨_, rfl⟩
  obtain ⟨w7, hw7⟩ : ∃ z, z = w6.alloc (.cells #[.int .i64 0, .slice saA 67 scA, .slice paA 1 pcA] 33) := ⟨_, rfl⟩
  have st7 : Below w6.heap.size w6 w7 := by rw [hw7]; exact (Below.refl _ _).alloc (Nat.le_refl _) _
  have B7 := Lib.hid (show Below w.heap.size w w7 from Below.trans B6.out (Below.mono st7 (Below.size B6.out)))
  have GS_7 := Lib.hid ((Below.block st7 S LS_6.out).trans GS_6.out)
  have LS_7 := Lib.hid (Nat.lt_of_lt_of_le LS_6.out (Below.size st7))
  have GM_7 := Lib.hid ((Below.block st7 M LM_6.out).trans GM_6.out)
  have LM_7 := Lib.hid (Nat.lt_of_lt_of_le LM_6.out (Below.size st7))
  have GQ_7 := Lib.hid ((Below.block st7 Q LQ_6.out).trans GQ_6.out)
  have LQ_7 := Lib.hid (Nat.lt_of_lt_of_le LQ_6.out (Below.size st7))
  have SAP_7 := Lib.hid (SAP_6.out.below st7)
  have RSA_7 := Lib.hid (RSA_6.out.below st7)
  have RPA_7 := Lib.hid (RPA_6.out.below st7)
  have GA_7 := Lib.hid (show w7.heap[A]? = some (.cells #[.int .i64 0, .slice saA 67 scA, .slice paA 1 pcA] 33 (0, 0)) by rw [hw7, hA]; exact heap_alloc_new _ _)
  have LA_7 := Lib.hid (lt_of_heap GA_7.out)
  have HA := Lib.hid hA
  have Hw7 := Lib.hid hw7
  clear hA hw7 st7
  go_wp2_with (first
    | (refine at_st 33 (.tmp 11) (.tmp 45) rfl ?_; (refine st_sigNew rfl (.tmp 11) (.tmp 45) rfl (.int .i64 0) (.slice saA 67 scA) (.slice paA 1 pcA) (by rfl) _ _ (by rfl) (by rfl) (sig_one _ _ _ _ _ _ _) ?_); rw [← HA.out, ← Hw7.out])
    | (refine at_ld 23 (.tmp 4) rfl ?_; (refine ld_digG rfl (.tmp 4) rfl (M) 0 (by rfl) x1 ML.out (range_of_row GM_7.out) ?_); simp only [Act.put, List.setIfInBounds_toArray, List.set_cons_zero, List.set_cons_succ]))
  refine (Sign_z x0 x1 SL.out ML.out P 2 1 1 rfl (by omega) (by omega) w7 SAP_7.out (RO.out.at_ B7.out)).mono ?_
  rintro e w8 ⟨saB, scB, paB, pcB, rfl, hsg, hpt, hst, hsv⟩
  have B8 := Lib.hid (show Below w.heap.size w w8 from hsv.below B7.out HBP.out)
  have GS_8 := Lib.hid (hsv.blk SAP_7.out GS_7.out (by decide))
  have LS_8 := Lib.hid (Nat.lt_of_lt_of_le LS_7.out hsv.2.1)
  have GM_8 := Lib.hid (hsv.blk SAP_7.out GM_7.out (by decide))
  have LM_8 := Lib.hid (Nat.lt_of_lt_of_le LM_7.out hsv.2.1)
  have GQ_8 := Lib.hid (hsv.blk SAP_7.out GQ_7.out (by decide))
  have LQ_8 := Lib.hid (Nat.lt_of_lt_of_le LQ_7.out hsv.2.1)
  have GA_8 := Lib.hid (hsv.blk SAP_7.out GA_7.out (by decide))
  have LA_8 := Lib.hid (Nat.lt_of_lt_of_le LA_7.out hsv.2.1)
  have SAP_8 := Lib.hid hst
  have RSA_8 := Lib.hid (hsv.rdS SAP_7.out RSA_7.out)
  have RPA_8 := Lib.hid (hsv.rdS SAP_7.out RPA_7.out)
  have RSB_8 := Lib.hid hsg
  have RPB_8 := Lib.hid hpt
  clear hsg hpt hst hsv
  rw [tlong_12]
  obtain ⟨B, hB⟩ : ∃ z, z = w8.heap.size := ⟨_, rfl⟩
  obtain ⟨w9, hw9⟩ : ∃ z, z = w8.alloc (.cells #[.int .i64 1, .slice saB 67 scB, .slice paB 1 pcB] 33) := ⟨_, rfl⟩
  have st9 : Below w8.heap.size w8 w9 := by rw [hw9]; exact (Below.refl _ _).alloc (Nat.le_refl _) _
  have B9 := Lib.hid (show Below w.heap.size w w9 from Below.trans B8.out (Below.mono st9 (Below.size B8.out)))
  have GS_9 := Lib.hid ((Below.block st9 S LS_8.out).trans GS_8.out)
  have LS_9 := Lib.hid (Nat.lt_of_lt_of_le LS_8.out (Below.size st9))
  have GM_9 := Lib.hid ((Below.block st9 M LM_8.out).trans GM_8.out)
  have LM_9 := Lib.hid (Nat.lt_of_lt_of_le LM_8.out (Below.size st9))
  have GQ_9 := Lib.hid ((Below.block st9 Q LQ_8.out).trans GQ_8.out)
  have LQ_9 := Lib.hid (Nat.lt_of_lt_of_le LQ_8.out (Below.size st9))
  have GA_9 := Lib.hid ((Below.block st9 A LA_8.out).trans GA_8.out)
  have LA_9 := Lib.hid (Nat.lt_of_lt_of_le LA_8.out (Below.size st9))
  have SAP_9 := Lib.hid (SAP_8.out.below st9)
  have RSA_9 := Lib.hid (RSA_8.out.below st9)
  have RPA_9 := Lib.hid (RPA_8.out.below st9)
  have RSB_9 := Lib.hid (RSB_8.out.below st9)
  have RPB_9 := Lib.hid (RPB_8.out.below st9)
  have GB_9 := Lib.hid (show w9.heap[B]? = some (.cells #[.int .i64 1, .slice saB 67 scB, .slice paB 1 pcB] 33 (0, 0)) by rw [hw9, hB]; exact heap_alloc_new _ _)
  have LB_9 := Lib.hid (lt_of_heap GB_9.out)
  have HB := Lib.hid hB
  have Hw9 := Lib.hid hw9
  clear hB hw9 st9
  have qA := (cellQ GA_9.out).2.2
  have qB := (cellQ GB_9.out).2.2
  go_upto_region 9 with (first
    | (refine at_st 33 (.tmp 13) (.tmp 51) rfl ?_; (refine st_sigNew rfl (.tmp 13) (.tmp 51) rfl (.int .i64 1) (.slice saB 67 scB) (.slice paB 1 pcB) (by rfl) _ _ (by rfl) (by rfl) (sig_one _ _ _ _ _ _ _) ?_); rw [← HB.out, ← Hw9.out]))
  clear qA qB
  by_cases i0 : a2 < 0
  · go_wp2_with fail
    go_ret
    exact ⟨rfl, B9.out⟩
  · by_cases i1 : 1 < a2
    · go_wp2_with fail
      go_ret
      exact ⟨rfl, B9.out⟩
    · by_cases i2 : a2 = 0
      · subst i2
        obtain ⟨X, hX⟩ : ∃ z, z = w9.heap.size := ⟨_, rfl⟩
        obtain ⟨w10, hw10⟩ : ∃ z, z = w9.alloc (.cells #[.int .i64 0, .slice saA 67 scA, .slice paA 1 pcA] 33) := ⟨_, rfl⟩
        have st10 : Below w9.heap.size w9 w10 := by rw [hw10]; exact (Below.refl _ _).alloc (Nat.le_refl _) _
        have B10 := Lib.hid (show Below w.heap.size w w10 from Below.trans B9.out (Below.mono st10 (Below.size B9.out)))
        have GS_10 := Lib.hid ((Below.block st10 S LS_9.out).trans GS_9.out)
        have LS_10 := Lib.hid (Nat.lt_of_lt_of_le LS_9.out (Below.size st10))
        have GM_10 := Lib.hid ((Below.block st10 M LM_9.out).trans GM_9.out)
        have LM_10 := Lib.hid (Nat.lt_of_lt_of_le LM_9.out (Below.size st10))
        have GQ_10 := Lib.hid ((Below.block st10 Q LQ_9.out).trans GQ_9.out)
        have LQ_10 := Lib.hid (Nat.lt_of_lt_of_le LQ_9.out (Below.size st10))
        have GA_10 := Lib.hid ((Below.block st10 A LA_9.out).trans GA_9.out)
        have LA_10 := Lib.hid (Nat.lt_of_lt_of_le LA_9.out (Below.size st10))
        have GB_10 := Lib.hid ((Below.block st10 B LB_9.out).trans GB_9.out)
        have LB_10 := Lib.hid (Nat.lt_of_lt_of_le LB_9.out (Below.size st10))
        have SAP_10 := Lib.hid (SAP_9.out.below st10)
        have RSA_10 := Lib.hid (RSA_9.out.below st10)
        have RPA_10 := Lib.hid (RPA_9.out.below st10)
        have RSB_10 := Lib.hid (RSB_9.out.below st10)
        have RPB_10 := Lib.hid (RPB_9.out.below st10)
        have GX_10 := Lib.hid (show w10.heap[X]? = some (.cells #[.int .i64 0, .slice saA 67 scA, .slice paA 1 pcA] 33 (0, 0)) by rw [hw10, hX]; exact heap_alloc_new _ _)
        have LX_10 := Lib.hid (lt_of_heap GX_10.out)
        have HX := Lib.hid hX
        have Hw10 := Lib.hid hw10
        clear hX hw10 st10
        obtain ⟨Y, hY⟩ : ∃ z, z = w10.heap.size := ⟨_, rfl⟩
        obtain ⟨w11, hw11⟩ : ∃ z, z = w10.alloc (.cells #[.int .i64 1, .slice saB 67 scB, .slice paB 1 pcB] 33) := ⟨_, rfl⟩
        have st11 : Below w10.heap.size w10 w11 := by rw [hw11]; exact (Below.refl _ _).alloc (Nat.le_refl _) _
        have B11 := Lib.hid (show Below w.heap.size w w11 from Below.trans B10.out (Below.mono st11 (Below.size B10.out)))
        have GS_11 := Lib.hid ((Below.block st11 S LS_10.out).trans GS_10.out)
        have LS_11 := Lib.hid (Nat.lt_of_lt_of_le LS_10.out (Below.size st11))
        have GM_11 := Lib.hid ((Below.block st11 M LM_10.out).trans GM_10.out)
        have LM_11 := Lib.hid (Nat.lt_of_lt_of_le LM_10.out (Below.size st11))
        have GQ_11 := Lib.hid ((Below.block st11 Q LQ_10.out).trans GQ_10.out)
        have LQ_11 := Lib.hid (Nat.lt_of_lt_of_le LQ_10.out (Below.size st11))
        have GA_11 := Lib.hid ((Below.block st11 A LA_10.out).trans GA_10.out)
        have LA_11 := Lib.hid (Nat.lt_of_lt_of_le LA_10.out (Below.size st11))
        have GB_11 := Lib.hid ((Below.block st11 B LB_10.out).trans GB_10.out)
        have LB_11 := Lib.hid (Nat.lt_of_lt_of_le LB_10.out (Below.size st11))
        have GX_11 := Lib.hid ((Below.block st11 X LX_10.out).trans GX_10.out)
        have LX_11 := Lib.hid (Nat.lt_of_lt_of_le LX_10.out (Below.size st11))
        have SAP_11 := Lib.hid (SAP_10.out.below st11)
        have RSA_11 := Lib.hid (RSA_10.out.below st11)
        have RPA_11 := Lib.hid (RPA_10.out.below st11)
        have RSB_11 := Lib.hid (RSB_10.out.below st11)
        have RPB_11 := Lib.hid (RPB_10.out.below st11)
        have GY_11 := Lib.hid (show w11.heap[Y]? = some (.cells #[.int .i64 1, .slice saB 67 scB, .slice paB 1 pcB] 33 (0, 0)) by rw [hw11, hY]; exact heap_alloc_new _ _)
        have LY_11 := Lib.hid (lt_of_heap GY_11.out)
        have HY := Lib.hid hY
        have Hw11 := Lib.hid hw11
        clear hY hw11 st11
        go_upto_region 16 with (first
          | (refine at_ld 33 (.tmp 11) rfl ?_; (refine ld_sig rfl (.tmp 11) rfl A (by rfl) (.int .i64 0) (.slice saA 67 scA) (.slice paA 1 pcA) _ _ GA_9.out ?_); simp only [Act.put, List.setIfInBounds_toArray, List.set_cons_zero, List.set_cons_succ])
          | (refine at_st 33 (.tmp 15) (.tmp 77) rfl ?_; (refine st_sigNew rfl (.tmp 15) (.tmp 77) rfl (.int .i64 0) (.slice saA 67 scA) (.slice paA 1 pcA) (by rfl) _ _ (by rfl) (by rfl) (sig_one _ _ _ _ _ _ _) ?_); rw [← HX.out, ← Hw10.out])
          | (refine at_ld 33 (.tmp 13) rfl ?_; (refine ld_sig rfl (.tmp 13) rfl B (by rfl) (.int .i64 1) (.slice saB 67 scB) (.slice paB 1 pcB) _ _ GB_10.out ?_); simp only [Act.put, List.setIfInBounds_toArray, List.set_cons_zero, List.set_cons_succ])
          | (refine at_st 33 (.tmp 16) (.tmp 78) rfl ?_; (refine st_sigNew rfl (.tmp 16) (.tmp 78) rfl (.int .i64 1) (.slice saB 67 scB) (.slice paB 1 pcB) (by rfl) _ _ (by rfl) (by rfl) (sig_one _ _ _ _ _ _ _) ?_); rw [← HY.out, ← Hw11.out]))
        have qy := (cellQ GY_11.out).1
        have qx := (cellQ GX_11.out).1
        have fx := frozen_of_row _ X 0 _ _ GX_11.out
        obtain ⟨w12, hw12⟩ : ∃ z, z = w11.setCell ⟨X, 0, none⟩ (.int .i64 1) := ⟨_, rfl⟩
        have hon : Only w11 w12 X := by rw [hw12]; exact Only.setCell _ _ _ _
        have hbX : w.heap.size ≤ X := by rw [HX.out]; exact Below.size B9.out
        have B12 := Lib.hid (show Below w.heap.size w w12 by rw [hw12]; exact Below.setCell B11.out (p := ⟨X, _, none⟩) hbX _)
        have GS_12 := Lib.hid (hon.blk GX_11.out GS_11.out (by decide))
        have LS_12 := Lib.hid (show S < w12.heap.size by rw [hon.1]; exact LS_11.out)
        have GM_12 := Lib.hid (hon.blk GX_11.out GM_11.out (by decide))
        have LM_12 := Lib.hid (show M < w12.heap.size by rw [hon.1]; exact LM_11.out)
        have GQ_12 := Lib.hid (hon.blk GX_11.out GQ_11.out (by decide))
        have LQ_12 := Lib.hid (show Q < w12.heap.size by rw [hon.1]; exact LQ_11.out)
        have GA_12 := Lib.hid ((hon.2 A (by rw [HX.out]; exact Nat.ne_of_lt LA_9.out)).trans GA_11.out)
        have LA_12 := Lib.hid (show A < w12.heap.size by rw [hon.1]; exact LA_11.out)
        have GB_12 := Lib.hid ((hon.2 B (by rw [HX.out]; exact Nat.ne_of_lt LB_9.out)).trans GB_11.out)
        have LB_12 := Lib.hid (show B < w12.heap.size by rw [hon.1]; exact LB_11.out)
        have GX_12 := Lib.hid (show w12.heap[X]? = some (.cells #[.int .i64 1, .slice saA 67 scA, .slice paA 1 pcA] 33 (0, 0)) by rw [hw12]; exact setCell_rowS GX_11.out _)
        have LX_12 := Lib.hid (show X < w12.heap.size by rw [hon.1]; exact LX_11.out)
        have GY_12 := Lib.hid ((hon.2 Y (by rw [HY.out]; exact (Nat.ne_of_lt LX_10.out).symm)).trans GY_11.out)
        have LY_12 := Lib.hid (show Y < w12.heap.size by rw [hon.1]; exact LY_11.out)
        have SAP_12 := Lib.hid (hon.stamp GX_11.out (by decide) (by decide) SAP_11.out)
        have RSA_12 := Lib.hid (hon.rd GX_11.out (by decide) RSA_11.out)
        have RPA_12 := Lib.hid (hon.rd GX_11.out (by decide) RPA_11.out)
        have RSB_12 := Lib.hid (hon.rd GX_11.out (by decide) RSB_11.out)
        have RPB_12 := Lib.hid (hon.rd GX_11.out (by decide) RPB_11.out)
        have Hw12 := Lib.hid hw12
        clear hw12 hon hbX
        go_upto_region 17 with fail
        rw [← Hw12.out]
        clear qy qx fx
        have HRC := Lib.hid (Recover_z x1 ML.out (wsig (skey x0 0) x1) (wsig_dig _ _) (wsig_length _ _) 1 1 rfl (by omega) 2 rfl 1 1 rfl (by omega) saA paA scA 1 pcA _ _ (tpath (leavesK x0 2) 0) (by rw [HLK.out, tpath_02]; intro p hp; rw [List.mem_singleton.1 hp]; exact L1L.out) (by rw [HLK.out, tpath_02, tlong_12]; rfl) (by rw [HLK.out, tpath_02]; rfl) w12 RSA_12.out RPA_12.out (RO.out.at_ B12.out))
        rw [HLK.out, tpath_02, wkey_sig, ← HL0.out, tfold_12] at HRC
        go_wp2_with (first
          | (refine at_ld 23 (.tmp 4) rfl ?_; (refine ld_digG rfl (.tmp 4) rfl (M) 0 (by rfl) x1 ML.out (range_of_row GM_12.out) ?_); simp only [Act.put, List.setIfInBounds_toArray, List.set_cons_zero, List.set_cons_succ])
          | (refine at_ld 33 (.tmp 15) rfl ?_; (refine ld_sig rfl (.tmp 15) rfl X (by rfl) (.int .i64 1) (.slice saA 67 scA) (.slice paA 1 pcA) _ _ GX_12.out ?_); simp only [Act.put, List.setIfInBounds_toArray, List.set_cons_zero, List.set_cons_succ]))
        refine (HRC.out).mono ?_
        rintro e w13 ⟨rfl, hb13⟩
        have B13 := Lib.hid (show Below w.heap.size w w13 from Below.trans B12.out (Below.mono hb13 (Below.size B12.out)))
        have GS_13 := Lib.hid ((Below.block hb13 S LS_12.out).trans GS_12.out)
        have LS_13 := Lib.hid (Nat.lt_of_lt_of_le LS_12.out (Below.size hb13))
        have GM_13 := Lib.hid ((Below.block hb13 M LM_12.out).trans GM_12.out)
        have LM_13 := Lib.hid (Nat.lt_of_lt_of_le LM_12.out (Below.size hb13))
        have GQ_13 := Lib.hid ((Below.block hb13 Q LQ_12.out).trans GQ_12.out)
        have LQ_13 := Lib.hid (Nat.lt_of_lt_of_le LQ_12.out (Below.size hb13))
        have GA_13 := Lib.hid ((Below.block hb13 A LA_12.out).trans GA_12.out)
        have LA_13 := Lib.hid (Nat.lt_of_lt_of_le LA_12.out (Below.size hb13))
        have GB_13 := Lib.hid ((Below.block hb13 B LB_12.out).trans GB_12.out)
        have LB_13 := Lib.hid (Nat.lt_of_lt_of_le LB_12.out (Below.size hb13))
        have GX_13 := Lib.hid ((Below.block hb13 X LX_12.out).trans GX_12.out)
        have LX_13 := Lib.hid (Nat.lt_of_lt_of_le LX_12.out (Below.size hb13))
        have GY_13 := Lib.hid ((Below.block hb13 Y LY_12.out).trans GY_12.out)
        have LY_13 := Lib.hid (Nat.lt_of_lt_of_le LY_12.out (Below.size hb13))
        have SAP_13 := Lib.hid (SAP_12.out.below hb13)
        have RSA_13 := Lib.hid (RSA_12.out.below hb13)
        have RPA_13 := Lib.hid (RPA_12.out.below hb13)
        have RSB_13 := Lib.hid (RSB_12.out.below hb13)
        have RPB_13 := Lib.hid (RPB_12.out.below hb13)
        clear HRC
        clear hb13
        obtain ⟨NN, hNN⟩ : ∃ z, z = tnode l1 l0 := ⟨_, rfl⟩
        rw [← hNN]
        have NNL := Lib.hid (show NN.length = 32 by rw [hNN]; exact tnode_length _ _)
        have HNN := Lib.hid hNN
        clear hNN
        obtain ⟨Z, hZ⟩ : ∃ z, z = w13.heap.size := ⟨_, rfl⟩
        obtain ⟨w14, hw14⟩ : ∃ z, z = w13.alloc (.cells (dV NN) 23) := ⟨_, rfl⟩
        have st14 : Below w13.heap.size w13 w14 := by rw [hw14]; exact (Below.refl _ _).alloc (Nat.le_refl _) _
        have B14 := Lib.hid (show Below w.heap.size w w14 from Below.trans B13.out (Below.mono st14 (Below.size B13.out)))
        have GS_14 := Lib.hid ((Below.block st14 S LS_13.out).trans GS_13.out)
        have LS_14 := Lib.hid (Nat.lt_of_lt_of_le LS_13.out (Below.size st14))
        have GM_14 := Lib.hid ((Below.block st14 M LM_13.out).trans GM_13.out)
        have LM_14 := Lib.hid (Nat.lt_of_lt_of_le LM_13.out (Below.size st14))
        have GQ_14 := Lib.hid ((Below.block st14 Q LQ_13.out).trans GQ_13.out)
        have LQ_14 := Lib.hid (Nat.lt_of_lt_of_le LQ_13.out (Below.size st14))
        have GA_14 := Lib.hid ((Below.block st14 A LA_13.out).trans GA_13.out)
        have LA_14 := Lib.hid (Nat.lt_of_lt_of_le LA_13.out (Below.size st14))
        have GB_14 := Lib.hid ((Below.block st14 B LB_13.out).trans GB_13.out)
        have LB_14 := Lib.hid (Nat.lt_of_lt_of_le LB_13.out (Below.size st14))
        have GX_14 := Lib.hid ((Below.block st14 X LX_13.out).trans GX_13.out)
        have LX_14 := Lib.hid (Nat.lt_of_lt_of_le LX_13.out (Below.size st14))
        have GY_14 := Lib.hid ((Below.block st14 Y LY_13.out).trans GY_13.out)
        have LY_14 := Lib.hid (Nat.lt_of_lt_of_le LY_13.out (Below.size st14))
        have SAP_14 := Lib.hid (SAP_13.out.below st14)
        have RSA_14 := Lib.hid (RSA_13.out.below st14)
        have RPA_14 := Lib.hid (RPA_13.out.below st14)
        have RSB_14 := Lib.hid (RSB_13.out.below st14)
        have RPB_14 := Lib.hid (RPB_13.out.below st14)
        have GZ_14 := Lib.hid (show w14.heap[Z]? = some (.cells (dV NN) 23 (0, 0)) by rw [hw14, hZ]; exact heap_alloc_new _ _)
        have LZ_14 := Lib.hid (lt_of_heap GZ_14.out)
        have HZ := Lib.hid hZ
        have Hw14 := Lib.hid hw14
        clear hZ hw14 st14
        go_wp2_with (first
          | (refine at_st 23 (.tmp 17) (.tmp 90) rfl ?_; (refine st_new rfl (.tmp 17) (.tmp 90) rfl NN NNL.out (by rfl) _ _ (by rfl) (by rfl) ?_); rw [← HZ.out, ← Hw14.out])
          | (refine at_ld 23 (.tmp 3) rfl ?_; (refine ld_digG rfl (.tmp 3) rfl (S) 0 (by rfl) x0 SL.out (range_of_row GS_14.out) ?_); simp only [Act.put, List.setIfInBounds_toArray, List.set_cons_zero, List.set_cons_succ]))
        refine (RStamp_z x0 SL.out 0 0 rfl (by omega) w14).mono ?_
        rintro e w15 ⟨rfl, hb15⟩
        have B15 := Lib.hid (show Below w.heap.size w w15 from Below.trans B14.out (Below.mono hb15 (Below.size B14.out)))
        have GS_15 := Lib.hid ((Below.block hb15 S LS_14.out).trans GS_14.out)
        have LS_15 := Lib.hid (Nat.lt_of_lt_of_le LS_14.out (Below.size hb15))
        have GM_15 := Lib.hid ((Below.block hb15 M LM_14.out).trans GM_14.out)
        have LM_15 := Lib.hid (Nat.lt_of_lt_of_le LM_14.out (Below.size hb15))
        have GQ_15 := Lib.hid ((Below.block hb15 Q LQ_14.out).trans GQ_14.out)
        have LQ_15 := Lib.hid (Nat.lt_of_lt_of_le LQ_14.out (Below.size hb15))
        have GA_15 := Lib.hid ((Below.block hb15 A LA_14.out).trans GA_14.out)
        have LA_15 := Lib.hid (Nat.lt_of_lt_of_le LA_14.out (Below.size hb15))
        have GB_15 := Lib.hid ((Below.block hb15 B LB_14.out).trans GB_14.out)
        have LB_15 := Lib.hid (Nat.lt_of_lt_of_le LB_14.out (Below.size hb15))
        have GX_15 := Lib.hid ((Below.block hb15 X LX_14.out).trans GX_14.out)
        have LX_15 := Lib.hid (Nat.lt_of_lt_of_le LX_14.out (Below.size hb15))
        have GY_15 := Lib.hid ((Below.block hb15 Y LY_14.out).trans GY_14.out)
        have LY_15 := Lib.hid (Nat.lt_of_lt_of_le LY_14.out (Below.size hb15))
        have GZ_15 := Lib.hid ((Below.block hb15 Z LZ_14.out).trans GZ_14.out)
        have LZ_15 := Lib.hid (Nat.lt_of_lt_of_le LZ_14.out (Below.size hb15))
        have SAP_15 := Lib.hid (SAP_14.out.below hb15)
        have RSA_15 := Lib.hid (RSA_14.out.below hb15)
        have RPA_15 := Lib.hid (RPA_14.out.below hb15)
        have RSB_15 := Lib.hid (RSB_14.out.below hb15)
        have RPB_15 := Lib.hid (RPB_14.out.below hb15)
        clear hb15
        go_wp2_with fail
        refine (RWPublic_calls (skey x0 0) (skey_length _ _) w15).mono ?_
        rintro e w16 ⟨rfl, hb16⟩
        have B16 := Lib.hid (show Below w.heap.size w w16 from Below.trans B15.out (Below.mono hb16 (Below.size B15.out)))
        have GS_16 := Lib.hid ((Below.block hb16 S LS_15.out).trans GS_15.out)
        have LS_16 := Lib.hid (Nat.lt_of_lt_of_le LS_15.out (Below.size hb16))
        have GM_16 := Lib.hid ((Below.block hb16 M LM_15.out).trans GM_15.out)
        have LM_16 := Lib.hid (Nat.lt_of_lt_of_le LM_15.out (Below.size hb16))
        have GQ_16 := Lib.hid ((Below.block hb16 Q LQ_15.out).trans GQ_15.out)
        have LQ_16 := Lib.hid (Nat.lt_of_lt_of_le LQ_15.out (Below.size hb16))
        have GA_16 := Lib.hid ((Below.block hb16 A LA_15.out).trans GA_15.out)
        have LA_16 := Lib.hid (Nat.lt_of_lt_of_le LA_15.out (Below.size hb16))
        have GB_16 := Lib.hid ((Below.block hb16 B LB_15.out).trans GB_15.out)
        have LB_16 := Lib.hid (Nat.lt_of_lt_of_le LB_15.out (Below.size hb16))
        have GX_16 := Lib.hid ((Below.block hb16 X LX_15.out).trans GX_15.out)
        have LX_16 := Lib.hid (Nat.lt_of_lt_of_le LX_15.out (Below.size hb16))
        have GY_16 := Lib.hid ((Below.block hb16 Y LY_15.out).trans GY_15.out)
        have LY_16 := Lib.hid (Nat.lt_of_lt_of_le LY_15.out (Below.size hb16))
        have GZ_16 := Lib.hid ((Below.block hb16 Z LZ_15.out).trans GZ_15.out)
        have LZ_16 := Lib.hid (Nat.lt_of_lt_of_le LZ_15.out (Below.size hb16))
        have SAP_16 := Lib.hid (SAP_15.out.below hb16)
        have RSA_16 := Lib.hid (RSA_15.out.below hb16)
        have RPA_16 := Lib.hid (RPA_15.out.below hb16)
        have RSB_16 := Lib.hid (RSB_15.out.below hb16)
        have RPB_16 := Lib.hid (RPB_15.out.below hb16)
        clear hb16
        rw [← HL0.out]
        obtain ⟨U, hU⟩ : ∃ z, z = w16.heap.size := ⟨_, rfl⟩
        obtain ⟨w17, hw17⟩ : ∃ z, z = w16.alloc (.cells (dV l0) 23) := ⟨_, rfl⟩
        have st17 : Below w16.heap.size w16 w17 := by rw [hw17]; exact (Below.refl _ _).alloc (Nat.le_refl _) _
        have B17 := Lib.hid (show Below w.heap.size w w17 from Below.trans B16.out (Below.mono st17 (Below.size B16.out)))
        have GS_17 := Lib.hid ((Below.block st17 S LS_16.out).trans GS_16.out)
        have LS_17 := Lib.hid (Nat.lt_of_lt_of_le LS_16.out (Below.size st17))
        have GM_17 := Lib.hid ((Below.block st17 M LM_16.out).trans GM_16.out)
        have LM_17 := Lib.hid (Nat.lt_of_lt_of_le LM_16.out (Below.size st17))
        have GQ_17 := Lib.hid ((Below.block st17 Q LQ_16.out).trans GQ_16.out)
        have LQ_17 := Lib.hid (Nat.lt_of_lt_of_le LQ_16.out (Below.size st17))
        have GA_17 := Lib.hid ((Below.block st17 A LA_16.out).trans GA_16.out)
        have LA_17 := Lib.hid (Nat.lt_of_lt_of_le LA_16.out (Below.size st17))
        have GB_17 := Lib.hid ((Below.block st17 B LB_16.out).trans GB_16.out)
        have LB_17 := Lib.hid (Nat.lt_of_lt_of_le LB_16.out (Below.size st17))
        have GX_17 := Lib.hid ((Below.block st17 X LX_16.out).trans GX_16.out)
        have LX_17 := Lib.hid (Nat.lt_of_lt_of_le LX_16.out (Below.size st17))
        have GY_17 := Lib.hid ((Below.block st17 Y LY_16.out).trans GY_16.out)
        have LY_17 := Lib.hid (Nat.lt_of_lt_of_le LY_16.out (Below.size st17))
        have GZ_17 := Lib.hid ((Below.block st17 Z LZ_16.out).trans GZ_16.out)
        have LZ_17 := Lib.hid (Nat.lt_of_lt_of_le LZ_16.out (Below.size st17))
        have SAP_17 := Lib.hid (SAP_16.out.below st17)
        have RSA_17 := Lib.hid (RSA_16.out.below st17)
        have RPA_17 := Lib.hid (RPA_16.out.below st17)
        have RSB_17 := Lib.hid (RSB_16.out.below st17)
        have RPB_17 := Lib.hid (RPB_16.out.below st17)
        have GU_17 := Lib.hid (show w17.heap[U]? = some (.cells (dV l0) 23 (0, 0)) by rw [hw17, hU]; exact heap_alloc_new _ _)
        have LU_17 := Lib.hid (lt_of_heap GU_17.out)
        have HU := Lib.hid hU
        have Hw17 := Lib.hid hw17
        clear hU hw17 st17
        go_wp2_with (first
          | (refine at_st 23 (.tmp 19) (.tmp 96) rfl ?_; (refine st_new rfl (.tmp 19) (.tmp 96) rfl l0 L0L.out (by rfl) _ _ (by rfl) (by rfl) ?_); rw [← HU.out, ← Hw17.out])
          | (refine at_ld 23 (.tmp 3) rfl ?_; (refine ld_digG rfl (.tmp 3) rfl (S) 0 (by rfl) x0 SL.out (range_of_row GS_17.out) ?_); simp only [Act.put, List.setIfInBounds_toArray, List.set_cons_zero, List.set_cons_succ]))
        refine (RStamp_z x0 SL.out 1 1 rfl (by omega) w17).mono ?_
        rintro e w18 ⟨rfl, hb18⟩
        have B18 := Lib.hid (show Below w.heap.size w w18 from Below.trans B17.out (Below.mono hb18 (Below.size B17.out)))
        have GS_18 := Lib.hid ((Below.block hb18 S LS_17.out).trans GS_17.out)
        have LS_18 := Lib.hid (Nat.lt_of_lt_of_le LS_17.out (Below.size hb18))
        have GM_18 := Lib.hid ((Below.block hb18 M LM_17.out).trans GM_17.out)
        have LM_18 := Lib.hid (Nat.lt_of_lt_of_le LM_17.out (Below.size hb18))
        have GQ_18 := Lib.hid ((Below.block hb18 Q LQ_17.out).trans GQ_17.out)
        have LQ_18 := Lib.hid (Nat.lt_of_lt_of_le LQ_17.out (Below.size hb18))
        have GA_18 := Lib.hid ((Below.block hb18 A LA_17.out).trans GA_17.out)
        have LA_18 := Lib.hid (Nat.lt_of_lt_of_le LA_17.out (Below.size hb18))
        have GB_18 := Lib.hid ((Below.block hb18 B LB_17.out).trans GB_17.out)
        have LB_18 := Lib.hid (Nat.lt_of_lt_of_le LB_17.out (Below.size hb18))
        have GX_18 := Lib.hid ((Below.block hb18 X LX_17.out).trans GX_17.out)
        have LX_18 := Lib.hid (Nat.lt_of_lt_of_le LX_17.out (Below.size hb18))
        have GY_18 := Lib.hid ((Below.block hb18 Y LY_17.out).trans GY_17.out)
        have LY_18 := Lib.hid (Nat.lt_of_lt_of_le LY_17.out (Below.size hb18))
        have GZ_18 := Lib.hid ((Below.block hb18 Z LZ_17.out).trans GZ_17.out)
        have LZ_18 := Lib.hid (Nat.lt_of_lt_of_le LZ_17.out (Below.size hb18))
        have GU_18 := Lib.hid ((Below.block hb18 U LU_17.out).trans GU_17.out)
        have LU_18 := Lib.hid (Nat.lt_of_lt_of_le LU_17.out (Below.size hb18))
        have SAP_18 := Lib.hid (SAP_17.out.below hb18)
        have RSA_18 := Lib.hid (RSA_17.out.below hb18)
        have RPA_18 := Lib.hid (RPA_17.out.below hb18)
        have RSB_18 := Lib.hid (RSB_17.out.below hb18)
        have RPB_18 := Lib.hid (RPB_17.out.below hb18)
        clear hb18
        go_wp2_with fail
        refine (RWPublic_calls (skey x0 1) (skey_length _ _) w18).mono ?_
        rintro e w19 ⟨rfl, hb19⟩
        have B19 := Lib.hid (show Below w.heap.size w w19 from Below.trans B18.out (Below.mono hb19 (Below.size B18.out)))
        have GS_19 := Lib.hid ((Below.block hb19 S LS_18.out).trans GS_18.out)
        have LS_19 := Lib.hid (Nat.lt_of_lt_of_le LS_18.out (Below.size hb19))
        have GM_19 := Lib.hid ((Below.block hb19 M LM_18.out).trans GM_18.out)
        have LM_19 := Lib.hid (Nat.lt_of_lt_of_le LM_18.out (Below.size hb19))
        have GQ_19 := Lib.hid ((Below.block hb19 Q LQ_18.out).trans GQ_18.out)
        have LQ_19 := Lib.hid (Nat.lt_of_lt_of_le LQ_18.out (Below.size hb19))
        have GA_19 := Lib.hid ((Below.block hb19 A LA_18.out).trans GA_18.out)
        have LA_19 := Lib.hid (Nat.lt_of_lt_of_le LA_18.out (Below.size hb19))
        have GB_19 := Lib.hid ((Below.block hb19 B LB_18.out).trans GB_18.out)
        have LB_19 := Lib.hid (Nat.lt_of_lt_of_le LB_18.out (Below.size hb19))
        have GX_19 := Lib.hid ((Below.block hb19 X LX_18.out).trans GX_18.out)
        have LX_19 := Lib.hid (Nat.lt_of_lt_of_le LX_18.out (Below.size hb19))
        have GY_19 := Lib.hid ((Below.block hb19 Y LY_18.out).trans GY_18.out)
        have LY_19 := Lib.hid (Nat.lt_of_lt_of_le LY_18.out (Below.size hb19))
        have GZ_19 := Lib.hid ((Below.block hb19 Z LZ_18.out).trans GZ_18.out)
        have LZ_19 := Lib.hid (Nat.lt_of_lt_of_le LZ_18.out (Below.size hb19))
        have GU_19 := Lib.hid ((Below.block hb19 U LU_18.out).trans GU_18.out)
        have LU_19 := Lib.hid (Nat.lt_of_lt_of_le LU_18.out (Below.size hb19))
        have SAP_19 := Lib.hid (SAP_18.out.below hb19)
        have RSA_19 := Lib.hid (RSA_18.out.below hb19)
        have RPA_19 := Lib.hid (RPA_18.out.below hb19)
        have RSB_19 := Lib.hid (RSB_18.out.below hb19)
        have RPB_19 := Lib.hid (RPB_18.out.below hb19)
        clear hb19
        rw [← HL1.out]
        obtain ⟨V, hV⟩ : ∃ z, z = w19.heap.size := ⟨_, rfl⟩
        obtain ⟨w20, hw20⟩ : ∃ z, z = w19.alloc (.cells (dV l1) 23) := ⟨_, rfl⟩
        have st20 : Below w19.heap.size w19 w20 := by rw [hw20]; exact (Below.refl _ _).alloc (Nat.le_refl _) _
        have B20 := Lib.hid (show Below w.heap.size w w20 from Below.trans B19.out (Below.mono st20 (Below.size B19.out)))
        have GS_20 := Lib.hid ((Below.block st20 S LS_19.out).trans GS_19.out)
        have LS_20 := Lib.hid (Nat.lt_of_lt_of_le LS_19.out (Below.size st20))
        have GM_20 := Lib.hid ((Below.block st20 M LM_19.out).trans GM_19.out)
        have LM_20 := Lib.hid (Nat.lt_of_lt_of_le LM_19.out (Below.size st20))
        have GQ_20 := Lib.hid ((Below.block st20 Q LQ_19.out).trans GQ_19.out)
        have LQ_20 := Lib.hid (Nat.lt_of_lt_of_le LQ_19.out (Below.size st20))
        have GA_20 := Lib.hid ((Below.block st20 A LA_19.out).trans GA_19.out)
        have LA_20 := Lib.hid (Nat.lt_of_lt_of_le LA_19.out (Below.size st20))
        have GB_20 := Lib.hid ((Below.block st20 B LB_19.out).trans GB_19.out)
        have LB_20 := Lib.hid (Nat.lt_of_lt_of_le LB_19.out (Below.size st20))
        have GX_20 := Lib.hid ((Below.block st20 X LX_19.out).trans GX_19.out)
        have LX_20 := Lib.hid (Nat.lt_of_lt_of_le LX_19.out (Below.size st20))
        have GY_20 := Lib.hid ((Below.block st20 Y LY_19.out).trans GY_19.out)
        have LY_20 := Lib.hid (Nat.lt_of_lt_of_le LY_19.out (Below.size st20))
        have GZ_20 := Lib.hid ((Below.block st20 Z LZ_19.out).trans GZ_19.out)
        have LZ_20 := Lib.hid (Nat.lt_of_lt_of_le LZ_19.out (Below.size st20))
        have GU_20 := Lib.hid ((Below.block st20 U LU_19.out).trans GU_19.out)
        have LU_20 := Lib.hid (Nat.lt_of_lt_of_le LU_19.out (Below.size st20))
        have SAP_20 := Lib.hid (SAP_19.out.below st20)
        have RSA_20 := Lib.hid (RSA_19.out.below st20)
        have RPA_20 := Lib.hid (RPA_19.out.below st20)
        have RSB_20 := Lib.hid (RSB_19.out.below st20)
        have RPB_20 := Lib.hid (RPB_19.out.below st20)
        have GV_20 := Lib.hid (show w20.heap[V]? = some (.cells (dV l1) 23 (0, 0)) by rw [hw20, hV]; exact heap_alloc_new _ _)
        have LV_20 := Lib.hid (lt_of_heap GV_20.out)
        have HV := Lib.hid hV
        have Hw20 := Lib.hid hw20
        clear hV hw20 st20
        go_wp2_with (first
          | (refine at_st 23 (.tmp 20) (.tmp 99) rfl ?_; (refine st_new rfl (.tmp 20) (.tmp 99) rfl l1 L1L.out (by rfl) _ _ (by rfl) (by rfl) ?_); rw [← HV.out, ← Hw20.out]))
        have bU := B20.out
        have FZ := Lib.hid (fun w' (h : InB w20.heap.size w20 w') => h.range LZ_20.out (range_of_row GZ_20.out))
        have FQ := Lib.hid (fun w' (h : InB w20.heap.size w20 w') => h.range LQ_20.out (range_of_row GQ_20.out))
        have FU := Lib.hid (fun w' (h : InB w20.heap.size w20 w') => h.range LU_20.out (range_of_row GU_20.out))
        have FV := Lib.hid (fun w' (h : InB w20.heap.size w20 w') => h.range LV_20.out (range_of_row GV_20.out))
        have CN1 := Lib.hid (fun w' (h : InB w20.heap.size w20 w') => h.call (Nat.le_refl _) (RNode_calls l0 l1 L0L.out L1L.out w'))
        have CN2 := Lib.hid (fun w' (h : InB w20.heap.size w20 w') => h.call (Nat.le_refl _) (RNode_calls l1 l0 L1L.out L0L.out w'))
        rw [← HPB'.out] at CN1
        rw [← HNN.out] at CN2
        have HBU := Lib.hid bU
        clear bU
        by_cases hq : NN = PB
        · have e1 : (!(NN == PB)) = false := by simp [hq]
          have HE1 := Lib.hid e1
          have HQE := Lib.hid hq
          clear e1 hq
          by_cases hl : l0 = l1
          · have HE2 := Lib.hid (show (l0 == l1) = true by simp [hl])
            clear hl
            have hex := inB_ex w20.heap.size w20
            refine wp_region_inB w20.heap.size (by kernel_rfl) (by kernel_rfl) ?_
            repeat (first
              | go_big_quiet_skip
              | (with_reducible refine quiet_dig rfl (.tmp 17) rfl (Z) (0) (by kernel_rfl) NN NNL.out FZ.out ?_ (by kernel_rfl); simp only [Act.put, List.setIfInBounds_toArray, List.set_cons_zero, List.set_cons_succ])
              | (with_reducible refine quiet_dig rfl (.tmp 9) rfl (Q) (0) (by kernel_rfl) PB PBL.out FQ.out ?_ (by kernel_rfl); simp only [Act.put, List.setIfInBounds_toArray, List.set_cons_zero, List.set_cons_succ])
              | (with_reducible refine quiet_dig rfl (.tmp 19) rfl (U) (0) (by kernel_rfl) l0 L0L.out FU.out ?_ (by kernel_rfl); simp only [Act.put, List.setIfInBounds_toArray, List.set_cons_zero, List.set_cons_succ])
              | (with_reducible refine quiet_dig rfl (.tmp 20) rfl (V) (0) (by kernel_rfl) l1 L1L.out FV.out ?_ (by kernel_rfl); simp only [Act.put, List.setIfInBounds_toArray, List.set_cons_zero, List.set_cons_succ])
              | (with_reducible refine quiet_dig_neq rfl (.tmp 100) (.tmp 101) _ rfl NN PB (by kernel_rfl) (by kernel_rfl) NNL.out PBL.out ?_ (by kernel_rfl); rw [HE1.out]; simp only [Act.put, List.setIfInBounds_toArray, List.set_cons_zero, List.set_cons_succ])
              | (with_reducible refine quiet_dig_eq rfl (.tmp 104) (.tmp 105) _ rfl l0 l1 (by kernel_rfl) (by kernel_rfl) L0L.out L1L.out ?_ (by kernel_rfl); rw [HE2.out]; simp only [Act.put, List.setIfInBounds_toArray, List.set_cons_zero, List.set_cons_succ])
              | go_big_quiet_step ((first | (intro hw'; exact CN1.out _ hw') | (intro hw'; exact CN2.out _ hw') | (intro _; rfl))))
            refine wpQuiet_nil ?_
            intro wZ hwZ
            go_wp2_with fail
            go_ret
            exact ⟨rfl, HBU.out.trans (Below.mono hwZ HBU.out.size)⟩
          · have HE2 := Lib.hid (show (l0 == l1) = false by simp [hl])
            have HE3 := Lib.hid (show (PB == NN) = true by rw [HQE.out]; simp)
            clear hl
            have hex := inB_ex w20.heap.size w20
            refine wp_region_inB w20.heap.size (by kernel_rfl) (by kernel_rfl) ?_
            repeat (first
              | go_big_quiet_skip
              | (with_reducible refine quiet_dig rfl (.tmp 17) rfl (Z) (0) (by kernel_rfl) NN NNL.out FZ.out ?_ (by kernel_rfl); simp only [Act.put, List.setIfInBounds_toArray, List.set_cons_zero, List.set_cons_succ])
              | (with_reducible refine quiet_dig rfl (.tmp 9) rfl (Q) (0) (by kernel_rfl) PB PBL.out FQ.out ?_ (by kernel_rfl); simp only [Act.put, List.setIfInBounds_toArray, List.set_cons_zero, List.set_cons_succ])
              | (with_reducible refine quiet_dig rfl (.tmp 19) rfl (U) (0) (by kernel_rfl) l0 L0L.out FU.out ?_ (by kernel_rfl); simp only [Act.put, List.setIfInBounds_toArray, List.set_cons_zero, List.set_cons_succ])
              | (with_reducible refine quiet_dig rfl (.tmp 20) rfl (V) (0) (by kernel_rfl) l1 L1L.out FV.out ?_ (by kernel_rfl); simp only [Act.put, List.setIfInBounds_toArray, List.set_cons_zero, List.set_cons_succ])
              | (with_reducible refine quiet_dig_neq rfl (.tmp 100) (.tmp 101) _ rfl NN PB (by kernel_rfl) (by kernel_rfl) NNL.out PBL.out ?_ (by kernel_rfl); rw [HE1.out]; simp only [Act.put, List.setIfInBounds_toArray, List.set_cons_zero, List.set_cons_succ])
              | (with_reducible refine quiet_dig_eq rfl (.tmp 104) (.tmp 105) _ rfl l0 l1 (by kernel_rfl) (by kernel_rfl) L0L.out L1L.out ?_ (by kernel_rfl); rw [HE2.out]; simp only [Act.put, List.setIfInBounds_toArray, List.set_cons_zero, List.set_cons_succ])
              | (with_reducible refine quiet_dig_eq rfl (.tmp 111) (.tmp 114) _ rfl PB NN (by kernel_rfl) (by kernel_rfl) PBL.out NNL.out ?_ (by kernel_rfl); rw [HE3.out]; simp only [Act.put, List.setIfInBounds_toArray, List.set_cons_zero, List.set_cons_succ])
              | go_big_quiet_step ((first | (intro hw'; exact CN1.out _ hw') | (intro hw'; exact CN2.out _ hw') | (intro _; rfl))))
            refine wpQuiet_nil ?_
            intro wZ hwZ
            go_wp2_with fail
            go_ret
            exact ⟨rfl, HBU.out.trans (Below.mono hwZ HBU.out.size)⟩
        · have HE1 := Lib.hid (show (!(NN == PB)) = true by simp [hq])
          clear hq
          have hex := inB_ex w20.heap.size w20
          refine wp_region_inB w20.heap.size (by kernel_rfl) (by kernel_rfl) ?_
          repeat (first
            | go_big_quiet_skip
            | (with_reducible refine quiet_dig rfl (.tmp 17) rfl (Z) (0) (by kernel_rfl) NN NNL.out FZ.out ?_ (by kernel_rfl); simp only [Act.put, List.setIfInBounds_toArray, List.set_cons_zero, List.set_cons_succ])
            | (with_reducible refine quiet_dig rfl (.tmp 9) rfl (Q) (0) (by kernel_rfl) PB PBL.out FQ.out ?_ (by kernel_rfl); simp only [Act.put, List.setIfInBounds_toArray, List.set_cons_zero, List.set_cons_succ])
            | (with_reducible refine quiet_dig rfl (.tmp 19) rfl (U) (0) (by kernel_rfl) l0 L0L.out FU.out ?_ (by kernel_rfl); simp only [Act.put, List.setIfInBounds_toArray, List.set_cons_zero, List.set_cons_succ])
            | (with_reducible refine quiet_dig rfl (.tmp 20) rfl (V) (0) (by kernel_rfl) l1 L1L.out FV.out ?_ (by kernel_rfl); simp only [Act.put, List.setIfInBounds_toArray, List.set_cons_zero, List.set_cons_succ])
            | (with_reducible refine quiet_dig_neq rfl (.tmp 100) (.tmp 101) _ rfl NN PB (by kernel_rfl) (by kernel_rfl) NNL.out PBL.out ?_ (by kernel_rfl); rw [HE1.out]; simp only [Act.put, List.setIfInBounds_toArray, List.set_cons_zero, List.set_cons_succ])
            | go_big_quiet_step ((first | (intro hw'; exact CN1.out _ hw') | (intro hw'; exact CN2.out _ hw') | (intro _; rfl))))
          refine wpQuiet_nil ?_
          intro wZ hwZ
          go_wp2_with fail
          go_ret
          exact ⟨rfl, HBU.out.trans (Below.mono hwZ HBU.out.size)⟩
      · obtain rfl : a2 = 1 := by omega
        obtain ⟨X, hX⟩ : ∃ z, z = w9.heap.size := ⟨_, rfl⟩
        obtain ⟨w10, hw10⟩ : ∃ z, z = w9.alloc (.cells #[.int .i64 0, .slice saA 67 scA, .slice paA 1 pcA] 33) := ⟨_, rfl⟩
        have st10 : Below w9.heap.size w9 w10 := by rw [hw10]; exact (Below.refl _ _).alloc (Nat.le_refl _) _
        have B10 := Lib.hid (show Below w.heap.size w w10 from Below.trans B9.out (Below.mono st10 (Below.size B9.out)))
        have GS_10 := Lib.hid ((Below.block st10 S LS_9.out).trans GS_9.out)
        have LS_10 := Lib.hid (Nat.lt_of_lt_of_le LS_9.out (Below.size st10))
        have GM_10 := Lib.hid ((Below.block st10 M LM_9.out).trans GM_9.out)
        have LM_10 := Lib.hid (Nat.lt_of_lt_of_le LM_9.out (Below.size st10))
        have GQ_10 := Lib.hid ((Below.block st10 Q LQ_9.out).trans GQ_9.out)
        have LQ_10 := Lib.hid (Nat.lt_of_lt_of_le LQ_9.out (Below.size st10))
        have GA_10 := Lib.hid ((Below.block st10 A LA_9.out).trans GA_9.out)
        have LA_10 := Lib.hid (Nat.lt_of_lt_of_le LA_9.out (Below.size st10))
        have GB_10 := Lib.hid ((Below.block st10 B LB_9.out).trans GB_9.out)
        have LB_10 := Lib.hid (Nat.lt_of_lt_of_le LB_9.out (Below.size st10))
        have SAP_10 := Lib.hid (SAP_9.out.below st10)
        have RSA_10 := Lib.hid (RSA_9.out.below st10)
        have RPA_10 := Lib.hid (RPA_9.out.below st10)
        have RSB_10 := Lib.hid (RSB_9.out.below st10)
        have RPB_10 := Lib.hid (RPB_9.out.below st10)
        have GX_10 := Lib.hid (show w10.heap[X]? = some (.cells #[.int .i64 0, .slice saA 67 scA, .slice paA 1 pcA] 33 (0, 0)) by rw [hw10, hX]; exact heap_alloc_new _ _)
        have LX_10 := Lib.hid (lt_of_heap GX_10.out)
        have HX := Lib.hid hX
        have Hw10 := Lib.hid hw10
        clear hX hw10 st10
        obtain ⟨Y, hY⟩ : ∃ z, z = w10.heap.size := ⟨_, rfl⟩
        obtain ⟨w11, hw11⟩ : ∃ z, z = w10.alloc (.cells #[.int .i64 1, .slice saB 67 scB, .slice paB 1 pcB] 33) := ⟨_, rfl⟩
        have st11 : Below w10.heap.size w10 w11 := by rw [hw11]; exact (Below.refl _ _).alloc (Nat.le_refl _) _
        have B11 := Lib.hid (show Below w.heap.size w w11 from Below.trans B10.out (Below.mono st11 (Below.size B10.out)))
        have GS_11 := Lib.hid ((Below.block st11 S LS_10.out).trans GS_10.out)
        have LS_11 := Lib.hid (Nat.lt_of_lt_of_le LS_10.out (Below.size st11))
        have GM_11 := Lib.hid ((Below.block st11 M LM_10.out).trans GM_10.out)
        have LM_11 := Lib.hid (Nat.lt_of_lt_of_le LM_10.out (Below.size st11))
        have GQ_11 := Lib.hid ((Below.block st11 Q LQ_10.out).trans GQ_10.out)
        have LQ_11 := Lib.hid (Nat.lt_of_lt_of_le LQ_10.out (Below.size st11))
        have GA_11 := Lib.hid ((Below.block st11 A LA_10.out).trans GA_10.out)
        have LA_11 := Lib.hid (Nat.lt_of_lt_of_le LA_10.out (Below.size st11))
        have GB_11 := Lib.hid ((Below.block st11 B LB_10.out).trans GB_10.out)
        have LB_11 := Lib.hid (Nat.lt_of_lt_of_le LB_10.out (Below.size st11))
        have GX_11 := Lib.hid ((Below.block st11 X LX_10.out).trans GX_10.out)
        have LX_11 := Lib.hid (Nat.lt_of_lt_of_le LX_10.out (Below.size st11))
        have SAP_11 := Lib.hid (SAP_10.out.below st11)
        have RSA_11 := Lib.hid (RSA_10.out.below st11)
        have RPA_11 := Lib.hid (RPA_10.out.below st11)
        have RSB_11 := Lib.hid (RSB_10.out.below st11)
        have RPB_11 := Lib.hid (RPB_10.out.below st11)
        have GY_11 := Lib.hid (show w11.heap[Y]? = some (.cells #[.int .i64 1, .slice saB 67 scB, .slice paB 1 pcB] 33 (0, 0)) by rw [hw11, hY]; exact heap_alloc_new _ _)
        have LY_11 := Lib.hid (lt_of_heap GY_11.out)
        have HY := Lib.hid hY
        have Hw11 := Lib.hid hw11
        clear hY hw11 st11
        obtain ⟨w12, hw12⟩ : ∃ z, z = w11.setRow X #[.int .i64 1, .slice saB 67 scB, .slice paB 1 pcB] := ⟨_, rfl⟩
        have hon : Only w11 w12 X := by rw [hw12]; exact Only.setRow _ _ _
        have hbX : w.heap.size ≤ X := by rw [HX.out]; exact Below.size B9.out
        have B12 := Lib.hid (show Below w.heap.size w w12 by rw [hw12]; exact below_setRowW B11.out hbX _)
        have GS_12 := Lib.hid (hon.blk GX_11.out GS_11.out (by decide))
        have LS_12 := Lib.hid (show S < w12.heap.size by rw [hon.1]; exact LS_11.out)
        have GM_12 := Lib.hid (hon.blk GX_11.out GM_11.out (by decide))
        have LM_12 := Lib.hid (show M < w12.heap.size by rw [hon.1]; exact LM_11.out)
        have GQ_12 := Lib.hid (hon.blk GX_11.out GQ_11.out (by decide))
        have LQ_12 := Lib.hid (show Q < w12.heap.size by rw [hon.1]; exact LQ_11.out)
        have GA_12 := Lib.hid ((hon.2 A (by rw [HX.out]; exact Nat.ne_of_lt LA_9.out)).trans GA_11.out)
        have LA_12 := Lib.hid (show A < w12.heap.size by rw [hon.1]; exact LA_11.out)
        have GB_12 := Lib.hid ((hon.2 B (by rw [HX.out]; exact Nat.ne_of_lt LB_9.out)).trans GB_11.out)
        have LB_12 := Lib.hid (show B < w12.heap.size by rw [hon.1]; exact LB_11.out)
        have GX_12 := Lib.hid (show w12.heap[X]? = some (.cells #[.int .i64 1, .slice saB 67 scB, .slice paB 1 pcB] 33 (0, 0)) by rw [hw12]; exact setRow_heap _ _ _ _ _ _ GX_11.out)
        have LX_12 := Lib.hid (show X < w12.heap.size by rw [hon.1]; exact LX_11.out)
        have GY_12 := Lib.hid ((hon.2 Y (by rw [HY.out]; exact (Nat.ne_of_lt LX_10.out).symm)).trans GY_11.out)
        have LY_12 := Lib.hid (show Y < w12.heap.size by rw [hon.1]; exact LY_11.out)
        have SAP_12 := Lib.hid (hon.stamp GX_11.out (by decide) (by decide) SAP_11.out)
        have RSA_12 := Lib.hid (hon.rd GX_11.out (by decide) RSA_11.out)
        have RPA_12 := Lib.hid (hon.rd GX_11.out (by decide) RPA_11.out)
        have RSB_12 := Lib.hid (hon.rd GX_11.out (by decide) RSB_11.out)
        have RPB_12 := Lib.hid (hon.rd GX_11.out (by decide) RPB_11.out)
        have Hw12 := Lib.hid hw12
        clear hw12 hon hbX
        obtain ⟨w13, hw13⟩ : ∃ z, z = w12.setRow Y #[.int .i64 0, .slice saA 67 scA, .slice paA 1 pcA] := ⟨_, rfl⟩
        have hon : Only w12 w13 Y := by rw [hw13]; exact Only.setRow _ _ _
        have hbX : w.heap.size ≤ Y := by rw [HY.out]; exact Below.size B10.out
        have B13 := Lib.hid (show Below w.heap.size w w13 by rw [hw13]; exact below_setRowW B12.out hbX _)
        have GS_13 := Lib.hid (hon.blk GY_12.out GS_12.out (by decide))
        have LS_13 := Lib.hid (show S < w13.heap.size by rw [hon.1]; exact LS_12.out)
        have GM_13 := Lib.hid (hon.blk GY_12.out GM_12.out (by decide))
        have LM_13 := Lib.hid (show M < w13.heap.size by rw [hon.1]; exact LM_12.out)
        have GQ_13 := Lib.hid (hon.blk GY_12.out GQ_12.out (by decide))
        have LQ_13 := Lib.hid (show Q < w13.heap.size by rw [hon.1]; exact LQ_12.out)
        have GA_13 := Lib.hid ((hon.2 A (by rw [HY.out]; exact Nat.ne_of_lt LA_10.out)).trans GA_12.out)
        have LA_13 := Lib.hid (show A < w13.heap.size by rw [hon.1]; exact LA_12.out)
        have GB_13 := Lib.hid ((hon.2 B (by rw [HY.out]; exact Nat.ne_of_lt LB_10.out)).trans GB_12.out)
        have LB_13 := Lib.hid (show B < w13.heap.size by rw [hon.1]; exact LB_12.out)
        have GX_13 := Lib.hid ((hon.2 X (by rw [HY.out]; exact Nat.ne_of_lt LX_10.out)).trans GX_12.out)
        have LX_13 := Lib.hid (show X < w13.heap.size by rw [hon.1]; exact LX_12.out)
        have GY_13 := Lib.hid (show w13.heap[Y]? = some (.cells #[.int .i64 0, .slice saA 67 scA, .slice paA 1 pcA] 33 (0, 0)) by rw [hw13]; exact setRow_heap _ _ _ _ _ _ GY_12.out)
        have LY_13 := Lib.hid (show Y < w13.heap.size by rw [hon.1]; exact LY_12.out)
        have SAP_13 := Lib.hid (hon.stamp GY_12.out (by decide) (by decide) SAP_12.out)
        have RSA_13 := Lib.hid (hon.rd GY_12.out (by decide) RSA_12.out)
        have RPA_13 := Lib.hid (hon.rd GY_12.out (by decide) RPA_12.out)
        have RSB_13 := Lib.hid (hon.rd GY_12.out (by decide) RSB_12.out)
        have RPB_13 := Lib.hid (hon.rd GY_12.out (by decide) RPB_12.out)
        have Hw13 := Lib.hid hw13
        clear hw13 hon hbX
        go_upto_region 16 with (first
          | (refine at_ld 33 (.tmp 11) rfl ?_; (refine ld_sig rfl (.tmp 11) rfl A (by rfl) (.int .i64 0) (.slice saA 67 scA) (.slice paA 1 pcA) _ _ GA_9.out ?_); simp only [Act.put, List.setIfInBounds_toArray, List.set_cons_zero, List.set_cons_succ])
          | (refine at_st 33 (.tmp 15) (.tmp 77) rfl ?_; (refine st_sigNew rfl (.tmp 15) (.tmp 77) rfl (.int .i64 0) (.slice saA 67 scA) (.slice paA 1 pcA) (by rfl) _ _ (by rfl) (by rfl) (sig_one _ _ _ _ _ _ _) ?_); rw [← HX.out, ← Hw10.out])
          | (refine at_ld 33 (.tmp 13) rfl ?_; (refine ld_sig rfl (.tmp 13) rfl B (by rfl) (.int .i64 1) (.slice saB 67 scB) (.slice paB 1 pcB) _ _ GB_10.out ?_); simp only [Act.put, List.setIfInBounds_toArray, List.set_cons_zero, List.set_cons_succ])
          | (refine at_st 33 (.tmp 16) (.tmp 78) rfl ?_; (refine st_sigNew rfl (.tmp 16) (.tmp 78) rfl (.int .i64 1) (.slice saB 67 scB) (.slice paB 1 pcB) (by rfl) _ _ (by rfl) (by rfl) (sig_one _ _ _ _ _ _ _) ?_); rw [← HY.out, ← Hw11.out])
          | (refine at_ld 33 (.tmp 13) rfl ?_; (refine ld_sig rfl (.tmp 13) rfl B (by rfl) (.int .i64 1) (.slice saB 67 scB) (.slice paB 1 pcB) _ _ GB_11.out ?_); simp only [Act.put, List.setIfInBounds_toArray, List.set_cons_zero, List.set_cons_succ])
          | (refine at_st 33 (.tmp 15) (.tmp 81) rfl ?_; (refine st_sig rfl (.tmp 15) (.tmp 81) rfl X (.int .i64 1) (.slice saB 67 scB) (.slice paB 1 pcB) (by rfl) (by rfl) _ rfl _ GX_11.out (sig_one _ _ _ _ _ _ _) ?_); rw [← Hw12.out])
          | (refine at_ld 33 (.tmp 11) rfl ?_; (refine ld_sig rfl (.tmp 11) rfl A (by rfl) (.int .i64 0) (.slice saA 67 scA) (.slice paA 1 pcA) _ _ GA_12.out ?_); simp only [Act.put, List.setIfInBounds_toArray, List.set_cons_zero, List.set_cons_succ])
          | (refine at_st 33 (.tmp 16) (.tmp 82) rfl ?_; (refine st_sig rfl (.tmp 16) (.tmp 82) rfl Y (.int .i64 0) (.slice saA 67 scA) (.slice paA 1 pcA) (by rfl) (by rfl) _ rfl _ GY_12.out (sig_one _ _ _ _ _ _ _) ?_); rw [← Hw13.out]))
        have qy := (cellQ GY_13.out).1
        have qx := (cellQ GX_13.out).1
        have fx := frozen_of_row _ X 0 _ _ GX_13.out
        obtain ⟨w14, hw14⟩ : ∃ z, z = w13.setCell ⟨X, 0, none⟩ (.int .i64 0) := ⟨_, rfl⟩
        have hon : Only w13 w14 X := by rw [hw14]; exact Only.setCell _ _ _ _
        have hbX : w.heap.size ≤ X := by rw [HX.out]; exact Below.size B9.out
        have B14 := Lib.hid (show Below w.heap.size w w14 by rw [hw14]; exact Below.setCell B13.out (p := ⟨X, _, none⟩) hbX _)
        have GS_14 := Lib.hid (hon.blk GX_13.out GS_13.out (by decide))
        have LS_14 := Lib.hid (show S < w14.heap.size by rw [hon.1]; exact LS_13.out)
        have GM_14 := Lib.hid (hon.blk GX_13.out GM_13.out (by decide))
        have LM_14 := Lib.hid (show M < w14.heap.size by rw [hon.1]; exact LM_13.out)
        have GQ_14 := Lib.hid (hon.blk GX_13.out GQ_13.out (by decide))
        have LQ_14 := Lib.hid (show Q < w14.heap.size by rw [hon.1]; exact LQ_13.out)
        have GA_14 := Lib.hid ((hon.2 A (by rw [HX.out]; exact Nat.ne_of_lt LA_9.out)).trans GA_13.out)
        have LA_14 := Lib.hid (show A < w14.heap.size by rw [hon.1]; exact LA_13.out)
        have GB_14 := Lib.hid ((hon.2 B (by rw [HX.out]; exact Nat.ne_of_lt LB_9.out)).trans GB_13.out)
        have LB_14 := Lib.hid (show B < w14.heap.size by rw [hon.1]; exact LB_13.out)
        have GX_14 := Lib.hid (show w14.heap[X]? = some (.cells #[.int .i64 0, .slice saB 67 scB, .slice paB 1 pcB] 33 (0, 0)) by rw [hw14]; exact setCell_rowS GX_13.out _)
        have LX_14 := Lib.hid (show X < w14.heap.size by rw [hon.1]; exact LX_13.out)
        have GY_14 := Lib.hid ((hon.2 Y (by rw [HY.out]; exact (Nat.ne_of_lt LX_10.out).symm)).trans GY_13.out)
        have LY_14 := Lib.hid (show Y < w14.heap.size by rw [hon.1]; exact LY_13.out)
        have SAP_14 := Lib.hid (hon.stamp GX_13.out (by decide) (by decide) SAP_13.out)
        have RSA_14 := Lib.hid (hon.rd GX_13.out (by decide) RSA_13.out)
        have RPA_14 := Lib.hid (hon.rd GX_13.out (by decide) RPA_13.out)
        have RSB_14 := Lib.hid (hon.rd GX_13.out (by decide) RSB_13.out)
        have RPB_14 := Lib.hid (hon.rd GX_13.out (by decide) RPB_13.out)
        have Hw14 := Lib.hid hw14
        clear hw14 hon hbX
        go_upto_region 17 with fail
        rw [← Hw14.out]
        clear qy qx fx
        have HRC := Lib.hid (Recover_z x1 ML.out (wsig (skey x0 1) x1) (wsig_dig _ _) (wsig_length _ _) 1 1 rfl (by omega) 2 rfl 0 0 rfl (by omega) saB paB scB 1 pcB _ _ (tpath (leavesK x0 2) 1) (by rw [HLK.out, tpath_12]; intro p hp; rw [List.mem_singleton.1 hp]; exact L0L.out) (by rw [HLK.out, tpath_12, tlong_02]; rfl) (by rw [HLK.out, tpath_12]; rfl) w14 RSB_14.out RPB_14.out (RO.out.at_ B14.out))
        rw [HLK.out, tpath_12, wkey_sig, ← HL1.out, tfold_02] at HRC
        go_wp2_with (first
          | (refine at_ld 23 (.tmp 4) rfl ?_; (refine ld_digG rfl (.tmp 4) rfl (M) 0 (by rfl) x1 ML.out (range_of_row GM_14.out) ?_); simp only [Act.put, List.setIfInBounds_toArray, List.set_cons_zero, List.set_cons_succ])
          | (refine at_ld 33 (.tmp 15) rfl ?_; (refine ld_sig rfl (.tmp 15) rfl X (by rfl) (.int .i64 0) (.slice saB 67 scB) (.slice paB 1 pcB) _ _ GX_14.out ?_); simp only [Act.put, List.setIfInBounds_toArray, List.set_cons_zero, List.set_cons_succ]))
        refine (HRC.out).mono ?_
        rintro e w15 ⟨rfl, hb15⟩
        have B15 := Lib.hid (show Below w.heap.size w w15 from Below.trans B14.out (Below.mono hb15 (Below.size B14.out)))
        have GS_15 := Lib.hid ((Below.block hb15 S LS_14.out).trans GS_14.out)
        have LS_15 := Lib.hid (Nat.lt_of_lt_of_le LS_14.out (Below.size hb15))
        have GM_15 := Lib.hid ((Below.block hb15 M LM_14.out).trans GM_14.out)
        have LM_15 := Lib.hid (Nat.lt_of_lt_of_le LM_14.out (Below.size hb15))
        have GQ_15 := Lib.hid ((Below.block hb15 Q LQ_14.out).trans GQ_14.out)
        have LQ_15 := Lib.hid (Nat.lt_of_lt_of_le LQ_14.out (Below.size hb15))
        have GA_15 := Lib.hid ((Below.block hb15 A LA_14.out).trans GA_14.out)
        have LA_15 := Lib.hid (Nat.lt_of_lt_of_le LA_14.out (Below.size hb15))
        have GB_15 := Lib.hid ((Below.block hb15 B LB_14.out).trans GB_14.out)
        have LB_15 := Lib.hid (Nat.lt_of_lt_of_le LB_14.out (Below.size hb15))
        have GX_15 := Lib.hid ((Below.block hb15 X LX_14.out).trans GX_14.out)
        have LX_15 := Lib.hid (Nat.lt_of_lt_of_le LX_14.out (Below.size hb15))
        have GY_15 := Lib.hid ((Below.block hb15 Y LY_14.out).trans GY_14.out)
        have LY_15 := Lib.hid (Nat.lt_of_lt_of_le LY_14.out (Below.size hb15))
        have SAP_15 := Lib.hid (SAP_14.out.below hb15)
        have RSA_15 := Lib.hid (RSA_14.out.below hb15)
        have RPA_15 := Lib.hid (RPA_14.out.below hb15)
        have RSB_15 := Lib.hid (RSB_14.out.below hb15)
        have RPB_15 := Lib.hid (RPB_14.out.below hb15)
        clear HRC
        clear hb15
        obtain ⟨NN, hNN⟩ : ∃ z, z = tnode l1 l0 := ⟨_, rfl⟩
        rw [← hNN]
        have NNL := Lib.hid (show NN.length = 32 by rw [hNN]; exact tnode_length _ _)
        have HNN := Lib.hid hNN
        clear hNN
        obtain ⟨Z, hZ⟩ : ∃ z, z = w15.heap.size := ⟨_, rfl⟩
        obtain ⟨w16, hw16⟩ : ∃ z, z = w15.alloc (.cells (dV NN) 23) := ⟨_, rfl⟩
        have st16 : Below w15.heap.size w15 w16 := by rw [hw16]; exact (Below.refl _ _).alloc (Nat.le_refl _) _
        have B16 := Lib.hid (show Below w.heap.size w w16 from Below.trans B15.out (Below.mono st16 (Below.size B15.out)))
        have GS_16 := Lib.hid ((Below.block st16 S LS_15.out).trans GS_15.out)
        have LS_16 := Lib.hid (Nat.lt_of_lt_of_le LS_15.out (Below.size st16))
        have GM_16 := Lib.hid ((Below.block st16 M LM_15.out).trans GM_15.out)
        have LM_16 := Lib.hid (Nat.lt_of_lt_of_le LM_15.out (Below.size st16))
        have GQ_16 := Lib.hid ((Below.block st16 Q LQ_15.out).trans GQ_15.out)
        have LQ_16 := Lib.hid (Nat.lt_of_lt_of_le LQ_15.out (Below.size st16))
        have GA_16 := Lib.hid ((Below.block st16 A LA_15.out).trans GA_15.out)
        have LA_16 := Lib.hid (Nat.lt_of_lt_of_le LA_15.out (Below.size st16))
        have GB_16 := Lib.hid ((Below.block st16 B LB_15.out).trans GB_15.out)
        have LB_16 := Lib.hid (Nat.lt_of_lt_of_le LB_15.out (Below.size st16))
        have GX_16 := Lib.hid ((Below.block st16 X LX_15.out).trans GX_15.out)
        have LX_16 := Lib.hid (Nat.lt_of_lt_of_le LX_15.out (Below.size st16))
        have GY_16 := Lib.hid ((Below.block st16 Y LY_15.out).trans GY_15.out)
        have LY_16 := Lib.hid (Nat.lt_of_lt_of_le LY_15.out (Below.size st16))
        have SAP_16 := Lib.hid (SAP_15.out.below st16)
        have RSA_16 := Lib.hid (RSA_15.out.below st16)
        have RPA_16 := Lib.hid (RPA_15.out.below st16)
        have RSB_16 := Lib.hid (RSB_15.out.below st16)
        have RPB_16 := Lib.hid (RPB_15.out.below st16)
        have GZ_16 := Lib.hid (show w16.heap[Z]? = some (.cells (dV NN) 23 (0, 0)) by rw [hw16, hZ]; exact heap_alloc_new _ _)
        have LZ_16 := Lib.hid (lt_of_heap GZ_16.out)
        have HZ := Lib.hid hZ
        have Hw16 := Lib.hid hw16
        clear hZ hw16 st16
        go_wp2_with (first
          | (refine at_st 23 (.tmp 17) (.tmp 90) rfl ?_; (refine st_new rfl (.tmp 17) (.tmp 90) rfl NN NNL.out (by rfl) _ _ (by rfl) (by rfl) ?_); rw [← HZ.out, ← Hw16.out])
          | (refine at_ld 23 (.tmp 3) rfl ?_; (refine ld_digG rfl (.tmp 3) rfl (S) 0 (by rfl) x0 SL.out (range_of_row GS_16.out) ?_); simp only [Act.put, List.setIfInBounds_toArray, List.set_cons_zero, List.set_cons_succ]))
        refine (RStamp_z x0 SL.out 0 0 rfl (by omega) w16).mono ?_
        rintro e w17 ⟨rfl, hb17⟩
        have B17 := Lib.hid (show Below w.heap.size w w17 from Below.trans B16.out (Below.mono hb17 (Below.size B16.out)))
        have GS_17 := Lib.hid ((Below.block hb17 S LS_16.out).trans GS_16.out)
        have LS_17 := Lib.hid (Nat.lt_of_lt_of_le LS_16.out (Below.size hb17))
        have GM_17 := Lib.hid ((Below.block hb17 M LM_16.out).trans GM_16.out)
        have LM_17 := Lib.hid (Nat.lt_of_lt_of_le LM_16.out (Below.size hb17))
        have GQ_17 := Lib.hid ((Below.block hb17 Q LQ_16.out).trans GQ_16.out)
        have LQ_17 := Lib.hid (Nat.lt_of_lt_of_le LQ_16.out (Below.size hb17))
        have GA_17 := Lib.hid ((Below.block hb17 A LA_16.out).trans GA_16.out)
        have LA_17 := Lib.hid (Nat.lt_of_lt_of_le LA_16.out (Below.size hb17))
        have GB_17 := Lib.hid ((Below.block hb17 B LB_16.out).trans GB_16.out)
        have LB_17 := Lib.hid (Nat.lt_of_lt_of_le LB_16.out (Below.size hb17))
        have GX_17 := Lib.hid ((Below.block hb17 X LX_16.out).trans GX_16.out)
        have LX_17 := Lib.hid (Nat.lt_of_lt_of_le LX_16.out (Below.size hb17))
        have GY_17 := Lib.hid ((Below.block hb17 Y LY_16.out).trans GY_16.out)
        have LY_17 := Lib.hid (Nat.lt_of_lt_of_le LY_16.out (Below.size hb17))
        have GZ_17 := Lib.hid ((Below.block hb17 Z LZ_16.out).trans GZ_16.out)
        have LZ_17 := Lib.hid (Nat.lt_of_lt_of_le LZ_16.out (Below.size hb17))
        have SAP_17 := Lib.hid (SAP_16.out.below hb17)
        have RSA_17 := Lib.hid (RSA_16.out.below hb17)
        have RPA_17 := Lib.hid (RPA_16.out.below hb17)
        have RSB_17 := Lib.hid (RSB_16.out.below hb17)
        have RPB_17 := Lib.hid (RPB_16.out.below hb17)
        clear hb17
        go_wp2_with fail
        refine (RWPublic_calls (skey x0 0) (skey_length _ _) w17).mono ?_
        rintro e w18 ⟨rfl, hb18⟩
        have B18 := Lib.hid (show Below w.heap.size w w18 from Below.trans B17.out (Below.mono hb18 (Below.size B17.out)))
        have GS_18 := Lib.hid ((Below.block hb18 S LS_17.out).trans GS_17.out)
        have LS_18 := Lib.hid (Nat.lt_of_lt_of_le LS_17.out (Below.size hb18))
        have GM_18 := Lib.hid ((Below.block hb18 M LM_17.out).trans GM_17.out)
        have LM_18 := Lib.hid (Nat.lt_of_lt_of_le LM_17.out (Below.size hb18))
        have GQ_18 := Lib.hid ((Below.block hb18 Q LQ_17.out).trans GQ_17.out)
        have LQ_18 := Lib.hid (Nat.lt_of_lt_of_le LQ_17.out (Below.size hb18))
        have GA_18 := Lib.hid ((Below.block hb18 A LA_17.out).trans GA_17.out)
        have LA_18 := Lib.hid (Nat.lt_of_lt_of_le LA_17.out (Below.size hb18))
        have GB_18 := Lib.hid ((Below.block hb18 B LB_17.out).trans GB_17.out)
        have LB_18 := Lib.hid (Nat.lt_of_lt_of_le LB_17.out (Below.size hb18))
        have GX_18 := Lib.hid ((Below.block hb18 X LX_17.out).trans GX_17.out)
        have LX_18 := Lib.hid (Nat.lt_of_lt_of_le LX_17.out (Below.size hb18))
        have GY_18 := Lib.hid ((Below.block hb18 Y LY_17.out).trans GY_17.out)
        have LY_18 := Lib.hid (Nat.lt_of_lt_of_le LY_17.out (Below.size hb18))
        have GZ_18 := Lib.hid ((Below.block hb18 Z LZ_17.out).trans GZ_17.out)
        have LZ_18 := Lib.hid (Nat.lt_of_lt_of_le LZ_17.out (Below.size hb18))
        have SAP_18 := Lib.hid (SAP_17.out.below hb18)
        have RSA_18 := Lib.hid (RSA_17.out.below hb18)
        have RPA_18 := Lib.hid (RPA_17.out.below hb18)
        have RSB_18 := Lib.hid (RSB_17.out.below hb18)
        have RPB_18 := Lib.hid (RPB_17.out.below hb18)
        clear hb18
        rw [← HL0.out]
        obtain ⟨U, hU⟩ : ∃ z, z = w18.heap.size := ⟨_, rfl⟩
        obtain ⟨w19, hw19⟩ : ∃ z, z = w18.alloc (.cells (dV l0) 23) := ⟨_, rfl⟩
        have st19 : Below w18.heap.size w18 w19 := by rw [hw19]; exact (Below.refl _ _).alloc (Nat.le_refl _) _
        have B19 := Lib.hid (show Below w.heap.size w w19 from Below.trans B18.out (Below.mono st19 (Below.size B18.out)))
        have GS_19 := Lib.hid ((Below.block st19 S LS_18.out).trans GS_18.out)
        have LS_19 := Lib.hid (Nat.lt_of_lt_of_le LS_18.out (Below.size st19))
        have GM_19 := Lib.hid ((Below.block st19 M LM_18.out).trans GM_18.out)
        have LM_19 := Lib.hid (Nat.lt_of_lt_of_le LM_18.out (Below.size st19))
        have GQ_19 := Lib.hid ((Below.block st19 Q LQ_18.out).trans GQ_18.out)
        have LQ_19 := Lib.hid (Nat.lt_of_lt_of_le LQ_18.out (Below.size st19))
        have GA_19 := Lib.hid ((Below.block st19 A LA_18.out).trans GA_18.out)
        have LA_19 := Lib.hid (Nat.lt_of_lt_of_le LA_18.out (Below.size st19))
        have GB_19 := Lib.hid ((Below.block st19 B LB_18.out).trans GB_18.out)
        have LB_19 := Lib.hid (Nat.lt_of_lt_of_le LB_18.out (Below.size st19))
        have GX_19 := Lib.hid ((Below.block st19 X LX_18.out).trans GX_18.out)
        have LX_19 := Lib.hid (Nat.lt_of_lt_of_le LX_18.out (Below.size st19))
        have GY_19 := Lib.hid ((Below.block st19 Y LY_18.out).trans GY_18.out)
        have LY_19 := Lib.hid (Nat.lt_of_lt_of_le LY_18.out (Below.size st19))
        have GZ_19 := Lib.hid ((Below.block st19 Z LZ_18.out).trans GZ_18.out)
        have LZ_19 := Lib.hid (Nat.lt_of_lt_of_le LZ_18.out (Below.size st19))
        have SAP_19 := Lib.hid (SAP_18.out.below st19)
        have RSA_19 := Lib.hid (RSA_18.out.below st19)
        have RPA_19 := Lib.hid (RPA_18.out.below st19)
        have RSB_19 := Lib.hid (RSB_18.out.below st19)
        have RPB_19 := Lib.hid (RPB_18.out.below st19)
        have GU_19 := Lib.hid (show w19.heap[U]? = some (.cells (dV l0) 23 (0, 0)) by rw [hw19, hU]; exact heap_alloc_new _ _)
        have LU_19 := Lib.hid (lt_of_heap GU_19.out)
        have HU := Lib.hid hU
        have Hw19 := Lib.hid hw19
        clear hU hw19 st19
        go_wp2_with (first
          | (refine at_st 23 (.tmp 19) (.tmp 96) rfl ?_; (refine st_new rfl (.tmp 19) (.tmp 96) rfl l0 L0L.out (by rfl) _ _ (by rfl) (by rfl) ?_); rw [← HU.out, ← Hw19.out])
          | (refine at_ld 23 (.tmp 3) rfl ?_; (refine ld_digG rfl (.tmp 3) rfl (S) 0 (by rfl) x0 SL.out (range_of_row GS_19.out) ?_); simp only [Act.put, List.setIfInBounds_toArray, List.set_cons_zero, List.set_cons_succ]))
        refine (RStamp_z x0 SL.out 1 1 rfl (by omega) w19).mono ?_
        rintro e w20 ⟨rfl, hb20⟩
        have B20 := Lib.hid (show Below w.heap.size w w20 from Below.trans B19.out (Below.mono hb20 (Below.size B19.out)))
        have GS_20 := Lib.hid ((Below.block hb20 S LS_19.out).trans GS_19.out)
        have LS_20 := Lib.hid (Nat.lt_of_lt_of_le LS_19.out (Below.size hb20))
        have GM_20 := Lib.hid ((Below.block hb20 M LM_19.out).trans GM_19.out)
        have LM_20 := Lib.hid (Nat.lt_of_lt_of_le LM_19.out (Below.size hb20))
        have GQ_20 := Lib.hid ((Below.block hb20 Q LQ_19.out).trans GQ_19.out)
        have LQ_20 := Lib.hid (Nat.lt_of_lt_of_le LQ_19.out (Below.size hb20))
        have GA_20 := Lib.hid ((Below.block hb20 A LA_19.out).trans GA_19.out)
        have LA_20 := Lib.hid (Nat.lt_of_lt_of_le LA_19.out (Below.size hb20))
        have GB_20 := Lib.hid ((Below.block hb20 B LB_19.out).trans GB_19.out)
        have LB_20 := Lib.hid (Nat.lt_of_lt_of_le LB_19.out (Below.size hb20))
        have GX_20 := Lib.hid ((Below.block hb20 X LX_19.out).trans GX_19.out)
        have LX_20 := Lib.hid (Nat.lt_of_lt_of_le LX_19.out (Below.size hb20))
        have GY_20 := Lib.hid ((Below.block hb20 Y LY_19.out).trans GY_19.out)
        have LY_20 := Lib.hid (Nat.lt_of_lt_of_le LY_19.out (Below.size hb20))
        have GZ_20 := Lib.hid ((Below.block hb20 Z LZ_19.out).trans GZ_19.out)
        have LZ_20 := Lib.hid (Nat.lt_of_lt_of_le LZ_19.out (Below.size hb20))
        have GU_20 := Lib.hid ((Below.block hb20 U LU_19.out).trans GU_19.out)
        have LU_20 := Lib.hid (Nat.lt_of_lt_of_le LU_19.out (Below.size hb20))
        have SAP_20 := Lib.hid (SAP_19.out.below hb20)
        have RSA_20 := Lib.hid (RSA_19.out.below hb20)
        have RPA_20 := Lib.hid (RPA_19.out.below hb20)
        have RSB_20 := Lib.hid (RSB_19.out.below hb20)
        have RPB_20 := Lib.hid (RPB_19.out.below hb20)
        clear hb20
        go_wp2_with fail
        refine (RWPublic_calls (skey x0 1) (skey_length _ _) w20).mono ?_
        rintro e w21 ⟨rfl, hb21⟩
        have B21 := Lib.hid (show Below w.heap.size w w21 from Below.trans B20.out (Below.mono hb21 (Below.size B20.out)))
        have GS_21 := Lib.hid ((Below.block hb21 S LS_20.out).trans GS_20.out)
        have LS_21 := Lib.hid (Nat.lt_of_lt_of_le LS_20.out (Below.size hb21))
        have GM_21 := Lib.hid ((Below.block hb21 M LM_20.out).trans GM_20.out)
        have LM_21 := Lib.hid (Nat.lt_of_lt_of_le LM_20.out (Below.size hb21))
        have GQ_21 := Lib.hid ((Below.block hb21 Q LQ_20.out).trans GQ_20.out)
        have LQ_21 := Lib.hid (Nat.lt_of_lt_of_le LQ_20.out (Below.size hb21))
        have GA_21 := Lib.hid ((Below.block hb21 A LA_20.out).trans GA_20.out)
        have LA_21 := Lib.hid (Nat.lt_of_lt_of_le LA_20.out (Below.size hb21))
        have GB_21 := Lib.hid ((Below.block hb21 B LB_20.out).trans GB_20.out)
        have LB_21 := Lib.hid (Nat.lt_of_lt_of_le LB_20.out (Below.size hb21))
        have GX_21 := Lib.hid ((Below.block hb21 X LX_20.out).trans GX_20.out)
        have LX_21 := Lib.hid (Nat.lt_of_lt_of_le LX_20.out (Below.size hb21))
        have GY_21 := Lib.hid ((Below.block hb21 Y LY_20.out).trans GY_20.out)
        have LY_21 := Lib.hid (Nat.lt_of_lt_of_le LY_20.out (Below.size hb21))
        have GZ_21 := Lib.hid ((Below.block hb21 Z LZ_20.out).trans GZ_20.out)
        have LZ_21 := Lib.hid (Nat.lt_of_lt_of_le LZ_20.out (Below.size hb21))
        have GU_21 := Lib.hid ((Below.block hb21 U LU_20.out).trans GU_20.out)
        have LU_21 := Lib.hid (Nat.lt_of_lt_of_le LU_20.out (Below.size hb21))
        have SAP_21 := Lib.hid (SAP_20.out.below hb21)
        have RSA_21 := Lib.hid (RSA_20.out.below hb21)
        have RPA_21 := Lib.hid (RPA_20.out.below hb21)
        have RSB_21 := Lib.hid (RSB_20.out.below hb21)
        have RPB_21 := Lib.hid (RPB_20.out.below hb21)
        clear hb21
        rw [← HL1.out]
        obtain ⟨V, hV⟩ : ∃ z, z = w21.heap.size := ⟨_, rfl⟩
        obtain ⟨w22, hw22⟩ : ∃ z, z = w21.alloc (.cells (dV l1) 23) := ⟨_, rfl⟩
        have st22 : Below w21.heap.size w21 w22 := by rw [hw22]; exact (Below.refl _ _).alloc (Nat.le_refl _) _
        have B22 := Lib.hid (show Below w.heap.size w w22 from Below.trans B21.out (Below.mono st22 (Below.size B21.out)))
        have GS_22 := Lib.hid ((Below.block st22 S LS_21.out).trans GS_21.out)
        have LS_22 := Lib.hid (Nat.lt_of_lt_of_le LS_21.out (Below.size st22))
        have GM_22 := Lib.hid ((Below.block st22 M LM_21.out).trans GM_21.out)
        have LM_22 := Lib.hid (Nat.lt_of_lt_of_le LM_21.out (Below.size st22))
        have GQ_22 := Lib.hid ((Below.block st22 Q LQ_21.out).trans GQ_21.out)
        have LQ_22 := Lib.hid (Nat.lt_of_lt_of_le LQ_21.out (Below.size st22))
        have GA_22 := Lib.hid ((Below.block st22 A LA_21.out).trans GA_21.out)
        have LA_22 := Lib.hid (Nat.lt_of_lt_of_le LA_21.out (Below.size st22))
        have GB_22 := Lib.hid ((Below.block st22 B LB_21.out).trans GB_21.out)
        have LB_22 := Lib.hid (Nat.lt_of_lt_of_le LB_21.out (Below.size st22))
        have GX_22 := Lib.hid ((Below.block st22 X LX_21.out).trans GX_21.out)
        have LX_22 := Lib.hid (Nat.lt_of_lt_of_le LX_21.out (Below.size st22))
        have GY_22 := Lib.hid ((Below.block st22 Y LY_21.out).trans GY_21.out)
        have LY_22 := Lib.hid (Nat.lt_of_lt_of_le LY_21.out (Below.size st22))
        have GZ_22 := Lib.hid ((Below.block st22 Z LZ_21.out).trans GZ_21.out)
        have LZ_22 := Lib.hid (Nat.lt_of_lt_of_le LZ_21.out (Below.size st22))
        have GU_22 := Lib.hid ((Below.block st22 U LU_21.out).trans GU_21.out)
        have LU_22 := Lib.hid (Nat.lt_of_lt_of_le LU_21.out (Below.size st22))
        have SAP_22 := Lib.hid (SAP_21.out.below st22)
        have RSA_22 := Lib.hid (RSA_21.out.below st22)
        have RPA_22 := Lib.hid (RPA_21.out.below st22)
        have RSB_22 := Lib.hid (RSB_21.out.below st22)
        have RPB_22 := Lib.hid (RPB_21.out.below st22)
        have GV_22 := Lib.hid (show w22.heap[V]? = some (.cells (dV l1) 23 (0, 0)) by rw [hw22, hV]; exact heap_alloc_new _ _)
        have LV_22 := Lib.hid (lt_of_heap GV_22.out)
        have HV := Lib.hid hV
        have Hw22 := Lib.hid hw22
        clear hV hw22 st22
        go_wp2_with (first
          | (refine at_st 23 (.tmp 20) (.tmp 99) rfl ?_; (refine st_new rfl (.tmp 20) (.tmp 99) rfl l1 L1L.out (by rfl) _ _ (by rfl) (by rfl) ?_); rw [← HV.out, ← Hw22.out]))
        have bU := B22.out
        have FZ := Lib.hid (fun w' (h : InB w22.heap.size w22 w') => h.range LZ_22.out (range_of_row GZ_22.out))
        have FQ := Lib.hid (fun w' (h : InB w22.heap.size w22 w') => h.range LQ_22.out (range_of_row GQ_22.out))
        have FU := Lib.hid (fun w' (h : InB w22.heap.size w22 w') => h.range LU_22.out (range_of_row GU_22.out))
        have FV := Lib.hid (fun w' (h : InB w22.heap.size w22 w') => h.range LV_22.out (range_of_row GV_22.out))
        have CN1 := Lib.hid (fun w' (h : InB w22.heap.size w22 w') => h.call (Nat.le_refl _) (RNode_calls l0 l1 L0L.out L1L.out w'))
        have CN2 := Lib.hid (fun w' (h : InB w22.heap.size w22 w') => h.call (Nat.le_refl _) (RNode_calls l1 l0 L1L.out L0L.out w'))
        rw [← HPB'.out] at CN1
        rw [← HNN.out] at CN2
        have HBU := Lib.hid bU
        clear bU
        by_cases hq : NN = PB
        · have e1 : (!(NN == PB)) = false := by simp [hq]
          have HE1 := Lib.hid e1
          have HQE := Lib.hid hq
          clear e1 hq
          by_cases hl : l0 = l1
          · have HE2 := Lib.hid (show (l0 == l1) = true by simp [hl])
            clear hl
            have hex := inB_ex w22.heap.size w22
            refine wp_region_inB w22.heap.size (by kernel_rfl) (by kernel_rfl) ?_
            repeat (first
              | go_big_quiet_skip
              | (with_reducible refine quiet_dig rfl (.tmp 17) rfl (Z) (0) (by kernel_rfl) NN NNL.out FZ.out ?_ (by kernel_rfl); simp only [Act.put, List.setIfInBounds_toArray, List.set_cons_zero, List.set_cons_succ])
              | (with_reducible refine quiet_dig rfl (.tmp 9) rfl (Q) (0) (by kernel_rfl) PB PBL.out FQ.out ?_ (by kernel_rfl); simp only [Act.put, List.setIfInBounds_toArray, List.set_cons_zero, List.set_cons_succ])
              | (with_reducible refine quiet_dig rfl (.tmp 19) rfl (U) (0) (by kernel_rfl) l0 L0L.out FU.out ?_ (by kernel_rfl); simp only [Act.put, List.setIfInBounds_toArray, List.set_cons_zero, List.set_cons_succ])
              | (with_reducible refine quiet_dig rfl (.tmp 20) rfl (V) (0) (by kernel_rfl) l1 L1L.out FV.out ?_ (by kernel_rfl); simp only [Act.put, List.setIfInBounds_toArray, List.set_cons_zero, List.set_cons_succ])
              | (with_reducible refine quiet_dig_neq rfl (.tmp 100) (.tmp 101) _ rfl NN PB (by kernel_rfl) (by kernel_rfl) NNL.out PBL.out ?_ (by kernel_rfl); rw [HE1.out]; simp only [Act.put, List.setIfInBounds_toArray, List.set_cons_zero, List.set_cons_succ])
              | (with_reducible refine quiet_dig_eq rfl (.tmp 104) (.tmp 105) _ rfl l0 l1 (by kernel_rfl) (by kernel_rfl) L0L.out L1L.out ?_ (by kernel_rfl); rw [HE2.out]; simp only [Act.put, List.setIfInBounds_toArray, List.set_cons_zero, List.set_cons_succ])
              | go_big_quiet_step ((first | (intro hw'; exact CN1.out _ hw') | (intro hw'; exact CN2.out _ hw') | (intro _; rfl))))
            refine wpQuiet_nil ?_
            intro wZ hwZ
            go_wp2_with fail
            go_ret
            exact ⟨rfl, HBU.out.trans (Below.mono hwZ HBU.out.size)⟩
          · have HE2 := Lib.hid (show (l0 == l1) = false by simp [hl])
            have HE3 := Lib.hid (show (PB == NN) = true by rw [HQE.out]; simp)
            clear hl
            have hex := inB_ex w22.heap.size w22
            refine wp_region_inB w22.heap.size (by kernel_rfl) (by kernel_rfl) ?_
            repeat (first
              | go_big_quiet_skip
              | (with_reducible refine quiet_dig rfl (.tmp 17) rfl (Z) (0) (by kernel_rfl) NN NNL.out FZ.out ?_ (by kernel_rfl); simp only [Act.put, List.setIfInBounds_toArray, List.set_cons_zero, List.set_cons_succ])
              | (with_reducible refine quiet_dig rfl (.tmp 9) rfl (Q) (0) (by kernel_rfl) PB PBL.out FQ.out ?_ (by kernel_rfl); simp only [Act.put, List.setIfInBounds_toArray, List.set_cons_zero, List.set_cons_succ])
              | (with_reducible refine quiet_dig rfl (.tmp 19) rfl (U) (0) (by kernel_rfl) l0 L0L.out FU.out ?_ (by kernel_rfl); simp only [Act.put, List.setIfInBounds_toArray, List.set_cons_zero, List.set_cons_succ])
              | (with_reducible refine quiet_dig rfl (.tmp 20) rfl (V) (0) (by kernel_rfl) l1 L1L.out FV.out ?_ (by kernel_rfl); simp only [Act.put, List.setIfInBounds_toArray, List.set_cons_zero, List.set_cons_succ])
              | (with_reducible refine quiet_dig_neq rfl (.tmp 100) (.tmp 101) _ rfl NN PB (by kernel_rfl) (by kernel_rfl) NNL.out PBL.out ?_ (by kernel_rfl); rw [HE1.out]; simp only [Act.put, List.setIfInBounds_toArray, List.set_cons_zero, List.set_cons_succ])
              | (with_reducible refine quiet_dig_eq rfl (.tmp 104) (.tmp 105) _ rfl l0 l1 (by kernel_rfl) (by kernel_rfl) L0L.out L1L.out ?_ (by kernel_rfl); rw [HE2.out]; simp only [Act.put, List.setIfInBounds_toArray, List.set_cons_zero, List.set_cons_succ])
              | (with_reducible refine quiet_dig_eq rfl (.tmp 111) (.tmp 114) _ rfl PB NN (by kernel_rfl) (by kernel_rfl) PBL.out NNL.out ?_ (by kernel_rfl); rw [HE3.out]; simp only [Act.put, List.setIfInBounds_toArray, List.set_cons_zero, List.set_cons_succ])
              | go_big_quiet_step ((first | (intro hw'; exact CN1.out _ hw') | (intro hw'; exact CN2.out _ hw') | (intro _; rfl))))
            refine wpQuiet_nil ?_
            intro wZ hwZ
            go_wp2_with fail
            go_ret
            exact ⟨rfl, HBU.out.trans (Below.mono hwZ HBU.out.size)⟩
        · have HE1 := Lib.hid (show (!(NN == PB)) = true by simp [hq])
          clear hq
          have hex := inB_ex w22.heap.size w22
          refine wp_region_inB w22.heap.size (by kernel_rfl) (by kernel_rfl) ?_
          repeat (first
            | go_big_quiet_skip
            | (with_reducible refine quiet_dig rfl (.tmp 17) rfl (Z) (0) (by kernel_rfl) NN NNL.out FZ.out ?_ (by kernel_rfl); simp only [Act.put, List.setIfInBounds_toArray, List.set_cons_zero, List.set_cons_succ])
            | (with_reducible refine quiet_dig rfl (.tmp 9) rfl (Q) (0) (by kernel_rfl) PB PBL.out FQ.out ?_ (by kernel_rfl); simp only [Act.put, List.setIfInBounds_toArray, List.set_cons_zero, List.set_cons_succ])
            | (with_reducible refine quiet_dig rfl (.tmp 19) rfl (U) (0) (by kernel_rfl) l0 L0L.out FU.out ?_ (by kernel_rfl); simp only [Act.put, List.setIfInBounds_toArray, List.set_cons_zero, List.set_cons_succ])
            | (with_reducible refine quiet_dig rfl (.tmp 20) rfl (V) (0) (by kernel_rfl) l1 L1L.out FV.out ?_ (by kernel_rfl); simp only [Act.put, List.setIfInBounds_toArray, List.set_cons_zero, List.set_cons_succ])
            | (with_reducible refine quiet_dig_neq rfl (.tmp 100) (.tmp 101) _ rfl NN PB (by kernel_rfl) (by kernel_rfl) NNL.out PBL.out ?_ (by kernel_rfl); rw [HE1.out]; simp only [Act.put, List.setIfInBounds_toArray, List.set_cons_zero, List.set_cons_succ])
            | go_big_quiet_step ((first | (intro hw'; exact CN1.out _ hw') | (intro hw'; exact CN2.out _ hw') | (intro _; rfl))))
          refine wpQuiet_nil ?_
          intro wZ hwZ
          go_wp2_with fail
          go_ret
          exact ⟨rfl, HBU.out.trans (Below.mono hwZ HBU.out.size)⟩

set_option maxRecDepth 100000 in
theorem lifted (os : Os) (started : os.Started) (H : Type) (enc : TypeId × Value → H) :
    ReturnsInHanded {} Tryd.checked os 3 .any (fun w args => (Rows.stampOthersSpec.pre enc Tryd.prog Tryd.f3 Rows.stampOthersRow.domain false w args ∧ laidMetH Tryd.prog Laid.list w) ∧ sizedMet enc Tryd.prog Tryd.f3 (OpenSpec.ofChange Rows.stampOthersSpec) false w args) (Rows.stampOthersSpec.post enc Tryd.prog Tryd.f3 false true false false) := by
  refine returnsInHanded_of_change_and (C := Tryd.checked) (X := fun w _ => laidMetH Tryd.prog Laid.list w) (fun _ _ _ hh h => h.of_heap hh) Laid.own started (by kernel_rfl) Tryd.func3
    (ChangeSpec.witness_at (enc := enc) (C := Tryd.checked) (os := os) (X := fun w _ => laidMetH Tryd.prog Laid.list w) false (laidWorld os) #[.agg #[.int .u8 0, .int .u8 0, .int .u8 0, .int .u8 0, .int .u8 0, .int .u8 0, .int .u8 0, .int .u8 0, .int .u8 0, .int .u8 0, .int .u8 0, .int .u8 0, .int .u8 0, .int .u8 0, .int .u8 0, .int .u8 0, .int .u8 0, .int .u8 0, .int .u8 0, .int .u8 0, .int .u8 0, .int .u8 0, .int .u8 0, .int .u8 0, .int .u8 0, .int .u8 0, .int .u8 0, .int .u8 0, .int .u8 0, .int .u8 0, .int .u8 0, .int .u8 0], .agg #[.int .u8 0, .int .u8 0, .int .u8 0, .int .u8 0, .int .u8 0, .int .u8 0, .int .u8 0, .int .u8 0, .int .u8 0, .int .u8 0, .int .u8 0, .int .u8 0, .int .u8 0, .int .u8 0, .int .u8 0, .int .u8 0, .int .u8 0, .int .u8 0, .int .u8 0, .int .u8 0, .int .u8 0, .int .u8 0, .int .u8 0, .int .u8 0, .int .u8 0, .int .u8 0, .int .u8 0, .int .u8 0, .int .u8 0, .int .u8 0, .int .u8 0, .int .u8 0], .int .i64 0] 8 rfl (by kernel_rfl) (by kernel_rfl) (by kernel_rfl) (by kernel_rfl) (by kernel_rfl) (laidWorld_met os _)) ?_
  intro W base args ds gs before hval0 hW _ hsz hL _
  have hro := rounds_of_laid hL
  have hval : ∀ (j : Nat) t v, Tryd.f3.params[j]? = some t → args[j]? = some v → Value.okWide Tryd.prog W .any base t v := hval0
  have hW' := hW
  obtain ⟨p, q, hA0, hV, rfl, hfz, hnd⟩ := hW
  have hA : DataW.TrodAll enc Tryd.prog W 0 (fun _ => true) true Tryd.f3.params.toList args.toList ds p := hA0
  rw [Tryd.params3] at hA hval
  obtain ⟨v0, vs0, d0, ds0, p0, q0, hargs, rfl, rfl, h0, r0⟩ := trodAll_cons hA
  obtain ⟨v1, vs1, d1, ds1, p1, q1, rfl, rfl, rfl, h1, r1⟩ := trodAll_cons r0
  obtain ⟨v2, vs2, d2, ds2, p2, q2, rfl, rfl, rfl, h2, r2⟩ := trodAll_cons r1
  obtain ⟨rfl, rfl, rfl⟩ := trodAll_nil r2
  obtain rfl : args = #[v0, v1, v2] := by cases args; simp_all
  obtain ⟨rfl, rfl⟩ := trodVars_none hV
  have k0 := h0
  have lt0 : ∀ x ∈ p0, x.block < W.heap.size := by obtain ⟨m, hm⟩ := k0; exact DataW.trod_lt m _ _ _ hm
  obtain ⟨x0, n0, rfl⟩ := open_digest Tryd.underlying23 Tryd.underlying5 (by kernel_rfl) (by kernel_rfl) (hval 0 23 v0 rfl rfl) h0
  have k1 := h1
  have lt1 : ∀ x ∈ p1, x.block < W.heap.size := by obtain ⟨m, hm⟩ := k1; exact DataW.trod_lt m _ _ _ hm
  obtain ⟨x1, n1, rfl⟩ := open_digest Tryd.underlying23 Tryd.underlying5 (by kernel_rfl) (by kernel_rfl) (hval 1 23 v1 rfl rfl) h1
  have k2 := h2
  have lt2 : ∀ x ∈ p2, x.block < W.heap.size := by obtain ⟨m, hm⟩ := k2; exact DataW.trod_lt m _ _ _ hm
  obtain ⟨a2, rfl, _, _, w2⟩ := open_int Tryd.underlying3 (hval 2 3 v2 rfl rfl) h2
  have b2 := bounds_i64 w2
  clear hA0 hval0
  refine (walk x0 x1 a2 W n0 n1 b2 hro).mono fun e W' ⟨he, bel⟩ => ?_
  subst he
  exact ⟨_, rfl, _, _, _, [], _, [], hW', trodAll_mk1 (shut_bool Tryd.underlying4 _), (trodAll_cons_mk (Below.trod Laid.laidOut (by kernel_rfl) (of_decide_eq_true (by kernel_rfl)) k0 bel lt0) (trodAll_cons_mk (Below.trod Laid.laidOut (by kernel_rfl) (of_decide_eq_true (by kernel_rfl)) k1 bel lt1) (trodAll_cons_mk (Below.trod Laid.laidOut (by kernel_rfl) (of_decide_eq_true (by kernel_rfl)) k2 bel lt2) trodAll_mk0))), rfl, bel.frame _, fun h => by cases h⟩

theorem over : Rows.stampOthersRow.holds Tryd.pinned (OpenSpec.ofChange Rows.stampOthersSpec) :=
  OpenClaim.holds_of_wide 3 Tryd.f3 rfl rfl rfl rfl rfl rfl rfl ⟨rfl, rfl, rfl, rfl, rfl⟩ rfl rfl rfl rfl rfl (by kernel_rfl) Tryd.func3 (by kernel_rfl)
    (of_decide_eq_true (by kernel_rfl)) (by unfold Func.isWrapper; first | (rw [if_pos (by decide +kernel)]; kernel_rfl) | (rw [if_neg (by decide +kernel)]; exact ⟨rfl, rfl⟩))
    (fun os started H enc _ => lifted os started H enc)

theorem proved : Rows.StampOthersCardSaid :=
  Claim7.holds_tied_plain_at .later [] [.data] true (true, "4217d634fd497304c4c9b362b9b2f4a24703606a484f8eaaf8eb436b2e24aad0") true
    over (fun _ h => by cases h) (by kernel_rfl) (fun _ h => by cases h) stampOthers_row_tie rfl ⟨rfl, rfl⟩ (by kernel_rfl) rfl
    (fun f fn hf hfn => by
      obtain rfl : f = 3 := Option.some.inj ((show Tryd.prog.funcNamed "oathbook/oathbooklaw2.StampOthers" = some 3 by kernel_rfl).symm.trans hf) |>.symm
      obtain rfl : fn = Tryd.f3 := (Option.some.inj (Tryd.func3.symm.trans hfn)).symm
      exact ⟨by kernel_rfl, stand_of_all (by kernel_rfl)⟩)
    (by kernel_rfl)
#print axioms proved
end stampOthers
end Go.Proofs.YtkioddmhjbaleaaDoor
