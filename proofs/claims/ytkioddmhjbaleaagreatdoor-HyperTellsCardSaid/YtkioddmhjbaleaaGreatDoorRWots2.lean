/- Walks: the document's WotsSigned and WotsKey. -/
import Derived.Test.YtkioddmhjbaleaaGreatDoorRWots
namespace Go.Proofs.YtkioddmhjbaleaaGreatDoor
open Go.RowKit
set_option linter.unusedVariables false
set_option linter.unusedSimpArgs false
set_option maxRecDepth 20000 in
set_option maxHeartbeats 4000000 in
theorem RWSigned_calls (seed m : List UInt8) (hs : seed.length = 32) (hm : m.length = 32) (w : World) :
    Calls Tryz.prog 29 #[.agg (dV seed), .agg (dV m)] w fun e w' => ∃ a cap, e = .returned (.slice a 67 cap) ∧ w'.ownsRow w.heap.size 23 32 (.slice a 67 cap) 67 ((wsig seed m).flatten.map vB) ∧ Below w.heap.size w w' := by
  have SL := Lib.hid hs
  have ML := Lib.hid hm
  have NL := Lib.hid (nibs_length m)
  have hiS : (Tryz.prog.info? 23).map (·.size) = some (seed.map vB).length := by rw [List.length_map, SL.out]; exact dig_size
  have HIS := Lib.hid hiS
  clear hs hm hiS
  obtain ⟨S, hS⟩ : ∃ z, z = w.heap.size := ⟨_, rfl⟩
  obtain ⟨w1, hw1⟩ : ∃ z, z = w.alloc (.cells (dV seed) 23) := ⟨_, rfl⟩
  have st1 : Below w.heap.size w w1 := by rw [hw1]; exact (Below.refl _ _).alloc (Nat.le_refl _) _
  have B1 := Lib.hid (show Below w.heap.size w w1 from Below.trans (Below.refl w.heap.size w) (Below.mono st1 (Below.size (Below.refl w.heap.size w))))
  have GS_1 := Lib.hid (show w1.heap[S]? = some (.cells (dV seed) 23 (0, 0)) by rw [hw1, hS]; exact heap_alloc_new _ _)
  have LS_1 := Lib.hid (lt_of_heap GS_1.out)
  have HS := Lib.hid hS
  have Hw1 := Lib.hid hw1
  clear hS hw1 st1
  have SZS := Lib.hid (show S = w.heap.size from HS.out)
  obtain ⟨M, hM⟩ : ∃ z, z = w1.heap.size := ⟨_, rfl⟩
  obtain ⟨w2, hw2⟩ : ∃ z, z = w1.alloc (.cells (dV m) 23) := ⟨_, rfl⟩
  have st2 : Below w1.heap.size w1 w2 := by rw [hw2]; exact (Below.refl _ _).alloc (Nat.le_refl _) _
  have B2 := Lib.hid (show Below w.heap.size w w2 from Below.trans B1.out (Below.mono st2 (Below.size B1.out)))
  have GS_2 := Lib.hid ((Below.block st2 S LS_1.out).trans GS_1.out)
  have LS_2 := Lib.hid (Nat.lt_of_lt_of_le LS_1.out (Below.size st2))
  have GM_2 := Lib.hid (show w2.heap[M]? = some (.cells (dV m) 23 (0, 0)) by rw [hw2, hM]; exact heap_alloc_new _ _)
  have LM_2 := Lib.hid (lt_of_heap GM_2.out)
  have HM := Lib.hid hM
  have Hw2 := Lib.hid hw2
  clear hM hw2 st2
  have SZM := Lib.hid (show M = w.heap.size + 1 by rw [HM.out, Hw1.out, World.size_alloc, ← HS.out, SZS.out])
  go_enter Tryz.func29, Tryz.ntmps29
  go_upto_region 1 with fail
  rw [← SZM.out, ← SZS.out, ← Hw1.out, ← Hw2.out]
  go_wp2_with (first
    | (refine at_ld 23 (.tmp 3) rfl ?_; (refine ld_digG rfl (.tmp 3) rfl (M) 0 (by rfl) m ML.out (range_of_row GM_2.out) ?_); simp only [Act.put, List.setIfInBounds_toArray, List.set_cons_zero, List.set_cons_succ]))
  refine (Nib_calls m ML.out w2).mono ?_
  rintro e w3 ⟨na, nc, rfl, hown, hb3⟩
  have B3 := Lib.hid (show Below w.heap.size w w3 from Below.trans B2.out (Below.mono hb3 (Below.size B2.out)))
  have GS_3 := Lib.hid ((Below.block hb3 S LS_2.out).trans GS_2.out)
  have LS_3 := Lib.hid (Nat.lt_of_lt_of_le LS_2.out (Below.size hb3))
  have GM_3 := Lib.hid ((Below.block hb3 M LM_2.out).trans GM_2.out)
  have LM_3 := Lib.hid (Nat.lt_of_lt_of_le LM_2.out (Below.size hb3))
  have RN_3 := Lib.hid (Rd.of_own hown)
  clear hown
  clear hb3
  have RNb := RN_3
  have GSb := GS_3
  have LSb := LS_3
  have BB := Lib.hid B3.out
  go_wp2_with fail
  go_loopw [6, 7] (fun v i wr => ∃ k : Nat, k ≤ 67 ∧ i = .int .i64 k ∧ Hid (RowI w3 (fun i => walkD (secD seed i) ((nibs m).getD i 0)) k v wr)) (fun _ i _ => 67 - (intOf i).toNat)
  case atStart => exact ⟨0, Nat.zero_le _, rfl, Lib.hid ⟨World.ownsRow_nil _ _ _ _, Below.refl _ _⟩⟩
  case round =>
    obtain ⟨k, hk, rfl, HI⟩ := hrel
    by_cases hlt : k < 67
    · obtain ⟨Bn, on, hna, hBn, hcn⟩ := RNb.out.cell (k := k) (by rw [List.length_map, NL.out]; exact hlt)
      have cn := hcn k (by rw [List.length_map, NL.out]; exact hlt)
      obtain ⟨N, hN⟩ : ∃ N, N = (nibs m).getD k 0 := ⟨_, rfl⟩
      have hcn2 : w3.cell? ⟨Bn, on + k, none⟩ = some (.int .i64 (N : Int)) := by
        rw [cn, hN, List.getD_eq_getElem?_getD, List.getElem?_eq_getElem (by rw [NL.out]; exact hlt), List.getElem_map]; rfl
      have hN15 : N ≤ 15 := by rw [hN, List.getD_eq_getElem?_getD, List.getElem?_eq_getElem (by rw [NL.out]; exact hlt)]; exact nibs_le m _ (List.getElem_mem _)
      have CN := Lib.hid hcn2
      have HN := Lib.hid hN
      have i0 : (0 : Int) ≤ (k : Int) := by omega
      have i1 : (k : Int) < 67 := by omega
      clear hcn cn hcn2 hN
      subst hna
      obtain ⟨ra, rc, hrow⟩ := own_slice HI.out.own
      subst hrow
      have HO := Lib.hid HI.out.own
      have HBL := Lib.hid HI.out.bel
      clear HI
      go_wp2_with fail
      have XL := Lib.hid (secD_length seed k)
      refine wp_region_held_drew (S := fun w' => Below w3.heap.size w3 w') (by kernel_rfl) (HBL.out.drew) (fun hHeld => ?_)
      refine wpAnyH_take (i := 0) (oi := _) (v := .slice ra k rc) rfl (by kernel_rfl) (by kernel_rfl) (by kernel_rfl) (fun _ _ _ h => h) (Or.inl ⟨by rfl, fun w hw => by go_simp⟩) hHeld ?_
      simp only [Act.put, List.getElem_toArray, List.getElem_cons_zero, List.getElem_cons_succ, List.setIfInBounds_toArray, List.set_cons_zero, List.set_cons_succ]
      refine wpAnyH_take (i := 1) (oi := _) (v := _) rfl (by kernel_rfl) (by kernel_rfl) (by kernel_rfl) (fun _ _ _ h => h) (yieldsIf_load_mid (by rfl) _ _ rfl _ _ rfl (seed.map vB) _ (fun w hw => range_of_row ((Below.block hw S LSb.out).trans GSb.out)) Tryz.underlying23 rfl HIS.out) hHeld ?_
      simp only [Act.put, List.getElem_toArray, List.getElem_cons_zero, List.getElem_cons_succ, List.setIfInBounds_toArray, List.set_cons_zero, List.set_cons_succ]
      refine wpAnyH_take (i := 2) (oi := _) (v := .int .i64 (k : Int)) rfl (by kernel_rfl) (by kernel_rfl) (by kernel_rfl) (fun _ _ _ h => h) (Or.inl ⟨by rfl, fun w hw => by go_simp⟩) hHeld ?_
      simp only [Act.put, List.getElem_toArray, List.getElem_cons_zero, List.getElem_cons_succ, List.setIfInBounds_toArray, List.set_cons_zero, List.set_cons_succ]
      refine wpAnyH_take (i := 4) (oi := _) (v := .slice (some ⟨Bn, on, none⟩) 67 nc) rfl (by kernel_rfl) (by kernel_rfl) (by kernel_rfl) (fun _ _ _ h => h) (Or.inl ⟨by rfl, fun w hw => by go_simp⟩) hHeld ?_
      simp only [Act.put, List.getElem_toArray, List.getElem_cons_zero, List.getElem_cons_succ, List.setIfInBounds_toArray, List.set_cons_zero, List.set_cons_succ]
      refine wpAnyH_take (i := 5) (oi := _) (v := .int .i64 (k : Int)) rfl (by kernel_rfl) (by kernel_rfl) (by kernel_rfl) (fun _ _ _ h => h) (Or.inl ⟨by rfl, fun w hw => by go_simp⟩) hHeld ?_
      simp only [Act.put, List.getElem_toArray, List.getElem_cons_zero, List.getElem_cons_succ, List.setIfInBounds_toArray, List.set_cons_zero, List.set_cons_succ]
      refine wpAnyH_take (i := 6) (oi := _) (v := .pointer (some ⟨Bn, on + k, none⟩)) rfl (by kernel_rfl) (by kernel_rfl) (by kernel_rfl) (fun _ _ _ h => h) (Or.inl ⟨by rfl, fun w hw => by go_simp⟩) hHeld ?_
      simp only [Act.put, List.getElem_toArray, List.getElem_cons_zero, List.getElem_cons_succ, List.setIfInBounds_toArray, List.set_cons_zero, List.set_cons_succ]
      refine wpAnyH_take (i := 7) (oi := _) (v := .int .i64 (N : Int)) rfl (by kernel_rfl) (by kernel_rfl) (by kernel_rfl) (fun _ _ _ h => h) (Or.inl ⟨by rfl, fun w hw => by have hcc := (Below.cell hw (p := ⟨Bn, on + k, none⟩) hBn).trans CN.out; go_simp⟩) hHeld ?_
      simp only [Act.put, List.getElem_toArray, List.getElem_cons_zero, List.getElem_cons_succ, List.setIfInBounds_toArray, List.set_cons_zero, List.set_cons_succ]
      refine wpAnyH_ready (rs := [3]) (by kernel_rfl) (by simp) ?_
      refine AllReadyH.cons (o := _) rfl (fun K hK => ?_) AllReadyH.nil
      have HK := Lib.hid hK
      clear hK
      go_simp
      go_at_call 41
      refine (RSecretK seed SL.out k (by omega) wr.drew).mono ?_
      rintro e w81 ⟨rfl, hb_w81⟩
      have BW_w81 := Lib.hid (show Below wr.heap.size wr w81 from Below.trans ((Below.refl wr.heap.size wr).drew) (hb_w81.mono (Below.size ((Below.refl wr.heap.size wr).drew))))
      clear hb_w81
      dsimp only
      refine HK.out _ _ (HBL.out.trans (Below.mono BW_w81.out HBL.out.size)) ?_
      clear HK K hHeld
      try simp only [Act.put, List.getElem_toArray, List.getElem_cons_zero, List.getElem_cons_succ, List.setIfInBounds_toArray, List.set_cons_zero, List.set_cons_succ]
      intro hHeld
      refine wpAnyH_ready (rs := [8]) (by kernel_rfl) (by simp) ?_
      refine AllReadyH.cons (o := _) rfl (fun K hK => ?_) AllReadyH.nil
      have HK := Lib.hid hK
      clear hK
      go_simp
      go_at_call 40
      refine (RWalked_calls (secD seed k) (secD_length seed k) N (by omega) w81).mono ?_
      rintro e w82 ⟨rfl, hb_w82⟩
      have BW_w82 := Lib.hid (show Below wr.heap.size wr w82 from Below.trans BW_w81.out (hb_w82.mono (Below.size BW_w81.out)))
      clear hb_w82
      dsimp only
      refine HK.out _ _ (HBL.out.trans (Below.mono BW_w82.out HBL.out.size)) ?_
      clear HK K hHeld
      try simp only [Act.put, List.getElem_toArray, List.getElem_cons_zero, List.getElem_cons_succ, List.setIfInBounds_toArray, List.set_cons_zero, List.set_cons_succ]
      intro hHeld
      obtain ⟨R, hR⟩ : ∃ R, R = walkD (secD seed k) N := ⟨_, rfl⟩
      rw [← hR]
      have RL := Lib.hid (show R.length = 32 by rw [hR]; exact walkD_length XL.out _)
      have HFL := Lib.hid (show ((List.range (k + 1)).map (fun i => walkD (secD seed i) ((nibs m).getD i 0))).flatten.map vB = ((List.range k).map (fun i => walkD (secD seed i) ((nibs m).getD i 0))).flatten.map vB ++ R.map vB by rw [hR, HN.out]; exact RowI.snoc _ k)
      clear hR
      obtain ⟨T, hT⟩ : ∃ z, z = w82.heap.size := ⟨_, rfl⟩
      obtain ⟨w83, hw83⟩ : ∃ z, z = w82.alloc (.cells (dV R) 23) := ⟨_, rfl⟩
      have BW83 := Lib.hid (show Below wr.heap.size wr w83 by rw [hw83]; exact BW_w82.out.alloc BW_w82.out.size _)
      have GT := Lib.hid (show w83.heap[T]? = some (.cells (dV R) 23 (0, 0)) by rw [hw83, hT]; exact heap_alloc_new _ _)
      have HT := Lib.hid hT
      have HW83 := Lib.hid hw83
      clear hT hw83
      refine wpAnyH_ready (rs := [9]) (by kernel_rfl) (by simp) ?_
      refine AllReadyH.cons (o := _) rfl (fun K hK => ?_) AllReadyH.nil
      have HK := Lib.hid hK
      clear hK
      refine stepBuild1 24 23 _ 32 32 Tryz.underlying24 info_digz2 (by omega) (by omega) rfl _ rfl (dV R) (by rfl) (dV_size RL.out) ?_
      rw [← HT.out, ← HW83.out]
      refine HK.out _ _ (HBL.out.trans (Below.mono BW83.out HBL.out.size)) ?_
      clear HK K hHeld
      try simp only [Act.put, List.getElem_toArray, List.getElem_cons_zero, List.getElem_cons_succ, List.setIfInBounds_toArray, List.set_cons_zero, List.set_cons_succ]
      intro hHeld
      have O3 := Lib.hid (own_below HO.out BW83.out)
      have hs3 : w3.heap.size ≤ w83.heap.size := Nat.le_trans HBL.out.size BW83.out.size
      refine wpAnyH_ready (rs := [10]) (by kernel_rfl) (by simp) ?_
      refine AllReadyH.cons (o := _) rfl (fun K hK => ?_) AllReadyH.nil
      have HK := Lib.hid hK
      clear hK
      refine stepAppRdR 24 23 (.agg (dV nz)) 32 32 Tryz.underlying24 info_digz2 (dV_size rfl) (by omega) rfl (.tmp 14) (.tmp 23) rfl w3.heap.size _ k _ (by rfl) O3.out ⟨T, 0, none⟩ 1 1 (R.map vB) (by rfl) _ (rd_of_row GT.out) (by rw [List.length_map, RL.out]) (one_bytes R) (by omega) (by omega) (by omega) hs3 _ rfl ?_
      intro g cp w9 hown9 hgrow9 _ _
      rw [← HFL.out] at hown9
      have b39 : Below w3.heap.size w3 w9 := below_grow (HBL.out.trans (Below.mono BW83.out HBL.out.size)) O3.out hgrow9 hs3
      have E9 := Lib.hid (show RowI w3 (fun i => walkD (secD seed i) ((nibs m).getD i 0)) (k + 1) (.slice (some ⟨g, 0, none⟩) (k + 1) cp) w9 from ⟨hown9, b39⟩)
      clear hown9 hgrow9
      refine HK.out _ _ b39 ?_
      clear HK K hHeld
      try simp only [Act.put, List.getElem_toArray, List.getElem_cons_zero, List.getElem_cons_succ, List.setIfInBounds_toArray, List.set_cons_zero, List.set_cons_succ]
      intro hHeld
      clear b39
      refine wpAnyH_take (i := 11) (oi := _) (v := .slice (some ⟨g, 0, none⟩) (k + 1) cp) rfl (by kernel_rfl) (by kernel_rfl) (by kernel_rfl) (fun _ _ _ h => h) (Or.inl ⟨by rfl, fun w hw => by go_simp⟩) hHeld ?_
      simp only [Act.put, List.getElem_toArray, List.getElem_cons_zero, List.getElem_cons_succ, List.setIfInBounds_toArray, List.set_cons_zero, List.set_cons_succ]
      refine wpAnyH_done (by kernel_rfl) ?_ _
      clear hHeld
      go_wp2_with fail
      go_roundw
      case rel => exact ⟨k + 1, by omega, by go_num, E9⟩
      case measure => simp [intOf] <;> omega
    · obtain rfl : k = 67 := by omega
      obtain ⟨av, cp, rfl⟩ := own_slice HI.out.own
      go_wp2_with fail
      go_ret
      exact ⟨av, cp, rfl, own_base HI.out.own BB.out.size, BB.out.trans (HI.out.bel.mono BB.out.size)⟩
set_option maxRecDepth 20000 in
set_option maxHeartbeats 4000000 in
theorem RWKey_calls (m : List UInt8) (hm : m.length = 32) (sig : List (List UInt8)) (h67 : sig.length = 67) (hd : ∀ d ∈ sig, d.length = 32) (a : Option Addr) (cap e : Nat) (w : World) (hr : Rd w a e (sig.flatten.map vB)) :
    Calls Tryz.prog 38 #[.agg (dV m), .slice a sig.length cap] w fun e w' => e = .returned (.agg (dV (wkey m sig))) ∧ Below w.heap.size w w' := by
  have hz : nz.length = 32 := rfl
  have ZL := Lib.hid hz
  clear hz
  have ML := Lib.hid hm
  have HSD := Lib.hid hd
  have HRD_0 := Lib.hid hr
  have S67 := Lib.hid h67
  have NL := Lib.hid (nibs_length m)
  clear hm hd hr
  rw [h67]
  clear h67
  obtain ⟨M, hM⟩ : ∃ z, z = w.heap.size := ⟨_, rfl⟩
  obtain ⟨w1, hw1⟩ : ∃ z, z = w.alloc (.cells (dV m) 23) := ⟨_, rfl⟩
  have st1 : Below w.heap.size w w1 := by rw [hw1]; exact (Below.refl _ _).alloc (Nat.le_refl _) _
  have B1 := Lib.hid (show Below w.heap.size w w1 from Below.trans (Below.refl w.heap.size w) (Below.mono st1 (Below.size (Below.refl w.heap.size w))))
  have HRD_1 := Lib.hid (HRD_0.out.below st1)
  have GM_1 := Lib.hid (show w1.heap[M]? = some (.cells (dV m) 23 (0, 0)) by rw [hw1, hM]; exact heap_alloc_new _ _)
  have LM_1 := Lib.hid (lt_of_heap GM_1.out)
  have HM := Lib.hid hM
  have Hw1 := Lib.hid hw1
  clear hM hw1 st1
  have SZM := Lib.hid (show M = w.heap.size from HM.out)
  obtain ⟨R, hR⟩ : ∃ z, z = w1.heap.size := ⟨_, rfl⟩
  obtain ⟨w2, hw2⟩ : ∃ z, z = w1.alloc (.cells (dV nz) 23) := ⟨_, rfl⟩
  have st2 : Below w1.heap.size w1 w2 := by rw [hw2]; exact (Below.refl _ _).alloc (Nat.le_refl _) _
  have B2 := Lib.hid (show Below w.heap.size w w2 from Below.trans B1.out (Below.mono st2 (Below.size B1.out)))
  have GM_2 := Lib.hid ((Below.block st2 M LM_1.out).trans GM_1.out)
  have LM_2 := Lib.hid (Nat.lt_of_lt_of_le LM_1.out (Below.size st2))
  have HRD_2 := Lib.hid (HRD_1.out.below st2)
  have GR_2 := Lib.hid (show w2.heap[R]? = some (.cells (dV nz) 23 (0, 0)) by rw [hw2, hR]; exact heap_alloc_new _ _)
  have LR_2 := Lib.hid (lt_of_heap GR_2.out)
  have HR := Lib.hid hR
  have Hw2 := Lib.hid hw2
  clear hR hw2 st2
  have SZR := Lib.hid (show R = w.heap.size + 1 by rw [HR.out, Hw1.out, World.size_alloc, ← HM.out, SZM.out])
  go_enter Tryz.func38, Tryz.ntmps38
  go_upto_region 1 with fail
  rw [zdig]
  rw [← SZR.out, ← SZM.out, ← Hw1.out, ← Hw2.out]
  go_wp2_with (first
    | (refine at_ld 23 (.tmp 2) rfl ?_; (refine ld_digG rfl (.tmp 2) rfl (M) 0 (by rfl) m ML.out (range_of_row GM_2.out) ?_); simp only [Act.put, List.setIfInBounds_toArray, List.set_cons_zero, List.set_cons_succ]))
  refine (Nib_calls m ML.out w2).mono ?_
  rintro e w3 ⟨na, nc, rfl, hown, hb3⟩
  have B3 := Lib.hid (show Below w.heap.size w w3 from Below.trans B2.out (Below.mono hb3 (Below.size B2.out)))
  have GM_3 := Lib.hid ((Below.block hb3 M LM_2.out).trans GM_2.out)
  have LM_3 := Lib.hid (Nat.lt_of_lt_of_le LM_2.out (Below.size hb3))
  have GR_3 := Lib.hid ((Below.block hb3 R LR_2.out).trans GR_2.out)
  have LR_3 := Lib.hid (Nat.lt_of_lt_of_le LR_2.out (Below.size hb3))
  have HRD_3 := Lib.hid (HRD_2.out.below hb3)
  have RN_3 := Lib.hid (Rd.of_own hown)
  clear hown
  clear hb3
  have RNb := RN_3
  have RSb := HRD_3
  have GRb := GR_3
  have LRb := LR_3
  have BB := Lib.hid B3.out
  go_wp2_with fail
  go_loopw [6, 7] (fun v i wr => ∃ k : Nat, k ≤ 67 ∧ i = .int .i64 k ∧ Hid (RowI w3 (fun i => walkD (sig.getD i []) (15 - (nibs m).getD i 0)) k v wr)) (fun _ i _ => 67 - (intOf i).toNat)
  case atStart => exact ⟨0, Nat.zero_le _, rfl, Lib.hid ⟨World.ownsRow_nil _ _ _ _, Below.refl _ _⟩⟩
  case round =>
    obtain ⟨k, hk, rfl, HI⟩ := hrel
    by_cases hlt : k < 67
    · obtain ⟨Bn, on, hna, hBn, hcn⟩ := RNb.out.cell (k := k) (by rw [List.length_map, NL.out]; exact hlt)
      have cn := hcn k (by rw [List.length_map, NL.out]; exact hlt)
      obtain ⟨N, hN⟩ : ∃ N, N = (nibs m).getD k 0 := ⟨_, rfl⟩
      have hcn2 : w3.cell? ⟨Bn, on + k, none⟩ = some (.int .i64 (N : Int)) := by
        rw [cn, hN, List.getD_eq_getElem?_getD, List.getElem?_eq_getElem (by rw [NL.out]; exact hlt), List.getElem_map]; rfl
      have hN15 : N ≤ 15 := by rw [hN, List.getD_eq_getElem?_getD, List.getElem?_eq_getElem (by rw [NL.out]; exact hlt)]; exact nibs_le m _ (List.getElem_mem _)
      have CN := Lib.hid hcn2
      have HN := Lib.hid hN
      have i0 : (0 : Int) ≤ (k : Int) := by omega
      have i1 : (k : Int) < 67 := by omega
      clear hcn cn hcn2 hN
      subst hna
      obtain ⟨Bs, os, hsa, hBs, hrs⟩ := RSb.out.range HSD.out (k := k) (by rw [S67.out]; exact hlt)
      have hXL := HSD.out _ (List.getElem_mem (show k < sig.length by rw [S67.out]; exact hlt))
      have eX : sig.getD k [] = sig[k]'(by rw [S67.out]; exact hlt) := by rw [List.getD_eq_getElem?_getD, List.getElem?_eq_getElem (by rw [S67.out]; exact hlt)]; rfl
      obtain ⟨X, hX⟩ : ∃ X, X = sig[k]'(by rw [S67.out]; exact hlt) := ⟨_, rfl⟩
      rw [← hX] at hrs hXL eX
      have XL := Lib.hid hXL
      have HRS := Lib.hid hrs
      have HEX := Lib.hid eX
      have hiS : (Tryz.prog.info? 23).map (·.size) = some (X.map vB).length := by rw [List.length_map, XL.out]; exact dig_size
      have HIS := Lib.hid hiS
      obtain ⟨M2, hM2⟩ : ∃ z, z = 15 - N := ⟨_, rfl⟩
      have s1 : (15 : Int) - (N : Int) = (M2 : Int) := by omega
      have s2 : IntKind.i64.wrap (M2 : Int) = (M2 : Int) := IntWalk.i64_in _ (by omega)
      have hM1 : M2 ≤ 1000 := by omega
      have HM2 := Lib.hid hM2
      clear hrs hXL eX hX hiS hM2
      subst hsa
      obtain ⟨ra, rc, hrow⟩ := own_slice HI.out.own
      subst hrow
      have HO := Lib.hid HI.out.own
      have HBL := Lib.hid HI.out.bel
      clear HI
      go_wp2_with fail
      refine wp_region_held_drew (S := fun w' => Below w3.heap.size w3 w') (by kernel_rfl) (HBL.out.drew) (fun hHeld => ?_)
      refine wpAnyH_take (i := 0) (oi := _) (v := .slice ra k rc) rfl (by kernel_rfl) (by kernel_rfl) (by kernel_rfl) (fun _ _ _ h => h) (Or.inl ⟨by rfl, fun w hw => by go_simp⟩) hHeld ?_
      simp only [Act.put, List.getElem_toArray, List.getElem_cons_zero, List.getElem_cons_succ, List.setIfInBounds_toArray, List.set_cons_zero, List.set_cons_succ]
      refine wpAnyH_take (i := 1) (oi := _) (v := .slice (some ⟨Bs, os, none⟩) 67 cap) rfl (by kernel_rfl) (by kernel_rfl) (by kernel_rfl) (fun _ _ _ h => h) (Or.inl ⟨by rfl, fun w hw => by go_simp⟩) hHeld ?_
      simp only [Act.put, List.getElem_toArray, List.getElem_cons_zero, List.getElem_cons_succ, List.setIfInBounds_toArray, List.set_cons_zero, List.set_cons_succ]
      refine wpAnyH_take (i := 2) (oi := _) (v := .int .i64 (k : Int)) rfl (by kernel_rfl) (by kernel_rfl) (by kernel_rfl) (fun _ _ _ h => h) (Or.inl ⟨by rfl, fun w hw => by go_simp⟩) hHeld ?_
      simp only [Act.put, List.getElem_toArray, List.getElem_cons_zero, List.getElem_cons_succ, List.setIfInBounds_toArray, List.set_cons_zero, List.set_cons_succ]
      refine wpAnyH_take (i := 3) (oi := _) (v := .pointer (some ⟨Bs, os + k * 32, none⟩)) rfl (by kernel_rfl) (by kernel_rfl) (by kernel_rfl) (fun _ _ _ h => h) (Or.inl ⟨by rfl, fun w hw => by go_simp⟩) hHeld ?_
      simp only [Act.put, List.getElem_toArray, List.getElem_cons_zero, List.getElem_cons_succ, List.setIfInBounds_toArray, List.set_cons_zero, List.set_cons_succ]
      refine wpAnyH_take (i := 4) (oi := _) (v := _) rfl (by kernel_rfl) (by kernel_rfl) (by kernel_rfl) (fun _ _ _ h => h) (yieldsIf_load_mid (by rfl) _ _ rfl _ _ rfl (X.map vB) _ (fun w hw => fun j v hj => (Below.cell hw (p := ⟨Bs, os + k * 32 + j, none⟩) hBs).trans (HRS.out j v hj)) Tryz.underlying23 rfl HIS.out) hHeld ?_
      simp only [Act.put, List.getElem_toArray, List.getElem_cons_zero, List.getElem_cons_succ, List.setIfInBounds_toArray, List.set_cons_zero, List.set_cons_succ]
      refine wpAnyH_take (i := 5) (oi := _) (v := .slice (some ⟨Bn, on, none⟩) 67 nc) rfl (by kernel_rfl) (by kernel_rfl) (by kernel_rfl) (fun _ _ _ h => h) (Or.inl ⟨by rfl, fun w hw => by go_simp⟩) hHeld ?_
      simp only [Act.put, List.getElem_toArray, List.getElem_cons_zero, List.getElem_cons_succ, List.setIfInBounds_toArray, List.set_cons_zero, List.set_cons_succ]
      refine wpAnyH_take (i := 6) (oi := _) (v := .int .i64 (k : Int)) rfl (by kernel_rfl) (by kernel_rfl) (by kernel_rfl) (fun _ _ _ h => h) (Or.inl ⟨by rfl, fun w hw => by go_simp⟩) hHeld ?_
      simp only [Act.put, List.getElem_toArray, List.getElem_cons_zero, List.getElem_cons_succ, List.setIfInBounds_toArray, List.set_cons_zero, List.set_cons_succ]
      refine wpAnyH_take (i := 7) (oi := _) (v := .pointer (some ⟨Bn, on + k, none⟩)) rfl (by kernel_rfl) (by kernel_rfl) (by kernel_rfl) (fun _ _ _ h => h) (Or.inl ⟨by rfl, fun w hw => by go_simp⟩) hHeld ?_
      simp only [Act.put, List.getElem_toArray, List.getElem_cons_zero, List.getElem_cons_succ, List.setIfInBounds_toArray, List.set_cons_zero, List.set_cons_succ]
      refine wpAnyH_take (i := 8) (oi := _) (v := .int .i64 (N : Int)) rfl (by kernel_rfl) (by kernel_rfl) (by kernel_rfl) (fun _ _ _ h => h) (Or.inl ⟨by rfl, fun w hw => by have hcc := (Below.cell hw (p := ⟨Bn, on + k, none⟩) hBn).trans CN.out; go_simp⟩) hHeld ?_
      simp only [Act.put, List.getElem_toArray, List.getElem_cons_zero, List.getElem_cons_succ, List.setIfInBounds_toArray, List.set_cons_zero, List.set_cons_succ]
      refine wpAnyH_take (i := 9) (oi := _) (v := .int .i64 (M2 : Int)) rfl (by kernel_rfl) (by kernel_rfl) (by kernel_rfl) (fun _ _ _ h => h) (Or.inl ⟨by rfl, fun w hw => by go_simp⟩) hHeld ?_
      simp only [Act.put, List.getElem_toArray, List.getElem_cons_zero, List.getElem_cons_succ, List.setIfInBounds_toArray, List.set_cons_zero, List.set_cons_succ]
      refine wpAnyH_ready (rs := [10]) (by kernel_rfl) (by simp) ?_
      refine AllReadyH.cons (o := _) rfl (fun K hK => ?_) AllReadyH.nil
      have HK := Lib.hid hK
      clear hK
      go_simp
      go_at_call 40
      refine (RWalked_calls X XL.out M2 hM1 wr.drew).mono ?_
      rintro e w82 ⟨rfl, hb_w82⟩
      have BW_w82 := Lib.hid (show Below wr.heap.size wr w82 from Below.trans ((Below.refl wr.heap.size wr).drew) (hb_w82.mono (Below.size ((Below.refl wr.heap.size wr).drew))))
      clear hb_w82
      dsimp only
      refine HK.out _ _ (HBL.out.trans (Below.mono BW_w82.out HBL.out.size)) ?_
      clear HK K hHeld
      try simp only [Act.put, List.getElem_toArray, List.getElem_cons_zero, List.getElem_cons_succ, List.setIfInBounds_toArray, List.set_cons_zero, List.set_cons_succ]
      intro hHeld
      obtain ⟨R, hR⟩ : ∃ R, R = walkD X M2 := ⟨_, rfl⟩
      rw [← hR]
      have RL := Lib.hid (show R.length = 32 by rw [hR]; exact walkD_length XL.out _)
      have HFL := Lib.hid (show ((List.range (k + 1)).map (fun i => walkD (sig.getD i []) (15 - (nibs m).getD i 0))).flatten.map vB = ((List.range k).map (fun i => walkD (sig.getD i []) (15 - (nibs m).getD i 0))).flatten.map vB ++ R.map vB by rw [hR, HM2.out, HN.out, ← HEX.out]; exact RowI.snoc _ k)
      clear hR
      obtain ⟨T, hT⟩ : ∃ z, z = w82.heap.size := ⟨_, rfl⟩
      obtain ⟨w83, hw83⟩ : ∃ z, z = w82.alloc (.cells (dV R) 23) := ⟨_, rfl⟩
      have BW83 := Lib.hid (show Below wr.heap.size wr w83 by rw [hw83]; exact BW_w82.out.alloc BW_w82.out.size _)
      have GT := Lib.hid (show w83.heap[T]? = some (.cells (dV R) 23 (0, 0)) by rw [hw83, hT]; exact heap_alloc_new _ _)
      have HT := Lib.hid hT
      have HW83 := Lib.hid hw83
      clear hT hw83
      refine wpAnyH_ready (rs := [11]) (by kernel_rfl) (by simp) ?_
      refine AllReadyH.cons (o := _) rfl (fun K hK => ?_) AllReadyH.nil
      have HK := Lib.hid hK
      clear hK
      refine stepBuild1 24 23 _ 32 32 Tryz.underlying24 info_digz2 (by omega) (by omega) rfl _ rfl (dV R) (by rfl) (dV_size RL.out) ?_
      rw [← HT.out, ← HW83.out]
      refine HK.out _ _ (HBL.out.trans (Below.mono BW83.out HBL.out.size)) ?_
      clear HK K hHeld
      try simp only [Act.put, List.getElem_toArray, List.getElem_cons_zero, List.getElem_cons_succ, List.setIfInBounds_toArray, List.set_cons_zero, List.set_cons_succ]
      intro hHeld
      have O3 := Lib.hid (own_below HO.out BW83.out)
      have hs3 : w3.heap.size ≤ w83.heap.size := Nat.le_trans HBL.out.size BW83.out.size
      refine wpAnyH_ready (rs := [12]) (by kernel_rfl) (by simp) ?_
      refine AllReadyH.cons (o := _) rfl (fun K hK => ?_) AllReadyH.nil
      have HK := Lib.hid hK
      clear hK
      refine stepAppRdR 24 23 (.agg (dV nz)) 32 32 Tryz.underlying24 info_digz2 (dV_size rfl) (by omega) rfl (.tmp 14) (.tmp 25) rfl w3.heap.size _ k _ (by rfl) O3.out ⟨T, 0, none⟩ 1 1 (R.map vB) (by rfl) _ (rd_of_row GT.out) (by rw [List.length_map, RL.out]) (one_bytes R) (by omega) (by omega) (by omega) hs3 _ rfl ?_
      intro g cp w9 hown9 hgrow9 _ _
      rw [← HFL.out] at hown9
      have b39 : Below w3.heap.size w3 w9 := below_grow (HBL.out.trans (Below.mono BW83.out HBL.out.size)) O3.out hgrow9 hs3
      have E9 := Lib.hid (show RowI w3 (fun i => walkD (sig.getD i []) (15 - (nibs m).getD i 0)) (k + 1) (.slice (some ⟨g, 0, none⟩) (k + 1) cp) w9 from ⟨hown9, b39⟩)
      clear hown9 hgrow9
      refine HK.out _ _ b39 ?_
      clear HK K hHeld
      try simp only [Act.put, List.getElem_toArray, List.getElem_cons_zero, List.getElem_cons_succ, List.setIfInBounds_toArray, List.set_cons_zero, List.set_cons_succ]
      intro hHeld
      clear b39
      refine wpAnyH_take (i := 13) (oi := _) (v := .slice (some ⟨g, 0, none⟩) (k + 1) cp) rfl (by kernel_rfl) (by kernel_rfl) (by kernel_rfl) (fun _ _ _ h => h) (Or.inl ⟨by rfl, fun w hw => by go_simp⟩) hHeld ?_
      simp only [Act.put, List.getElem_toArray, List.getElem_cons_zero, List.getElem_cons_succ, List.setIfInBounds_toArray, List.set_cons_zero, List.set_cons_succ]
      refine wpAnyH_done (by kernel_rfl) ?_ _
      clear hHeld
      go_wp2_with fail
      go_roundw
      case rel => exact ⟨k + 1, by omega, by go_num, E9⟩
      case measure => simp [intOf] <;> omega
    · obtain rfl : k = 67 := by omega
      obtain ⟨av, cp, rfl⟩ := own_slice HI.out.own
      have HO := Lib.hid (ROf_calls 7 ((List.range 67).map (fun i => walkD (sig.getD i []) (15 - (nibs m).getD i 0))) (ends_dig (fun k => sig.getD k []) (fun k hk => by rw [List.getD_eq_getElem?_getD, List.getElem?_eq_getElem (by rw [S67.out]; exact hk)]; exact HSD.out _ (List.getElem_mem _)) (fun k => 15 - (nibs m).getD k 0)) (by simp) av cp _ wr (Rd.of_own HI.out.own))
      rw [show ((List.range 67).map (fun i => walkD (sig.getD i []) (15 - (nibs m).getD i 0))).length = 67 by simp] at HO
      have HW := Lib.hid (show shaOf (7 :: ((List.range 67).map (fun i => walkD (sig.getD i []) (15 - (nibs m).getD i 0))).flatten) = wkey m sig from rfl)
      rw [HW.out] at HO
      have GR := Lib.hid ((HI.out.bel.block R LRb.out).trans GRb.out)
      have BR := Lib.hid (BB.out.trans (HI.out.bel.mono BB.out.size))
      go_wp2_with fail
      refine HO.out.mono ?_
      rintro e w7 ⟨rfl, hb7⟩
      have G7 := Lib.hid ((hb7.block R (lt_of_heap GR.out)).trans GR.out)
      have B7 := Lib.hid (BR.out.trans (hb7.mono BR.out.size))
      clear hb7 HO
      go_wp2_with (refine st_row rfl (.tmp 4) (.tmp 28) rfl R (wkey m sig) (wkey_length _ _) (by rfl) (by rfl) (dV nz) (dV_size ZL.out) _ G7.out ?_)
      try simp only [Exit.inBlock, Exit.then]
      refine bodyPost_ret (v := .agg (dV (wkey m sig))) (results_cellW rfl _ _ _ ⟨R, 0, none⟩ _ rfl ?_) rfl ?_
      · exact dig_load (wkey_length _ _) (range_of_row (setRow_heap _ _ _ _ _ _ G7.out))
      · exact ⟨rfl, below_setRowW B7.out (by rw [SZR.out]; omega) _⟩
end Go.Proofs.YtkioddmhjbaleaaGreatDoor
