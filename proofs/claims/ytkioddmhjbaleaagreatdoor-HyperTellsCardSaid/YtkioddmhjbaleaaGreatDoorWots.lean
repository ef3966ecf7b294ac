/- Walks: wots.Public, Sign and Recover. -/
import Derived.Test.YtkioddmhjbaleaaGreatDoorEnds
namespace Go.Proofs.YtkioddmhjbaleaaGreatDoor
open Go.RowKit
set_option linter.unusedVariables false
set_option linter.unusedSimpArgs false

theorem ofNat_k (k : Nat) (h : k < 256) : ((UInt8.ofNat k).toNat : Int) = (k : Int) := by simp; omega
theorem SecretK (seed : List UInt8) (hs : seed.length = 32) (k : Nat) (hk : k < 256) (S : Nat) (w : World) (hro : RoundsAt w) (hg : w.heap[S]? = some (.cells (dV seed) 23 (0, 0))) : Calls Tryz.prog 87 #[.int .i64 (k : Int), .pointer (some ⟨S, 0, none⟩)] w fun e w' => e = .returned (.agg (dV (secD seed k))) ∧ Below w.heap.size w w' := by
  have := SecretC_calls seed hs (UInt8.ofNat k) S w hg hro
  rw [ofNat_k k hk] at this
  exact this
theorem flat_ends (D : Nat → List UInt8) (N : Nat → Nat) : (fun i => walkD (D i) (N i)) = fun i => walkD (D i) (N i) := rfl
theorem ends_dig (D : Nat → List UInt8) (hD : ∀ k, k < 67 → (D k).length = 32) (N : Nat → Nat) : ∀ d ∈ (List.range 67).map (fun i => walkD (D i) (N i)), d.length = 32 := by
  intro d hd
  obtain ⟨i, hi, rfl⟩ := List.mem_map.1 hd
  exact walkD_length (hD i (List.mem_range.1 hi)) _
set_option maxRecDepth 20000 in
set_option maxHeartbeats 2000000 in
theorem WPublic_calls (seed : List UInt8) (hs : seed.length = 32) (w : World) (hro : RoundsAt w) :
    Calls Tryz.prog 49 #[.agg (dV seed)] w fun e w' => e = .returned (.agg (dV (wpub seed))) ∧ Below w.heap.size w w' := by
  have hz : nz.length = 32 := rfl
  have ZL := Lib.hid hz
  clear hz
  have SL := Lib.hid hs
  have RO := Lib.hid hro
  clear hs hro
  obtain ⟨S, hS⟩ : ∃ z, z = w.heap.size := ⟨_, rfl⟩
  obtain ⟨w1, hw1⟩ : ∃ z, z = w.alloc (.cells (dV seed) 23) := ⟨_, rfl⟩
  have st1 : Below w.heap.size w w1 := by rw [hw1]; exact (Below.refl _ _).alloc (Nat.le_refl _) _
  have B1 := Lib.hid (show Below w.heap.size w w1 from Below.trans (Below.refl w.heap.size w) (Below.mono st1 (Below.size (Below.refl w.heap.size w))))
  have GS_1 := Lib.hid (show w1.heap[S]? = some (.cells (dV seed) 23 (0, 0)) by rw [hw1, hS]; exact heap_alloc_new _ _)
  have LS_1 := Lib.hid (lt_of_heap GS_1.out)
  have HS := Lib.hid hS
  have Hw1 := Lib.hid hw1
  clear hS hw1 st1
  have SZS := Lib.hid (show S = w.heap.size from HS.out)
  obtain ⟨R, hR⟩ : ∃ z, z = w1.heap.size := ⟨_, rfl⟩
  obtain ⟨w2, hw2⟩ : ∃ z, z = w1.alloc (.cells (dV nz) 23) := ⟨_, rfl⟩
  have st2 : Below w1.heap.size w1 w2 := by rw [hw2]; exact (Below.refl _ _).alloc (Nat.le_refl _) _
  have B2 := Lib.hid (show Below w.heap.size w w2 from Below.trans B1.out (Below.mono st2 (Below.size B1.out)))
  have GS_2 := Lib.hid ((Below.block st2 S LS_1.out).trans GS_1.out)
  have LS_2 := Lib.hid (Nat.lt_of_lt_of_le LS_1.out (Below.size st2))
  have GR_2 := Lib.hid (show w2.heap[R]? = some (.cells (dV nz) 23 (0, 0)) by rw [hw2, hR]; exact heap_alloc_new _ _)
  have LR_2 := Lib.hid (lt_of_heap GR_2.out)
  have HR := Lib.hid hR
  have Hw2 := Lib.hid hw2
  clear hR hw2 st2
  have SZR := Lib.hid (show R = w.heap.size + 1 by rw [HR.out, Hw1.out, World.size_alloc, ← HS.out, SZS.out])
  go_enter Tryz.func49, Tryz.ntmps49
  go_upto_region 1 with fail
  rw [zdig]
  rw [← SZR.out, ← SZS.out, ← Hw1.out, ← Hw2.out]
  go_wp2_with (first
    | (refine at_ld 23 (.tmp 1) rfl ?_; (refine ld_digG rfl (.tmp 1) rfl (S) 0 (by rfl) seed SL.out (range_of_row GS_2.out) ?_); simp only [Act.put, List.setIfInBounds_toArray, List.set_cons_zero, List.set_cons_succ]))
  refine (Secrets_calls seed w2).mono ?_
  rintro e w3 ⟨P, rfl, hP, hgP, hb3⟩
  have B3 := Lib.hid (show Below w.heap.size w w3 from Below.trans B2.out (Below.mono hb3 (Below.size B2.out)))
  have GS_3 := Lib.hid ((Below.block hb3 S LS_2.out).trans GS_2.out)
  have LS_3 := Lib.hid (Nat.lt_of_lt_of_le LS_2.out (Below.size hb3))
  have GR_3 := Lib.hid ((Below.block hb3 R LR_2.out).trans GR_2.out)
  have LR_3 := Lib.hid (Nat.lt_of_lt_of_le LR_2.out (Below.size hb3))
  have GP_3 := Lib.hid hgP
  have LP_3 := Lib.hid (lt_of_heap hgP)
  have HPA := Lib.hid hP
  clear hgP hP
  clear hb3
  have HE := Lib.hid (EndsP_calls (secD seed) (fun k _ => secD_length seed k) (fun _ => 15) (fun _ _ => by omega) (.pointer (some ⟨P, 0, none⟩)) w3 (RO.out.at_ B3.out) (fun k hk w' hb => SecretK seed SL.out k (by omega) P w' ((RO.out.at_ B3.out).at_ hb) ((hb.block P LP_3.out).trans GP_3.out)) (fun k _ w' _ => Fifteen_calls k w'))
  go_wp2_with fail
  refine (HE.out).mono ?_
  rintro e w4 ⟨ea, ec, rfl, hown, hb4⟩
  have B4 := Lib.hid (show Below w.heap.size w w4 from Below.trans B3.out (Below.mono hb4 (Below.size B3.out)))
  have GS_4 := Lib.hid ((Below.block hb4 S LS_3.out).trans GS_3.out)
  have LS_4 := Lib.hid (Nat.lt_of_lt_of_le LS_3.out (Below.size hb4))
  have GR_4 := Lib.hid ((Below.block hb4 R LR_3.out).trans GR_3.out)
  have LR_4 := Lib.hid (Nat.lt_of_lt_of_le LR_3.out (Below.size hb4))
  have GP_4 := Lib.hid ((Below.block hb4 P LP_3.out).trans GP_3.out)
  have LP_4 := Lib.hid (Nat.lt_of_lt_of_le LP_3.out (Below.size hb4))
  have RE_4 := Lib.hid (Rd.of_own hown)
  clear hown HE
  clear hb4
  have HO := Lib.hid (ShaOf_calls 7 ((List.range 67).map fun i => walkD (secD seed i) 15) (ends_dig _ (fun k _ => secD_length seed k) _) (by simp) ea ec _ w4 RE_4.out (RO.out.at_ B4.out))
  rw [show ((List.range 67).map fun i => walkD (secD seed i) 15).length = 67 by simp] at HO
  have HW := Lib.hid (show shaOf (7 :: ((List.range 67).map fun i => walkD (secD seed i) 15).flatten) = wpub seed from rfl)
  rw [HW.out] at HO
  go_wp2_with fail
  refine (HO.out).mono ?_
  rintro e w5 ⟨rfl, hb5⟩
  have B5 := Lib.hid (show Below w.heap.size w w5 from Below.trans B4.out (Below.mono hb5 (Below.size B4.out)))
  have GS_5 := Lib.hid ((Below.block hb5 S LS_4.out).trans GS_4.out)
  have LS_5 := Lib.hid (Nat.lt_of_lt_of_le LS_4.out (Below.size hb5))
  have GR_5 := Lib.hid ((Below.block hb5 R LR_4.out).trans GR_4.out)
  have LR_5 := Lib.hid (Nat.lt_of_lt_of_le LR_4.out (Below.size hb5))
  have GP_5 := Lib.hid ((Below.block hb5 P LP_4.out).trans GP_4.out)
  have LP_5 := Lib.hid (Nat.lt_of_lt_of_le LP_4.out (Below.size hb5))
  have RE_5 := Lib.hid (RE_4.out.below hb5)
  clear HO HW
  clear hb5
  obtain ⟨w6, hw6⟩ : ∃ z, z = w5.setRow R (dV (wpub seed)) := ⟨_, rfl⟩
  have B6 := Lib.hid (show Below w.heap.size w w6 by rw [hw6]; exact below_setRowW B5.out (by rw [HR.out]; exact Below.size B1.out) _)
  have sz6 : w6.heap.size = w5.heap.size := by rw [hw6]; exact setRow_size _ _ _
  have GS_6 := Lib.hid (show w6.heap[S]? = some (.cells (dV seed) 23 (0, 0)) by rw [hw6]; exact (_root_.Go.setRow_other _ _ _ _ (by rw [HR.out]; exact Nat.ne_of_lt LS_1.out)).trans GS_5.out)
  have LS_6 := Lib.hid (show S < w6.heap.size by rw [sz6]; exact LS_5.out)
  have GR_6 := Lib.hid (show w6.heap[R]? = some (.cells (dV (wpub seed)) 23 (0, 0)) by rw [hw6]; exact setRow_heap _ _ _ _ _ _ GR_5.out)
  have LR_6 := Lib.hid (show R < w6.heap.size by rw [sz6]; exact LR_5.out)
  have GP_6 := Lib.hid (show w6.heap[P]? = some (.cells (dV seed) 23 (0, 0)) by rw [hw6]; exact (_root_.Go.setRow_other _ _ _ _ (by have h1 := LR_2.out; have h2 := HPA.out; omega)).trans GP_5.out)
  have LP_6 := Lib.hid (show P < w6.heap.size by rw [sz6]; exact LP_5.out)
  have Hw6 := Lib.hid hw6
  clear hw6 sz6
  go_wp2_with (first
    | (refine at_st 23 (.tmp 2) (.tmp 6) rfl ?_; (refine st_row rfl (.tmp 2) (.tmp 6) rfl R (wpub seed) (wpub_length _) (by rfl) (by rfl) (dV nz) (dV_size ZL.out) _ GR_5.out ?_); rw [← Hw6.out]))
  try simp only [Exit.inBlock, Exit.then]
  refine bodyPost_ret (v := .agg (dV (wpub seed))) (results_cellW rfl _ _ _ ⟨R, 0, none⟩ _ rfl ?_) rfl ?_
  · exact dig_load (wpub_length _) (range_of_row GR_6.out)
  · exact ⟨rfl, B6.out⟩
set_option maxRecDepth 20000 in
set_option maxHeartbeats 2000000 in
theorem WSign_calls (seed m : List UInt8) (hs : seed.length = 32) (hm : m.length = 32) (w : World) (hro : RoundsAt w) :
    Calls Tryz.prog 54 #[.agg (dV seed), .agg (dV m)] w fun e w' => ∃ a cap, e = .returned (.slice a 67 cap) ∧ w'.ownsRow w.heap.size 23 32 (.slice a 67 cap) 67 ((wsig seed m).flatten.map vB) ∧ Below w.heap.size w w' := by
  have SL := Lib.hid hs
  have ML := Lib.hid hm
  have NL := Lib.hid (nibs_length m)
  have RO := Lib.hid hro
  clear hs hm hro
  have hmf : ∀ (fn : Fn) (first cap : Array Value) (w : World), (Instr.makeFunc fn first cap).run Tryz.prog w = .ok (.func fn first cap) w := fun _ _ _ _ => rfl
  obtain ⟨S, hS⟩ : ∃ z, z = w.heap.size := ⟨_, rfl⟩
  obtain ⟨w1, hw1⟩ : ∃ z, z = w.alloc (.cells (dV seed) 23) := ⟨_, rfl⟩
  have st1 : Below w.heap.size w w1 := by rw [hw1]; exact (Below.refl _ _).alloc (Nat.le_refl _) _
  have B1 := Lib.hid (show Below w.heap.size w w1 from Below.trans (Below.refl w.heap.size w) (Below.mono st1 (Below.size (Below.refl w.heap.size w))))
  have GS_1 := Lib.hid (show w1.heap[S]? = some (.cells (dV seed) 23 (0, 0)) by rw [hw1, hS]; exact heap_alloc_new _ _)
  have LS_1 := Lib.hid (lt_of_heap GS_1.out)
  have HS := Lib.hid hS
  have Hw1 := Lib.hid hw1
  clear hS hw1 st1
  have SZS := Lib.hid (show S = w.heap.size from HS.out)
  obtain ⟨M, hM⟩ : ∃ z, z = w1.heap.size := ⟨_, rfl⟩
  obtain ⟨w2, hw2⟩ : ∃ z, z = w1.alloc (.cells (dV m) 23) := ⟨_, rfl⟩
  have st2 : Below w1.heap.size w1 w2 := by rw [hw2]; exact (Below.refl _ _).alloc (Nat.le_refl _) _
  have B2 := Lib.hid (show Below w.heap.size w w2 from Below.trans B1.out (Below.mono st2 (Below.size B1.out)))
  have GS_2 := Lib.hid ((Below.block st2 S LS_1.out).trans GS_1.out)
  have LS_2 := Lib.hid (Nat.lt_of_lt_of_le LS_1.out (Below.size st2))
  have GM_2 := Lib.hid (show w2.heap[M]? = some (.cells (dV m) 23 (0, 0)) by rw [hw2, hM]; exact heap_alloc_new _ _)
  have LM_2 := Lib.hid (lt_of_heap GM_2.out)
  have HM := Lib.hid hM
  have Hw2 := Lib.hid hw2
  clear hM hw2 st2
  have SZM := Lib.hid (show M = w.heap.size + 1 by rw [HM.out, Hw1.out, World.size_alloc, ← HS.out, SZS.out])
  go_enter Tryz.func54, Tryz.ntmps54
  go_upto_region 1 with fail
  rw [← SZM.out, ← SZS.out, ← Hw1.out, ← Hw2.out]
  go_wp2_with (first
    | (refine at_ld 23 (.tmp 3) rfl ?_; (refine ld_digG rfl (.tmp 3) rfl (M) 0 (by rfl) m ML.out (range_of_row GM_2.out) ?_); simp only [Act.put, List.setIfInBounds_toArray, List.set_cons_zero, List.set_cons_succ]))
  refine (Digits_calls m ML.out w2).mono ?_
  rintro e w3 ⟨rfl, hb3⟩
  have B3 := Lib.hid (show Below w.heap.size w w3 from Below.trans B2.out (Below.mono hb3 (Below.size B2.out)))
  have GS_3 := Lib.hid ((Below.block hb3 S LS_2.out).trans GS_2.out)
  have LS_3 := Lib.hid (Nat.lt_of_lt_of_le LS_2.out (Below.size hb3))
  have GM_3 := Lib.hid ((Below.block hb3 M LM_2.out).trans GM_2.out)
  have LM_3 := Lib.hid (Nat.lt_of_lt_of_le LM_2.out (Below.size hb3))
  clear hb3
  obtain ⟨O, hO⟩ : ∃ z, z = w3.heap.size := ⟨_, rfl⟩
  obtain ⟨w4, hw4⟩ : ∃ z, z = w3.alloc (.cells (iV (nibs m)) 113) := ⟨_, rfl⟩
  have st4 : Below w3.heap.size w3 w4 := by rw [hw4]; exact (Below.refl _ _).alloc (Nat.le_refl _) _
  have B4 := Lib.hid (show Below w.heap.size w w4 from Below.trans B3.out (Below.mono st4 (Below.size B3.out)))
  have GS_4 := Lib.hid ((Below.block st4 S LS_3.out).trans GS_3.out)
  have LS_4 := Lib.hid (Nat.lt_of_lt_of_le LS_3.out (Below.size st4))
  have GM_4 := Lib.hid ((Below.block st4 M LM_3.out).trans GM_3.out)
  have LM_4 := Lib.hid (Nat.lt_of_lt_of_le LM_3.out (Below.size st4))
  have GO_4 := Lib.hid (show w4.heap[O]? = some (.cells (iV (nibs m)) 113 (0, 0)) by rw [hw4, hO]; exact heap_alloc_new _ _)
  have LO_4 := Lib.hid (lt_of_heap GO_4.out)
  have HO := Lib.hid hO
  have Hw4 := Lib.hid hw4
  clear hO hw4 st4
  go_wp2_with (first
    | ((refine st_67new rfl (.tmp 5) (.tmp 7) rfl (nibs m) NL.out (by rfl) _ _ (by rfl) (by rfl) ?_); rw [← HO.out, ← Hw4.out])
    | (refine at_ld 23 (.tmp 2) rfl ?_; (refine ld_digG rfl (.tmp 2) rfl (S) 0 (by rfl) seed SL.out (range_of_row GS_4.out) ?_); simp only [Act.put, List.setIfInBounds_toArray, List.set_cons_zero, List.set_cons_succ]))
  refine (Secrets_calls seed w4).mono ?_
  rintro e w5 ⟨P, rfl, hP, hgP, hb5⟩
  have B5 := Lib.hid (show Below w.heap.size w w5 from Below.trans B4.out (Below.mono hb5 (Below.size B4.out)))
  have GS_5 := Lib.hid ((Below.block hb5 S LS_4.out).trans GS_4.out)
  have LS_5 := Lib.hid (Nat.lt_of_lt_of_le LS_4.out (Below.size hb5))
  have GM_5 := Lib.hid ((Below.block hb5 M LM_4.out).trans GM_4.out)
  have LM_5 := Lib.hid (Nat.lt_of_lt_of_le LM_4.out (Below.size hb5))
  have GO_5 := Lib.hid ((Below.block hb5 O LO_4.out).trans GO_4.out)
  have LO_5 := Lib.hid (Nat.lt_of_lt_of_le LO_4.out (Below.size hb5))
  have GP_5 := Lib.hid hgP
  have LP_5 := Lib.hid (lt_of_heap hgP)
  have HPA := Lib.hid hP
  clear hgP hP
  clear hb5
  have HE := Lib.hid (EndsS_calls (secD seed) (fun k _ => secD_length seed k) (fun k => (nibs m).getD k 0) (fun k hk => Nat.le_trans (nibs_le m _ (by rw [List.getD_eq_getElem?_getD, List.getElem?_eq_getElem (by rw [NL.out]; exact hk)]; exact List.getElem_mem _)) (by omega)) (.pointer (some ⟨P, 0, none⟩)) (.pointer (some ⟨O, 0, none⟩)) w5 (RO.out.at_ B5.out) (fun k hk w' hb => SecretK seed SL.out k (by omega) P w' (((RO.out.at_ B5.out)).at_ hb) ((hb.block P LP_5.out).trans GP_5.out)) (fun k hk w' hb => SignC_calls (nibs m) NL.out k hk O w' ((hb.block O LO_5.out).trans GO_5.out)))
  go_wp2_with fail
  refine (HE.out).mono ?_
  rintro e w6 ⟨ea, ec, rfl, hown, hb6⟩
  have B6 := Lib.hid (show Below w.heap.size w w6 from Below.trans B5.out (Below.mono hb6 (Below.size B5.out)))
  have GS_6 := Lib.hid ((Below.block hb6 S LS_5.out).trans GS_5.out)
  have LS_6 := Lib.hid (Nat.lt_of_lt_of_le LS_5.out (Below.size hb6))
  have GM_6 := Lib.hid ((Below.block hb6 M LM_5.out).trans GM_5.out)
  have LM_6 := Lib.hid (Nat.lt_of_lt_of_le LM_5.out (Below.size hb6))
  have GO_6 := Lib.hid ((Below.block hb6 O LO_5.out).trans GO_5.out)
  have LO_6 := Lib.hid (Nat.lt_of_lt_of_le LO_5.out (Below.size hb6))
  have GP_6 := Lib.hid ((Below.block hb6 P LP_5.out).trans GP_5.out)
  have LP_6 := Lib.hid (Nat.lt_of_lt_of_le LP_5.out (Below.size hb6))
  have HN := Lib.hid hown
  clear hown HE
  clear hb6
  go_wp2_with fail
  go_ret
  exact ⟨ea, ec, rfl, own_base HN.out B5.out.size, B6.out⟩
set_option maxRecDepth 20000 in
set_option maxHeartbeats 2000000 in
theorem WRecover_calls (m : List UInt8) (hm : m.length = 32) (sig : List (List UInt8)) (h67 : sig.length = 67) (hd : ∀ d ∈ sig, d.length = 32) (a : Option Addr) (cap e : Nat) (w : World) (hr : Rd w a e (sig.flatten.map vB)) (hro : RoundsAt w) :
    Calls Tryz.prog 55 #[.agg (dV m), .slice a sig.length cap] w fun e w' => e = .returned (.tuple #[.agg (dV (wkey m sig)), .nilIface]) ∧ Below w.heap.size w w' := by
  have hz : nz.length = 32 := rfl
  have ZL := Lib.hid hz
  clear hz
  have ML := Lib.hid hm
  have NL := Lib.hid (nibs_length m)
  have RO := Lib.hid hro
  have HSD := Lib.hid hd
  have HRD := Lib.hid hr
  have q1 : ((sig.length : Int) != 67) = false := by rw [bne_eq_false_iff_eq]; omega
  have S67 := Lib.hid h67
  clear hm hro hd hr h67
  have hmf : ∀ (fn : Fn) (first cap : Array Value) (w : World), (Instr.makeFunc fn first cap).run Tryz.prog w = .ok (.func fn first cap) w := fun _ _ _ _ => rfl
  obtain ⟨S, hS⟩ : ∃ z, z = w.heap.size := ⟨_, rfl⟩
  obtain ⟨w1, hw1⟩ : ∃ z, z = w.alloc (.cells (dV m) 23) := ⟨_, rfl⟩
  have st1 : Below w.heap.size w w1 := by rw [hw1]; exact (Below.refl _ _).alloc (Nat.le_refl _) _
  have B1 := Lib.hid (show Below w.heap.size w w1 from Below.trans (Below.refl w.heap.size w) (Below.mono st1 (Below.size (Below.refl w.heap.size w))))
  have GS_1 := Lib.hid (show w1.heap[S]? = some (.cells (dV m) 23 (0, 0)) by rw [hw1, hS]; exact heap_alloc_new _ _)
  have LS_1 := Lib.hid (lt_of_heap GS_1.out)
  have HS := Lib.hid hS
  have Hw1 := Lib.hid hw1
  clear hS hw1 st1
  have SZS := Lib.hid (show S = w.heap.size from HS.out)
  obtain ⟨P, hP⟩ : ∃ z, z = w1.heap.size := ⟨_, rfl⟩
  obtain ⟨w2, hw2⟩ : ∃ z, z = w1.alloc (.cells #[.slice a sig.length cap] 24) := ⟨_, rfl⟩
  have st2 : Below w1.heap.size w1 w2 := by rw [hw2]; exact (Below.refl _ _).alloc (Nat.le_refl _) _
  have B2 := Lib.hid (show Below w.heap.size w w2 from Below.trans B1.out (Below.mono st2 (Below.size B1.out)))
  have GS_2 := Lib.hid ((Below.block st2 S LS_1.out).trans GS_1.out)
  have LS_2 := Lib.hid (Nat.lt_of_lt_of_le LS_1.out (Below.size st2))
  have GP_2 := Lib.hid (show w2.heap[P]? = some (.cells #[.slice a sig.length cap] 24 (0, 0)) by rw [hw2, hP]; exact heap_alloc_new _ _)
  have LP_2 := Lib.hid (lt_of_heap GP_2.out)
  have HP := Lib.hid hP
  have Hw2 := Lib.hid hw2
  clear hP hw2 st2
  have SZP := Lib.hid (show P = w.heap.size + 1 by rw [HP.out, Hw1.out, World.size_alloc, ← HS.out, SZS.out])
  obtain ⟨R, hR⟩ : ∃ z, z = w2.heap.size := ⟨_, rfl⟩
  obtain ⟨w3, hw3⟩ : ∃ z, z = w2.alloc (.cells (dV nz) 23) := ⟨_, rfl⟩
  have st3 : Below w2.heap.size w2 w3 := by rw [hw3]; exact (Below.refl _ _).alloc (Nat.le_refl _) _
  have B3 := Lib.hid (show Below w.heap.size w w3 from Below.trans B2.out (Below.mono st3 (Below.size B2.out)))
  have GS_3 := Lib.hid ((Below.block st3 S LS_2.out).trans GS_2.out)
  have LS_3 := Lib.hid (Nat.lt_of_lt_of_le LS_2.out (Below.size st3))
  have GP_3 := Lib.hid ((Below.block st3 P LP_2.out).trans GP_2.out)
  have LP_3 := Lib.hid (Nat.lt_of_lt_of_le LP_2.out (Below.size st3))
  have GR_3 := Lib.hid (show w3.heap[R]? = some (.cells (dV nz) 23 (0, 0)) by rw [hw3, hR]; exact heap_alloc_new _ _)
  have LR_3 := Lib.hid (lt_of_heap GR_3.out)
  have HR := Lib.hid hR
  have Hw3 := Lib.hid hw3
  clear hR hw3 st3
  have SZR := Lib.hid (show R = w.heap.size + 1 + 1 by rw [HR.out, Hw2.out, World.size_alloc, ← HP.out, SZP.out])
  have cP : w3.cell? ⟨P, 0, none⟩ = some (.slice a sig.length cap) := by rw [cell_of_row _ _ _ _ _ _ GP_3.out]; rfl
  go_enter Tryz.func55, Tryz.ntmps55
  go_upto_region 1 with fail
  rw [zdig]
  rw [← SZR.out, ← SZP.out, ← SZS.out, ← Hw1.out, ← Hw2.out, ← Hw3.out]
  go_wp2_with (first
    | (refine at_ld 23 (.tmp 2) rfl ?_; (refine ld_digG rfl (.tmp 2) rfl (S) 0 (by rfl) m ML.out (range_of_row GS_3.out) ?_); simp only [Act.put, List.setIfInBounds_toArray, List.set_cons_zero, List.set_cons_succ]))
  refine (Digits_calls m ML.out w3).mono ?_
  rintro e w4 ⟨rfl, hb4⟩
  have B4 := Lib.hid (show Below w.heap.size w w4 from Below.trans B3.out (Below.mono hb4 (Below.size B3.out)))
  have GS_4 := Lib.hid ((Below.block hb4 S LS_3.out).trans GS_3.out)
  have LS_4 := Lib.hid (Nat.lt_of_lt_of_le LS_3.out (Below.size hb4))
  have GP_4 := Lib.hid ((Below.block hb4 P LP_3.out).trans GP_3.out)
  have LP_4 := Lib.hid (Nat.lt_of_lt_of_le LP_3.out (Below.size hb4))
  have GR_4 := Lib.hid ((Below.block hb4 R LR_3.out).trans GR_3.out)
  have LR_4 := Lib.hid (Nat.lt_of_lt_of_le LR_3.out (Below.size hb4))
  clear cP
  clear hb4
  obtain ⟨O, hO⟩ : ∃ z, z = w4.heap.size := ⟨_, rfl⟩
  obtain ⟨w5, hw5⟩ : ∃ z, z = w4.alloc (.cells (iV (nibs m)) 113) := ⟨_, rfl⟩
  have st5 : Below w4.heap.size w4 w5 := by rw [hw5]; exact (Below.refl _ _).alloc (Nat.le_refl _) _
  have B5 := Lib.hid (show Below w.heap.size w w5 from Below.trans B4.out (Below.mono st5 (Below.size B4.out)))
  have GS_5 := Lib.hid ((Below.block st5 S LS_4.out).trans GS_4.out)
  have LS_5 := Lib.hid (Nat.lt_of_lt_of_le LS_4.out (Below.size st5))
  have GP_5 := Lib.hid ((Below.block st5 P LP_4.out).trans GP_4.out)
  have LP_5 := Lib.hid (Nat.lt_of_lt_of_le LP_4.out (Below.size st5))
  have GR_5 := Lib.hid ((Below.block st5 R LR_4.out).trans GR_4.out)
  have LR_5 := Lib.hid (Nat.lt_of_lt_of_le LR_4.out (Below.size st5))
  have GO_5 := Lib.hid (show w5.heap[O]? = some (.cells (iV (nibs m)) 113 (0, 0)) by rw [hw5, hO]; exact heap_alloc_new _ _)
  have LO_5 := Lib.hid (lt_of_heap GO_5.out)
  have HO := Lib.hid hO
  have Hw5 := Lib.hid hw5
  clear hO hw5 st5
  have HE := Lib.hid (EndsR_calls (fun k => sig.getD k []) (fun k hk => by rw [List.getD_eq_getElem?_getD, List.getElem?_eq_getElem (by rw [S67.out]; exact hk)]; exact HSD.out _ (List.getElem_mem _)) (fun k => 15 - (nibs m).getD k 0) (fun k hk => by omega) (.pointer (some ⟨P, 0, none⟩)) (.pointer (some ⟨O, 0, none⟩)) w5 (RO.out.at_ B5.out) (fun k hk w' hb => SigC_calls sig HSD.out k (by rw [S67.out]; exact hk) a cap e P w' (HRD.out.below (Below.trans B5.out (hb.mono B5.out.size))) (Nat.lt_of_lt_of_le LP_5.out hb.size) (by rw [cell_of_row _ _ _ _ _ _ ((hb.block P LP_5.out).trans GP_5.out)]; rfl)) (fun k hk w' hb => LackC_calls (nibs m) NL.out (nibs_le m) k hk O w' ((hb.block O LO_5.out).trans GO_5.out)))
  go_wp2_with (first
    | ((refine st_67new rfl (.tmp 6) (.tmp 13) rfl (nibs m) NL.out (by rfl) _ _ (by rfl) (by rfl) ?_); rw [← HO.out, ← Hw5.out]))
  refine (HE.out).mono ?_
  rintro e w6 ⟨ea, ec, rfl, hown, hb6⟩
  have B6 := Lib.hid (show Below w.heap.size w w6 from Below.trans B5.out (Below.mono hb6 (Below.size B5.out)))
  have GS_6 := Lib.hid ((Below.block hb6 S LS_5.out).trans GS_5.out)
  have LS_6 := Lib.hid (Nat.lt_of_lt_of_le LS_5.out (Below.size hb6))
  have GP_6 := Lib.hid ((Below.block hb6 P LP_5.out).trans GP_5.out)
  have LP_6 := Lib.hid (Nat.lt_of_lt_of_le LP_5.out (Below.size hb6))
  have GR_6 := Lib.hid ((Below.block hb6 R LR_5.out).trans GR_5.out)
  have LR_6 := Lib.hid (Nat.lt_of_lt_of_le LR_5.out (Below.size hb6))
  have GO_6 := Lib.hid ((Below.block hb6 O LO_5.out).trans GO_5.out)
  have LO_6 := Lib.hid (Nat.lt_of_lt_of_le LO_5.out (Below.size hb6))
  have RE_6 := Lib.hid (Rd.of_own hown)
  clear hown HE
  clear hb6
  have HO2 := Lib.hid (ShaOf_calls 7 ((List.range 67).map fun i => walkD (sig.getD i []) (15 - (nibs m).getD i 0)) (ends_dig _ (fun k hk => by rw [List.getD_eq_getElem?_getD, List.getElem?_eq_getElem (by rw [S67.out]; exact hk)]; exact HSD.out _ (List.getElem_mem _)) _) (by simp) ea ec _ w6 RE_6.out (RO.out.at_ B6.out))
  rw [show ((List.range 67).map fun i => walkD (sig.getD i []) (15 - (nibs m).getD i 0)).length = 67 by simp] at HO2
  have HW := Lib.hid (show shaOf (7 :: ((List.range 67).map fun i => walkD (sig.getD i []) (15 - (nibs m).getD i 0)).flatten) = wkey m sig from rfl)
  rw [HW.out] at HO2
  go_wp2_with fail
  refine (HO2.out).mono ?_
  rintro e w7 ⟨rfl, hb7⟩
  have B7 := Lib.hid (show Below w.heap.size w w7 from Below.trans B6.out (Below.mono hb7 (Below.size B6.out)))
  have GS_7 := Lib.hid ((Below.block hb7 S LS_6.out).trans GS_6.out)
  have LS_7 := Lib.hid (Nat.lt_of_lt_of_le LS_6.out (Below.size hb7))
  have GP_7 := Lib.hid ((Below.block hb7 P LP_6.out).trans GP_6.out)
  have LP_7 := Lib.hid (Nat.lt_of_lt_of_le LP_6.out (Below.size hb7))
  have GR_7 := Lib.hid ((Below.block hb7 R LR_6.out).trans GR_6.out)
  have LR_7 := Lib.hid (Nat.lt_of_lt_of_le LR_6.out (Below.size hb7))
  have GO_7 := Lib.hid ((Below.block hb7 O LO_6.out).trans GO_6.out)
  have LO_7 := Lib.hid (Nat.lt_of_lt_of_le LO_6.out (Below.size hb7))
  have RE_7 := Lib.hid (RE_6.out.below hb7)
  clear HO2 HW
  clear hb7
  obtain ⟨w8, hw8⟩ : ∃ z, z = w7.setRow R (dV (wkey m sig)) := ⟨_, rfl⟩
  have B8 := Lib.hid (show Below w.heap.size w w8 by rw [hw8]; exact below_setRowW B7.out (by rw [HR.out]; exact Below.size B2.out) _)
  have sz8 : w8.heap.size = w7.heap.size := by rw [hw8]; exact setRow_size _ _ _
  have GS_8 := Lib.hid (show w8.heap[S]? = some (.cells (dV m) 23 (0, 0)) by rw [hw8]; exact (_root_.Go.setRow_other _ _ _ _ (by rw [HR.out]; exact Nat.ne_of_lt LS_2.out)).trans GS_7.out)
  have LS_8 := Lib.hid (show S < w8.heap.size by rw [sz8]; exact LS_7.out)
  have GP_8 := Lib.hid (show w8.heap[P]? = some (.cells #[.slice a sig.length cap] 24 (0, 0)) by rw [hw8]; exact (_root_.Go.setRow_other _ _ _ _ (by rw [HR.out]; exact Nat.ne_of_lt LP_2.out)).trans GP_7.out)
  have LP_8 := Lib.hid (show P < w8.heap.size by rw [sz8]; exact LP_7.out)
  have GR_8 := Lib.hid (show w8.heap[R]? = some (.cells (dV (wkey m sig)) 23 (0, 0)) by rw [hw8]; exact setRow_heap _ _ _ _ _ _ GR_7.out)
  have LR_8 := Lib.hid (show R < w8.heap.size by rw [sz8]; exact LR_7.out)
  have GO_8 := Lib.hid (show w8.heap[O]? = some (.cells (iV (nibs m)) 113 (0, 0)) by rw [hw8]; exact (_root_.Go.setRow_other _ _ _ _ (by rw [HO.out]; exact (Nat.ne_of_lt LR_4.out).symm)).trans GO_7.out)
  have LO_8 := Lib.hid (show O < w8.heap.size by rw [sz8]; exact LO_7.out)
  have Hw8 := Lib.hid hw8
  clear hw8 sz8
  go_wp2_with (first
    | (refine at_st 23 (.tmp 4) (.tmp 17) rfl ?_; (refine st_row rfl (.tmp 4) (.tmp 17) rfl R (wkey m sig) (wkey_length _ _) (by rfl) (by rfl) (dV nz) (dV_size ZL.out) _ GR_7.out ?_); rw [← Hw8.out]))
  try simp only [Exit.inBlock, Exit.then]
  refine bodyPost_ret (results_cell_tmp rfl _ _ _ ⟨R, 0, none⟩ (.agg (dV (wkey m sig))) rfl ?_) rfl ⟨rfl, B8.out⟩
  exact dig_load (wkey_length _ _) (range_of_row GR_8.out)
set_option maxRecDepth 20000 in
set_option maxHeartbeats 1000000 in
theorem WRecover_len (m : List UInt8) (hm : m.length = 32) (sig : List (List UInt8)) (h67 : sig.length ≠ 67) (a : Option Addr) (cap : Nat) (w : World) (hro : RoundsAt w) :
    Calls Tryz.prog 55 #[.agg (dV m), .slice a sig.length cap] w fun e w' => e = .returned (.tuple #[.agg (dV nz), .iface 29 (.int .i64 3)]) ∧ Below w.heap.size w w' := by
  obtain ⟨Z, hZ⟩ : ∃ Z, Z = nz := ⟨_, rfl⟩
  have ZL := Lib.hid (show Z.length = 32 by rw [hZ]; rfl)
  have ZT := Lib.hid (show (#[.int .u8 0, .int .u8 0, .int .u8 0, .int .u8 0, .int .u8 0, .int .u8 0, .int .u8 0, .int .u8 0, .int .u8 0, .int .u8 0, .int .u8 0, .int .u8 0, .int .u8 0, .int .u8 0, .int .u8 0, .int .u8 0, .int .u8 0, .int .u8 0, .int .u8 0, .int .u8 0, .int .u8 0, .int .u8 0, .int .u8 0, .int .u8 0, .int .u8 0, .int .u8 0, .int .u8 0, .int .u8 0, .int .u8 0, .int .u8 0, .int .u8 0, .int .u8 0] : Array Value) = dV Z by rw [hZ]; exact zdig)
  have HZ := Lib.hid hZ
  rw [← hZ]
  clear hZ
  have ML := Lib.hid hm
  have NL := Lib.hid (nibs_length m)
  have RO := Lib.hid hro
  have q1 : ((sig.length : Int) != 67) = true := by rw [bne_iff_ne]; omega
  clear hm hro
  have hmf : ∀ (fn : Fn) (first cap : Array Value) (w : World), (Instr.makeFunc fn first cap).run Tryz.prog w = .ok (.func fn first cap) w := fun _ _ _ _ => rfl
  obtain ⟨S, hS⟩ : ∃ z, z = w.heap.size := ⟨_, rfl⟩
  obtain ⟨w1, hw1⟩ : ∃ z, z = w.alloc (.cells (dV m) 23) := ⟨_, rfl⟩
  have st1 : Below w.heap.size w w1 := by rw [hw1]; exact (Below.refl _ _).alloc (Nat.le_refl _) _
  have B1 := Lib.hid (show Below w.heap.size w w1 from Below.trans (Below.refl w.heap.size w) (Below.mono st1 (Below.size (Below.refl w.heap.size w))))
  have GS_1 := Lib.hid (show w1.heap[S]? = some (.cells (dV m) 23 (0, 0)) by rw [hw1, hS]; exact heap_alloc_new _ _)
  have LS_1 := Lib.hid (lt_of_heap GS_1.out)
  have HS := Lib.hid hS
  have Hw1 := Lib.hid hw1
  clear hS hw1 st1
  have SZS := Lib.hid (show S = w.heap.size from HS.out)
  obtain ⟨P, hP⟩ : ∃ z, z = w1.heap.size := ⟨_, rfl⟩
  obtain ⟨w2, hw2⟩ : ∃ z, z = w1.alloc (.cells #[.slice a sig.length cap] 24) := ⟨_, rfl⟩
  have st2 : Below w1.heap.size w1 w2 := by rw [hw2]; exact (Below.refl _ _).alloc (Nat.le_refl _) _
  have B2 := Lib.hid (show Below w.heap.size w w2 from Below.trans B1.out (Below.mono st2 (Below.size B1.out)))
  have GS_2 := Lib.hid ((Below.block st2 S LS_1.out).trans GS_1.out)
  have LS_2 := Lib.hid (Nat.lt_of_lt_of_le LS_1.out (Below.size st2))
  have GP_2 := Lib.hid (show w2.heap[P]? = some (.cells #[.slice a sig.length cap] 24 (0, 0)) by rw [hw2, hP]; exact heap_alloc_new _ _)
  have LP_2 := Lib.hid (lt_of_heap GP_2.out)
  have HP := Lib.hid hP
  have Hw2 := Lib.hid hw2
  clear hP hw2 st2
  have SZP := Lib.hid (show P = w.heap.size + 1 by rw [HP.out, Hw1.out, World.size_alloc, ← HS.out, SZS.out])
  obtain ⟨R, hR⟩ : ∃ z, z = w2.heap.size := ⟨_, rfl⟩
  obtain ⟨w3, hw3⟩ : ∃ z, z = w2.alloc (.cells (dV Z) 23) := ⟨_, rfl⟩
  have st3 : Below w2.heap.size w2 w3 := by rw [hw3]; exact (Below.refl _ _).alloc (Nat.le_refl _) _
  have B3 := Lib.hid (show Below w.heap.size w w3 from Below.trans B2.out (Below.mono st3 (Below.size B2.out)))
  have GS_3 := Lib.hid ((Below.block st3 S LS_2.out).trans GS_2.out)
  have LS_3 := Lib.hid (Nat.lt_of_lt_of_le LS_2.out (Below.size st3))
  have GP_3 := Lib.hid ((Below.block st3 P LP_2.out).trans GP_2.out)
  have LP_3 := Lib.hid (Nat.lt_of_lt_of_le LP_2.out (Below.size st3))
  have GR_3 := Lib.hid (show w3.heap[R]? = some (.cells (dV Z) 23 (0, 0)) by rw [hw3, hR]; exact heap_alloc_new _ _)
  have LR_3 := Lib.hid (lt_of_heap GR_3.out)
  have HR := Lib.hid hR
  have Hw3 := Lib.hid hw3
  clear hR hw3 st3
  have SZR := Lib.hid (show R = w.heap.size + 1 + 1 by rw [HR.out, Hw2.out, World.size_alloc, ← HP.out, SZP.out])
  have cP : w3.cell? ⟨P, 0, none⟩ = some (.slice a sig.length cap) := by rw [cell_of_row _ _ _ _ _ _ GP_3.out]; rfl
  go_enter Tryz.func55, Tryz.ntmps55
  go_upto_region 1 with fail
  rw [ZT.out]
  rw [← SZR.out, ← SZP.out, ← SZS.out, ← Hw1.out, ← Hw2.out, ← Hw3.out]
  obtain ⟨w4, hw4⟩ : ∃ z, z = w3.setRow R (dV Z) := ⟨_, rfl⟩
  have B4 := Lib.hid (show Below w.heap.size w w4 by rw [hw4]; exact below_setRowW B3.out (by rw [HR.out]; exact Below.size B2.out) _)
  have sz4 : w4.heap.size = w3.heap.size := by rw [hw4]; exact setRow_size _ _ _
  have GS_4 := Lib.hid (show w4.heap[S]? = some (.cells (dV m) 23 (0, 0)) by rw [hw4]; exact (_root_.Go.setRow_other _ _ _ _ (by rw [HR.out]; exact Nat.ne_of_lt LS_2.out)).trans GS_3.out)
  have LS_4 := Lib.hid (show S < w4.heap.size by rw [sz4]; exact LS_3.out)
  have GP_4 := Lib.hid (show w4.heap[P]? = some (.cells #[.slice a sig.length cap] 24 (0, 0)) by rw [hw4]; exact (_root_.Go.setRow_other _ _ _ _ (by rw [HR.out]; exact Nat.ne_of_lt LP_2.out)).trans GP_3.out)
  have LP_4 := Lib.hid (show P < w4.heap.size by rw [sz4]; exact LP_3.out)
  have GR_4 := Lib.hid (show w4.heap[R]? = some (.cells (dV Z) 23 (0, 0)) by rw [hw4]; exact setRow_heap _ _ _ _ _ _ GR_3.out)
  have LR_4 := Lib.hid (show R < w4.heap.size by rw [sz4]; exact LR_3.out)
  have Hw4 := Lib.hid hw4
  clear hw4 sz4
  go_wp2_with (first
    | (refine wpl_zero rfl rfl Z HZ.out ?_)
    | (refine at_st 23 (.tmp 4) (.tmp 10) rfl ?_; (refine st_row rfl (.tmp 4) (.tmp 10) rfl R Z ZL.out (by rfl) (by rfl) (dV Z) (dV_size ZL.out) _ GR_3.out ?_); rw [← Hw4.out]))
  try simp only [Exit.inBlock, Exit.then]
  refine bodyPost_ret (results_cell_tmp rfl _ _ _ ⟨R, 0, none⟩ (.agg (dV Z)) rfl ?_) rfl ⟨rfl, B4.out⟩
  exact dig_load ZL.out (range_of_row GR_4.out)
end Go.Proofs.YtkioddmhjbaleaaGreatDoor
