/- Walk: mac.Mac, whatever the key's length. -/
import Derived.Test.YtkioddmhjbaleaaDoorMac
import Derived.Deep.RegionLawGrows
namespace Go.Proofs.YtkioddmhjbaleaaDoor
open Go.RowKit
set_option linter.unusedVariables false
set_option linter.unusedSimpArgs false
set_option maxRecDepth 20000 in
set_option maxHeartbeats 4000000 in
theorem Mac_long (KY : List UInt8) (KL : 64 < KY.length) (KU : KY.length ≤ 140737488355328) (ka : Option Addr) (kc ke : Nat) (b : List UInt8) (hb0 : 0 < b.length) (hbl : b.length ≤ 1000000000) (ba : Option Addr) (bc be : Nat) (w : World) (hk : Rd w ka ke (KY.map vB)) (hb : Rd w ba be (b.map vB)) (hro : RoundsAt w) :
    Calls Tryd.prog 66 #[.slice ka KY.length kc, .slice ba b.length bc] w fun e w' => e = .returned (.agg (dV (macOf KY b))) ∧ Below w.heap.size w w' := by
  obtain ⟨KD, hKD⟩ : ∃ z, z = shaOf KY := ⟨_, rfl⟩
  have HKD := Lib.hid hKD
  have KDL := Lib.hid (show KD.length = 32 by rw [hKD]; exact shaOf_length _)
  obtain ⟨H, hH⟩ : ∃ H, H = w.heap.size := ⟨_, rfl⟩
  have HH := Lib.hid hH
  obtain ⟨w0, hw0⟩ : ∃ z, z = w.alloc (.cells (dV nz) 23) := ⟨_, rfl⟩
  have b0 : Below w.heap.size w w0 := by rw [hw0]; exact (Below.refl _ _).alloc (Nat.le_refl _) _
  have G00 := Lib.hid (show w0.heap[H]? = some (.cells (dV nz) 23 (0, 0)) by rw [hw0, hH]; exact heap_alloc_new _ _)
  have hs0 : w0.heap.size = H + 1 := by rw [hw0, hH]; exact World.size_alloc _ _
  have HS0 := Lib.hid hs0
  have HW0 := Lib.hid hw0
  have SC := Sha_calls KY ka kc ke w0 (hk.below b0) KU (hro.at_ b0) (hro.at_ b0).lt
  rw [← hKD] at SC
  have HSC0 := Lib.hid SC
  have BW0 := Lib.hid (show Below H w w0 by rw [hH]; exact b0)
  have RK := Lib.hid hk
  have RBw := Lib.hid hb
  have RO := Lib.hid hro
  have q1 : decide ((64 : Int) < (KY.length : Int)) = true := decide_eq_true (by omega)
  have q1b : decide (64 < KY.length) = true := decide_eq_true (by omega)
  have HBB : Hid (∀ x, ba = some x → x.block < H) := Lib.hid fun x hx => by subst hx; rw [hH]; exact hb.block_lt (fun h => by rw [List.map_eq_nil_iff] at h; rw [h] at hb0; cases hb0)
  have ROH : 1 < H := by rw [hH]; exact hro.lt
  clear SC hk hb hro hw0 b0 hs0 hKD hH
  go_enter Tryd.func66, Tryd.ntmps66
  go_wp2_with fail
  rw [zdig, ← HH.out, ← HW0.out]
  refine HSC0.out.mono ?_
  rintro e wa ⟨rfl, hba⟩
  obtain ⟨D1, hD1⟩ : ∃ z, z = wa.heap.size := ⟨_, rfl⟩
  obtain ⟨wb, hwb⟩ : ∃ z, z = wa.alloc (.cells (dV KD) 23) := ⟨_, rfl⟩
  have hbb : Below wa.heap.size wa wb := by rw [hwb]; exact (Below.refl _ _).alloc (Nat.le_refl _) _
  have hsb : wb.heap.size = D1 + 1 := by rw [hwb, hD1]; exact World.size_alloc _ _
  obtain ⟨O, hO⟩ : ∃ O, O = D1 + 1 := ⟨_, rfl⟩
  obtain ⟨w1, hw1⟩ : ∃ z, z = wb.alloc (.cells (dV (List.replicate 64 0)) 163) := ⟨_, rfl⟩
  obtain ⟨w2, hw2⟩ : ∃ z, z = w1.alloc (.cells (dV (List.replicate 64 0)) 163) := ⟨_, rfl⟩
  have hb1 : Below wb.heap.size wb w1 := by rw [hw1]; exact (Below.refl _ _).alloc (Nat.le_refl _) _
  have hs1 : w1.heap.size = O + 1 := by rw [hw1, World.size_alloc, hsb, hO]
  have hb2 : Below w1.heap.size w1 w2 := by rw [hw2]; exact (Below.refl _ _).alloc (Nat.le_refl _) _
  have hHD : H < D1 := by rw [hD1]; exact Nat.lt_of_lt_of_le (by rw [HS0.out]; omega) hba.size
  have HO : H < O := by omega
  have b02 : Below w0.heap.size w0 w2 := hba.trans ((hbb.trans ((hb1.trans (hb2.mono hb1.size)).mono hbb.size)).mono hba.size)
  have GH := Lib.hid ((b02.block H (by rw [HS0.out]; omega)).trans G00.out)
  have GO := Lib.hid (show w2.heap[O]? = some (.cells (dV (List.replicate 64 0)) 163 (0, 0)) by
    refine (hb2.block O (by omega)).trans ?_
    rw [hw1, hO, ← hsb]; exact heap_alloc_new _ _)
  have GI := Lib.hid (show w2.heap[O + 1]? = some (.cells (dV (List.replicate 64 0)) 163 (0, 0)) by rw [hw2, ← hs1]; exact heap_alloc_new _ _)
  have GD := (hb2.block D1 (by omega)).trans ((hb1.block D1 (by omega)).trans (show wb.heap[D1]? = some (.cells (dV KD) 23 (0, 0)) by rw [hwb, hD1]; exact heap_alloc_new _ _))
  have BW2 := Lib.hid (show Below H w w2 from BW0.out.trans (b02.mono (by rw [HS0.out]; omega)))
  have RKW : Hid (∀ wr, Below O w2 wr → Rd wr (some ⟨D1, 0, none⟩) 23 (KD.map vB)) := Lib.hid fun wr h => rd_of_row ((h.block D1 (by omega)).trans GD)
  have RBW : Hid (∀ wr, Below H w wr → Rd wr ba be (b.map vB)) := Lib.hid fun wr h => RBw.out.below (by rw [← HH.out]; exact h)
  have RO2 := Lib.hid (RO.out.below BW2.out ROH)
  have HOE := Lib.hid hO
  have HW1 := Lib.hid hw1
  have HW2 := Lib.hid hw2
  have HWb := Lib.hid hwb
  have HD1 := Lib.hid hD1
  have HSb := Lib.hid hsb
  have HS1 := Lib.hid hs1
  have hD1O : D1 < O := by omega
  clear HSC0 hba hbb hb1 hb2 b02 GD hwb hw1 hw2 hO hs1 hsb hD1 hHD G00 HS0
  go_wp2_with (first
    | ((refine st_new rfl (.tmp 5) (.tmp 16) rfl KD KDL.out (by rfl) _ _ (by rfl) (by rfl) ?_); rw [← HD1.out, ← HWb.out]))
  try rw [z64_lit]
  try rw [HSb.out]
  try rw [← HOE.out]
  try rw [← HW1.out]
  try rw [← HW2.out]
  try rw [HS1.out]
  go_loopw [8, 9, 18] (fun i x q wr => ∃ k : Nat, k ≤ 64 ∧ q = .int .i64 k ∧ Hid (PadInv w2 O KD k wr)) (fun _ _ q _ => 64 - (intOf q).toNat)
  case atStart => exact ⟨0, Nat.zero_le _, rfl, Lib.hid ⟨by rw [padS_zero]; exact GO.out, by rw [padS_zero]; exact GI.out, Below.refl _ _⟩⟩
  case round =>
    obtain ⟨k, hk, rfl, HI⟩ := hrel
    by_cases hlt : k < 64
    · have c6 := (cellD HI.out.one k (by rw [padS_length _ _ hk]; omega))
      have c7 := (cellD HI.out.two k (by rw [padS_length _ _ hk]; omega))
      have f6 := frozen_of_row wr O k _ _ HI.out.one
      have f7 := frozen_of_row wr (O + 1) k _ _ HI.out.two
      have k0 : (0 : Int) ≤ (k : Int) := by omega
      have k1 : (k : Int) < 64 := by omega
      have e4 : IntKind.i64.wrap ((k : Int) + 1) = (k : Int) + 1 := IntWalk.i64_in _ (by omega)
      have hkk := k0
      obtain ⟨y6, hy6⟩ : ∃ z, z = (padS 92 KD k)[k]'(by rw [padS_length _ _ hk]; omega) := ⟨_, rfl⟩
      obtain ⟨y7, hy7⟩ : ∃ z, z = (padS 54 KD k)[k]'(by rw [padS_length _ _ hk]; omega) := ⟨_, rfl⟩
      rw [← hy6] at c6
      rw [← hy7] at c7
      clear hy6 hy7
      by_cases hkl : k < KD.length
      · obtain ⟨kb, ko, hka, hkb, hkc⟩ := (RKW.out wr HI.out.bel).bytes hkl
        have ck := hkc k hkl
        obtain ⟨X, hX⟩ : ∃ X, X = KD[k] := ⟨_, rfl⟩
        rw [← hX] at ck
        have hgd : KD.getD k 0 = X := by rw [List.getD_eq_getElem?_getD, List.getElem?_eq_getElem hkl, hX]; rfl
        have HGD := Lib.hid hgd
        have kl1 : (k : Int) < (KD.length : Int) := by omega
        have x92 : bits .xor .u8 (X.toNat : Int) 92 = ((tw X 92).toNat : Int) := tw_bits X 92
        have x54 : bits .xor .u8 (X.toNat : Int) 54 = ((tw X 54).toNat : Int) := tw_bits X 54
        clear hkc hX hgd
        have hinj := Option.some.inj hka
        obtain rfl : D1 = kb := congrArg Addr.block hinj
        obtain rfl : 0 = ko := congrArg Addr.off hinj
        rw [Nat.zero_add] at ck
        have kl2 : (k : Int) < 32 := by have := KDL.out; omega
        have kl3 : k < 32 := by have := KDL.out; omega
        clear hka hinj
        go_wp2_with fail
        go_roundw
        case rel => exact ⟨k + 1, by omega, by go_num, Lib.hid (HI.out.step hlt _ _ (by rw [HGD.out]; try exact x92) (by rw [HGD.out]; try exact x54))⟩
        case measure => simp [intOf] <;> omega
      · have kl4 : ¬ (k : Int) < 32 := by have := KDL.out; omega
        have kl5 : ¬ k < 32 := by have := KDL.out; omega
        have hgd : KD.getD k 0 = 0 := by rw [List.getD_eq_getElem?_getD, List.getElem?_eq_none (by omega)]; rfl
        have HGD := Lib.hid hgd
        have x92 := tw_bits 0 92
        have x54 := tw_bits 0 54
        clear hgd
        go_wp2_with fail
        go_roundw
        case rel => exact ⟨k + 1, by omega, by go_num, Lib.hid (HI.out.step hlt _ _ (by rw [HGD.out]; try exact x92) (by rw [HGD.out]; try exact x54))⟩
        case measure => simp [intOf] <;> omega
    · obtain rfl : k = 64 := by omega
      have h1 := HI.out.one
      have h2 := HI.out.two
      rw [padS_all] at h1 h2
      have G1 := Lib.hid h1
      have G2 := Lib.hid h2
      have HBL := Lib.hid HI.out.bel
      have hsL : O + 1 < wr.heap.size := lt_of_heap h2
      have gh := Lib.hid ((HBL.out.block H HO).trans GH.out)
      have BWL := Lib.hid (BW2.out.trans (HBL.out.mono (Nat.le_of_lt HO)))
      have ROL := Lib.hid (RO2.out.below HBL.out (Nat.lt_of_lt_of_le ROH (Nat.le_of_lt HO)))
      clear h1 h2 HI hlt hk
      obtain ⟨wL, rfl⟩ : ∃ z, z = wr := ⟨_, rfl⟩
      go_wp2_with fail
      refine (New_calls wL).mono ?_
      rintro e w3 ⟨G, rfl, hGs, hgG, hb3⟩
      have h3 := Has.of_block (s := h0) rfl hgG
      have rI := Lib.hid (rd_of_row ((hb3.block (O + 1) hsL).trans G2.out))
      have B3 := Lib.hid hb3
      have ROU3 := Lib.hid (ROL.out.at_ hb3)
      have H3 := Lib.hid h3
      have hGO : O + 1 < G := Nat.lt_of_lt_of_le hsL hGs
      clear hgG h3 hb3
      have hpl := padK_length 54 KD
      have HPL := Lib.hid hpl
      have WC := Hwrite2_calls h0 rfl 0 none 0 (padK 54 KD) (by omega) (some ⟨O + 1, 0, none⟩) 64 _ G w3 H3.out (.inl ⟨rfl, rfl⟩) (by omega) (fun x hx => by cases hx) rI.out (fun x hx => by obtain rfl := Option.some.inj hx; show O + 1 ≠ G; omega) (by omega) ROU3.out (Nat.lt_of_lt_of_le ROH (by omega))
      rw [hpl] at WC
      have HWC := Lib.hid WC
      clear WC hpl
      go_wp2_with fail
      refine HWC.out.mono ?_
      rintro e w4 ⟨rfl, hb4, ad, cp, er, h4, r4, hne4, sp4, hcp4⟩
      have hz4 : (List.drop ((padK 54 KD).length / 64 * 64) (padK 54 KD)).length = 0 := by rw [List.length_drop, HPL.out]
      rw [hz4, HPL.out] at h4
      have B4 := Lib.hid hb4
      have H4 := Lib.hid h4
      have SP4 := Lib.hid sp4
      have NE4 := Lib.hid hne4
      have ROU4 := Lib.hid (ROU3.out.below hb4 (Nat.lt_of_lt_of_le ROH (by omega)))
      clear hb4 h4 r4 hz4 sp4 hne4 HWC rI
      have b34 := Lib.hid (BWL.out.trans (B3.out.mono (Nat.le_of_lt (Nat.lt_of_lt_of_le HO (Nat.le_of_lt (Nat.lt_of_succ_lt hsL))))))
      have RB4 := Lib.hid (RBW.out w4 (b34.out.trans (B4.out.mono (by omega))))
      have WC := Hwrite2_calls (run h0 (padK 54 KD)) (run_length _ h0 _ (Nat.le_refl _) rfl) 64 ad cp b hb0 ba bc be G w4 H4.out SP4.out hcp4 NE4.out RB4.out (fun x hx => by have := HBB.out x hx; omega) (by omega) ROU4.out (Nat.lt_of_lt_of_le ROH (by omega))
      have HWC := Lib.hid WC
      clear WC
      go_wp2_with fail
      refine HWC.out.mono ?_
      rintro e w5 ⟨rfl, hb5, ad5, cp5, er5, h5, r5, hne5, sp5, hcp5⟩
      have B5 := Lib.hid hb5
      have ROU5 := Lib.hid (ROU4.out.below hb5 (Nat.lt_of_lt_of_le ROH (by omega)))
      have hdl : (b.drop (b.length / 64 * 64)).length = (64 + b.length) % 64 := by rw [List.length_drop]; omega
      have SC := Hsum_calls (run (run h0 (padK 54 KD)) b) (run_length _ _ _ (Nat.le_refl _) (run_length _ h0 _ (Nat.le_refl _) rfl)) (b.drop (b.length / 64 * 64)) (64 + b.length) (by omega) hdl ad5 cp5 er5 G w5 h5 r5 ROU5.out ROU5.out.lt
      rw [mac_inner (HPL.out)] at SC
      obtain ⟨D, hD⟩ : ∃ D, D = shaOf (padK 54 KD ++ b) := ⟨_, rfl⟩
      rw [← hD] at SC
      have DL := Lib.hid (show D.length = 32 by rw [hD]; exact shaOf_length _)
      have HSC := Lib.hid SC
      have HD := Lib.hid hD
      clear SC HWC hb5 h5 r5 hne5 sp5 hcp5 hdl hcp4 hD
      go_wp2_with fail
      refine HSC.out.mono ?_
      rintro e w6 ⟨rfl, hb6⟩
      have b46 : Below G w4 w6 := B5.out.trans (hb6.mono (Nat.le_of_lt (Nat.lt_of_lt_of_le H4.out.lt B5.out.size)))
      have b36 : Below G w3 w6 := B4.out.trans b46
      have bL6 : Below wL.heap.size wL w6 := B3.out.trans (b36.mono hGs)
      have g6O := Lib.hid ((bL6.block O (by omega)).trans G1.out)
      have g6H := Lib.hid ((bL6.block H (by omega)).trans gh.out)
      have ROU6 := Lib.hid (ROL.out.at_ bL6)
      have BW6 := Lib.hid (BWL.out.trans (bL6.mono (by omega)))
      have hs6 : wL.heap.size ≤ w6.heap.size := bL6.size
      obtain ⟨X, hX⟩ : ∃ X, X = w6.heap.size := ⟨_, rfl⟩
      obtain ⟨w7, hw7⟩ : ∃ z, z = w6.alloc (.cells (dV D) 23) := ⟨_, rfl⟩
      have b67 : Below w6.heap.size w6 w7 := by rw [hw7]; exact (Below.refl _ _).alloc (Nat.le_refl _) _
      have g7X := Lib.hid (show w7.heap[X]? = some (.cells (dV D) 23 (0, 0)) by rw [hw7, hX]; exact heap_alloc_new _ _)
      have g7O := Lib.hid ((b67.block O (by omega)).trans g6O.out)
      have g7H := Lib.hid ((b67.block H (by omega)).trans g6H.out)
      have ROU7 := Lib.hid (ROU6.out.at_ b67)
      have BW7 := Lib.hid (BW6.out.trans (b67.mono (by omega)))
      have hs7 : w6.heap.size ≤ w7.heap.size := b67.size
      have HX := Lib.hid hX
      have HW7 := Lib.hid hw7
      clear hb6 b46 b36 bL6 g6O g6H ROU6 BW6 hX hw7 b67 HSC B5 B4 B3
      go_wp2_with (first
        | ((refine st_new rfl (.tmp 11) (.tmp 46) rfl D DL.out (by rfl) _ _ (by rfl) (by rfl) ?_); rw [← HX.out, ← HW7.out]))
      refine wp_region_any (by kernel_rfl) ?_
      change wpAny _ _ _ _ _ _ _ w7.drew
      refine wpAny_take (i := 0) (oi := _) (v := .slice (some ⟨O, 0, none⟩) 64 64) rfl (by kernel_rfl) (by kernel_rfl) (by kernel_rfl) (fun _ _ _ h => h) (.inl ⟨by rfl, fun w => by go_simp⟩) ?_
      simp only [Act.put, List.getElem_toArray, List.getElem_cons_zero, List.getElem_cons_succ, List.setIfInBounds_toArray, List.set_cons_zero, List.set_cons_succ]
      refine wpAny_take (i := 1) (oi := _) (v := .slice (some ⟨X, 0, none⟩) 32 32) rfl (by kernel_rfl) (by kernel_rfl) (by kernel_rfl) (fun _ _ _ h => h) (.inl ⟨by rfl, fun w => by go_simp⟩) ?_
      simp only [Act.put, List.getElem_toArray, List.getElem_cons_zero, List.getElem_cons_succ, List.setIfInBounds_toArray, List.set_cons_zero, List.set_cons_succ]
      obtain ⟨w8, hw8⟩ : ∃ z, z = w7.drew := ⟨_, rfl⟩
      have rO := Lib.hid (show Rd w8 (some ⟨O, 0, none⟩) 163 ((padK 92 KD).map vB) by rw [hw8]; exact (rd_of_row g7O.out).drew)
      have rX := Lib.hid (show Rd w8 (some ⟨X, 0, none⟩) 23 (D.map vB) by rw [hw8]; exact (rd_of_row g7X.out).drew)
      have g8H := Lib.hid (show w8.heap[H]? = some (.cells (dV nz) 23 (0, 0)) by rw [hw8]; exact g7H.out)
      have ROU8 := Lib.hid (show RoundsAt w8 by rw [hw8]; exact ROU7.out)
      have BW8 := Lib.hid (show Below H w w8 by rw [hw8]; exact BW7.out.drew)
      have hs8 : H < w8.heap.size := lt_of_heap g8H.out
      obtain ⟨i0, hi0, hz0, hs0, hb0'⟩ := info_parts info_byte
      have hp92 := padK_length 92 KD
      rw [← hw8]
      clear hw8 g7O g7X g7H ROU7 BW7
      refine wpAny_ready (rs := [2]) (by kernel_rfl) (by simp) ?_
      refine AllReady.cons (o := _) rfl (fun K hK => ?_) AllReady.nil
      have HK := Lib.hid hK
      clear hK
      refine step_append_grows rfl _ _ 67 rfl 5 i0 (.int .u8 0) 1 1 Tryd.underlying67 hi0 hz0 hs0 hb0' rfl (by omega) (some ⟨O, 0, none⟩) 64 64 ((padK 92 KD).map vB) (by rfl) (fun h => by cases h) (by rw [List.length_map, hp92]) (fun x hx => by obtain rfl := Option.some.inj hx; exact rO.out.news) ⟨X, 0, none⟩ 32 32 (D.map vB) (by rfl) (by rw [List.length_map, DL.out]) rX.out.news (one_bytes D) (by omega) (by simp only [maxLen]; omega) (by omega) ?_
      intro v9 w9 hown9 hgrow9
      rw [← List.map_append] at hown9
      obtain ⟨g9, c9, rfl, hg9, r9, _, _, _⟩ := own_facts hown9 (by omega)
      have b89 : Below w8.heap.size w8 w9 := (Below.refl _ _).grown hgrow9 (Nat.le_refl _) (fun j hj => by cases hj)
      have g9H := Lib.hid ((b89.block H hs8).trans g8H.out)
      have BW9 := Lib.hid (BW8.out.trans (b89.mono (Nat.le_of_lt hs8)))
      have hl9 : (padK 92 KD ++ D).length = 96 := by rw [List.length_append, hp92, DL.out]
      have SC := Sha_calls (padK 92 KD ++ D) (some ⟨g9, 0, none⟩) c9 _ w9 r9 (by omega) (ROU8.out.at_ b89) (ROU8.out.at_ b89).lt
      rw [hl9] at SC
      have HSC := Lib.hid SC
      clear SC hown9 hgrow9 r9 b89 hg9 hl9 hp92
      refine HK.out _ _ ?_
      clear HK K
      try simp only [Act.put, List.getElem_toArray, List.getElem_cons_zero, List.getElem_cons_succ, List.setIfInBounds_toArray, List.set_cons_zero, List.set_cons_succ]
      refine wpAny_ready (rs := [3]) (by kernel_rfl) (by simp) ?_
      refine AllReady.cons (o := _) rfl (fun K hK => ?_) AllReady.nil
      have HK := Lib.hid hK
      clear hK
      go_simp
      go_at_call 105
      refine HSC.out.mono ?_
      rintro e w10 ⟨rfl, hb10⟩
      dsimp only
      have hs9 : H < w9.heap.size := lt_of_heap g9H.out
      have g10H := Lib.hid ((hb10.block H hs9).trans g9H.out)
      have BW10 := Lib.hid (BW9.out.trans (hb10.mono (Nat.le_of_lt hs9)))
      clear hb10 HSC
      refine HK.out _ _ ?_
      clear HK K
      try simp only [Act.put, List.getElem_toArray, List.getElem_cons_zero, List.getElem_cons_succ, List.setIfInBounds_toArray, List.set_cons_zero, List.set_cons_succ]
      refine wpAny_ready (rs := [4]) (by kernel_rfl) (by simp) ?_
      refine AllReady.cons (o := _) rfl (fun K hK => ?_) AllReady.nil
      have HK := Lib.hid hK
      clear hK
      rw [if_pos (by rfl)]
      refine wp_store_row _ _ _ rfl H (dV (shaOf (padK 92 KD ++ D))) (by rfl) (by rfl) _ (dV nz) g10H.out (info_dV (shaOf_length _)) (by rw [dV_size (shaOf_length _)]; rfl) (dV_one _) ?_
      refine HK.out _ _ ?_
      clear HK K
      try simp only [Act.put, List.getElem_toArray, List.getElem_cons_zero, List.getElem_cons_succ, List.setIfInBounds_toArray, List.set_cons_zero, List.set_cons_succ]
      refine wpAny_done (by kernel_rfl) ?_ _
      try go_wp2_with fail
      try simp only [Exit.inBlock, Exit.then]
      refine bodyPost_ret (v := .agg (dV (shaOf (padK 92 KD ++ D)))) (results_cellW rfl _ _ _ ⟨H, 0, none⟩ _ rfl ?_) rfl ?_
      · exact dig_load (shaOf_length _) (range_of_row (setRow_heap _ _ _ _ _ _ g10H.out))
      · exact ⟨by rw [HD.out]; rw [macOf, keyOf_long KL, ← HKD.out], by rw [← HH.out]; exact below_setRowW BW10.out (Nat.le_refl _) _⟩
theorem Mac_any (KY : List UInt8) (KU : KY.length ≤ 140737488355328) (ka : Option Addr) (kc ke : Nat) (b : List UInt8) (hb0 : 0 < b.length) (hbl : b.length ≤ 1000000000) (ba : Option Addr) (bc be : Nat) (w : World) (hk : Rd w ka ke (KY.map vB)) (hb : Rd w ba be (b.map vB)) (hro : RoundsAt w) :
    Calls Tryd.prog 66 #[.slice ka KY.length kc, .slice ba b.length bc] w fun e w' => e = .returned (.agg (dV (macOf KY b))) ∧ Below w.heap.size w w' := by
  by_cases h : 64 < KY.length
  · exact Mac_long KY h KU ka kc ke b hb0 hbl ba bc be w hk hb hro
  · exact Mac_short KY (by omega) ka kc ke b hb0 hbl ba bc be w hk hb hro
end Go.Proofs.YtkioddmhjbaleaaDoor
