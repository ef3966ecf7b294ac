/- Walks: the reference's Places. -/
import Derived.Test.YteikbbdkpeecaaaDoorSieveRef
import Derived.Test.YteikbbdkpeecaaaDoorNumsK
namespace Go.Proofs.YteikbbdkpeecaaaDoor
open Go.RowKit Go.Shelf
set_option linter.unusedVariables false
set_option linter.unusedSimpArgs false
theorem rd_int (w : World) (p : Nat) : Rd (w.alloc (.cells #[.int .i64 (p : Int)] 3)) (some ⟨w.heap.size, 0, none⟩) 3 ([p].map vK) :=
  .inr ⟨w.heap.size, 0, #[.int .i64 (p : Int)], (0, 0), rfl, heap_alloc_new _ _, fun i hi => by
    have : i = 0 := by simp at hi; omega
    subst this; rfl⟩
theorem one_K (l : List Nat) : ∀ u ∈ l.map vK, u.oneCell' = true := by
  intro u hu
  obtain ⟨b, _, rfl⟩ := List.mem_map.1 hu
  rfl
set_option maxRecDepth 100000 in
set_option maxHeartbeats 8000000 in
theorem RPlaces_calls (L : Nat) (hL0 : 0 < L) (hL : L ≤ 1024) (K : Nat) (hK : K ≤ 8) (b : List UInt8) (hbl : b.length ≤ 140737488351232) (a : Option Addr) (c : Nat) (ab : Option Addr) (cb eb : Nat) (w : World) (h : Rd w ab eb (b.map vB)) :
    Calls Tryd.prog 14 #[.agg #[.slice a L c, .int .i64 (K : Int)], .slice ab b.length cb] w (RetKs w (placesOf L K b)) := by
  obtain ⟨H, hH⟩ : ∃ H, H = w.heap.size := ⟨_, rfl⟩
  obtain ⟨w0, hw0⟩ : ∃ z, z = w.alloc (.cells #[.slice a L c, .int .i64 (K : Int)] 24) := ⟨_, rfl⟩
  have q0 : w0.heap.size = H + 1 := by rw [hw0, hH]; exact World.size_alloc _ _
  have b0 : Below H w w0 := by rw [hw0, hH]; exact (Below.refl _ _).alloc (Nat.le_refl _) _
  have g0 : w0.heap[H]? = some (.cells #[.slice a L c, .int .i64 (K : Int)] 24 (0, 0)) := by rw [hw0, hH]; exact heap_alloc_new _ _
  have rb := h.below (show Below w.heap.size w w0 by rw [← hH]; exact b0)
  obtain ⟨B, hB⟩ : ∃ B, B = w0.heap.size := ⟨_, rfl⟩
  have HBB : H < B := by omega
  have HW0 := Lib.hid hw0
  have HH := Lib.hid hH
  have B0 := Lib.hid b0
  have G0 := Lib.hid g0
  have RB := Lib.hid rb
  have HB := Lib.hid hB
  clear q0 b0 g0 rb hB hw0 hH h
  go_enter Tryd.func14, Tryd.ntmps14
  go_upto_region 2 with fail
  rw [← HH.out, ← HW0.out]
  go_wp2_with fail
  go_loopw [5, 6] (fun v i wr => ∃ (k : Nat) (ap : Option Addr) (cp : Nat), k ≤ K ∧ i = .int .i64 k ∧ v = .slice ap k cp ∧ wr.ownsRow B 3 1 (.slice ap k cp) k ((placesOf L k b).map vK) ∧ Below B w0 wr) (fun _ i _ => K - (intOf i).toNat)
  case atStart => exact ⟨0, none, 0, Nat.zero_le _, rfl, rfl, World.ownsRow_nil _ _ _ _, Below.refl _ _⟩
  case round =>
    obtain ⟨k, ap, cp, hk, rfl, rfl, hown, hbl9⟩ := hrel
    obtain ⟨wB, rfl⟩ : ∃ z, z = wr := ⟨_, rfl⟩
    have gH := (hbl9.block H HBB).trans G0.out
    have c0 : wB.cell? ⟨H, 0, none⟩ = some (.slice a L c) := by rw [cell_of_row _ _ _ _ _ _ gH]; rfl
    have c1 : wB.cell? ⟨H, 1, none⟩ = some (.int .i64 (K : Int)) := by rw [cell_of_row _ _ _ _ _ _ gH]; rfl
    by_cases hlt : k < K
    · have kK : (k : Int) < (K : Int) := by omega
      have k0 : (0 : Int) ≤ (k : Int) := by omega
      obtain ⟨E, hE⟩ : ∃ E, E = wB.heap.size := ⟨_, rfl⟩
      have hBE : B ≤ E := by rw [hE, HB.out]; exact hbl9.size
      have ek2 : (k : Int) = ((UInt8.ofNat k).toNat : Int) := by rw [UInt8.toNat_ofNat']; omega
      obtain ⟨X, hX⟩ : ∃ X, X = UInt8.ofNat k := ⟨_, rfl⟩
      rw [← hX] at ek2
      have o1 : (wB.alloc (.cells #[.int .u8 17, .int .u8 (k : Int)] 5)).ownsRow E 5 1 (.slice (some ⟨E, 0, none⟩) 2 2) 2 ([(17 : UInt8), X].map vB) := by
        rw [hE, ek2]; exact World.ownsRow_lit (base := wB.heap.size) (e := 5) (size := 1) wB #[.int .u8 17, .int .u8 X.toNat] 2 (Nat.le_refl _) (by simp only [maxLen]; decide) rfl
      have bE : Below E wB (wB.alloc (.cells #[.int .u8 17, .int .u8 (k : Int)] 5)) := by rw [hE]; exact (Below.refl _ _).alloc (Nat.le_refl _) _
      have sE : E ≤ (wB.alloc (.cells #[.int .u8 17, .int .u8 (k : Int)] 5)).heap.size := by rw [World.size_alloc]; omega
      have rd := (RB.out.below (show Below w0.heap.size w0 wB by rw [← HB.out]; exact hbl9)).below (show Below wB.heap.size wB _ by rw [← hE]; exact bE)
      have e4 : IntKind.i64.wrap ((k : Int) + 1) = (k : Int) + 1 := IntWalk.i64_in _ (by omega)
      have HE := Lib.hid hE
      have HX := Lib.hid hX
      have O1 := Lib.hid o1
      have BE := Lib.hid bE
      have RD := Lib.hid rd
      have HO := Lib.hid hown
      have HBL := Lib.hid hbl9
      have HGH := Lib.hid gH
      clear hE hX o1 bE rd ek2 hown hbl9 gH
      go_wp2_with (at_builtin; rw [← HE.out]; refine appAllw 22 5 (.int .u8 0) 1 1 Tryd.underlying22 info_byte rfl (by omega) rfl (.tmp 18) (.tmp 19) (by rfl) E _ 2 _ (by rfl) O1.out ab b.length cb (b.map vB) (by rfl) _ RD.out (by simp) (one_bytes b) (by omega) (by omega) sE ?_; intro av3 cp3 w3 hown3 hb3; rw [← List.map_append] at hown3; have O3 := Lib.hid hown3; have B3 := Lib.hid (BE.out.trans hb3); have s3' := Nat.le_trans sE hb3.size; clear hown3 hb3)
      have hlen : (sTxt k b).length = 2 + b.length := by rw [sTxt_length]; omega
      have r3 := Rd.of_own O3.out
      rw [HX.out] at r3
      have SC := RSum_calls (sTxt k b) av3 cp3 _ w3 r3 (by rw [hlen]; omega)
      rw [hlen] at SC
      have HSC := Lib.hid SC
      clear SC r3 hlen O1 BE RD
      refine HSC.out.mono ?_
      rintro e w4 ⟨rfl, hb4⟩
      obtain ⟨D, hD⟩ : ∃ D, D = shaOf (sTxt k b) := ⟨_, rfl⟩
      have hDl : D.length = 32 := by rw [hD]; exact shaOf_length _
      rw [← hD]
      obtain ⟨w5, hw5⟩ : ∃ x, x = w4.alloc (.cells (dV D) 55) := ⟨_, rfl⟩
      have b45 : Below w4.heap.size w4 w5 := by rw [hw5]; exact (Below.refl _ _).alloc (Nat.le_refl _) _
      have hs4 := hb4.size
      have b5 : Below E wB w5 := B3.out.trans ((hb4.trans (b45.mono hs4)).mono s3')
      obtain ⟨Y, hY⟩ : ∃ Y, Y = w4.heap.size := ⟨_, rfl⟩
      have rY : Rd w5 (some ⟨Y, 0, none⟩) 55 ((D.take 4).map vB) := by rw [hw5, hY, List.map_take]; exact (Rd.box w4 D _).take 4
      have hl4 : (D.take 4).length = 4 := by rw [List.length_take, hDl]; rfl
      have NC := RNum_calls (D.take 4) (by omega) (by omega) (some ⟨Y, 0, none⟩) 32 _ w5 rY
      rw [hl4] at NC
      have hN32 := num4_lt D
      obtain ⟨N, hN⟩ : ∃ N, N = numB (D.take 4) := ⟨_, rfl⟩
      rw [← hN] at NC hN32
      have hp : sAt L b k = N % (8 * L) := by unfold sAt; rw [hN, hD]
      obtain ⟨p, hpp⟩ : ∃ p, p = sAt L b k := ⟨_, rfl⟩
      rw [← hpp] at hp
      have hpL : p < 8 * L := by rw [hpp]; exact sAt_lt L hL0 b k
      have m8 : IntKind.i64.wrap (8 * (L : Int)) = 8 * (L : Int) := IntWalk.i64_in _ (by omega)
      have m8z : ((8 * (L : Int)) == 0) = false := by rw [beq_eq_false_iff_ne]; omega
      have mN : (N : Int) % (8 * (L : Int)) = (p : Int) := by rw [hp]; exact_mod_cast rfl
      have mNt : (N : Int).tmod (8 * (L : Int)) = (p : Int) := by rw [Int.tmod_eq_emod_of_nonneg (by omega)]; exact mN
      have mw : IntKind.i64.wrap (p : Int) = (p : Int) := IntWalk.i64_in _ (by omega)
      have hsE : E ≤ w5.heap.size := Nat.le_trans (Nat.le_trans s3' hs4) b45.size
      have HDL := Lib.hid hDl
      have HW5 := Lib.hid hw5
      have HYY := Lib.hid hY
      have B5 := Lib.hid b5
      have HNC := Lib.hid NC
      have HPP := Lib.hid hpp
      clear hDl hD hw5 hY b5 b45 hb4 hs4 HSC O3 B3 rY NC hN hN32 hp hl4 hpp s3' sE
      go_upto_region 6 with (refine st_new rfl (.tmp 7) (.tmp 21) rfl D HDL.out (by rfl) _ _ (by rfl) (by rfl) ?_)
      rw [← HW5.out, ← HYY.out]
      go_wp2_with fail
      refine HNC.out.mono ?_
      rintro e w6 ⟨rfl, rfl⟩
      have hb5w : Below wB.heap.size wB w5 := by rw [← HE.out]; exact B5.out
      have hown5 := own_below HO.out hb5w
      have gH5 := (hb5w.block H (by rw [← HE.out]; omega)).trans HGH.out
      have d0 : w5.cell? ⟨H, 0, none⟩ = some (.slice a L c) := by rw [cell_of_row _ _ _ _ _ _ gH5]; rfl
      have d1 : w5.cell? ⟨H, 1, none⟩ = some (.int .i64 (K : Int)) := by rw [cell_of_row _ _ _ _ _ _ gH5]; rfl
      obtain ⟨F, hF⟩ : ∃ F, F = w5.heap.size := ⟨_, rfl⟩
      obtain ⟨w7, hw7⟩ : ∃ x, x = w5.alloc (.cells #[.int .i64 (p : Int)] 3) := ⟨_, rfl⟩
      have hown7 : w7.ownsRow B 3 1 (.slice ap k cp) k ((placesOf L k b).map vK) := by rw [hw7]; exact hown5.alloc _
      have r7 : Rd w7 (some ⟨F, 0, none⟩) 3 ([p].map vK) := by rw [hw7, hF]; exact rd_int w5 p
      have b7 : Below B w0 w7 := by rw [hw7]; exact (HBL.out.trans (B5.out.mono hBE)).alloc (by omega) _
      have s7 : B ≤ w7.heap.size := by rw [hw7, World.size_alloc]; omega
      have HF := Lib.hid hF
      have HW7 := Lib.hid hw7
      have HO7 := Lib.hid hown7
      have HR7 := Lib.hid r7
      have B7 := Lib.hid b7
      clear hb5w hown5 gH5 hF hw7 hown7 r7 b7 HNC HO HBL HGH B5 HW5 HYY c0 c1
      go_wp2_with (at_builtin; rw [← HF.out, ← HW7.out]; refine appAllw 35 3 (.int .i64 0) 1 8 Tryd.underlying35 info_intO rfl (by omega) rfl (.tmp 27) (.tmp 34) (by rfl) B _ k _ (by rfl) HO7.out (some ⟨F, 0, none⟩) 1 1 ([p].map vK) (by rfl) _ HR7.out (by simp) (one_K _) (by omega) (by omega) s7 ?_; intro av8 cp8 w8 hown8 hb8; rw [← List.map_append] at hown8; have O8 := Lib.hid hown8; have B8 := Lib.hid (B7.out.trans hb8); clear hown8 hb8)
      go_roundw
      case rel => exact ⟨k + 1, av8, cp8, by omega, by go_num, rfl, by rw [placesOf_succ, ← HPP.out]; exact O8.out, B8.out⟩
      case measure => simp [intOf]; omega
    · obtain rfl : k = K := by omega
      have HO := Lib.hid hown
      have HBL := Lib.hid hbl9
      clear hown hbl9 gH
      go_wp2_with fail
      go_ret
      refine ⟨ap, cp, by rw [placesOf_length]; rfl, ?_, ?_⟩
      · rw [placesOf_length]; exact own_low HO.out (by rw [← HH.out]; omega)
      · rw [← HH.out]; exact B0.out.trans (HBL.out.mono (by omega))
end Go.Proofs.YteikbbdkpeecaaaDoor
