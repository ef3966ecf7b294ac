/- Walks: the document's Mac (keys of 64 bytes and fewer), and the keys that it makes. -/
import Derived.Test.YtkioddmhjbaleaaGreatDoorKeys
namespace Go.Proofs.YtkioddmhjbaleaaGreatDoor
open Go.RowKit
set_option linter.unusedVariables false
set_option linter.unusedSimpArgs false

/-- both pads, each in a row of its own -/
structure Pads (w : World) (H : Nat) (K : List UInt8) (k6 k7 : Nat) (v6 v7 : Value) (wr : World) : Prop where
  o : wr.ownsRow (H + 1) 5 1 v6 k6 (((padK 92 K).take k6).map vB)
  i : wr.ownsRow (H + 1) 5 1 v7 k7 (((padK 54 K).take k7).map vB)
  ne : ∀ g, v6.ownBlock = some g → v7.ownBlock ≠ some g
  r : wr.heap[H]? = some (.cells (dV nz) 23 (0, 0))
  bel : Below w.heap.size w wr
theorem kept_row {w w' : World} {b : Nat} {e : TypeId} {s n : Nat} {v v' : Value} {xs : List Value} (h : w.ownsRow b e s v n xs) (hg : w.grownBy w' v'.ownBlock) (hne : ∀ g, v'.ownBlock = some g → v.ownBlock ≠ some g) : w'.ownsRow b e s v n xs := by
  refine h.kept hg ?_
  cases hv : v.ownBlock with
  | none => exact .inl rfl
  | some g => exact .inr fun e1 => hne g e1.symm hv
theorem Pads.appO {w wr w' : World} {H : Nat} {K : List UInt8} {k : Nat} {v6 v7 : Value} (h : Pads w H K k k v6 v7 wr) (hw : w.heap.size ≤ H) (hk : k < 64) (y : Int) (hy : vB (tw (K.getD k 0) 92) = .int .u8 y) (ob : Obj) {g cp : Nat} (hown : w'.ownsRow (H + 1) 5 1 (.slice (some ⟨g, 0, none⟩) (k + 1) cp) (k + 1) (((padK 92 K).take k).map vB ++ [.int .u8 y])) (hg : (wr.alloc ob).grownBy w' v6.ownBlock) (hat : v6.ownBlock = some g ∨ g = (wr.alloc ob).heap.size) :
    Pads w H K (k + 1) k (.slice (some ⟨g, 0, none⟩) (k + 1) cp) v7 w' := by
  have hl := lt_of_heap h.r
  refine ⟨by rw [padK_take 92 K k hk, List.map_append, List.map_singleton, hy]; exact hown, kept_row (h.i.alloc ob) hg h.ne, ?_, ?_, ?_⟩
  · intro g' hg' e
    simp only [Value.ownBlock, Option.some.injEq] at hg'
    subst hg'
    rcases hat with hat | hat
    · exact h.ne _ hat e
    · have := (h.i.lt _ e).2; rw [World.size_alloc] at hat; omega
  · rw [hg.block H (by rw [World.size_alloc]; omega) (fun e => by have := (h.o.lt H e.symm).1; omega), Below.heap_alloc wr ob H hl]
    exact h.r
  · exact (h.bel.alloc h.bel.size ob).grown hg (by rw [World.size_alloc]; have := h.bel.size; omega) (fun j hj => by have := (h.o.lt j hj).1; omega)
theorem Pads.appI {w wr w' : World} {H : Nat} {K : List UInt8} {k : Nat} {v6 v7 : Value} (h : Pads w H K (k + 1) k v6 v7 wr) (hw : w.heap.size ≤ H) (hk : k < 64) (y : Int) (hy : vB (tw (K.getD k 0) 54) = .int .u8 y) (ob : Obj) {g cp : Nat} (hown : w'.ownsRow (H + 1) 5 1 (.slice (some ⟨g, 0, none⟩) (k + 1) cp) (k + 1) (((padK 54 K).take k).map vB ++ [.int .u8 y])) (hg : (wr.alloc ob).grownBy w' v7.ownBlock) (hat : v7.ownBlock = some g ∨ g = (wr.alloc ob).heap.size) :
    Pads w H K (k + 1) (k + 1) v6 (.slice (some ⟨g, 0, none⟩) (k + 1) cp) w' := by
  have hl := lt_of_heap h.r
  refine ⟨kept_row (h.o.alloc ob) hg (fun g h1 h2 => h.ne g h2 h1), by rw [padK_take 54 K k hk, List.map_append, List.map_singleton, hy]; exact hown, ?_, ?_, ?_⟩
  · intro g' hg' e
    simp only [Value.ownBlock, Option.some.injEq] at e
    subst e
    rcases hat with hat | hat
    · exact h.ne _ hg' hat
    · have := (h.o.lt _ hg').2; rw [World.size_alloc] at hat; omega
  · rw [hg.block H (by rw [World.size_alloc]; omega) (fun e => by have := (h.i.lt H e.symm).1; omega), Below.heap_alloc wr ob H hl]
    exact h.r
  · exact (h.bel.alloc h.bel.size ob).grown hg (by rw [World.size_alloc]; have := h.bel.size; omega) (fun j hj => by have := (h.i.lt j hj).1; omega)
theorem info_u8W : (Tryz.prog.info? 5).map (fun i => (i.zero, i.size, i.bytes)) = some (some (.int .u8 0), 1, 1) := by kernel_rfl
set_option maxRecDepth 20000 in
set_option maxHeartbeats 4000000 in
theorem RMac_short (KY : List UInt8) (KL : KY.length ≤ 64) (ka : Option Addr) (kc ke : Nat) (b : List UInt8) (hb0 : 0 < b.length) (hbl : b.length ≤ 1000000000) (ba : Option Addr) (bc be : Nat) (w : World) (hk : Rd w ka ke (KY.map vB)) (hb : Rd w ba be (b.map vB)) :
    Calls Tryz.prog 19 #[.slice ka KY.length kc, .slice ba b.length bc] w fun e w' => e = .returned (.agg (dV (macOf KY b))) ∧ Below w.heap.size w w' := by
  have hz : nz.length = 32 := rfl
  have ZL := Lib.hid hz
  clear hz
  have HK := Lib.hid hk
  have HB := Lib.hid hb
  clear hk hb
  have q1 : decide ((64 : Int) < (KY.length : Int)) = false := decide_eq_false (by omega)
  have q1b : decide (64 < KY.length) = false := decide_eq_false (by omega)
  obtain ⟨H, hH⟩ : ∃ z, z = w.heap.size := ⟨_, rfl⟩
  obtain ⟨w1, hw1⟩ : ∃ z, z = w.alloc (.cells (dV nz) 23) := ⟨_, rfl⟩
  have st1 : Below w.heap.size w w1 := by rw [hw1]; exact (Below.refl _ _).alloc (Nat.le_refl _) _
  have B1 := Lib.hid (show Below w.heap.size w w1 from Below.trans (Below.refl w.heap.size w) (Below.mono st1 (Below.size (Below.refl w.heap.size w))))
  have GH_1 := Lib.hid (show w1.heap[H]? = some (.cells (dV nz) 23 (0, 0)) by rw [hw1, hH]; exact heap_alloc_new _ _)
  have LH_1 := Lib.hid (lt_of_heap GH_1.out)
  have HH := Lib.hid hH
  have Hw1 := Lib.hid hw1
  clear hH hw1 st1
  have SZH := Lib.hid (show H = w.heap.size from HH.out)
  have hHw : w.heap.size ≤ H := by rw [SZH.out]; exact Nat.le_refl _
  have P0 := Lib.hid (show Pads w H KY 0 0 (.slice none 0 0) (.slice none 0 0) w1 from ⟨World.ownsRow_nil _ _ _ _, World.ownsRow_nil _ _ _ _, (fun g h => by cases h), GH_1.out, B1.out⟩)
  go_enter Tryz.func19, Tryz.ntmps19
  go_upto_region 1 with fail
  rw [zdig]
  rw [← SZH.out, ← Hw1.out]
  go_wp2_with fail
  go_loopw [6, 7, 8, 9] (fun v6 v7 i x wr => ∃ k : Nat, k ≤ 64 ∧ i = .int .i64 k ∧ Hid (Pads w H KY k k v6 v7 wr)) (fun _ _ i _ _ => 64 - (intOf i).toNat)
  case atStart => exact ⟨0, Nat.zero_le _, rfl, P0⟩
  case round =>
    obtain ⟨k, hk, rfl, HI⟩ := hrel
    by_cases hlt : k < 64
    · have k0 : (0 : Int) ≤ (k : Int) := by omega
      by_cases hkl : k < KY.length
      · obtain ⟨kb, ko, hka, hkb, hkc⟩ := (HK.out.below HI.out.bel).bytes hkl
        have ck := hkc k hkl
        obtain ⟨X, hX⟩ : ∃ X, X = KY[k] := ⟨_, rfl⟩
        rw [← hX] at ck
        have HGD := Lib.hid (show KY.getD k 0 = X by rw [List.getD_eq_getElem?_getD, List.getElem?_eq_getElem hkl, hX]; rfl)
        have kl1 : (k : Int) < (KY.length : Int) := by omega
        have x92 : bits .xor .u8 (X.toNat : Int) 92 = ((tw X 92).toNat : Int) := tw_bits X 92
        have x54 : bits .xor .u8 (X.toNat : Int) 54 = ((tw X 54).toNat : Int) := tw_bits X 54
        clear hkc hX
        subst hka
        have HY92 := Lib.hid (show vB (tw (KY.getD k 0) 92) = .int .u8 (((tw X 92).toNat : Int)) by rw [HGD.out]; rfl)
        have HY54 := Lib.hid (show vB (tw (KY.getD k 0) 54) = .int .u8 (((tw X 54).toNat : Int)) by rw [HGD.out]; rfl)
        have hsR := lt_of_heap HI.out.r
        go_wp2_with (first
          | (at_builtin; refine app1 52 5 (.int .u8 0) 1 Tryz.underlying52 info_u8W rfl (by omega) rfl (.tmp 29) (.tmp 32) rfl (H + 1) _ k (((padK 92 KY).take k).map vB) rfl (HI.out.o.alloc _) ⟨wr.heap.size, 0, none⟩ 1 (.int .u8 (((tw X 92).toNat : Int))) rfl (by simp) rfl (by omega) (by simp; omega) _ rfl ?_; intro gO cO w3 hown hgrow hat _; have PO := Lib.hid (HI.out.appO hHw hlt (((tw X 92).toNat : Int)) HY92.out _ hown hgrow hat); have hsO := lt_of_heap PO.out.r; clear hown hgrow hat)
          | (at_builtin; refine app1 52 5 (.int .u8 0) 1 Tryz.underlying52 info_u8W rfl (by omega) rfl (.tmp 34) (.tmp 37) rfl (H + 1) _ k (((padK 54 KY).take k).map vB) rfl (PO.out.i.alloc _) ⟨w3.heap.size, 0, none⟩ 1 (.int .u8 (((tw X 54).toNat : Int))) rfl (by simp) rfl (by omega) (by simp; omega) _ rfl ?_; intro gI cI w4 hown hgrow hat _; have PI := Lib.hid (PO.out.appI hHw hlt (((tw X 54).toNat : Int)) HY54.out _ hown hgrow hat); have hsI := lt_of_heap PI.out.r; clear hown hgrow hat))
        go_roundw
        case rel => exact ⟨k + 1, by omega, by go_num, PI⟩
        case measure => simp [intOf] <;> omega
      · have HGD := Lib.hid (show KY.getD k 0 = 0 by rw [List.getD_eq_getElem?_getD, List.getElem?_eq_none (by omega)]; rfl)
        have x92 : bits .xor .u8 0 92 = 92 := by decide +kernel
        have x54 : bits .xor .u8 0 54 = 54 := by decide +kernel
        have HY92 := Lib.hid (show vB (tw (KY.getD k 0) 92) = .int .u8 (92) by rw [HGD.out]; rfl)
        have HY54 := Lib.hid (show vB (tw (KY.getD k 0) 54) = .int .u8 (54) by rw [HGD.out]; rfl)
        have hsR := lt_of_heap HI.out.r
        go_wp2_with (first
          | (at_builtin; refine app1 52 5 (.int .u8 0) 1 Tryz.underlying52 info_u8W rfl (by omega) rfl (.tmp 29) (.tmp 32) rfl (H + 1) _ k (((padK 92 KY).take k).map vB) rfl (HI.out.o.alloc _) ⟨wr.heap.size, 0, none⟩ 1 (.int .u8 (92)) rfl (by simp) rfl (by omega) (by simp; omega) _ rfl ?_; intro gO cO w3 hown hgrow hat _; have PO := Lib.hid (HI.out.appO hHw hlt (92) HY92.out _ hown hgrow hat); have hsO := lt_of_heap PO.out.r; clear hown hgrow hat)
          | (at_builtin; refine app1 52 5 (.int .u8 0) 1 Tryz.underlying52 info_u8W rfl (by omega) rfl (.tmp 34) (.tmp 37) rfl (H + 1) _ k (((padK 54 KY).take k).map vB) rfl (PO.out.i.alloc _) ⟨w3.heap.size, 0, none⟩ 1 (.int .u8 (54)) rfl (by simp) rfl (by omega) (by simp; omega) _ rfl ?_; intro gI cI w4 hown hgrow hat _; have PI := Lib.hid (PO.out.appI hHw hlt (54) HY54.out _ hown hgrow hat); have hsI := lt_of_heap PI.out.r; clear hown hgrow hat))
        go_roundw
        case rel => exact ⟨k + 1, by omega, by go_num, PI⟩
        case measure => simp [intOf] <;> omega
    · obtain rfl : k = 64 := by omega
      obtain ⟨a6, c6, rfl⟩ := own_slice HI.out.o
      obtain ⟨a7, c7, rfl⟩ := own_slice HI.out.i
      obtain ⟨Bb, ob, hba, _, _⟩ := (HB.out.below HI.out.bel).bytes (k := 0) hb0
      subst hba
      have h64 : ∀ c, (padK c KY).take 64 = padK c KY := fun c => List.take_of_length_le (by rw [padK_length]; omega)
      have o6 := HI.out.o
      have o7 := HI.out.i
      rw [h64] at o6 o7
      have O6 := Lib.hid o6
      have O7 := Lib.hid o7
      have NE := Lib.hid HI.out.ne
      have GR := Lib.hid HI.out.r
      have BR := Lib.hid HI.out.bel
      have hsR := lt_of_heap HI.out.r
      have hsW := HI.out.bel.size
      have RB := Lib.hid (HB.out.below HI.out.bel)
      clear o6 o7 HI h64
      go_wp2_with (at_builtin; refine appRdw 52 5 (.int .u8 0) 1 1 Tryz.underlying52 info_u8W rfl (by omega) rfl (.tmp 39) (.tmp 40) rfl (H + 1) _ 64 _ rfl O7.out ⟨Bb, ob, none⟩ b.length _ (b.map vB) rfl _ RB.out (by simp) (one_bytes b) hb0 (by omega) (by omega) (by omega) _ rfl ?_; intro g3 c3 w3 hown3 hgrow3 _ _; rw [← List.map_append] at hown3; have R3 := Lib.hid (Rd.of_own hown3); have O63 := Lib.hid (kept_row O6.out hgrow3 (fun g h1 h2 => NE.out g h2 h1)); have B3 := Lib.hid (show Below w.heap.size w w3 from BR.out.grown hgrow3 hsW (fun j hj => by have := (O7.out.lt j hj).1; omega)); have G3 := Lib.hid (show w3.heap[H]? = some (.cells (dV nz) 23 (0, 0)) by rw [hgrow3.block H hsR (fun e => by have := (O7.out.lt H e.symm).1; omega)]; exact GR.out); clear hown3 hgrow3)
      have hl3 : (padK 54 KY ++ b).length = 64 + b.length := by rw [List.length_append, padK_length]
      have SC := RSum_calls (padK 54 KY ++ b) (some ⟨g3, 0, none⟩) c3 _ w3 R3.out (by omega)
      rw [hl3] at SC
      obtain ⟨D, hD⟩ : ∃ D, D = shaOf (padK 54 KY ++ b) := ⟨_, rfl⟩
      rw [← hD] at SC
      have DL := Lib.hid (show D.length = 32 by rw [hD]; exact shaOf_length _)
      have HD := Lib.hid hD
      have HSC := Lib.hid SC
      clear SC hl3 hD R3
      refine HSC.out.mono ?_
      rintro e w4 ⟨rfl, hb4⟩
      obtain ⟨X, hX⟩ : ∃ X, X = w4.heap.size := ⟨_, rfl⟩
      obtain ⟨w5, hw5⟩ : ∃ z, z = w4.alloc (.cells (dV D) 23) := ⟨_, rfl⟩
      have b45 : Below w4.heap.size w4 w5 := by rw [hw5]; exact (Below.refl _ _).alloc (Nat.le_refl _) _
      have b35 : Below w3.heap.size w3 w5 := hb4.trans (b45.mono hb4.size)
      have G5X := Lib.hid (show w5.heap[X]? = some (.cells (dV D) 23 (0, 0)) by rw [hw5, hX]; exact heap_alloc_new _ _)
      have O65 := Lib.hid (own_below O63.out b35)
      have G5 := Lib.hid ((b35.block H (lt_of_heap G3.out)).trans G3.out)
      have B5 := Lib.hid (B3.out.trans (b35.mono B3.out.size))
      have hs5 := lt_of_heap G5.out
      have hsW5 := B5.out.size
      have HX := Lib.hid hX
      have HW5 := Lib.hid hw5
      clear hb4 b45 b35 hX hw5 HSC
      go_wp2_with (first
        | (refine at_st 23 (.tmp 10) (.tmp 42) rfl ?_; (refine st_new rfl (.tmp 10) (.tmp 42) rfl D DL.out (by rfl) _ _ (by rfl) (by rfl) ?_); rw [← HX.out, ← HW5.out])
        | (at_builtin; refine appRdw 52 5 (.int .u8 0) 1 1 Tryz.underlying52 info_u8W rfl (by omega) rfl (.tmp 43) (.tmp 44) rfl (H + 1) _ 64 _ rfl O65.out ⟨X, 0, none⟩ 32 32 (D.map vB) rfl _ (rd_of_row G5X.out) (by rw [List.length_map, DL.out]) (one_bytes D) (by omega) (by omega) (by omega) (by omega) _ rfl ?_; intro g6 cc6 w6 hown6 hgrow6 _ _; rw [← List.map_append] at hown6; have R6 := Lib.hid (Rd.of_own hown6); have B6 := Lib.hid (show Below w.heap.size w w6 from B5.out.grown hgrow6 hsW5 (fun j hj => by have := (O65.out.lt j hj).1; omega)); have G6 := Lib.hid (show w6.heap[H]? = some (.cells (dV nz) 23 (0, 0)) by rw [hgrow6.block H hs5 (fun e => by have := (O65.out.lt H e.symm).1; omega)]; exact G5.out); clear hown6 hgrow6))
      have hl6 : (padK 92 KY ++ D).length = 64 + 32 := by rw [List.length_append, padK_length, DL.out]
      have SC := RSum_calls (padK 92 KY ++ D) (some ⟨g6, 0, none⟩) cc6 _ w6 R6.out (by omega)
      rw [hl6] at SC
      have HSC := Lib.hid SC
      clear SC hl6 R6
      refine HSC.out.mono ?_
      rintro e w7 ⟨rfl, hb7⟩
      have G7 := Lib.hid ((hb7.block H (lt_of_heap G6.out)).trans G6.out)
      have B7 := Lib.hid (B6.out.trans (hb7.mono B6.out.size))
      clear hb7 HSC
      go_wp2_with (refine st_row rfl (.tmp 4) (.tmp 46) rfl H (shaOf (padK 92 KY ++ D)) (shaOf_length _) (by rfl) (by rfl) (dV nz) (dV_size ZL.out) _ G7.out ?_)
      try simp only [Exit.inBlock, Exit.then]
      refine bodyPost_ret (v := .agg (dV (shaOf (padK 92 KY ++ D)))) (results_cellW rfl _ _ _ ⟨H, 0, none⟩ _ rfl ?_) rfl ?_
      · exact dig_load (shaOf_length _) (range_of_row (setRow_heap _ _ _ _ _ _ G7.out))
      · exact ⟨by rw [HD.out, macOf, keyOf_short KL], below_setRowW B7.out hHw _⟩
set_option maxRecDepth 20000 in
set_option maxHeartbeats 1000000 in
theorem Keyed_calls (seed : List UInt8) (hs : seed.length = 32) (b : List UInt8) (hb0 : 0 < b.length) (hbl : b.length ≤ 1000000000) (ba : Option Addr) (bc be : Nat) (w : World) (hb : Rd w ba be (b.map vB)) :
    Calls Tryz.prog 57 #[.agg (dV seed), .slice ba b.length bc] w fun e w' => e = .returned (.agg (dV (macOf seed b))) ∧ Below w.heap.size w w' := by
  have hz : nz.length = 32 := rfl
  have ZL := Lib.hid hz
  clear hz
  have SL := Lib.hid hs
  have RB := Lib.hid hb
  clear hs hb
  obtain ⟨S, hS⟩ : ∃ z, z = w.heap.size := ⟨_, rfl⟩
  obtain ⟨w1, hw1⟩ : ∃ z, z = w.alloc (.cells (dV seed) 23) := ⟨_, rfl⟩
  have st1 : Below w.heap.size w w1 := by rw [hw1]; exact (Below.refl _ _).alloc (Nat.le_refl _) _
  have B1 := Lib.hid (show Below w.heap.size w w1 from Below.trans (Below.refl w.heap.size w) (Below.mono st1 (Below.size (Below.refl w.heap.size w))))
  have GS_1 := Lib.hid (show w1.heap[S]? = some (.cells (dV seed) 23 (0, 0)) by rw [hw1, hS]; exact heap_alloc_new _ _)
  have LS_1 := Lib.hid (lt_of_heap GS_1.out)
  have HS := Lib.hid hS
  have Hw1 := Lib.hid hw1
  clear hS hw1 st1
  have SZS := Lib.hid (show S = w.heap.size from HS.out)
  obtain ⟨R, hR⟩ : ∃ z, z = w1.heap.size := ⟨_, rfl⟩
  obtain ⟨w2, hw2⟩ : ∃ z, z = w1.alloc (.cells (dV nz) 23) := ⟨_, rfl⟩
  have st2 : Below w1.heap.size w1 w2 := by rw [hw2]; exact (Below.refl _ _).alloc (Nat.le_refl _) _
  have B2 := Lib.hid (show Below w.heap.size w w2 from Below.trans B1.out (Below.mono st2 (Below.size B1.out)))
  have GS_2 := Lib.hid ((Below.block st2 S LS_1.out).trans GS_1.out)
  have LS_2 := Lib.hid (Nat.lt_of_lt_of_le LS_1.out (Below.size st2))
  have GR_2 := Lib.hid (show w2.heap[R]? = some (.cells (dV nz) 23 (0, 0)) by rw [hw2, hR]; exact heap_alloc_new _ _)
  have LR_2 := Lib.hid (lt_of_heap GR_2.out)
  have HR := Lib.hid hR
  have Hw2 := Lib.hid hw2
  clear hR hw2 st2
  have SZR := Lib.hid (show R = w.heap.size + 1 by rw [HR.out, Hw1.out, World.size_alloc, ← HS.out, SZS.out])
  have RB2 := Lib.hid (RB.out.below B2.out)
  have HM := Lib.hid (RMac_short seed (by rw [SL.out]; decide) (some ⟨S, 0, none⟩) 32 _ b hb0 hbl ba bc be w2 (rd_of_row GS_2.out) RB2.out)
  rw [SL.out] at HM
  go_enter Tryz.func57, Tryz.ntmps57
  go_upto_region 1 with fail
  rw [zdig]
  rw [← SZR.out, ← SZS.out, ← Hw1.out, ← Hw2.out]
  go_wp2_with fail
  refine (HM.out).mono ?_
  rintro e w3 ⟨rfl, hb3⟩
  have B3 := Lib.hid (show Below w.heap.size w w3 from Below.trans B2.out (Below.mono hb3 (Below.size B2.out)))
  have GS_3 := Lib.hid ((Below.block hb3 S LS_2.out).trans GS_2.out)
  have LS_3 := Lib.hid (Nat.lt_of_lt_of_le LS_2.out (Below.size hb3))
  have GR_3 := Lib.hid ((Below.block hb3 R LR_2.out).trans GR_2.out)
  have LR_3 := Lib.hid (Nat.lt_of_lt_of_le LR_2.out (Below.size hb3))
  clear HM
  clear hb3
  obtain ⟨w4, hw4⟩ : ∃ z, z = w3.setRow R (dV (macOf seed b)) := ⟨_, rfl⟩
  have B4 := Lib.hid (show Below w.heap.size w w4 by rw [hw4]; exact below_setRowW B3.out (by rw [HR.out]; exact Below.size B1.out) _)
  have sz4 : w4.heap.size = w3.heap.size := by rw [hw4]; exact setRow_size _ _ _
  have GS_4 := Lib.hid (show w4.heap[S]? = some (.cells (dV seed) 23 (0, 0)) by rw [hw4]; exact (_root_.Go.setRow_other _ _ _ _ (by rw [HR.out]; exact Nat.ne_of_lt LS_1.out)).trans GS_3.out)
  have LS_4 := Lib.hid (show S < w4.heap.size by rw [sz4]; exact LS_3.out)
  have GR_4 := Lib.hid (show w4.heap[R]? = some (.cells (dV (macOf seed b)) 23 (0, 0)) by rw [hw4]; exact setRow_heap _ _ _ _ _ _ GR_3.out)
  have LR_4 := Lib.hid (show R < w4.heap.size by rw [sz4]; exact LR_3.out)
  have Hw4 := Lib.hid hw4
  clear hw4 sz4
  go_wp2_with (first
    | (refine at_st 23 (.tmp 4) (.tmp 7) rfl ?_; (refine st_row rfl (.tmp 4) (.tmp 7) rfl R (macOf seed b) (macOf_length _ _) (by rfl) (by rfl) (dV nz) (dV_size ZL.out) _ GR_3.out ?_); rw [← Hw4.out]))
  try simp only [Exit.inBlock, Exit.then]
  refine bodyPost_ret (v := .agg (dV (macOf seed b))) (results_cellW rfl _ _ _ ⟨R, 0, none⟩ _ rfl ?_) rfl ?_
  · exact dig_load (macOf_length _ _) (range_of_row GR_4.out)
  · exact ⟨rfl, B4.out⟩
set_option maxRecDepth 20000 in
set_option maxHeartbeats 1000000 in
theorem RSecret_calls (seed : List UInt8) (hs : seed.length = 32) (i : UInt8) (w : World) :
    Calls Tryz.prog 41 #[.agg (dV seed), .int .i64 (i.toNat : Int)] w fun e w' => e = .returned (.agg (dV (macOf seed [5, i]))) ∧ Below w.heap.size w w' := by
  have hz : nz.length = 32 := rfl
  have ZL := Lib.hid hz
  clear hz
  have SL := Lib.hid hs
  clear hs
  have q1 : IntKind.u8.wrap (i.toNat : Int) = (i.toNat : Int) := by have := i.toNat_lt; rw [IntKind.wrap_u8]; omega
  obtain ⟨S, hS⟩ : ∃ z, z = w.heap.size := ⟨_, rfl⟩
  obtain ⟨w1, hw1⟩ : ∃ z, z = w.alloc (.cells (dV seed) 23) := ⟨_, rfl⟩
  have st1 : Below w.heap.size w w1 := by rw [hw1]; exact (Below.refl _ _).alloc (Nat.le_refl _) _
  have B1 := Lib.hid (show Below w.heap.size w w1 from Below.trans (Below.refl w.heap.size w) (Below.mono st1 (Below.size (Below.refl w.heap.size w))))
  have GS_1 := Lib.hid (show w1.heap[S]? = some (.cells (dV seed) 23 (0, 0)) by rw [hw1, hS]; exact heap_alloc_new _ _)
  have LS_1 := Lib.hid (lt_of_heap GS_1.out)
  have HS := Lib.hid hS
  have Hw1 := Lib.hid hw1
  clear hS hw1 st1
  have SZS := Lib.hid (show S = w.heap.size from HS.out)
  obtain ⟨R, hR⟩ : ∃ z, z = w1.heap.size := ⟨_, rfl⟩
  obtain ⟨w2, hw2⟩ : ∃ z, z = w1.alloc (.cells (dV nz) 23) := ⟨_, rfl⟩
  have st2 : Below w1.heap.size w1 w2 := by rw [hw2]; exact (Below.refl _ _).alloc (Nat.le_refl _) _
  have B2 := Lib.hid (show Below w.heap.size w w2 from Below.trans B1.out (Below.mono st2 (Below.size B1.out)))
  have GS_2 := Lib.hid ((Below.block st2 S LS_1.out).trans GS_1.out)
  have LS_2 := Lib.hid (Nat.lt_of_lt_of_le LS_1.out (Below.size st2))
  have GR_2 := Lib.hid (show w2.heap[R]? = some (.cells (dV nz) 23 (0, 0)) by rw [hw2, hR]; exact heap_alloc_new _ _)
  have LR_2 := Lib.hid (lt_of_heap GR_2.out)
  have HR := Lib.hid hR
  have Hw2 := Lib.hid hw2
  clear hR hw2 st2
  have SZR := Lib.hid (show R = w.heap.size + 1 by rw [HR.out, Hw1.out, World.size_alloc, ← HS.out, SZS.out])
  go_enter Tryz.func41, Tryz.ntmps41
  go_upto_region 1 with fail
  rw [zdig]
  rw [← SZR.out, ← SZS.out, ← Hw1.out, ← Hw2.out]
  obtain ⟨T, hT⟩ : ∃ z, z = w2.heap.size := ⟨_, rfl⟩
  obtain ⟨w3, hw3⟩ : ∃ z, z = w2.alloc (.cells #[.int .u8 5, .int .u8 (i.toNat : Int)] 5) := ⟨_, rfl⟩
  have st3 : Below w2.heap.size w2 w3 := by rw [hw3]; exact (Below.refl _ _).alloc (Nat.le_refl _) _
  have B3 := Lib.hid (show Below w.heap.size w w3 from Below.trans B2.out (Below.mono st3 (Below.size B2.out)))
  have GS_3 := Lib.hid ((Below.block st3 S LS_2.out).trans GS_2.out)
  have LS_3 := Lib.hid (Nat.lt_of_lt_of_le LS_2.out (Below.size st3))
  have GR_3 := Lib.hid ((Below.block st3 R LR_2.out).trans GR_2.out)
  have LR_3 := Lib.hid (Nat.lt_of_lt_of_le LR_2.out (Below.size st3))
  have GT_3 := Lib.hid (show w3.heap[T]? = some (.cells #[.int .u8 5, .int .u8 (i.toNat : Int)] 5 (0, 0)) by rw [hw3, hT]; exact heap_alloc_new _ _)
  have LT_3 := Lib.hid (lt_of_heap GT_3.out)
  have HT := Lib.hid hT
  have Hw3 := Lib.hid hw3
  clear hT hw3 st3
  have HM := Lib.hid (Keyed_calls seed SL.out [5, i] (by simp) (by simp) (some ⟨T, 0, none⟩) 2 _ w3 (rd_of_row (d := [5, i]) GT_3.out))
  go_wp2_with (first
    | (refine at_ld 23 (.tmp 2) rfl ?_; (refine ld_digG rfl (.tmp 2) rfl (S) 0 (by rfl) seed SL.out (range_of_row GS_2.out) ?_); simp only [Act.put, List.setIfInBounds_toArray, List.set_cons_zero, List.set_cons_succ]))
  rw [← HT.out, ← Hw3.out]
  refine (HM.out).mono ?_
  rintro e w4 ⟨rfl, hb4⟩
  have B4 := Lib.hid (show Below w.heap.size w w4 from Below.trans B3.out (Below.mono hb4 (Below.size B3.out)))
  have GS_4 := Lib.hid ((Below.block hb4 S LS_3.out).trans GS_3.out)
  have LS_4 := Lib.hid (Nat.lt_of_lt_of_le LS_3.out (Below.size hb4))
  have GR_4 := Lib.hid ((Below.block hb4 R LR_3.out).trans GR_3.out)
  have LR_4 := Lib.hid (Nat.lt_of_lt_of_le LR_3.out (Below.size hb4))
  have GT_4 := Lib.hid ((Below.block hb4 T LT_3.out).trans GT_3.out)
  have LT_4 := Lib.hid (Nat.lt_of_lt_of_le LT_3.out (Below.size hb4))
  clear HM
  clear hb4
  obtain ⟨w5, hw5⟩ : ∃ z, z = w4.setRow R (dV (macOf seed [5, i])) := ⟨_, rfl⟩
  have B5 := Lib.hid (show Below w.heap.size w w5 by rw [hw5]; exact below_setRowW B4.out (by rw [HR.out]; exact Below.size B1.out) _)
  have sz5 : w5.heap.size = w4.heap.size := by rw [hw5]; exact setRow_size _ _ _
  have GS_5 := Lib.hid (show w5.heap[S]? = some (.cells (dV seed) 23 (0, 0)) by rw [hw5]; exact (_root_.Go.setRow_other _ _ _ _ (by rw [HR.out]; exact Nat.ne_of_lt LS_1.out)).trans GS_4.out)
  have LS_5 := Lib.hid (show S < w5.heap.size by rw [sz5]; exact LS_4.out)
  have GR_5 := Lib.hid (show w5.heap[R]? = some (.cells (dV (macOf seed [5, i])) 23 (0, 0)) by rw [hw5]; exact setRow_heap _ _ _ _ _ _ GR_4.out)
  have LR_5 := Lib.hid (show R < w5.heap.size by rw [sz5]; exact LR_4.out)
  have GT_5 := Lib.hid (show w5.heap[T]? = some (.cells #[.int .u8 5, .int .u8 (i.toNat : Int)] 5 (0, 0)) by rw [hw5]; exact (_root_.Go.setRow_other _ _ _ _ (by rw [HT.out]; exact (Nat.ne_of_lt LR_2.out).symm)).trans GT_4.out)
  have LT_5 := Lib.hid (show T < w5.heap.size by rw [sz5]; exact LT_4.out)
  have Hw5 := Lib.hid hw5
  clear hw5 sz5
  go_wp2_with (first
    | (refine at_st 23 (.tmp 4) (.tmp 9) rfl ?_; (refine st_row rfl (.tmp 4) (.tmp 9) rfl R (macOf seed [5, i]) (macOf_length _ _) (by rfl) (by rfl) (dV nz) (dV_size ZL.out) _ GR_4.out ?_); rw [← Hw5.out]))
  try simp only [Exit.inBlock, Exit.then]
  refine bodyPost_ret (v := .agg (dV (macOf seed [5, i]))) (results_cellW rfl _ _ _ ⟨R, 0, none⟩ _ rfl ?_) rfl ?_
  · exact dig_load (macOf_length _ _) (range_of_row GR_5.out)
  · exact ⟨rfl, B5.out⟩
end Go.Proofs.YtkioddmhjbaleaaGreatDoor
