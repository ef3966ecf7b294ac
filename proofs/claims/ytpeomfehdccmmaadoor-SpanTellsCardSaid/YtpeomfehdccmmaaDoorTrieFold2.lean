/- Walks: trie.Fold; the reference's MapFolded. -/
import Derived.Test.YtpeomfehdccmmaaDoorTrieFold
namespace Go.Proofs.YtpeomfehdccmmaaDoor
open Go.RowKit
set_option linter.unusedVariables false
set_option linter.unusedSimpArgs false
theorem shr_bit (k j : Nat) : (k : Int) / 2 ^ j = ((k / 2 ^ j : Nat) : Int) := by norm_cast
theorem and_one (x : Nat) (h : x < 9223372036854775808) : bits .and .i64 (x : Int) 1 = ((x % 2 : Nat) : Int) := by
  show IntKind.i64.wrap ((BitVec.ofInt 64 (x : Int) &&& BitVec.ofInt 64 1).toNat : Int) = _
  rw [BitVec.toNat_and, BitVec.ofInt_natCast, show BitVec.ofInt 64 1 = BitVec.ofNat 64 1 from rfl, BitVec.toNat_ofNat, BitVec.toNat_ofNat, Nat.mod_eq_of_lt (by omega), show 1 % 2 ^ 64 = 2 ^ 1 - 1 by decide, Nat.and_two_pow_sub_one_eq_mod]
  exact IntWalk.i64_in _ (by omega)
theorem foldD_length (k : Nat) : ∀ (ps : List (List UInt8)) (l : List UInt8), l.length = 32 → (foldD k l ps).length = 32 := by
  intro ps
  induction ps generalizing k with
  | nil => intro l h; exact h
  | cons p ps ih => intro l h; rw [foldD]; refine ih _ _ ?_; split <;> exact nodeD_length _ _
theorem foldD_take (k : Nat) (l : List UInt8) (ps : List (List UInt8)) (j : Nat) (h : j < ps.length) : foldD k l (ps.take (j + 1)) = if k / 2 ^ j % 2 = 1 then nodeD ps[j] (foldD k l (ps.take j)) else nodeD (foldD k l (ps.take j)) ps[j] := by
  rw [List.take_succ_eq_append_getElem h, foldD_snoc, List.length_take, Nat.min_eq_left (by omega)]
set_option maxRecDepth 20000 in
set_option maxHeartbeats 4000000 in
theorem Fold_calls (k : Nat) (hk : k < 4294967296) (l : List UInt8) (hl : l.length = 32) (ps : List (List UInt8)) (hn : ps.length = 32) (hp : ∀ p ∈ ps, p.length = 32) (a : Option Addr) (cap e : Nat) (w : World) (hr : Rd w a e (ps.flatten.map vB)) (hro : RoundsAt w) :
    Calls Tryd.prog 16 #[.int .i64 (k : Int), .agg (dV l), .slice a 32 cap] w fun e w' => e = .returned (.tuple #[.agg (dV (foldD k l ps)), .nilIface]) ∧ Below w.heap.size w w' := by
  obtain ⟨Z, hZ⟩ : ∃ Z, Z = nz := ⟨_, rfl⟩
  have zl : Z.length = 32 := by rw [hZ]; rfl
  have zlit : (#[.int .u8 0, .int .u8 0, .int .u8 0, .int .u8 0, .int .u8 0, .int .u8 0, .int .u8 0, .int .u8 0, .int .u8 0, .int .u8 0, .int .u8 0, .int .u8 0, .int .u8 0, .int .u8 0, .int .u8 0, .int .u8 0, .int .u8 0, .int .u8 0, .int .u8 0, .int .u8 0, .int .u8 0, .int .u8 0, .int .u8 0, .int .u8 0, .int .u8 0, .int .u8 0, .int .u8 0, .int .u8 0, .int .u8 0, .int .u8 0, .int .u8 0, .int .u8 0] : Array Value) = dV Z := by rw [hZ]; exact zdig
  have ZL := Lib.hid zl
  have ZT := Lib.hid zlit
  have HZ := Lib.hid hZ
  clear zl zlit hZ
  obtain ⟨H, hH⟩ : ∃ H, H = w.heap.size := ⟨_, rfl⟩
  obtain ⟨w0, hw0⟩ : ∃ z, z = w.alloc (.cells (dV l) 23) := ⟨_, rfl⟩
  obtain ⟨w1, hw1⟩ : ∃ z, z = w0.alloc (.cells (dV Z) 23) := ⟨_, rfl⟩
  have q0 : w0.heap.size = H + 1 := by rw [hw0, hH]; exact World.size_alloc _ _
  have q1 : w1.heap.size = H + 1 + 1 := by rw [hw1, World.size_alloc, q0]
  have s0 : Below (H) w w0 := by rw [hw0, hH]; exact (Below.refl _ _).alloc (Nat.le_refl _) _
  have s1 : Below (H + 1) w0 w1 := by rw [hw1, ← q0]; exact (Below.refl _ _).alloc (Nat.le_refl _) _
  have t1 : Below (H + 1 + 1) w1 w1 := Below.refl _ _
  have t0 : Below (H + 1) w0 w1 := s1.trans (t1.mono (by omega))
  have bL : Below H w w1 := s0.trans (t0.mono (by omega))
  have g0 : w1.heap[H]? = some (.cells (dV l) 23 (0, 0)) := by
    have g : w0.heap[H]? = some (.cells (dV l) 23 (0, 0)) := by rw [hw0, hH]; exact heap_alloc_new _ _
    exact (t0.block _ (by omega)).trans g
  have g1 : w1.heap[H + 1]? = some (.cells (dV Z) 23 (0, 0)) := by
    have g : w1.heap[H + 1]? = some (.cells (dV Z) 23 (0, 0)) := by rw [hw1, ← q0]; exact heap_alloc_new _ _
    exact (t1.block _ (by omega)).trans g
  have bW : Below w.heap.size w w1 := by rw [← hH]; exact bL
  have hsz : H + 1 < w1.heap.size := by omega
  have HH := Lib.hid hH
  have HW0 := Lib.hid hw0
  have HW1 := Lib.hid hw1
  have BL := Lib.hid bL
  have BW := Lib.hid bW
  have QL := Lib.hid q1
  have G0 := Lib.hid g0
  have G1 := Lib.hid g1
  clear hH hw0 hw1 q0 q1 s0 s1 t0 t1 g0 g1 bL bW
  have kk := Key_calls (k : Int) w1
  rw [decide_eq_true (show KeyOk (k : Int) from ⟨by omega, by omega⟩)] at kk
  have RD0 := Lib.hid hr
  have RO0 := Lib.hid hro
  have HP := Lib.hid hp
  have HN := Lib.hid hn
  have HL := Lib.hid hl
  have KK := Lib.hid kk
  clear hp hr hro kk hl hn
  go_enter Tryd.func16, Tryd.ntmps16
  go_upto_region 1 with fail
  rw [ZT.out, ← HH.out, ← HW0.out, ← HW1.out]
  go_wp2_with (go_at_call 47; refine KK.out.mono ?_; rintro e w' ⟨rfl, rfl⟩)
  go_loopw [22] (fun i wr => ∃ j : Nat, j ≤ 32 ∧ i = .int .i64 j ∧ wr.heap[H]? = some (.cells (dV (foldD k l (ps.take j))) 23 (0, 0)) ∧ wr.heap[H + 1]? = some (.cells (dV Z) 23 (0, 0)) ∧ Below H w wr) (fun i _ => 32 - (intOf i).toNat)
  case atStart => exact ⟨0, Nat.zero_le _, rfl, G0.out, G1.out, BL.out⟩
  case round =>
    obtain ⟨j, hj, rfl, hh, hres, hbl⟩ := hrel
    have hsr : H + 1 < wr.heap.size := lt_of_heap hres
    have j0 : (0 : Int) ≤ (j : Int) := by omega
    have fl := foldD_length k (ps.take j) l HL.out
    by_cases hlt : j < 32
    · have hlj : j < ps.length := by rw [HN.out]; exact hlt
      obtain ⟨b, o, rfl, hb, hrg⟩ := RD0.out.range HP.out hlj
      have hlen : ps[j].length = 32 := HP.out _ (List.getElem_mem _)
      have hrg2 : wr.rangeAt b (o + j * 32) (ps[j].map vB) := fun i v hi => (hbl.cell (p := ⟨b, o + j * 32 + i, none⟩) (by rw [HH.out]; exact hb)).trans (hrg i v hi)
      have hft := foldD_take k l ps j hlj
      have j1 : (j : Int) < 32 := by omega
      obtain ⟨D, hD⟩ : ∃ D, D = ps[j] := ⟨_, rfl⟩
      obtain ⟨F, hF⟩ : ∃ F, F = foldD k l (ps.take j) := ⟨_, rfl⟩
      obtain ⟨F2, hF2⟩ : ∃ F2, F2 = foldD k l (ps.take (j + 1)) := ⟨_, rfl⟩
      rw [← hD] at hrg2 hlen hft
      rw [← hF] at hft hh fl
      rw [← hF2] at hft
      obtain ⟨x, hx⟩ : ∃ x, x = k / 2 ^ j := ⟨_, rfl⟩
      rw [← hx] at hft
      have e5 : (k : Int) / 2 ^ j = (x : Int) := by rw [hx]; exact shr_bit k j
      have HRG := Lib.hid hrg2
      have HLEN := Lib.hid hlen
      have HFT := Lib.hid hft
      have HF2 := Lib.hid hF2
      have HX := Lib.hid hx
      have G := Lib.hid hh
      have R := Lib.hid hres
      have HBL := Lib.hid hbl
      have FL := Lib.hid fl
      clear hrg hrg2 hlen hft hF2 hx hh hres hbl hD hF fl
      obtain ⟨w4, hw4⟩ : ∃ z, z = wr.alloc (.cells (dV D) 23) := ⟨_, rfl⟩
      have b4 : Below wr.heap.size wr w4 := by rw [hw4]; exact (Below.refl _ _).alloc (Nat.le_refl _) _
      have gd4 : w4.heap[wr.heap.size]? = some (.cells (dV D) 23 (0, 0)) := by rw [hw4]; exact heap_alloc_new _ _
      have hH4 : H < w4.heap.size := by have := b4.size; omega
      have hH41 : H + 1 < w4.heap.size := by have := b4.size; omega
      have hwH : w.heap.size ≤ H := by rw [HH.out]; exact Nat.le_refl _
      have G4 := Lib.hid ((b4.block _ (by omega)).trans G.out)
      have R4 := Lib.hid ((b4.block _ (by omega)).trans R.out)
      have B4 := Lib.hid (HBL.out.trans (b4.mono (by omega)))
      have ro4 : RoundsAt w4 := RO0.out.at_ (by rw [← HH.out]; exact B4.out)
      have hs4 : H ≤ w4.heap.size := by omega
      have HW4 := Lib.hid hw4
      have GD4 := Lib.hid gd4
      have ROW := Lib.hid ro4
      clear hw4 gd4 ro4 b4
      by_cases hb1 : x % 2 = 1
      · have e6 : (bits BinOp.and IntKind.i64 (x : Int) 1 == 1) = true := by rw [and_one x (by rw [HX.out]; exact Nat.lt_of_le_of_lt (Nat.div_le_self _ _) (by omega)), hb1]; rfl
        have hf := HFT.out
        rw [if_pos hb1] at hf
        have HF3 := Lib.hid hf
        clear hf
        go_wp2_with (first
          | (refine ld_dig rfl (.tmp 25) rfl b (o + j * 32) (by rfl) D HLEN.out HRG.out ?_)
          | ((refine st_new rfl (.tmp 9) (.tmp 26) rfl D HLEN.out (by rfl) _ _ (by rfl) (by rfl) ?_); rw [← HW4.out])
          | ((refine ld_digG rfl (.tmp 9) rfl (wr.heap.size) 0 (by rfl) D HLEN.out (range_of_row GD4.out) ?_); simp only [Act.put, List.setIfInBounds_toArray, List.set_cons_zero, List.set_cons_succ])
          | ((refine ld_digG rfl (.tmp 4) rfl (H) 0 (by rfl) F FL.out (range_of_row G4.out) ?_); simp only [Act.put, List.setIfInBounds_toArray, List.set_cons_zero, List.set_cons_succ]))
        refine (Node_calls D F HLEN.out FL.out w4 ROW.out).mono ?_
        rintro e w5 ⟨rfl, hb5⟩
        have f2l : F2.length = 32 := by rw [HF3.out]; exact nodeD_length _ _
        rw [← HF3.out]
        have G5 := Lib.hid ((hb5.block _ hH4).trans G4.out)
        have R5 := Lib.hid ((hb5.block _ hH41).trans R4.out)
        have B5 := Lib.hid (B4.out.trans (hb5.mono hs4))
        clear hb5
        go_wp2_with (refine st_row rfl (.tmp 4) (.tmp 34) rfl H F2 f2l (by rfl) (by rfl) (dV F) (dV_size FL.out) _ G5.out ?_)
        go_roundw
        case rel => exact ⟨j + 1, hlt, by go_num, by rw [← HF2.out]; exact setRow_heap _ _ _ _ _ _ G5.out, by rw [setRow_other _ _ _ _ (by omega)]; exact R5.out, below_setRowW B5.out (Nat.le_refl _) _⟩
        case measure => simp [intOf] <;> omega
      · have e6 : (bits BinOp.and IntKind.i64 (x : Int) 1 == 1) = false := by rw [and_one x (by rw [HX.out]; exact Nat.lt_of_le_of_lt (Nat.div_le_self _ _) (by omega)), show x % 2 = 0 by omega]; rfl
        have hf := HFT.out
        rw [if_neg hb1] at hf
        have HF3 := Lib.hid hf
        clear hf
        go_wp2_with (first
          | (refine ld_dig rfl (.tmp 25) rfl b (o + j * 32) (by rfl) D HLEN.out HRG.out ?_)
          | ((refine st_new rfl (.tmp 9) (.tmp 26) rfl D HLEN.out (by rfl) _ _ (by rfl) (by rfl) ?_); rw [← HW4.out])
          | ((refine ld_digG rfl (.tmp 9) rfl (wr.heap.size) 0 (by rfl) D HLEN.out (range_of_row GD4.out) ?_); simp only [Act.put, List.setIfInBounds_toArray, List.set_cons_zero, List.set_cons_succ])
          | ((refine ld_digG rfl (.tmp 4) rfl (H) 0 (by rfl) F FL.out (range_of_row G4.out) ?_); simp only [Act.put, List.setIfInBounds_toArray, List.set_cons_zero, List.set_cons_succ]))
        refine (Node_calls F D FL.out HLEN.out w4 ROW.out).mono ?_
        rintro e w5 ⟨rfl, hb5⟩
        have f2l : F2.length = 32 := by rw [HF3.out]; exact nodeD_length _ _
        rw [← HF3.out]
        have G5 := Lib.hid ((hb5.block _ hH4).trans G4.out)
        have R5 := Lib.hid ((hb5.block _ hH41).trans R4.out)
        have B5 := Lib.hid (B4.out.trans (hb5.mono hs4))
        clear hb5
        go_wp2_with (refine st_row rfl (.tmp 4) (.tmp 37) rfl H F2 f2l (by rfl) (by rfl) (dV F) (dV_size FL.out) _ G5.out ?_)
        go_roundw
        case rel => exact ⟨j + 1, hlt, by go_num, by rw [← HF2.out]; exact setRow_heap _ _ _ _ _ _ G5.out, by rw [setRow_other _ _ _ _ (by omega)]; exact R5.out, below_setRowW B5.out (Nat.le_refl _) _⟩
        case measure => simp [intOf] <;> omega
    · obtain rfl : j = 32 := by omega
      rw [List.take_of_length_le (by rw [HN.out]; exact Nat.le_refl _)] at hh fl
      obtain ⟨F, hF⟩ : ∃ F, F = foldD k l ps := ⟨_, rfl⟩
      rw [← hF] at hh fl
      have HFE := Lib.hid hF
      have GF := Lib.hid hh
      have RF := Lib.hid hres
      have HBL := Lib.hid hbl
      clear hh hres hbl hF
      go_wp2_with (first
        | (refine ld_row rfl (.tmp 4) rfl H (by rfl) F fl _ _ GF.out ?_)
        | (refine st_row rfl (.tmp 6) (.tmp 39) rfl (H + 1) F fl (by rfl) (by rfl) (dV Z) (dV_size ZL.out) _ RF.out ?_))
      try simp only [Exit.inBlock, Exit.then]
      refine bodyPost_ret (results_cell_tmp rfl _ _ _ ⟨H + 1, 0, none⟩ (.agg (dV F)) rfl ?_) rfl ⟨by rw [HFE.out]; rfl, by rw [← HH.out]; exact below_setRowW HBL.out (by omega) _⟩
      exact dig_load fl (range_of_row (setRow_heap _ _ _ (dV F) _ _ RF.out))
set_option maxRecDepth 20000 in
set_option maxHeartbeats 4000000 in
theorem MapFolded_calls (k : Nat) (hk : k < 4294967296) (l : List UInt8) (hl : l.length = 32) (ps : List (List UInt8)) (hn : ps.length ≤ 1000) (hp : ∀ p ∈ ps, p.length = 32) (a : Option Addr) (cap e : Nat) (w : World) (hr : Rd w a e (ps.flatten.map vB)) :
    Calls Tryd.prog 15 #[.int .i64 (k : Int), .agg (dV l), .slice a ps.length cap] w fun e w' => e = .returned (.agg (dV (foldD k l ps))) ∧ Below w.heap.size w w' := by
  obtain ⟨Z, hZ⟩ : ∃ Z, Z = nz := ⟨_, rfl⟩
  have zl : Z.length = 32 := by rw [hZ]; rfl
  have zlit : (#[.int .u8 0, .int .u8 0, .int .u8 0, .int .u8 0, .int .u8 0, .int .u8 0, .int .u8 0, .int .u8 0, .int .u8 0, .int .u8 0, .int .u8 0, .int .u8 0, .int .u8 0, .int .u8 0, .int .u8 0, .int .u8 0, .int .u8 0, .int .u8 0, .int .u8 0, .int .u8 0, .int .u8 0, .int .u8 0, .int .u8 0, .int .u8 0, .int .u8 0, .int .u8 0, .int .u8 0, .int .u8 0, .int .u8 0, .int .u8 0, .int .u8 0, .int .u8 0] : Array Value) = dV Z := by rw [hZ]; exact zdig
  have ZL := Lib.hid zl
  have ZT := Lib.hid zlit
  have HZ := Lib.hid hZ
  clear zl zlit hZ
  obtain ⟨H, hH⟩ : ∃ H, H = w.heap.size := ⟨_, rfl⟩
  obtain ⟨w0, hw0⟩ : ∃ z, z = w.alloc (.cells (dV l) 23) := ⟨_, rfl⟩
  obtain ⟨w1, hw1⟩ : ∃ z, z = w0.alloc (.cells (dV Z) 23) := ⟨_, rfl⟩
  have q0 : w0.heap.size = H + 1 := by rw [hw0, hH]; exact World.size_alloc _ _
  have q1 : w1.heap.size = H + 1 + 1 := by rw [hw1, World.size_alloc, q0]
  have s0 : Below (H) w w0 := by rw [hw0, hH]; exact (Below.refl _ _).alloc (Nat.le_refl _) _
  have s1 : Below (H + 1) w0 w1 := by rw [hw1, ← q0]; exact (Below.refl _ _).alloc (Nat.le_refl _) _
  have t1 : Below (H + 1 + 1) w1 w1 := Below.refl _ _
  have t0 : Below (H + 1) w0 w1 := s1.trans (t1.mono (by omega))
  have bL : Below H w w1 := s0.trans (t0.mono (by omega))
  have g0 : w1.heap[H]? = some (.cells (dV l) 23 (0, 0)) := by
    have g : w0.heap[H]? = some (.cells (dV l) 23 (0, 0)) := by rw [hw0, hH]; exact heap_alloc_new _ _
    exact (t0.block _ (by omega)).trans g
  have g1 : w1.heap[H + 1]? = some (.cells (dV Z) 23 (0, 0)) := by
    have g : w1.heap[H + 1]? = some (.cells (dV Z) 23 (0, 0)) := by rw [hw1, ← q0]; exact heap_alloc_new _ _
    exact (t1.block _ (by omega)).trans g
  have bW : Below w.heap.size w w1 := by rw [← hH]; exact bL
  have hsz : H + 1 < w1.heap.size := by omega
  have HH := Lib.hid hH
  have HW0 := Lib.hid hw0
  have HW1 := Lib.hid hw1
  have BL := Lib.hid bL
  have BW := Lib.hid bW
  have QL := Lib.hid q1
  have G0 := Lib.hid g0
  have G1 := Lib.hid g1
  clear hH hw0 hw1 q0 q1 s0 s1 t0 t1 g0 g1 bL bW
  have RD0 := Lib.hid hr
  have HP := Lib.hid hp
  have HL := Lib.hid hl
  clear hp hr hl
  go_enter Tryd.func15, Tryd.ntmps15
  go_upto_region 1 with fail
  rw [ZT.out, ← HH.out, ← HW0.out, ← HW1.out]
  go_wp2_with fail
  go_loopw [0, 7] (fun kv i wr => ∃ j : Nat, j ≤ ps.length ∧ i = .int .i64 j ∧ kv = .int .i64 ((k / 2 ^ j : Nat) : Int) ∧ wr.heap[H]? = some (.cells (dV (foldD k l (ps.take j))) 23 (0, 0)) ∧ wr.heap[H + 1]? = some (.cells (dV Z) 23 (0, 0)) ∧ Below H w wr) (fun _ i _ => ps.length - (intOf i).toNat)
  case atStart => exact ⟨0, Nat.zero_le _, rfl, by simp, G0.out, G1.out, BL.out⟩
  case round =>
    obtain ⟨j, hj, rfl, rfl, hh, hres, hbl⟩ := hrel
    have hsr : H + 1 < wr.heap.size := lt_of_heap hres
    have j0 : (0 : Int) ≤ (j : Int) := by omega
    have fl := foldD_length k (ps.take j) l HL.out
    by_cases hlj : j < ps.length
    · obtain ⟨b, o, rfl, hb, hrg⟩ := RD0.out.range HP.out hlj
      have hlen : ps[j].length = 32 := HP.out _ (List.getElem_mem _)
      have hrg2 : wr.rangeAt b (o + j * 32) (ps[j].map vB) := fun i v hi => (hbl.cell (p := ⟨b, o + j * 32 + i, none⟩) (by rw [HH.out]; exact hb)).trans (hrg i v hi)
      have hft := foldD_take k l ps j hlj
      have j1 : (j : Int) < (ps.length : Int) := by omega
      have e4 : IntKind.i64.wrap ((j : Int) + 1) = (j : Int) + 1 := IntWalk.i64_in _ (by omega)
      obtain ⟨D, hD⟩ : ∃ D, D = ps[j] := ⟨_, rfl⟩
      obtain ⟨F, hF⟩ : ∃ F, F = foldD k l (ps.take j) := ⟨_, rfl⟩
      obtain ⟨F2, hF2⟩ : ∃ F2, F2 = foldD k l (ps.take (j + 1)) := ⟨_, rfl⟩
      rw [← hD] at hrg2 hlen hft
      rw [← hF] at hft hh fl
      rw [← hF2] at hft
      obtain ⟨x, hx⟩ : ∃ x, x = k / 2 ^ j := ⟨_, rfl⟩
      have hx2 : k / 2 ^ (j + 1) = x / 2 := by rw [hx, Nat.pow_succ, Nat.div_div_eq_div_mul]
      rw [← hx] at hft ⊢
      have xl : x < 4294967296 := by rw [hx]; exact Nat.lt_of_le_of_lt (Nat.div_le_self _ _) hk
      obtain ⟨x2, hx22⟩ : ∃ x2, x2 = x / 2 := ⟨_, rfl⟩
      rw [← hx22] at hx2
      have m1 : (x : Int) / 2 = (x2 : Int) := by omega
      have m1t : (x : Int).tdiv 2 = (x2 : Int) := by rw [Int.tdiv_eq_ediv_of_nonneg (by omega)]; exact m1
      have m1w : IntKind.i64.wrap (x2 : Int) = (x2 : Int) := IntWalk.i64_in _ (by omega)
      have HX2 := Lib.hid hx2
      have HRG := Lib.hid hrg2
      have HLEN := Lib.hid hlen
      have HFT := Lib.hid hft
      have HF2 := Lib.hid hF2
      have G := Lib.hid hh
      have R := Lib.hid hres
      have HBL := Lib.hid hbl
      have FL := Lib.hid fl
      have hwH : w.heap.size ≤ H := by rw [HH.out]; exact Nat.le_refl _
      clear hrg hrg2 hlen hft hF2 hx hx2 hx22 hh hres hbl hD hF fl
      by_cases hb1 : x % 2 = 1
      · have m2 : (x : Int) % 2 = 1 := by omega
        have m2t : (x : Int).tmod 2 = 1 := by rw [Int.tmod_eq_emod_of_nonneg (by omega)]; exact m2
        have hf := HFT.out
        rw [if_pos hb1] at hf
        have HF3 := Lib.hid hf
        clear hf
        go_wp2_with fail
        refine wp_region_still_tail 5 (by kernel_rfl) (by kernel_rfl) ?_
        simp only [List.take_succ_cons, List.take_zero, List.drop_succ_cons, List.drop_zero]
        still_step
        still_step
        still_step
        refine still_dig rfl (.tmp 19) rfl b (o + j * 32) (by rfl) D HLEN.out HRG.out ?_
        simp only [Act.put, List.setIfInBounds_toArray, List.set_cons_zero, List.set_cons_succ]
        refine still_dig rfl (.tmp 4) rfl H 0 (by rfl) F FL.out (range_of_row G.out) ?_
        simp only [Act.put, List.setIfInBounds_toArray, List.set_cons_zero, List.set_cons_succ]
        refine wpStill_nil ?_
        change wpList _ _ _ _ _ wr.drew
        have GR := Lib.hid (show wr.drew.heap[H]? = some (.cells (dV F) 23 (0, 0)) from G.out)
        have RR := Lib.hid (show wr.drew.heap[H + 1]? = some (.cells (dV Z) 23 (0, 0)) from R.out)
        have BR := Lib.hid (HBL.out.drew)
        have hsr2 : H + 1 < wr.drew.heap.size := hsr
        generalize wr.drew = w4 at *
        go_wp2_with fail
        refine (RMapNode_calls D F HLEN.out FL.out w4).mono ?_
        rintro e w5 ⟨rfl, hb5⟩
        have f2l : F2.length = 32 := by rw [HF3.out]; exact nodeD_length _ _
        rw [← HF3.out]
        have G5 := Lib.hid ((hb5.block _ (by omega)).trans GR.out)
        have R5 := Lib.hid ((hb5.block _ (by omega)).trans RR.out)
        have B5 := Lib.hid (BR.out.trans (hb5.mono (by omega)))
        clear hb5
        go_wp2_with (refine st_row rfl (.tmp 4) (.tmp 22) rfl H F2 f2l (by rfl) (by rfl) (dV F) (dV_size FL.out) _ G5.out ?_)
        go_roundw
        case rel => exact ⟨j + 1, hlj, by go_num, by rw [HX2.out], by rw [← HF2.out]; exact setRow_heap _ _ _ _ _ _ G5.out, by rw [setRow_other _ _ _ _ (by omega)]; exact R5.out, below_setRowW B5.out (Nat.le_refl _) _⟩
        case measure => simp [intOf] <;> omega
      · have m2 : (x : Int) % 2 = 0 := by omega
        have m2t : (x : Int).tmod 2 = 0 := by rw [Int.tmod_eq_emod_of_nonneg (by omega)]; exact m2
        have hf := HFT.out
        rw [if_neg hb1] at hf
        have HF3 := Lib.hid hf
        clear hf
        go_wp2_with fail
        refine wp_region_still_tail 5 (by kernel_rfl) (by kernel_rfl) ?_
        simp only [List.take_succ_cons, List.take_zero, List.drop_succ_cons, List.drop_zero]
        refine still_dig rfl (.tmp 4) rfl H 0 (by rfl) F FL.out (range_of_row G.out) ?_
        simp only [Act.put, List.setIfInBounds_toArray, List.set_cons_zero, List.set_cons_succ]
        still_step
        still_step
        still_step
        refine still_dig rfl (.tmp 26) rfl b (o + j * 32) (by rfl) D HLEN.out HRG.out ?_
        simp only [Act.put, List.setIfInBounds_toArray, List.set_cons_zero, List.set_cons_succ]
        refine wpStill_nil ?_
        change wpList _ _ _ _ _ wr.drew
        have GR := Lib.hid (show wr.drew.heap[H]? = some (.cells (dV F) 23 (0, 0)) from G.out)
        have RR := Lib.hid (show wr.drew.heap[H + 1]? = some (.cells (dV Z) 23 (0, 0)) from R.out)
        have BR := Lib.hid (HBL.out.drew)
        have hsr2 : H + 1 < wr.drew.heap.size := hsr
        generalize wr.drew = w4 at *
        go_wp2_with fail
        refine (RMapNode_calls F D FL.out HLEN.out w4).mono ?_
        rintro e w5 ⟨rfl, hb5⟩
        have f2l : F2.length = 32 := by rw [HF3.out]; exact nodeD_length _ _
        rw [← HF3.out]
        have G5 := Lib.hid ((hb5.block _ (by omega)).trans GR.out)
        have R5 := Lib.hid ((hb5.block _ (by omega)).trans RR.out)
        have B5 := Lib.hid (BR.out.trans (hb5.mono (by omega)))
        clear hb5
        go_wp2_with (refine st_row rfl (.tmp 4) (.tmp 28) rfl H F2 f2l (by rfl) (by rfl) (dV F) (dV_size FL.out) _ G5.out ?_)
        go_roundw
        case rel => exact ⟨j + 1, hlj, by go_num, by rw [HX2.out], by rw [← HF2.out]; exact setRow_heap _ _ _ _ _ _ G5.out, by rw [setRow_other _ _ _ _ (by omega)]; exact R5.out, below_setRowW B5.out (Nat.le_refl _) _⟩
        case measure => simp [intOf] <;> omega
    · obtain rfl : j = ps.length := by omega
      rw [List.take_of_length_le (Nat.le_refl _)] at hh fl
      obtain ⟨F, hF⟩ : ∃ F, F = foldD k l ps := ⟨_, rfl⟩
      rw [← hF] at hh fl
      have HFE := Lib.hid hF
      have GF := Lib.hid hh
      have RF := Lib.hid hres
      have HBL := Lib.hid hbl
      clear hh hres hbl hF
      go_wp2_with (first
        | (refine ld_row rfl (.tmp 4) rfl H (by rfl) F fl _ _ GF.out ?_)
        | (refine st_row rfl (.tmp 6) (.tmp 31) rfl (H + 1) F fl (by rfl) (by rfl) (dV Z) (dV_size ZL.out) _ RF.out ?_))
      try simp only [Exit.inBlock, Exit.then]
      refine bodyPost_ret (v := .agg (dV F)) (results_cellW rfl _ _ _ ⟨H + 1, 0, none⟩ _ rfl ?_) rfl ⟨by rw [HFE.out], by rw [← HH.out]; exact below_setRowW HBL.out (by omega) _⟩
      exact dig_load fl (range_of_row (setRow_heap _ _ _ (dV F) _ _ RF.out))
end Go.Proofs.YtpeomfehdccmmaaDoor
