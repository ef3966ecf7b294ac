/- Walk: the laws' own 'spanned'. -/
import Derived.Test.YtpeomfehdccmmaaDoorSpanLeaf
import Derived.Test.YtpeomfehdccmmaaDoorTrieLeafed
import Derived.Test.YtpeomfehdccmmaaDoorRSum
namespace Go.Proofs.YtpeomfehdccmmaaDoor
open Go.RowKit
set_option linter.unusedVariables false
set_option linter.unusedSimpArgs false

theorem span_ne : (itemD ⟨1, nz⟩ == shaOf []) = false := by
  rw [beq_eq_false_iff_ne]
  intro h
  have h2 : (shaOf (0 :: itemT ⟨1, nz⟩)).map UInt8.toNat = (shaOf []).map UInt8.toNat := by show (itemD ⟨1, nz⟩).map _ = _; rw [h]
  rw [sha_n, sha_n] at h2
  exact absurd h2 (by decide +kernel)
set_option maxRecDepth 20000 in
set_option maxHeartbeats 8000000 in
theorem Spanned_calls (w : World) (hro : RoundsAt w) : Calls Tryd.prog 32 #[] w fun e w' => e = .returned (.bool true) ∧ Below w.heap.size w w' := by
  obtain ⟨Z, hZ⟩ : ∃ Z, Z = nz := ⟨_, rfl⟩
  have zl : Z.length = 32 := by rw [hZ]; rfl
  have zlit : (#[.int .u8 0, .int .u8 0, .int .u8 0, .int .u8 0, .int .u8 0, .int .u8 0, .int .u8 0, .int .u8 0, .int .u8 0, .int .u8 0, .int .u8 0, .int .u8 0, .int .u8 0, .int .u8 0, .int .u8 0, .int .u8 0, .int .u8 0, .int .u8 0, .int .u8 0, .int .u8 0, .int .u8 0, .int .u8 0, .int .u8 0, .int .u8 0, .int .u8 0, .int .u8 0, .int .u8 0, .int .u8 0, .int .u8 0, .int .u8 0, .int .u8 0, .int .u8 0] : Array Value) = dV Z := by rw [hZ]; exact zdig
  have ZL := Lib.hid zl
  have ZT := Lib.hid zlit
  have HZ := Lib.hid hZ
  clear zl zlit hZ
  have LC := SRoot_ok [] (fun _ h => by cases h) rfl none 0 0 w (.inl rfl) hro
  rw [show leavesD [] = [] from rfl, troot_nil, show ([] : List En).length = 0 from rfl] at LC
  obtain ⟨S, hS⟩ : ∃ L, L = shaOf [] := ⟨_, rfl⟩
  have SL := Lib.hid (show S.length = 32 by rw [hS]; exact shaOf_length _)
  rw [← hS] at LC
  have HLC := Lib.hid LC
  have RO := Lib.hid hro
  have HS := Lib.hid hS
  have SS := Lib.hid (show (S == S) = true by simp)
  clear LC hro hS
  go_enter Tryd.func32, Tryd.ntmps32
  go_upto_region 2 with (first | (go_at_call 33; refine HLC.out.mono ?_; rintro e w1 ⟨rfl, hb1⟩) | (refine st_new rfl (.tmp 1) (.tmp 7) rfl S SL.out (by rfl) _ _ (by rfl) (by rfl) ?_))
  obtain ⟨Y, hY⟩ : ∃ Y, Y = w1.heap.size := ⟨_, rfl⟩
  obtain ⟨w2, hw2⟩ : ∃ z, z = w1.alloc (.cells (dV S) 23) := ⟨_, rfl⟩
  rw [← hY, ← hw2]
  have b2 : Below w.heap.size w w2 := by rw [hw2]; exact hb1.alloc hb1.size _
  have g2 : w2.heap[Y]? = some (.cells (dV S) 23 (0, 0)) := by rw [hw2, hY]; exact heap_alloc_new _ _
  have hwY : w.heap.size ≤ Y := by rw [hY]; exact hb1.size
  obtain ⟨w3, hw3⟩ : ∃ z, z = w2.alloc (.cells (eV 1 Z) 35) := ⟨_, rfl⟩
  have b23 : Below w2.heap.size w2 w3 := by rw [hw3]; exact (Below.refl _ _).alloc (Nat.le_refl _) _
  have r3 : Rd w3 (some ⟨w2.heap.size, 0, none⟩) 35 (cellsE [⟨1, Z⟩]) := by rw [hw3]; exact Rd.ent1 w2 ⟨1, Z⟩
  have b3 : Below w.heap.size w w3 := b2.trans (b23.mono b2.size)
  have RC := SRoot_ok [⟨1, Z⟩] (enw 1 Z ZL.out (by decide)) (by rfl) (some ⟨w2.heap.size, 0, none⟩) 1 _ w3 r3 (RO.out.at_ b3)
  rw [show leavesD [(⟨1, Z⟩ : En)] = [itemD ⟨1, Z⟩] from rfl, troot_one, show ([(⟨1, Z⟩ : En)]).length = 1 from rfl] at RC
  obtain ⟨Rt, hRt⟩ : ∃ L, L = itemD ⟨1, Z⟩ := ⟨_, rfl⟩
  have rtl : Rt.length = 32 := by rw [hRt]; exact itemD_length _
  have rtn : (Rt == S) = false := by rw [hRt, HZ.out, HS.out]; exact span_ne
  rw [← hRt] at RC
  have HRC := Lib.hid RC
  have RTL := Lib.hid rtl
  have RTN := Lib.hid rtn
  have HW3 := Lib.hid hw3
  have G2 := Lib.hid g2
  have B3 := Lib.hid b3
  have B23 := Lib.hid b23
  have hY2 := lt_of_heap g2
  clear RC hRt rtl rtn hw3 hw2 hY b2 g2 r3 b3 b23 hb1 HLC
  go_upto_region 3 with (first | (refine wpl_ent rfl _ rfl (by rfl) Z HZ.out ?_) | ((refine wpl_build1 40 35 _ 33 40 Tryd.underlying40 info_entz (by omega) (by omega) rfl (.tmp 10) rfl (eV 1 Z) (by rfl) (eV_size 1 Z ZL.out) ?_); rw [← HW3.out]; simp only [Act.put, List.setIfInBounds_toArray, List.set_cons_zero, List.set_cons_succ]) | (go_at_call 33; refine HRC.out.mono ?_; rintro e w4 ⟨rfl, hb4⟩) | (refine st_new rfl (.tmp 3) (.tmp 13) rfl Rt RTL.out (by rfl) _ _ (by rfl) (by rfl) ?_))
  obtain ⟨X, hX⟩ : ∃ X, X = w4.heap.size := ⟨_, rfl⟩
  obtain ⟨w5, hw5⟩ : ∃ z, z = w4.alloc (.cells (dV Rt) 23) := ⟨_, rfl⟩
  rw [← hX, ← hw5]
  have b34 : Below w3.heap.size w3 w5 := by rw [hw5]; exact hb4.alloc hb4.size _
  have g5 : w5.heap[X]? = some (.cells (dV Rt) 23 (0, 0)) := by rw [hw5, hX]; exact heap_alloc_new _ _
  have gL : w5.heap[Y]? = some (.cells (dV S) 23 (0, 0)) := (b34.block Y (Nat.lt_of_lt_of_le hY2 B23.out.size)).trans ((B23.out.block Y hY2).trans G2.out)
  have NC : ∀ w', InB w5.heap.size w5 w' → Calls Tryd.prog 54 #[.slice none 0 0] w' fun e w'' => e = .returned (.agg (dV S)) ∧ InB w5.heap.size w5 w'' :=
    fun w' h => InB.call h (Nat.le_refl _) (by rw [HS.out]; exact RSum_calls [] none 0 0 w' (.inl rfl) (by decide))
  have HNC := Lib.hid NC
  have hex := inB_ex w5.heap.size w5
  have G5 := Lib.hid g5
  have GL := Lib.hid gL
  have B5 := Lib.hid (B3.out.trans (b34.mono B3.out.size))
  have hX5 := lt_of_heap g5
  have hY5 := lt_of_heap gL
  have hw5s := B5.out.size
  clear NC hX hw5 g5 gL b34 hb4 HRC
  refine wp_region_inB w5.heap.size (by kernel_rfl) (by kernel_rfl) ?_
  go_big_quiet_step ((intro _; rfl))
  go_big_quiet_step ((intro _; rfl))
  go_big_quiet_step ((intro _; rfl))
  refine quiet_dig rfl (.tmp 1) rfl (Y) 0 (by rfl) S SL.out (fun w' hw' => hw'.range (by omega) (range_of_row GL.out)) ?_
  simp only [Act.put, List.setIfInBounds_toArray, List.set_cons_zero, List.set_cons_succ]
  go_big_quiet_step ((intro hw'; exact HNC.out _ hw'))
  refine quiet_dig_eq rfl (.tmp 18) (.tmp 19) _ rfl S S (by rfl) (by rfl) SL.out SL.out ?_
  rw [SS.out]
  simp only [Act.put, List.setIfInBounds_toArray, List.set_cons_zero, List.set_cons_succ]
  go_big_quiet_step ((intro _; rfl))
  go_big_quiet_step ((intro _; rfl))
  go_big_quiet_step ((intro _; rfl))
  go_big_quiet_step ((intro _; rfl))
  go_big_quiet_step ((intro _; rfl))
  go_big_quiet_step ((intro _; rfl))
  refine quiet_dig rfl (.tmp 3) rfl (X) 0 (by rfl) Rt RTL.out (fun w' hw' => hw'.range (by omega) (range_of_row G5.out)) ?_
  simp only [Act.put, List.setIfInBounds_toArray, List.set_cons_zero, List.set_cons_succ]
  refine quiet_dig rfl (.tmp 1) rfl (Y) 0 (by rfl) S SL.out (fun w' hw' => hw'.range (by omega) (range_of_row GL.out)) ?_
  simp only [Act.put, List.setIfInBounds_toArray, List.set_cons_zero, List.set_cons_succ]
  refine quiet_dig_neq rfl (.tmp 27) (.tmp 28) _ rfl Rt S (by rfl) (by rfl) RTL.out SL.out ?_
  rw [RTN.out]
  simp only [Act.put, List.setIfInBounds_toArray, List.set_cons_zero, List.set_cons_succ]
  go_big_quiet_step ((intro _; rfl))
  go_big_quiet_step ((intro _; rfl))
  refine wpQuiet_nil ?_
  intro w7 hw7
  have B7 := Lib.hid (B5.out.trans (Below.mono hw7 hw5s))
  clear hw7
  go_wp2_with fail
  go_ret
  exact ⟨rfl, B7.out⟩
end Go.Proofs.YtpeomfehdccmmaaDoor
