/- Walk: sha.Sum tells the digest of bytes. -/
import Derived.Test.YtkioddmhjbaleaaDoorHsum
namespace Go.Proofs.YtkioddmhjbaleaaDoor
open Go.RowKit
set_option linter.unusedVariables false
set_option linter.unusedSimpArgs false
theorem run_length : ∀ (n : Nat) (s : List UInt32) (l : List UInt8), l.length ≤ n → s.length = 8 → (run s l).length = 8 := by
  intro n
  induction n with
  | zero => intro s l h hs; rw [run_short (by omega)]; exact hs
  | succ n ih =>
    intro s l h hs
    by_cases hl : l.length < 64
    · rw [run_short hl]; exact hs
    · rw [run_step hl]; exact ih _ _ (by rw [List.length_drop]; omega) (blk_length _ _)
theorem sha_split (b : List UInt8) : bytesOf (run (run h0 b) (b.drop (b.length / 64 * 64) ++ pad b.length)) = shaOf b := by
  unfold shaOf
  rw [run_append _ h0 b (pad b.length) (Nat.le_refl _)]
set_option maxRecDepth 20000 in
set_option maxHeartbeats 4000000 in
theorem Sha_calls (b : List UInt8) (a : Option Addr) (cap e : Nat) (w : World) (hr : Rd w a e (b.map vB)) (hl : b.length ≤ 140737488355328) (hro : RoundsAt w) (hgs : 1 < w.heap.size) :
    Calls Tryd.prog 105 #[.slice a b.length cap] w fun e w' => e = .returned (.agg (dV (shaOf b))) ∧ Below w.heap.size w w' := by
  obtain ⟨H, hH⟩ : ∃ H, H = w.heap.size := ⟨_, rfl⟩
  obtain ⟨w1, hw1⟩ : ∃ w1, w1 = w.alloc (.cells (dV (List.replicate 32 0)) 23) := ⟨_, rfl⟩
  have b1 : Below H w w1 := by rw [hw1, hH]; exact (Below.refl _ _).alloc (Nat.le_refl _) _
  have s1 : w1.heap.size = H + 1 := by rw [hw1, hH]; exact World.size_alloc _ _
  have g1 : w1.heap[H]? = some (.cells (dV (List.replicate 32 0)) 23 (0, 0)) := by rw [hw1, hH]; exact heap_alloc_new _ _
  have r1 := hr.below (show Below w.heap.size w w1 by rw [← hH]; exact b1)
  have zd : (#[.int .u8 0, .int .u8 0, .int .u8 0, .int .u8 0, .int .u8 0, .int .u8 0, .int .u8 0, .int .u8 0, .int .u8 0, .int .u8 0, .int .u8 0, .int .u8 0, .int .u8 0, .int .u8 0, .int .u8 0, .int .u8 0, .int .u8 0, .int .u8 0, .int .u8 0, .int .u8 0, .int .u8 0, .int .u8 0, .int .u8 0, .int .u8 0, .int .u8 0, .int .u8 0, .int .u8 0, .int .u8 0, .int .u8 0, .int .u8 0, .int .u8 0, .int .u8 0] : Array Value) = dV (List.replicate 32 0) := by kernel_rfl
  have hgH : 1 < H := by omega
  obtain ⟨trd, frd, hrd⟩ := hro
  have rd1 : RoundsAt w1 := ⟨trd, frd, (b1.block _ hgH).trans hrd⟩
  have ZD := Lib.hid zd
  have HW1 := Lib.hid hw1
  have HH := Lib.hid hH
  have B1 := Lib.hid b1
  have G1 := Lib.hid g1
  have RD1 := Lib.hid rd1
  have R1 := Lib.hid r1
  have NC := New_calls w1
  have hHs : H < w1.heap.size := by omega
  clear hw1 b1 g1 rd1 r1 hH zd hrd hr s1
  go_enter Tryd.func105, Tryd.ntmps105
  go_wp2_with fail
  rw [ZD.out, ← HW1.out, ← HH.out]
  refine NC.mono ?_
  rintro e w2 ⟨G, rfl, hGs, hgG, hb2⟩
  have h2 := Has.of_block (s := h0) rfl hgG
  have rd2 : RoundsAt w2 := by obtain ⟨t, f, h⟩ := RD1.out; exact ⟨t, f, (hb2.block _ (by omega)).trans h⟩
  have r2 := R1.out.below hb2
  have hs2 := hb2.size
  have ha2 : b = [] ∨ ∀ x, a = some x → x.block ≠ G := by
    by_cases hbn : b = []
    · exact .inl hbn
    · right
      intro x hx
      subst hx
      have := R1.out.block_lt (by simpa using hbn)
      omega
  have WC := Hwrite_calls b a cap _ G w2 h2 r2 ha2 hl rd2 (by omega)
  have HWC := Lib.hid WC
  have RD2 := Lib.hid rd2
  have B2 := Lib.hid hb2
  clear NC WC rd2 hb2 h2 r2 hgG ha2
  go_wp2_with fail
  refine HWC.out.mono ?_
  rintro e w3 ⟨rfl, hb3, ad, cp, er, h3, r3, hne⟩
  have rd3 : RoundsAt w3 := by obtain ⟨t, f, h⟩ := RD2.out; exact ⟨t, f, (hb3.block _ (by omega)).trans h⟩
  have hs3 := hb3.size
  have SC := Hsum_calls (run h0 b) (run_length _ h0 b (Nat.le_refl _) rfl) (b.drop (b.length / 64 * 64)) b.length hl (by rw [List.length_drop]; omega) ad cp er G w3 h3 r3 rd3 (by omega)
  rw [sha_split] at SC
  have HSC := Lib.hid SC
  have B3 := Lib.hid hb3
  clear HWC SC rd3 hb3 h3 r3 hne
  go_wp2_with fail
  refine HSC.out.mono ?_
  rintro e w4 ⟨rfl, hb4⟩
  have g4 : w4.heap[H]? = some (.cells (dV (List.replicate 32 0)) 23 (0, 0)) := (hb4.block H (by omega)).trans ((B3.out.block H (by omega)).trans ((B2.out.block H hHs).trans G1.out))
  have b4 : Below H w w4 := B1.out.trans ((B2.out.mono (by omega)).trans ((B3.out.mono (by omega)).trans (hb4.mono (by omega))))
  have G4 := Lib.hid g4
  have B4 := Lib.hid b4
  clear HSC hb4 g4 b4
  go_wp2_with (refine st_row rfl (.tmp 2) (.tmp 9) rfl H (shaOf b) (shaOf_length b) (by rfl) (by rfl) (dV (List.replicate 32 0)) (by rfl) _ G4.out ?_)
  try simp only [Exit.inBlock, Exit.then]
  refine bodyPost_ret (v := .agg (dV (shaOf b))) (results_cellW rfl _ _ _ ⟨H, 0, none⟩ _ rfl ?_) rfl ?_
  · exact dig_load (shaOf_length b) (range_of_row (setRow_heap _ _ _ _ _ _ G4.out))
  · exact ⟨rfl, by rw [← HH.out]; exact below_setRowW B4.out (Nat.le_refl _) _⟩
end Go.Proofs.YtkioddmhjbaleaaDoor
