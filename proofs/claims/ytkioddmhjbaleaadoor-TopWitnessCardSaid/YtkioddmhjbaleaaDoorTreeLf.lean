/- TreeLf: texts of TreeLeafs, as far as this seat has their functions. -/
import Derived.Test.YtkioddmhjbaleaaDoorTreeNode
namespace Go.Proofs.YtkioddmhjbaleaaDoor
open Go.RowKit
set_option linter.unusedVariables false
set_option linter.unusedSimpArgs false
set_option maxRecDepth 20000 in
set_option maxHeartbeats 2000000 in
theorem TLeaf_calls (b : List UInt8) (a : Option Addr) (cap e : Nat) (hb : b.length ≤ 1000000) (w : World) (hr : Rd w a e (b.map vB)) (hro : RoundsAt w) :
    Calls Tryd.prog 128 #[.slice a b.length cap] w fun e w' => e = .returned (.agg (dV (tleaf b))) ∧ Below w.heap.size w w' := by
  obtain ⟨Z, hZ⟩ : ∃ Z, Z = nz := ⟨_, rfl⟩
  have zl : Z.length = 32 := by rw [hZ]; rfl
  have zlit : (#[.int .u8 0, .int .u8 0, .int .u8 0, .int .u8 0, .int .u8 0, .int .u8 0, .int .u8 0, .int .u8 0, .int .u8 0, .int .u8 0, .int .u8 0, .int .u8 0, .int .u8 0, .int .u8 0, .int .u8 0, .int .u8 0, .int .u8 0, .int .u8 0, .int .u8 0, .int .u8 0, .int .u8 0, .int .u8 0, .int .u8 0, .int .u8 0, .int .u8 0, .int .u8 0, .int .u8 0, .int .u8 0, .int .u8 0, .int .u8 0, .int .u8 0, .int .u8 0] : Array Value) = dV Z := by rw [hZ]; exact zdig
  have ZL := Lib.hid zl
  have ZT := Lib.hid zlit
  have HZ := Lib.hid hZ
  clear zl zlit hZ
  obtain ⟨H, hH⟩ : ∃ H, H = w.heap.size := ⟨_, rfl⟩
  obtain ⟨w0, hw0⟩ : ∃ z, z = w.alloc (.cells (dV Z) 23) := ⟨_, rfl⟩
  have q0 : w0.heap.size = H + 1 := by rw [hw0, hH]; exact World.size_alloc _ _
  have s0 : Below (H) w w0 := by rw [hw0, hH]; exact (Below.refl _ _).alloc (Nat.le_refl _) _
  have t0 : Below (H + 1) w0 w0 := Below.refl _ _
  have bL : Below H w w0 := s0.trans (t0.mono (by omega))
  have g0 : w0.heap[H]? = some (.cells (dV Z) 23 (0, 0)) := by
    have g : w0.heap[H]? = some (.cells (dV Z) 23 (0, 0)) := by rw [hw0, hH]; exact heap_alloc_new _ _
    exact (t0.block _ (by omega)).trans g
  have bW : Below w.heap.size w w0 := by rw [← hH]; exact bL
  have hsz : H < w0.heap.size := by omega
  have HH := Lib.hid hH
  have HW0 := Lib.hid hw0
  have BL := Lib.hid bL
  have BW := Lib.hid bW
  have QL := Lib.hid q0
  have G0 := Lib.hid g0
  clear hH hw0 q0 s0 t0 g0 bL bW
  have RD := Lib.hid ((hr.below BW.out).alloc (.cells #[.int .u8 0] 5))
  have O1 := Lib.hid (own_byte1 w0 0 _ (Nat.le_refl _))
  have RO := Lib.hid (hro.at_ BW.out)
  clear hr hro
  go_enter Tryd.func128, Tryd.ntmps128
  go_upto_region 1 with fail
  rw [ZT.out, ← HH.out, ← HW0.out]
  go_wp2_with (at_builtin; refine appAllw 67 5 (.int .u8 0) 1 1 Tryd.underlying67 info_byte rfl (by omega) rfl (.tmp 3) (.tmp 4) (by rfl) w0.heap.size _ 1 _ (by rfl) O1.out a b.length cap (b.map vB) (by rfl) _ RD.out (by rw [List.length_map, Nat.mul_one]) (one_bytes b) (by omega) (by omega) (by rw [World.size_alloc]; omega) ?_; intro av3 cp3 w3 hown3 hb3; rw [← List.map_append, List.singleton_append] at hown3; have O3 := Lib.hid hown3; have B3 := Lib.hid (((Below.refl _ w0).alloc (Nat.le_refl _) _).trans hb3); clear hown3 hb3)
  have hlen : (0 :: b).length = 1 + b.length := by rw [List.length_cons]; omega
  have SC := Sha_calls (0 :: b) av3 cp3 _ w3 (Rd.of_own O3.out) (by rw [hlen]; omega) (RO.out.at_ B3.out) (RO.out.at_ B3.out).lt
  rw [hlen] at SC
  have HSC := Lib.hid SC
  have G3 := Lib.hid ((B3.out.block _ hsz).trans G0.out)
  have hs3 := B3.out.size
  clear SC hlen O3
  refine HSC.out.mono ?_
  rintro e w5 ⟨rfl, hb5⟩
  have G5 := Lib.hid ((hb5.block _ (by omega)).trans G3.out)
  have B5 := Lib.hid (BL.out.trans ((B3.out.trans (hb5.mono hs3)).mono (by omega)))
  clear hb5 HSC
  rw [show shaOf (0 :: b) = tleaf b from rfl]
  go_wp2_with (refine st_row rfl (.tmp 2) (.tmp 6) rfl H (tleaf b) (tleaf_length b) (by rfl) (by rfl) (dV Z) (dV_size ZL.out) _ G5.out ?_)
  try simp only [Exit.inBlock, Exit.then]
  refine bodyPost_ret (v := .agg (dV (tleaf b))) (results_cellW rfl _ _ _ ⟨H, 0, none⟩ _ rfl ?_) rfl ?_
  · exact dig_load (tleaf_length b) (range_of_row (setRow_heap _ _ _ _ _ _ G5.out))
  · exact ⟨rfl, by rw [← HH.out]; exact below_setRowW B5.out (Nat.le_refl _) _⟩
end Go.Proofs.YtkioddmhjbaleaaDoor

