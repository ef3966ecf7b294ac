/- Walks: trie.Leaf; trie.Fold where it tells an error. -/
import Derived.Test.YtpeomfehdccmmaaDoorTrieFold2
namespace Go.Proofs.YtpeomfehdccmmaaDoor
open Go.RowKit
set_option linter.unusedVariables false
set_option linter.unusedSimpArgs false
/-- an entry as a value -/
def eV (k : Int) (v : List UInt8) : Array Value := (.int .i64 k :: v.map vB).toArray
theorem eV_size (k : Int) (v : List UInt8) (h : v.length = 32) : (eV k v).size = 33 := by simp [eV, h]
theorem eV_key {w : World} {g : Nat} {k : Int} {v : List UInt8} {t : TypeId} {fr : Nat × Nat} (h : w.heap[g]? = some (.cells (eV k v) t fr)) : w.cell? ⟨g, 0, none⟩ = some (.int .i64 k) := by
  rw [cell_of_row _ _ _ _ _ _ h]; rfl
theorem eV_val {w : World} {g : Nat} {k : Int} {v : List UInt8} {t : TypeId} {fr : Nat × Nat} (h : w.heap[g]? = some (.cells (eV k v) t fr)) : Rd w (some ⟨g, 1, none⟩) t (v.map vB) := by
  refine .inr ⟨g, 1, eV k v, fr, rfl, h, fun i hi => ?_⟩
  have hi2 : i < v.length := by simpa using hi
  simp [eV, Nat.add_comm 1 i, hi2]
theorem eV_range {w : World} {g : Nat} {k : Int} {v : List UInt8} {t : TypeId} {fr : Nat × Nat} (h : w.heap[g]? = some (.cells (eV k v) t fr)) : w.rangeAt g 1 (v.map vB) := by
  intro j u hj
  rw [cell_of_row w g (1 + j) _ t fr h]
  have hj2 : j < v.length := by have := (List.getElem?_eq_some_iff.1 hj).1; simpa using this
  rw [List.getElem?_eq_getElem (by simpa using hj2)] at hj
  simp [eV, Nat.add_comm 1 j, hj2] at hj ⊢
  exact hj
theorem be4 (k : Nat) : beS 4 k = [UInt8.ofNat (k / 2 ^ 24), UInt8.ofNat (k / 2 ^ 16), UInt8.ofNat (k / 2 ^ 8), UInt8.ofNat k] := by
  simp [beS, beB, List.range, List.range.loop]
theorem key_lit (k : Nat) (hk : k < 4294967296) : (#[.int .u8 9, .int .u8 ((k : Int) / 16777216), .int .u8 ((k : Int) / 65536 % 256), .int .u8 ((k : Int) / 256 % 256), .int .u8 ((k : Int) % 256)] : Array Value) = (((9 : UInt8) :: beS 4 k).map vB).toArray := by
  rw [be4]
  simp only [List.map_cons, List.map_nil, vB, UInt8.toNat_ofNat']
  have e1 : ((k / 2 ^ 24 % 2 ^ 8 : Nat) : Int) = (k : Int) / 16777216 := by omega
  have e2 : ((k / 2 ^ 16 % 2 ^ 8 : Nat) : Int) = (k : Int) / 65536 % 256 := by omega
  have e3 : ((k / 2 ^ 8 % 2 ^ 8 : Nat) : Int) = (k : Int) / 256 % 256 := by omega
  have e4 : ((k % 2 ^ 8 : Nat) : Int) = (k : Int) % 256 := by omega
  rw [e1, e2, e3, e4]
  rfl
theorem own_leaf (k : Nat) (hk : k < 4294967296) (w : World) : (w.alloc (.cells (((9 : UInt8) :: beS 4 k).map vB).toArray 5)).ownsRow w.heap.size 5 1 (.slice (some ⟨w.heap.size, 0, none⟩) 5 5) 5 (((9 : UInt8) :: beS 4 k).map vB) := by
  have h := World.ownsRow_lit (base := w.heap.size) (e := 5) (size := 1) w (((9 : UInt8) :: beS 4 k).map vB).toArray 5 (Nat.le_refl _) (by simp only [maxLen]; decide) (by simp [beS_length])
  exact h
set_option maxRecDepth 20000 in
set_option maxHeartbeats 4000000 in
theorem Fold_bad (k : Int) (hk : ¬ KeyOk k) (l : List UInt8) (a : Option Addr) (n : Nat) (cap : Nat) (w : World) :
    Calls Tryd.prog 16 #[.int .i64 k, .agg (dV l), .slice a n cap] w fun e w' => e = .returned (.tuple #[.agg (dV nz), .iface 25 (.int .i64 2)]) ∧ Below w.heap.size w w' := by
  obtain ⟨Z, hZ⟩ : ∃ Z, Z = nz := ⟨_, rfl⟩
  have zl : Z.length = 32 := by rw [hZ]; rfl
  have zlit : (#[.int .u8 0, .int .u8 0, .int .u8 0, .int .u8 0, .int .u8 0, .int .u8 0, .int .u8 0, .int .u8 0, .int .u8 0, .int .u8 0, .int .u8 0, .int .u8 0, .int .u8 0, .int .u8 0, .int .u8 0, .int .u8 0, .int .u8 0, .int .u8 0, .int .u8 0, .int .u8 0, .int .u8 0, .int .u8 0, .int .u8 0, .int .u8 0, .int .u8 0, .int .u8 0, .int .u8 0, .int .u8 0, .int .u8 0, .int .u8 0, .int .u8 0, .int .u8 0] : Array Value) = dV Z := by rw [hZ]; exact zdig
  have ZL := Lib.hid zl
  have ZT := Lib.hid zlit
  have HZ := Lib.hid hZ
  clear zl zlit hZ
  obtain ⟨H, hH⟩ : ∃ H, H = w.heap.size := ⟨_, rfl⟩
  obtain ⟨w0, hw0⟩ : ∃ z, z = w.alloc (.cells (dV l) 23) := ⟨_, rfl⟩
  obtain ⟨w1, hw1⟩ : ∃ z, z = w0.alloc (.cells (dV Z) 23) := ⟨_, rfl⟩
  have q0 : w0.heap.size = H + 1 := by rw [hw0, hH]; exact World.size_alloc _ _
  have q1 : w1.heap.size = H + 1 + 1 := by rw [hw1, World.size_alloc, q0]
  have s0 : Below (H) w w0 := by rw [hw0, hH]; exact (Below.refl _ _).alloc (Nat.le_refl _) _
  have s1 : Below (H + 1) w0 w1 := by rw [hw1, ← q0]; exact (Below.refl _ _).alloc (Nat.le_refl _) _
  have t1 : Below (H + 1 + 1) w1 w1 := Below.refl _ _
  have t0 : Below (H + 1) w0 w1 := s1.trans (t1.mono (by omega))
  have bL : Below H w w1 := s0.trans (t0.mono (by omega))
  have g0 : w1.heap[H]? = some (.cells (dV l) 23 (0, 0)) := by
    have g : w0.heap[H]? = some (.cells (dV l) 23 (0, 0)) := by rw [hw0, hH]; exact heap_alloc_new _ _
    exact (t0.block _ (by omega)).trans g
  have g1 : w1.heap[H + 1]? = some (.cells (dV Z) 23 (0, 0)) := by
    have g : w1.heap[H + 1]? = some (.cells (dV Z) 23 (0, 0)) := by rw [hw1, ← q0]; exact heap_alloc_new _ _
    exact (t1.block _ (by omega)).trans g
  have bW : Below w.heap.size w w1 := by rw [← hH]; exact bL
  have hsz : H + 1 < w1.heap.size := by omega
  have HH := Lib.hid hH
  have HW0 := Lib.hid hw0
  have HW1 := Lib.hid hw1
  have BL := Lib.hid bL
  have BW := Lib.hid bW
  have QL := Lib.hid q1
  have G0 := Lib.hid g0
  have G1 := Lib.hid g1
  clear hH hw0 hw1 q0 q1 s0 s1 t0 t1 g0 g1 bL bW
  have kk := Key_calls k w1
  rw [decide_eq_false hk] at kk
  have KK := Lib.hid kk
  clear kk hk
  go_enter Tryd.func16, Tryd.ntmps16
  go_upto_region 1 with fail
  rw [ZT.out, ← HH.out, ← HW0.out, ← HW1.out]
  go_wp2_with (first | (go_at_call 47; refine KK.out.mono ?_; rintro e w' ⟨rfl, rfl⟩) | (refine wpl_zero rfl rfl Z HZ.out ?_) | (refine st_row rfl (.tmp 6) (.tmp 13) rfl (H + 1) Z ZL.out (by rfl) (by rfl) (dV Z) (dV_size ZL.out) _ G1.out ?_))
  try simp only [Exit.inBlock, Exit.then]
  refine bodyPost_ret (results_cell_tmp rfl _ _ _ ⟨H + 1, 0, none⟩ (.agg (dV Z)) rfl ?_) rfl ⟨by rw [← HZ.out]; rfl, by rw [← HH.out]; exact below_setRowW BL.out (by omega) _⟩
  exact dig_load ZL.out (range_of_row (setRow_heap _ _ _ (dV Z) _ _ G1.out))
set_option maxRecDepth 20000 in
set_option maxHeartbeats 4000000 in
theorem Fold_len (k : Int) (hk : KeyOk k) (l : List UInt8) (a : Option Addr) (n : Nat) (hn : n ≠ 32) (cap : Nat) (w : World) :
    Calls Tryd.prog 16 #[.int .i64 k, .agg (dV l), .slice a n cap] w fun e w' => e = .returned (.tuple #[.agg (dV nz), .iface 25 (.int .i64 3)]) ∧ Below w.heap.size w w' := by
  obtain ⟨Z, hZ⟩ : ∃ Z, Z = nz := ⟨_, rfl⟩
  have zl : Z.length = 32 := by rw [hZ]; rfl
  have zlit : (#[.int .u8 0, .int .u8 0, .int .u8 0, .int .u8 0, .int .u8 0, .int .u8 0, .int .u8 0, .int .u8 0, .int .u8 0, .int .u8 0, .int .u8 0, .int .u8 0, .int .u8 0, .int .u8 0, .int .u8 0, .int .u8 0, .int .u8 0, .int .u8 0, .int .u8 0, .int .u8 0, .int .u8 0, .int .u8 0, .int .u8 0, .int .u8 0, .int .u8 0, .int .u8 0, .int .u8 0, .int .u8 0, .int .u8 0, .int .u8 0, .int .u8 0, .int .u8 0] : Array Value) = dV Z := by rw [hZ]; exact zdig
  have ZL := Lib.hid zl
  have ZT := Lib.hid zlit
  have HZ := Lib.hid hZ
  clear zl zlit hZ
  obtain ⟨H, hH⟩ : ∃ H, H = w.heap.size := ⟨_, rfl⟩
  obtain ⟨w0, hw0⟩ : ∃ z, z = w.alloc (.cells (dV l) 23) := ⟨_, rfl⟩
  obtain ⟨w1, hw1⟩ : ∃ z, z = w0.alloc (.cells (dV Z) 23) := ⟨_, rfl⟩
  have q0 : w0.heap.size = H + 1 := by rw [hw0, hH]; exact World.size_alloc _ _
  have q1 : w1.heap.size = H + 1 + 1 := by rw [hw1, World.size_alloc, q0]
  have s0 : Below (H) w w0 := by rw [hw0, hH]; exact (Below.refl _ _).alloc (Nat.le_refl _) _
  have s1 : Below (H + 1) w0 w1 := by rw [hw1, ← q0]; exact (Below.refl _ _).alloc (Nat.le_refl _) _
  have t1 : Below (H + 1 + 1) w1 w1 := Below.refl _ _
  have t0 : Below (H + 1) w0 w1 := s1.trans (t1.mono (by omega))
  have bL : Below H w w1 := s0.trans (t0.mono (by omega))
  have g0 : w1.heap[H]? = some (.cells (dV l) 23 (0, 0)) := by
    have g : w0.heap[H]? = some (.cells (dV l) 23 (0, 0)) := by rw [hw0, hH]; exact heap_alloc_new _ _
    exact (t0.block _ (by omega)).trans g
  have g1 : w1.heap[H + 1]? = some (.cells (dV Z) 23 (0, 0)) := by
    have g : w1.heap[H + 1]? = some (.cells (dV Z) 23 (0, 0)) := by rw [hw1, ← q0]; exact heap_alloc_new _ _
    exact (t1.block _ (by omega)).trans g
  have bW : Below w.heap.size w w1 := by rw [← hH]; exact bL
  have hsz : H + 1 < w1.heap.size := by omega
  have HH := Lib.hid hH
  have HW0 := Lib.hid hw0
  have HW1 := Lib.hid hw1
  have BL := Lib.hid bL
  have BW := Lib.hid bW
  have QL := Lib.hid q1
  have G0 := Lib.hid g0
  have G1 := Lib.hid g1
  clear hH hw0 hw1 q0 q1 s0 s1 t0 t1 g0 g1 bL bW
  have kk := Key_calls k w1
  rw [decide_eq_true hk] at kk
  have KK := Lib.hid kk
  have z1 : ((n : Int) != 32) = true := by rw [bne_iff_ne]; omega
  have z2 : (n != 32) = true := by rw [bne_iff_ne]; omega
  clear kk hk hn
  go_enter Tryd.func16, Tryd.ntmps16
  go_upto_region 1 with fail
  rw [ZT.out, ← HH.out, ← HW0.out, ← HW1.out]
  go_wp2_with (first | (go_at_call 47; refine KK.out.mono ?_; rintro e w' ⟨rfl, rfl⟩) | (refine wpl_zero rfl rfl Z HZ.out ?_) | (refine st_row rfl (.tmp 6) (.tmp 18) rfl (H + 1) Z ZL.out (by rfl) (by rfl) (dV Z) (dV_size ZL.out) _ G1.out ?_))
  try simp only [Exit.inBlock, Exit.then]
  refine bodyPost_ret (results_cell_tmp rfl _ _ _ ⟨H + 1, 0, none⟩ (.agg (dV Z)) rfl ?_) rfl ⟨by rw [← HZ.out]; rfl, by rw [← HH.out]; exact below_setRowW BL.out (by omega) _⟩
  exact dig_load ZL.out (range_of_row (setRow_heap _ _ _ (dV Z) _ _ G1.out))
set_option maxRecDepth 20000 in
set_option maxHeartbeats 4000000 in
theorem Leaf_bad (k : Int) (hk : ¬ KeyOk k) (v : List UInt8) (w : World) :
    Calls Tryd.prog 18 #[.agg (eV k v)] w fun e w' => e = .returned (.tuple #[.agg (dV nz), .iface 25 (.int .i64 2)]) ∧ Below w.heap.size w w' := by
  obtain ⟨Z, hZ⟩ : ∃ Z, Z = nz := ⟨_, rfl⟩
  have zl : Z.length = 32 := by rw [hZ]; rfl
  have zlit : (#[.int .u8 0, .int .u8 0, .int .u8 0, .int .u8 0, .int .u8 0, .int .u8 0, .int .u8 0, .int .u8 0, .int .u8 0, .int .u8 0, .int .u8 0, .int .u8 0, .int .u8 0, .int .u8 0, .int .u8 0, .int .u8 0, .int .u8 0, .int .u8 0, .int .u8 0, .int .u8 0, .int .u8 0, .int .u8 0, .int .u8 0, .int .u8 0, .int .u8 0, .int .u8 0, .int .u8 0, .int .u8 0, .int .u8 0, .int .u8 0, .int .u8 0, .int .u8 0] : Array Value) = dV Z := by rw [hZ]; exact zdig
  have ZL := Lib.hid zl
  have ZT := Lib.hid zlit
  have HZ := Lib.hid hZ
  clear zl zlit hZ
  obtain ⟨H, hH⟩ : ∃ H, H = w.heap.size := ⟨_, rfl⟩
  obtain ⟨w0, hw0⟩ : ∃ z, z = w.alloc (.cells (eV k v) 35) := ⟨_, rfl⟩
  obtain ⟨w1, hw1⟩ : ∃ z, z = w0.alloc (.cells (dV Z) 23) := ⟨_, rfl⟩
  have q0 : w0.heap.size = H + 1 := by rw [hw0, hH]; exact World.size_alloc _ _
  have q1 : w1.heap.size = H + 1 + 1 := by rw [hw1, World.size_alloc, q0]
  have s0 : Below (H) w w0 := by rw [hw0, hH]; exact (Below.refl _ _).alloc (Nat.le_refl _) _
  have s1 : Below (H + 1) w0 w1 := by rw [hw1, ← q0]; exact (Below.refl _ _).alloc (Nat.le_refl _) _
  have t1 : Below (H + 1 + 1) w1 w1 := Below.refl _ _
  have t0 : Below (H + 1) w0 w1 := s1.trans (t1.mono (by omega))
  have bL : Below H w w1 := s0.trans (t0.mono (by omega))
  have g0 : w1.heap[H]? = some (.cells (eV k v) 35 (0, 0)) := by
    have g : w0.heap[H]? = some (.cells (eV k v) 35 (0, 0)) := by rw [hw0, hH]; exact heap_alloc_new _ _
    exact (t0.block _ (by omega)).trans g
  have g1 : w1.heap[H + 1]? = some (.cells (dV Z) 23 (0, 0)) := by
    have g : w1.heap[H + 1]? = some (.cells (dV Z) 23 (0, 0)) := by rw [hw1, ← q0]; exact heap_alloc_new _ _
    exact (t1.block _ (by omega)).trans g
  have bW : Below w.heap.size w w1 := by rw [← hH]; exact bL
  have hsz : H + 1 < w1.heap.size := by omega
  have HH := Lib.hid hH
  have HW0 := Lib.hid hw0
  have HW1 := Lib.hid hw1
  have BL := Lib.hid bL
  have BW := Lib.hid bW
  have QL := Lib.hid q1
  have G0 := Lib.hid g0
  have G1 := Lib.hid g1
  clear hH hw0 hw1 q0 q1 s0 s1 t0 t1 g0 g1 bL bW
  have kk := Key_calls k w1
  rw [decide_eq_false hk] at kk
  have c0 := eV_key G0.out
  have KK := Lib.hid kk
  clear kk hk
  go_enter Tryd.func18, Tryd.ntmps18
  go_upto_region 1 with fail
  rw [ZT.out, ← HH.out, ← HW0.out, ← HW1.out]
  go_wp2_with (first | (go_at_call 47; refine KK.out.mono ?_; rintro e w' ⟨rfl, rfl⟩) | (refine wpl_zero rfl rfl Z HZ.out ?_) | (refine st_row rfl (.tmp 2) (.tmp 9) rfl (H + 1) Z ZL.out (by rfl) (by rfl) (dV Z) (dV_size ZL.out) _ G1.out ?_))
  try simp only [Exit.inBlock, Exit.then]
  refine bodyPost_ret (results_cell_tmp rfl _ _ _ ⟨H + 1, 0, none⟩ (.agg (dV Z)) rfl ?_) rfl ⟨by rw [← HZ.out]; rfl, by rw [← HH.out]; exact below_setRowW BL.out (by omega) _⟩
  exact dig_load ZL.out (range_of_row (setRow_heap _ _ _ (dV Z) _ _ G1.out))
set_option maxRecDepth 20000 in
set_option maxHeartbeats 4000000 in
theorem Leaf_calls (k : Nat) (hk : k < 4294967296) (v : List UInt8) (hv : v.length = 32) (w : World) (hro : RoundsAt w) :
    Calls Tryd.prog 18 #[.agg (eV (k : Int) v)] w fun e w' => e = .returned (.tuple #[.agg (dV (leafD k v)), .nilIface]) ∧ Below w.heap.size w w' := by
  obtain ⟨Z, hZ⟩ : ∃ Z, Z = nz := ⟨_, rfl⟩
  have zl : Z.length = 32 := by rw [hZ]; rfl
  have zlit : (#[.int .u8 0, .int .u8 0, .int .u8 0, .int .u8 0, .int .u8 0, .int .u8 0, .int .u8 0, .int .u8 0, .int .u8 0, .int .u8 0, .int .u8 0, .int .u8 0, .int .u8 0, .int .u8 0, .int .u8 0, .int .u8 0, .int .u8 0, .int .u8 0, .int .u8 0, .int .u8 0, .int .u8 0, .int .u8 0, .int .u8 0, .int .u8 0, .int .u8 0, .int .u8 0, .int .u8 0, .int .u8 0, .int .u8 0, .int .u8 0, .int .u8 0, .int .u8 0] : Array Value) = dV Z := by rw [hZ]; exact zdig
  have ZL := Lib.hid zl
  have ZT := Lib.hid zlit
  have HZ := Lib.hid hZ
  clear zl zlit hZ
  obtain ⟨H, hH⟩ : ∃ H, H = w.heap.size := ⟨_, rfl⟩
  obtain ⟨w0, hw0⟩ : ∃ z, z = w.alloc (.cells (eV (k : Int) v) 35) := ⟨_, rfl⟩
  obtain ⟨w1, hw1⟩ : ∃ z, z = w0.alloc (.cells (dV Z) 23) := ⟨_, rfl⟩
  have q0 : w0.heap.size = H + 1 := by rw [hw0, hH]; exact World.size_alloc _ _
  have q1 : w1.heap.size = H + 1 + 1 := by rw [hw1, World.size_alloc, q0]
  have s0 : Below (H) w w0 := by rw [hw0, hH]; exact (Below.refl _ _).alloc (Nat.le_refl _) _
  have s1 : Below (H + 1) w0 w1 := by rw [hw1, ← q0]; exact (Below.refl _ _).alloc (Nat.le_refl _) _
  have t1 : Below (H + 1 + 1) w1 w1 := Below.refl _ _
  have t0 : Below (H + 1) w0 w1 := s1.trans (t1.mono (by omega))
  have bL : Below H w w1 := s0.trans (t0.mono (by omega))
  have g0 : w1.heap[H]? = some (.cells (eV (k : Int) v) 35 (0, 0)) := by
    have g : w0.heap[H]? = some (.cells (eV (k : Int) v) 35 (0, 0)) := by rw [hw0, hH]; exact heap_alloc_new _ _
    exact (t0.block _ (by omega)).trans g
  have g1 : w1.heap[H + 1]? = some (.cells (dV Z) 23 (0, 0)) := by
    have g : w1.heap[H + 1]? = some (.cells (dV Z) 23 (0, 0)) := by rw [hw1, ← q0]; exact heap_alloc_new _ _
    exact (t1.block _ (by omega)).trans g
  have bW : Below w.heap.size w w1 := by rw [← hH]; exact bL
  have hsz : H + 1 < w1.heap.size := by omega
  have HH := Lib.hid hH
  have HW0 := Lib.hid hw0
  have HW1 := Lib.hid hw1
  have BL := Lib.hid bL
  have BW := Lib.hid bW
  have QL := Lib.hid q1
  have G0 := Lib.hid g0
  have G1 := Lib.hid g1
  clear hH hw0 hw1 q0 q1 s0 s1 t0 t1 g0 g1 bL bW
  have kk := Key_calls (k : Int) w1
  rw [decide_eq_true (show KeyOk (k : Int) from ⟨by omega, by omega⟩)] at kk
  have c0 := eV_key G0.out
  have KK := Lib.hid kk
  have RO := Lib.hid (hro.at_ BW.out)
  have HV := Lib.hid hv
  clear kk hro hv
  go_enter Tryd.func18, Tryd.ntmps18
  go_upto_region 1 with fail
  rw [ZT.out, ← HH.out, ← HW0.out, ← HW1.out]
  go_upto_region 4 with (go_at_call 47; refine KK.out.mono ?_; rintro e w' ⟨rfl, rfl⟩)
  have o1 := own_leaf k hk w1
  rw [key_lit k hk]
  have HO := Lib.hid o1
  obtain ⟨w4, hw4⟩ : ∃ z, z = w1.alloc (.cells (((9 : UInt8) :: beS 4 k).map vB).toArray 5) := ⟨_, rfl⟩
  have b4 : Below w1.heap.size w1 w4 := by rw [hw4]; exact (Below.refl _ _).alloc (Nat.le_refl _) _
  have o4 : w4.ownsRow w1.heap.size 5 1 (.slice (some ⟨w1.heap.size, 0, none⟩) 5 5) 5 (((9 : UInt8) :: beS 4 k).map vB) := by rw [hw4]; exact o1
  have rv := eV_val ((b4.block _ (by omega)).trans G0.out)
  rw [← hw4]
  have O4 := Lib.hid o4
  have B4 := Lib.hid b4
  have RV := Lib.hid rv
  have hs4 := b4.size
  clear o1 hw4 b4 o4 rv KK c0 HO
  go_wp2_with (at_builtin; refine appAllw 80 5 (.int .u8 0) 1 1 Tryd.underlying80 info_byte rfl (by omega) rfl (.tmp 27) (.tmp 29) (by rfl) w1.heap.size _ 5 _ (by rfl) O4.out (some ⟨H, 1, none⟩) 32 32 (v.map vB) (by rfl) _ RV.out (by rw [List.length_map]; exact HV.out) (one_bytes v) (by omega) (by omega) hs4 ?_; intro av3 cp3 w3 hown3 hb3; rw [← List.map_append, List.cons_append] at hown3; have O3 := Lib.hid hown3; have B3 := Lib.hid (B4.out.trans hb3); clear hown3 hb3)
  have hlen := leafTxt_length k v HV.out
  have SC := Sha_calls (leafTxt k v) av3 cp3 _ w3 (Rd.of_own O3.out) (by rw [hlen]; omega) (RO.out.at_ B3.out) (RO.out.at_ B3.out).lt
  rw [hlen] at SC
  have HSC := Lib.hid SC
  have G3 := Lib.hid ((B3.out.block _ hsz).trans G1.out)
  have hs3 := B3.out.size
  clear SC hlen O3 O4 B4 RV
  refine HSC.out.mono ?_
  rintro e w5 ⟨rfl, hb5⟩
  have G5 := Lib.hid ((hb5.block _ (by omega)).trans G3.out)
  have B5 := Lib.hid (BL.out.trans ((B3.out.trans (hb5.mono hs3)).mono (by omega)))
  clear hb5 HSC
  rw [show shaOf (leafTxt k v) = leafD k v from rfl]
  go_wp2_with (refine st_row rfl (.tmp 2) (.tmp 31) rfl (H + 1) (leafD k v) (leafD_length k v) (by rfl) (by rfl) (dV Z) (dV_size ZL.out) _ G5.out ?_)
  try simp only [Exit.inBlock, Exit.then]
  refine bodyPost_ret (results_cell_tmp rfl _ _ _ ⟨H + 1, 0, none⟩ (.agg (dV (leafD k v))) rfl ?_) rfl ⟨rfl, by rw [← HH.out]; exact below_setRowW B5.out (by omega) _⟩
  exact dig_load (leafD_length k v) (range_of_row (setRow_heap _ _ _ _ _ _ G5.out))
end Go.Proofs.YtpeomfehdccmmaaDoor
