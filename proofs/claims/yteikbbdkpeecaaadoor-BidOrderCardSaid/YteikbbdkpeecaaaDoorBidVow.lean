/- Walk: bid.Vow. -/
import Derived.Test.YteikbbdkpeecaaaDoorBidMem
import Derived.Test.YteikbbdkpeecaaaDoorOctPut8
import Derived.Deep.RegionHeld3
namespace Go.Proofs.YteikbbdkpeecaaaDoor
open Go.RowKit
set_option linter.unusedVariables false
set_option linter.unusedSimpArgs false

/-- a bid that can have a vow -/
def BdOk (b : Bd) : Prop := (0 ≤ b.who ∧ b.who < 4294967296) ∧ 0 ≤ b.amount
instance (b : Bd) : Decidable (BdOk b) := by unfold BdOk; infer_instance
def bidT (b : Bd) : List UInt8 := vowText b.salt (beS 4 b.who.toNat ++ beS 8 b.amount.toNat)
def bidD (b : Bd) : List UInt8 := shaOf (bidT b)
theorem bidT_length (b : Bd) (h : b.salt.length = 32) : (bidT b).length = 45 := by simp [bidT, vowText, h, beS_length]
theorem bidD_length (b : Bd) : (bidD b).length = 32 := shaOf_length _
theorem AreB.two {w : World} {x y : List UInt8} {u v : Value} (hx : IsB (fun _ _ => True) w x u) (hy : IsB (fun _ _ => True) w y v) : AreB (fun _ _ => True) w [x, y] [u, v] := by
  refine ⟨rfl, fun i hi hj => ?_⟩
  match i, hi with
  | 0, _ => exact hx
  | 1, _ => exact hy
theorem bV_cell0 {w : World} {g : Nat} {k m : Int} {v : List UInt8} {t : TypeId} {fr : Nat × Nat} (h : w.heap[g]? = some (.cells (bV k m v) t fr)) : w.cell? ⟨g, 0, none⟩ = some (.int .i64 k) := by
  rw [cell_of_row _ _ _ _ _ _ h]; rfl
theorem bV_cell1 {w : World} {g : Nat} {k m : Int} {v : List UInt8} {t : TypeId} {fr : Nat × Nat} (h : w.heap[g]? = some (.cells (bV k m v) t fr)) : w.cell? ⟨g, 1, none⟩ = some (.int .i64 m) := by
  rw [cell_of_row _ _ _ _ _ _ h]; rfl
theorem bV_salt {w : World} {g : Nat} {k m : Int} {v : List UInt8} {t : TypeId} {fr : Nat × Nat} (h : w.heap[g]? = some (.cells (bV k m v) t fr)) : w.rangeAt g 2 (v.map vB) :=
  range_salt (e := ⟨k, m, v⟩) (range_bid (e := ⟨k, m, v⟩) h)
theorem range_setRow_other {w : World} {B o g : Nat} {cs : List Value} {d : Array Value} (hn : B ≠ g) (h : w.rangeAt B o cs) : (w.setRow g d).rangeAt B o cs := by
  intro j v hj
  rw [← h j v hj]
  unfold World.cell?
  simp only [_root_.Go.setRow_other w g B d hn]
set_option maxRecDepth 20000 in
set_option maxHeartbeats 4000000 in
theorem Vow_who (k m : Int) (hk : k < 0 ∨ 4294967296 ≤ k) (hk2 : k ≤ 9223372036854775807) (v : List UInt8) (w : World) :
    Calls Tryd.prog 25 #[.agg (bV k m v)] w fun e w' => e = .returned (.tuple #[.agg (dV nz), .iface 25 (.int .i64 2)]) ∧ Below w.heap.size w w' := by
  obtain ⟨Z, hZ⟩ : ∃ Z, Z = nz := ⟨_, rfl⟩
  have zl : Z.length = 32 := by rw [hZ]; rfl
  have zlit : (#[.int .u8 0, .int .u8 0, .int .u8 0, .int .u8 0, .int .u8 0, .int .u8 0, .int .u8 0, .int .u8 0, .int .u8 0, .int .u8 0, .int .u8 0, .int .u8 0, .int .u8 0, .int .u8 0, .int .u8 0, .int .u8 0, .int .u8 0, .int .u8 0, .int .u8 0, .int .u8 0, .int .u8 0, .int .u8 0, .int .u8 0, .int .u8 0, .int .u8 0, .int .u8 0, .int .u8 0, .int .u8 0, .int .u8 0, .int .u8 0, .int .u8 0, .int .u8 0] : Array Value) = dV Z := by rw [hZ]; exact zdig
  have ZL := Lib.hid zl
  have ZT := Lib.hid zlit
  have HZ := Lib.hid hZ
  clear zl zlit hZ
  obtain ⟨H, hH⟩ : ∃ H, H = w.heap.size := ⟨_, rfl⟩
  obtain ⟨w0, hw0⟩ : ∃ z, z = w.alloc (.cells (bV k m v) 59) := ⟨_, rfl⟩
  obtain ⟨w1, hw1⟩ : ∃ z, z = w0.alloc (.cells (dV Z) 55) := ⟨_, rfl⟩
  have q0 : w0.heap.size = H + 1 := by rw [hw0, hH]; exact World.size_alloc _ _
  have q1 : w1.heap.size = H + 1 + 1 := by rw [hw1, World.size_alloc, q0]
  have s0 : Below (H) w w0 := by rw [hw0, hH]; exact (Below.refl _ _).alloc (Nat.le_refl _) _
  have s1 : Below (H + 1) w0 w1 := by rw [hw1, ← q0]; exact (Below.refl _ _).alloc (Nat.le_refl _) _
  have t1 : Below (H + 1 + 1) w1 w1 := Below.refl _ _
  have t0 : Below (H + 1) w0 w1 := s1.trans (t1.mono (by omega))
  have bL : Below H w w1 := s0.trans (t0.mono (by omega))
  have g0 : w1.heap[H]? = some (.cells (bV k m v) 59 (0, 0)) := by
    have g : w0.heap[H]? = some (.cells (bV k m v) 59 (0, 0)) := by rw [hw0, hH]; exact heap_alloc_new _ _
    exact (t0.block _ (by omega)).trans g
  have g1 : w1.heap[H + 1]? = some (.cells (dV Z) 55 (0, 0)) := by
    have g : w1.heap[H + 1]? = some (.cells (dV Z) 55 (0, 0)) := by rw [hw1, ← q0]; exact heap_alloc_new _ _
    exact (t1.block _ (by omega)).trans g
  have bW : Below w.heap.size w w1 := by rw [← hH]; exact bL
  have hsz : H + 1 < w1.heap.size := by omega
  have HH := Lib.hid hH
  have HW0 := Lib.hid hw0
  have HW1 := Lib.hid hw1
  have BL := Lib.hid bL
  have BW := Lib.hid bW
  have QL := Lib.hid q1
  have G0 := Lib.hid g0
  have G1 := Lib.hid g1
  clear hH hw0 hw1 q0 q1 s0 s1 t0 t1 g0 g1 bL bW
  have PC := OPut_no k hk hk2 w1
  have HPC := Lib.hid PC
  have c0 := bV_cell0 G0.out
  clear PC
  go_enter Tryd.func25, Tryd.ntmps25
  go_upto_region 1 with fail
  rw [ZT.out, ← HH.out, ← HW0.out, ← HW1.out]
  go_wp2_with fail
  refine HPC.out.mono ?_
  rintro e w2 ⟨rfl, rfl⟩
  clear c0 HPC
  go_wp2_with (first
    | (refine wpl_zero rfl rfl Z HZ.out ?_)
    | (refine st_row rfl (.tmp 2) (.tmp 15) rfl (H + 1) Z ZL.out (by rfl) (by rfl) (dV Z) (dV_size ZL.out) _ G1.out ?_))
  try simp only [Exit.inBlock, Exit.then]
  refine bodyPost_ret (results_cell_tmp rfl _ _ _ ⟨H + 1, 0, none⟩ (.agg (dV Z)) rfl ?_) rfl ⟨by rw [← HZ.out]; rfl, by rw [← HH.out]; exact below_setRowW BL.out (by omega) _⟩
  exact dig_load ZL.out (range_of_row (setRow_heap _ _ _ (dV Z) _ _ G1.out))
set_option maxRecDepth 20000 in
set_option maxHeartbeats 4000000 in
theorem Vow_amount (k : Nat) (m : Int) (hk : k < 4294967296) (hm : m < 0) (v : List UInt8) (w : World) :
    Calls Tryd.prog 25 #[.agg (bV (k : Int) m v)] w fun e w' => e = .returned (.tuple #[.agg (dV nz), .iface 25 (.int .i64 2)]) ∧ Below w.heap.size w w' := by
  obtain ⟨Z, hZ⟩ : ∃ Z, Z = nz := ⟨_, rfl⟩
  have zl : Z.length = 32 := by rw [hZ]; rfl
  have zlit : (#[.int .u8 0, .int .u8 0, .int .u8 0, .int .u8 0, .int .u8 0, .int .u8 0, .int .u8 0, .int .u8 0, .int .u8 0, .int .u8 0, .int .u8 0, .int .u8 0, .int .u8 0, .int .u8 0, .int .u8 0, .int .u8 0, .int .u8 0, .int .u8 0, .int .u8 0, .int .u8 0, .int .u8 0, .int .u8 0, .int .u8 0, .int .u8 0, .int .u8 0, .int .u8 0, .int .u8 0, .int .u8 0, .int .u8 0, .int .u8 0, .int .u8 0, .int .u8 0] : Array Value) = dV Z := by rw [hZ]; exact zdig
  have ZL := Lib.hid zl
  have ZT := Lib.hid zlit
  have HZ := Lib.hid hZ
  clear zl zlit hZ
  obtain ⟨H, hH⟩ : ∃ H, H = w.heap.size := ⟨_, rfl⟩
  obtain ⟨w0, hw0⟩ : ∃ z, z = w.alloc (.cells (bV (k : Int) m v) 59) := ⟨_, rfl⟩
  obtain ⟨w1, hw1⟩ : ∃ z, z = w0.alloc (.cells (dV Z) 55) := ⟨_, rfl⟩
  have q0 : w0.heap.size = H + 1 := by rw [hw0, hH]; exact World.size_alloc _ _
  have q1 : w1.heap.size = H + 1 + 1 := by rw [hw1, World.size_alloc, q0]
  have s0 : Below (H) w w0 := by rw [hw0, hH]; exact (Below.refl _ _).alloc (Nat.le_refl _) _
  have s1 : Below (H + 1) w0 w1 := by rw [hw1, ← q0]; exact (Below.refl _ _).alloc (Nat.le_refl _) _
  have t1 : Below (H + 1 + 1) w1 w1 := Below.refl _ _
  have t0 : Below (H + 1) w0 w1 := s1.trans (t1.mono (by omega))
  have bL : Below H w w1 := s0.trans (t0.mono (by omega))
  have g0 : w1.heap[H]? = some (.cells (bV (k : Int) m v) 59 (0, 0)) := by
    have g : w0.heap[H]? = some (.cells (bV (k : Int) m v) 59 (0, 0)) := by rw [hw0, hH]; exact heap_alloc_new _ _
    exact (t0.block _ (by omega)).trans g
  have g1 : w1.heap[H + 1]? = some (.cells (dV Z) 55 (0, 0)) := by
    have g : w1.heap[H + 1]? = some (.cells (dV Z) 55 (0, 0)) := by rw [hw1, ← q0]; exact heap_alloc_new _ _
    exact (t1.block _ (by omega)).trans g
  have bW : Below w.heap.size w w1 := by rw [← hH]; exact bL
  have hsz : H + 1 < w1.heap.size := by omega
  have HH := Lib.hid hH
  have HW0 := Lib.hid hw0
  have HW1 := Lib.hid hw1
  have BL := Lib.hid bL
  have BW := Lib.hid bW
  have QL := Lib.hid q1
  have G0 := Lib.hid g0
  have G1 := Lib.hid g1
  clear hH hw0 hw1 q0 q1 s0 s1 t0 t1 g0 g1 bL bW
  have PC := OPut_ok k hk w1
  have HPC := Lib.hid PC
  have c0 := bV_cell0 G0.out
  clear PC
  go_enter Tryd.func25, Tryd.ntmps25
  go_upto_region 1 with fail
  rw [ZT.out, ← HH.out, ← HW0.out, ← HW1.out]
  go_wp2_with fail
  refine HPC.out.mono ?_
  rintro e w2 ⟨a4, c4, rfl, hown2, hb2⟩
  have G2 := Lib.hid ((hb2.block _ hsz).trans G1.out)
  have B2 := Lib.hid (BL.out.trans (hb2.mono (by omega)))
  have c1 := bV_cell1 ((hb2.block _ (Nat.lt_trans (Nat.lt_succ_self _) hsz)).trans G0.out)
  have PC := OPut8_no m hm w2
  have HPC2 := Lib.hid PC
  clear c0 HPC hown2 hb2 PC
  go_wp2_with fail
  refine HPC2.out.mono ?_
  rintro e w3 ⟨rfl, rfl⟩
  clear c1 HPC2
  go_wp2_with (first
    | (refine wpl_zero rfl rfl Z HZ.out ?_)
    | (refine st_row rfl (.tmp 2) (.tmp 25) rfl (H + 1) Z ZL.out (by rfl) (by rfl) (dV Z) (dV_size ZL.out) _ G2.out ?_))
  try simp only [Exit.inBlock, Exit.then]
  refine bodyPost_ret (results_cell_tmp rfl _ _ _ ⟨H + 1, 0, none⟩ (.agg (dV Z)) rfl ?_) rfl ⟨by rw [← HZ.out]; rfl, by rw [← HH.out]; exact below_setRowW B2.out (by omega) _⟩
  exact dig_load ZL.out (range_of_row (setRow_heap _ _ _ (dV Z) _ _ G2.out))
set_option maxRecDepth 20000 in
set_option maxHeartbeats 4000000 in
theorem Vow_ok (k m : Nat) (hk : k < 4294967296) (hm : m ≤ 9223372036854775807) (v : List UInt8) (hv : v.length = 32) (w : World) (hro : RoundsAt w) :
    Calls Tryd.prog 25 #[.agg (bV (k : Int) (m : Int) v)] w fun e w' => e = .returned (.tuple #[.agg (dV (shaOf (vowText v (beS 4 k ++ beS 8 m)))), .nilIface]) ∧ Below w.heap.size w w' := by
  obtain ⟨Z, hZ⟩ : ∃ Z, Z = nz := ⟨_, rfl⟩
  have zl : Z.length = 32 := by rw [hZ]; rfl
  have zlit : (#[.int .u8 0, .int .u8 0, .int .u8 0, .int .u8 0, .int .u8 0, .int .u8 0, .int .u8 0, .int .u8 0, .int .u8 0, .int .u8 0, .int .u8 0, .int .u8 0, .int .u8 0, .int .u8 0, .int .u8 0, .int .u8 0, .int .u8 0, .int .u8 0, .int .u8 0, .int .u8 0, .int .u8 0, .int .u8 0, .int .u8 0, .int .u8 0, .int .u8 0, .int .u8 0, .int .u8 0, .int .u8 0, .int .u8 0, .int .u8 0, .int .u8 0, .int .u8 0] : Array Value) = dV Z := by rw [hZ]; exact zdig
  have ZL := Lib.hid zl
  have ZT := Lib.hid zlit
  have HZ := Lib.hid hZ
  clear zl zlit hZ
  obtain ⟨H, hH⟩ : ∃ H, H = w.heap.size := ⟨_, rfl⟩
  obtain ⟨w0, hw0⟩ : ∃ z, z = w.alloc (.cells (bV (k : Int) (m : Int) v) 59) := ⟨_, rfl⟩
  obtain ⟨w1, hw1⟩ : ∃ z, z = w0.alloc (.cells (dV Z) 55) := ⟨_, rfl⟩
  have q0 : w0.heap.size = H + 1 := by rw [hw0, hH]; exact World.size_alloc _ _
  have q1 : w1.heap.size = H + 1 + 1 := by rw [hw1, World.size_alloc, q0]
  have s0 : Below (H) w w0 := by rw [hw0, hH]; exact (Below.refl _ _).alloc (Nat.le_refl _) _
  have s1 : Below (H + 1) w0 w1 := by rw [hw1, ← q0]; exact (Below.refl _ _).alloc (Nat.le_refl _) _
  have t1 : Below (H + 1 + 1) w1 w1 := Below.refl _ _
  have t0 : Below (H + 1) w0 w1 := s1.trans (t1.mono (by omega))
  have bL : Below H w w1 := s0.trans (t0.mono (by omega))
  have g0 : w1.heap[H]? = some (.cells (bV (k : Int) (m : Int) v) 59 (0, 0)) := by
    have g : w0.heap[H]? = some (.cells (bV (k : Int) (m : Int) v) 59 (0, 0)) := by rw [hw0, hH]; exact heap_alloc_new _ _
    exact (t0.block _ (by omega)).trans g
  have g1 : w1.heap[H + 1]? = some (.cells (dV Z) 55 (0, 0)) := by
    have g : w1.heap[H + 1]? = some (.cells (dV Z) 55 (0, 0)) := by rw [hw1, ← q0]; exact heap_alloc_new _ _
    exact (t1.block _ (by omega)).trans g
  have bW : Below w.heap.size w w1 := by rw [← hH]; exact bL
  have hsz : H + 1 < w1.heap.size := by omega
  have HH := Lib.hid hH
  have HW0 := Lib.hid hw0
  have HW1 := Lib.hid hw1
  have BL := Lib.hid bL
  have BW := Lib.hid bW
  have QL := Lib.hid q1
  have G0 := Lib.hid g0
  have G1 := Lib.hid g1
  clear hH hw0 hw1 q0 q1 s0 s1 t0 t1 g0 g1 bL bW
  have PC := OPut_ok k hk w1
  have HPC := Lib.hid PC
  have c0 := bV_cell0 G0.out
  have RO := Lib.hid (hro.at_ BW.out)
  have HV := Lib.hid hv
  clear PC hro hv
  go_enter Tryd.func25, Tryd.ntmps25
  go_upto_region 1 with fail
  rw [ZT.out, ← HH.out, ← HW0.out, ← HW1.out]
  go_wp2_with fail
  refine HPC.out.mono ?_
  rintro e w2 ⟨a4, c4, rfl, hown2, hb2⟩
  rw [oc4_be] at hown2
  have l2 := Nat.lt_of_lt_of_le hsz hb2.size
  have G2 := Lib.hid ((hb2.block _ hsz).trans G1.out)
  have gb2 := (hb2.block _ (Nat.lt_trans (Nat.lt_succ_self _) hsz)).trans G0.out
  have GB2 := Lib.hid gb2
  have B2 := Lib.hid (BL.out.trans (hb2.mono (by omega)))
  have RO2 := Lib.hid (RO.out.at_ hb2)
  have R2 := Lib.hid (Rd.of_own hown2)
  have c1 := bV_cell1 gb2
  have PC := OPut8_ok m hm w2
  have HPC2 := Lib.hid PC
  clear c0 HPC hown2 hb2 PC gb2
  go_wp2_with fail
  refine HPC2.out.mono ?_
  rintro e w3 ⟨a8, c8, rfl, hown3, hb3⟩
  have l3 := Nat.lt_of_lt_of_le l2 hb3.size
  have G3 := Lib.hid ((hb3.block _ l2).trans G2.out)
  have gb3 := (hb3.block _ (Nat.lt_trans (Nat.lt_succ_self _) l2)).trans GB2.out
  have B3 := Lib.hid (B2.out.trans (hb3.mono (by omega)))
  have RO3 := Lib.hid (RO2.out.at_ hb3)
  have R3 := Lib.hid (R2.out.below hb3)
  have R8 := Lib.hid (Rd.of_own hown3)
  have S3 := bV_salt gb3
  have HS3 := Lib.hid S3
  clear c1 HPC2 hown3 hb3 gb3 S3
  go_upto_region 7 with fail
  obtain ⟨wd, hwd⟩ : ∃ z, z = w3.drew := ⟨_, rfl⟩
  obtain ⟨wa, hwa⟩ : ∃ z, z = wd.alloc (.cells #[.slice a4 4 c4, .slice a8 8 c8] 22) := ⟨_, rfl⟩
  have bd : Below w3.heap.size w3 wd := by rw [hwd]; exact (Below.refl _ _).drew
  have sd : wd.heap.size = w3.heap.size := by rw [hwd]; rfl
  have ba : Below w3.heap.size w3 wa := by rw [hwa]; exact bd.alloc (by omega) _
  have r4 : Rd wa a4 _ ((beS 4 k).map vB) := R3.out.below ba
  have r8 : Rd wa a8 _ ((beS 8 m).map vB) := R8.out.below ba
  have rv : Rd wa (some ⟨wd.heap.size, 0, none⟩) 22 [.slice a4 4 c4, .slice a8 8 c8] := by
    have := Rd.new wd #[.slice a4 4 c4, .slice a8 8 c8] 22
    rw [← hwa] at this; exact this
  have CC := ConcatE_calls [beS 4 k, beS 8 m] (some ⟨wd.heap.size, 0, none⟩) 2 _ _ wa rv (AreB.two (IsB.mkn (beS_length 4 k) r4 (by decide)) (IsB.mkn (beS_length 8 m) r8 (by decide))) (by simp) (by simp [beS_length])
  rw [show ([beS 4 k, beS 8 m] : List (List UInt8)).flatten = beS 4 k ++ beS 8 m by simp] at CC
  have hlH : H < w3.heap.size := by omega
  have hsa := ba.size
  have HCC := Lib.hid CC
  have HWD := Lib.hid hwd
  have HWA := Lib.hid hwa
  have BA := Lib.hid (B3.out.trans (ba.mono (by omega)))
  have RO4 := Lib.hid (RO3.out.at_ ba)
  have GA := Lib.hid ((ba.block _ l3).trans G3.out)
  have HSD := Lib.hid (range_low HS3.out bd hlH)
  have HSA := Lib.hid (range_low HS3.out ba hlH)
  have la := Nat.lt_of_lt_of_le l3 hsa
  have lHa : H < wa.heap.size := Nat.lt_of_lt_of_le hlH hsa
  clear r4 r8 rv CC hwd hwa ba bd sd hsa
  have hi9 : (Tryd.prog.info? 55).map (·.size) = some (v.map vB).length := by rw [List.length_map, HV.out]; exact dig_size
  obtain ⟨E, hE⟩ : ∃ E, E = vowText v (beS 4 k ++ beS 8 m) := ⟨_, rfl⟩
  obtain ⟨D, hD⟩ : ∃ D, D = shaOf E := ⟨_, rfl⟩
  have dl : D.length = 32 := by rw [hD]; exact shaOf_length _
  have HE := Lib.hid hE
  have HD := Lib.hid hD
  have DL := Lib.hid dl
  clear hE hD dl
  refine wp_region_held_drew (S := fun w' => w'.rangeAt H 2 (v.map vB)) (by kernel_rfl) HS3.out (fun hHeld => ?_)
  rw [← HWD.out]
  clear hHeld
  have hHeld := HSD.out
  refine wpAnyH_take (i := 0) (oi := _) (v := .pointer (some ⟨H, 2, none⟩)) rfl (by kernel_rfl) (by kernel_rfl) (by kernel_rfl) (fun _ _ _ h => h) (Or.inl ⟨by rfl, fun w hw => by go_simp⟩) hHeld ?_
  simp only [Act.put, List.getElem_toArray, List.getElem_cons_zero, List.getElem_cons_succ, List.setIfInBounds_toArray, List.set_cons_zero, List.set_cons_succ]
  refine wpAnyH_take (i := 1) (oi := _) (v := _) rfl (by kernel_rfl) (by kernel_rfl) (by kernel_rfl) (fun _ _ _ h => h) (yieldsIf_load_mid (by rfl) _ _ rfl _ _ rfl (v.map vB) _ (fun w hw => hw) Tryd.underlying55 rfl hi9) hHeld ?_
  simp only [Act.put, List.getElem_toArray, List.getElem_cons_zero, List.getElem_cons_succ, List.setIfInBounds_toArray, List.set_cons_zero, List.set_cons_succ]
  refine wpAnyH_take (i := 2) (oi := _) (v := .slice a4 4 c4) rfl (by kernel_rfl) (by kernel_rfl) (by kernel_rfl) (fun _ _ _ h => h) (Or.inl ⟨by rfl, fun w hw => by go_simp⟩) hHeld ?_
  simp only [Act.put, List.getElem_toArray, List.getElem_cons_zero, List.getElem_cons_succ, List.setIfInBounds_toArray, List.set_cons_zero, List.set_cons_succ]
  refine wpAnyH_take (i := 3) (oi := _) (v := .slice a8 8 c8) rfl (by kernel_rfl) (by kernel_rfl) (by kernel_rfl) (fun _ _ _ h => h) (Or.inl ⟨by rfl, fun w hw => by go_simp⟩) hHeld ?_
  simp only [Act.put, List.getElem_toArray, List.getElem_cons_zero, List.getElem_cons_succ, List.setIfInBounds_toArray, List.set_cons_zero, List.set_cons_succ]
  refine wpAnyH_ready (rs := [4]) (by kernel_rfl) (by simp) ?_
  refine AllReadyH.cons (o := _) rfl (fun K hK => ?_) AllReadyH.nil
  have HK := Lib.hid hK
  clear hK
  go_simp
  rw [← HWA.out]
  refine HK.out _ _ HSA.out ?_
  clear HK K
  try simp only [Act.put, List.getElem_toArray, List.getElem_cons_zero, List.getElem_cons_succ, List.setIfInBounds_toArray, List.set_cons_zero, List.set_cons_succ]
  intro hHeld
  refine wpAnyH_ready (rs := [5]) (by kernel_rfl) (by simp) ?_
  refine AllReadyH.cons (o := _) rfl (fun K hK => ?_) AllReadyH.nil
  have HK := Lib.hid hK
  clear hK
  go_simp
  go_at_call 45
  refine HCC.out.mono ?_
  rintro e w5 ⟨av, cp, rfl, hown5, hb5⟩
  dsimp only
  have G5 := Lib.hid ((hb5.block _ la).trans GA.out)
  have HS5 := Lib.hid (range_low HSA.out hb5 lHa)
  have B5 := Lib.hid (BA.out.trans (hb5.mono (Nat.le_of_lt lHa)))
  have l5 := Nat.lt_of_lt_of_le la hb5.size
  have lH5 := Nat.lt_of_lt_of_le lHa hb5.size
  have SC := Seal_calls v HV.out (beS 4 k ++ beS 8 m) av cp _ w5 (Rd.of_own hown5) (by simp [beS_length]) (RO4.out.at_ hb5)
  rw [← HE.out, ← HD.out] at SC
  have HSC := Lib.hid SC
  clear hown5 hb5 SC HCC hHeld
  refine HK.out _ _ HS5.out ?_
  clear HK K
  try simp only [Act.put, List.getElem_toArray, List.getElem_cons_zero, List.getElem_cons_succ, List.setIfInBounds_toArray, List.set_cons_zero, List.set_cons_succ]
  intro hHeld
  refine wpAnyH_ready (rs := [6]) (by kernel_rfl) (by simp) ?_
  refine AllReadyH.cons (o := _) rfl (fun K hK => ?_) AllReadyH.nil
  have HK := Lib.hid hK
  clear hK
  go_simp
  go_at_call 44
  refine HSC.out.mono ?_
  rintro e w6 ⟨rfl, hb6⟩
  dsimp only
  have G6 := Lib.hid ((hb6.block _ l5).trans G5.out)
  have B6 := Lib.hid (B5.out.trans (hb6.mono (Nat.le_of_lt lH5)))
  have HS6 := Lib.hid (range_low HS5.out hb6 lH5)
  clear hb6 HSC hHeld
  refine HK.out _ _ HS6.out ?_
  clear HK K
  try simp only [Act.put, List.getElem_toArray, List.getElem_cons_zero, List.getElem_cons_succ, List.setIfInBounds_toArray, List.set_cons_zero, List.set_cons_succ]
  intro hHeld
  refine wpAnyH_ready (rs := [7]) (by kernel_rfl) (by simp) ?_
  refine AllReadyH.cons (o := _) rfl (fun K hK => ?_) AllReadyH.nil
  have HK := Lib.hid hK
  clear hK
  rw [if_pos (by rfl)]
  refine wp_store_row _ _ _ rfl (H + 1) (dV D) (by rfl) (by rfl) _ (dV Z) G6.out (info_dV DL.out) (by rw [dV_size DL.out, dV_size ZL.out]) (dV_one D) ?_
  have nHR : H ≠ H + 1 := by omega
  clear hHeld
  refine HK.out _ _ (range_setRow_other nHR HS6.out) ?_
  clear HK K
  try simp only [Act.put, List.getElem_toArray, List.getElem_cons_zero, List.getElem_cons_succ, List.setIfInBounds_toArray, List.set_cons_zero, List.set_cons_succ]
  intro hHeld
  refine wpAnyH_take (i := 8) (oi := _) (v := .nilIface) rfl (by kernel_rfl) (by kernel_rfl) (by kernel_rfl) (fun _ _ _ h => h) (Or.inl ⟨by rfl, fun w hw => by go_simp⟩) hHeld ?_
  simp only [Act.put, List.getElem_toArray, List.getElem_cons_zero, List.getElem_cons_succ, List.setIfInBounds_toArray, List.set_cons_zero, List.set_cons_succ]
  refine wpAnyH_done (by kernel_rfl) ?_ _
  go_wp2_with fail
  try simp only [Exit.inBlock, Exit.then]
  refine bodyPost_ret (results_cell_tmp rfl _ _ _ ⟨H + 1, 0, none⟩ (.agg (dV D)) rfl ?_) rfl ⟨by rw [HD.out, HE.out]; rfl, by rw [← HH.out]; exact below_setRowW B6.out (by omega) _⟩
  exact dig_load DL.out (range_of_row (setRow_heap _ _ _ (dV D) _ _ G6.out))
/-- a bid's vow, or what is wrong -/
theorem Vow_calls (b : Bd) (hb : BdW b) (w : World) (hro : RoundsAt w) :
    Calls Tryd.prog 25 #[.agg (bV b.who b.amount b.salt)] w fun e w' => e = .returned (.tuple (if BdOk b then #[.agg (dV (bidD b)), .nilIface] else #[.agg (dV nz), .iface 25 (.int .i64 2)])) ∧ Below w.heap.size w w' := by
  by_cases h : BdOk b
  · rw [if_pos h]
    obtain ⟨⟨h1, h2⟩, h3⟩ := h
    obtain ⟨n1, ⟨n2, n3⟩, n4, n5⟩ := hb
    have := Vow_ok b.who.toNat b.amount.toNat (by omega) (by omega) b.salt n1 w hro
    rw [Int.toNat_of_nonneg h1, Int.toNat_of_nonneg h3] at this
    exact this
  · rw [if_neg h]
    obtain ⟨n1, ⟨n2, n3⟩, n4, n5⟩ := hb
    by_cases h0 : b.who < 0 ∨ 4294967296 ≤ b.who
    · exact Vow_who b.who b.amount h0 n3 b.salt w
    · have h1 : b.amount < 0 := by
        apply Classical.byContradiction
        intro hc
        exact h ⟨⟨by omega, by omega⟩, by omega⟩
      have := Vow_amount b.who.toNat b.amount (by omega) h1 b.salt w
      rw [Int.toNat_of_nonneg (by omega)] at this
      exact this
end Go.Proofs.YteikbbdkpeecaaaDoor
