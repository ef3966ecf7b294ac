/- any key, any digest, any path: oathbooklaw2.TrieFolds answers true at every input. -/
import Derived.Test.YtpeomfehdccmmaaDoorRows
import Derived.Test.YtpeomfehdccmmaaDoorTrieFact
import Derived.WalkKit
import Derived.ProofKit
import Derived.OpenShut
import Derived.ShutString
import Derived.ChangeOld
import Derived.Below
namespace Go.Proofs.YtpeomfehdccmmaaDoor
open Go.ChangeShapes Go.WideShapes Go.ChangeAt Go.RowKit
open Go.ChangeMaps (open_string shut_string)
set_option linter.unusedVariables false
namespace trieFolds

-- HOLE: the walk
set_option maxRecDepth 20000 in
set_option maxHeartbeats 4000000 in
theorem walk (a0 : Int) (x1 : List UInt8) (x2 : List (List UInt8)) (a2 : Option Addr) (c2 e2 : Nat) (w : World) (h0 : -9223372036854775808 ≤ a0 ∧ a0 ≤ 9223372036854775807) (n1 : x1.length = 32) (l2 : x2.length * 32 ≤ 140737488351232) (n2 : ∀ d ∈ x2, d.length = 32) (r2 : Rd w a2 e2 (x2.flatten.map vB)) (hro : RoundsAt w) (hg : ErrVar w) :
    Calls Tryd.prog 3 #[.int .i64 a0, .agg (dV x1), .slice a2 x2.length c2] w fun e w' => e = .returned (.bool true) ∧ Below w.heap.size w w' := by
  obtain ⟨Z, hZ⟩ : ∃ Z, Z = nz := ⟨_, rfl⟩
  have zl : Z.length = 32 := by rw [hZ]; rfl
  have zlit : (#[.int .u8 0, .int .u8 0, .int .u8 0, .int .u8 0, .int .u8 0, .int .u8 0, .int .u8 0, .int .u8 0, .int .u8 0, .int .u8 0, .int .u8 0, .int .u8 0, .int .u8 0, .int .u8 0, .int .u8 0, .int .u8 0, .int .u8 0, .int .u8 0, .int .u8 0, .int .u8 0, .int .u8 0, .int .u8 0, .int .u8 0, .int .u8 0, .int .u8 0, .int .u8 0, .int .u8 0, .int .u8 0, .int .u8 0, .int .u8 0, .int .u8 0, .int .u8 0] : Array Value) = dV Z := by rw [hZ]; exact zdig
  have ZL := Lib.hid zl
  have ZT := Lib.hid zlit
  have HZ := Lib.hid hZ
  clear zl zlit hZ
  obtain ⟨H, hH⟩ : ∃ H, H = w.heap.size := ⟨_, rfl⟩
  obtain ⟨w0, hw0⟩ : ∃ z, z = w.alloc (.cells (dV x1) 23) := ⟨_, rfl⟩
  obtain ⟨w1, hw1⟩ : ∃ z, z = w0.alloc (.cells (dV Z) 23) := ⟨_, rfl⟩
  have q0 : w0.heap.size = H + 1 := by rw [hw0, hH]; exact World.size_alloc _ _
  have q1 : w1.heap.size = H + 1 + 1 := by rw [hw1, World.size_alloc, q0]
  have s0 : Below (H) w w0 := by rw [hw0, hH]; exact (Below.refl _ _).alloc (Nat.le_refl _) _
  have s1 : Below (H + 1) w0 w1 := by rw [hw1, ← q0]; exact (Below.refl _ _).alloc (Nat.le_refl _) _
  have t1 : Below (H + 1 + 1) w1 w1 := Below.refl _ _
  have t0 : Below (H + 1) w0 w1 := s1.trans (t1.mono (by omega))
  have bL : Below H w w1 := s0.trans (t0.mono (by omega))
  have g0 : w1.heap[H]? = some (.cells (dV x1) 23 (0, 0)) := by
    have g : w0.heap[H]? = some (.cells (dV x1) 23 (0, 0)) := by rw [hw0, hH]; exact heap_alloc_new _ _
    exact (t0.block _ (by omega)).trans g
  have g1 : w1.heap[H + 1]? = some (.cells (dV Z) 23 (0, 0)) := by
    have g : w1.heap[H + 1]? = some (.cells (dV Z) 23 (0, 0)) := by rw [hw1, ← q0]; exact heap_alloc_new _ _
    exact (t1.block _ (by omega)).trans g
  have bW : Below w.heap.size w w1 := by rw [← hH]; exact bL
  have hsz : H + 1 < w1.heap.size := by omega
  have HH := Lib.hid hH
  have HW0 := Lib.hid hw0
  have HW1 := Lib.hid hw1
  have BL := Lib.hid bL
  have BW := Lib.hid bW
  have QL := Lib.hid q1
  have G0 := Lib.hid g0
  have G1 := Lib.hid g1
  clear hH hw0 hw1 q0 q1 s0 s1 t0 t1 g0 g1 bL bW
  have HRO := Lib.hid hro
  have HGG := Lib.hid hg
  have HRD := Lib.hid r2
  have RO := Lib.hid (hro.at_ BW.out)
  have HG := Lib.hid (hg.at_ BW.out)
  have RD := Lib.hid (r2.below BW.out)
  have N1 := Lib.hid n1
  have N2 := Lib.hid n2
  clear hro hg r2 n1 n2
  have IK := IsKey_calls a0 w1
  by_cases hk : KeyOk a0
  · rw [decide_eq_true hk] at IK
    have HIK := Lib.hid IK
    clear IK
    by_cases hn : x2.length = 32
    · obtain ⟨k, rfl⟩ : ∃ k : Nat, a0 = (k : Int) := ⟨a0.toNat, by have := hk.1; omega⟩
      have hk2 : k < 4294967296 := by have := hk.2; omega
      have MC := MapFolded_calls k hk2 x1 N1.out x2 (by omega) N2.out a2 c2 e2 w1 RD.out
      rw [hn] at MC ⊢
      have z1 : ((32 : Nat) : Int) = 32 := rfl
      obtain ⟨R, hR⟩ : ∃ R, R = foldD k x1 x2 := ⟨_, rfl⟩
      have rl : R.length = 32 := by rw [hR]; exact foldD_length k x2 x1 N1.out
      rw [← hR] at MC
      have RL := Lib.hid rl
      have HR := Lib.hid hR
      have HMC := Lib.hid MC
      have HN := Lib.hid hn
      have HHK := Lib.hid hk
      clear rl hR MC hn hk
      go_enter Tryd.func3, Tryd.ntmps3
      go_upto_region 3 with fail
      rw [ZT.out, ← HH.out, ← HW0.out, ← HW1.out]
      go_wp2_with (first | (go_at_call 14; refine HIK.out.mono ?_; rintro e w' ⟨rfl, rfl⟩) | ((refine ld_digG rfl (.tmp 4) rfl (H) 0 (by rfl) x1 N1.out (range_of_row G0.out) ?_); simp only [Act.put, List.setIfInBounds_toArray, List.set_cons_zero, List.set_cons_succ]))
      refine HMC.out.mono ?_
      rintro e wm ⟨rfl, hbm⟩
      have G0m := (hbm.block _ (by omega)).trans G0.out
      have G1m := (hbm.block _ hsz).trans G1.out
      have rdm := RD.out.below hbm
      have rom := RO.out.at_ hbm
      have hgm := HG.out.at_ hbm
      have blm := BL.out.trans (hbm.mono (by omega))
      have hszm : H + 1 < wm.heap.size := Nat.lt_of_lt_of_le hsz hbm.size
      clear HMC HIK hsz RD RO HG BL
      have GMH := Lib.hid G0m
      have GM1 := Lib.hid G1m
      have RDM := Lib.hid rdm
      have ROM := Lib.hid rom
      have HGM := Lib.hid hgm
      have BLM := Lib.hid blm
      clear G0m G1m rdm rom hgm blm hbm G0 G1
      obtain ⟨w1b, hw1b⟩ : ∃ z, z = wm.setRow (H + 1) (dV R) := ⟨_, rfl⟩
      have hbs : Below (H + 1) wm w1b := by rw [hw1b]; exact below_setRowW (Below.refl _ _) (Nat.le_refl _) _
      have gW : w1b.heap[H + 1]? = some (.cells (dV R) 23 (0, 0)) := by rw [hw1b]; exact setRow_heap _ _ _ _ _ _ GM1.out
      have g0 : w1b.heap[H]? = some (.cells (dV x1) 23 (0, 0)) := (hbs.block H (by omega)).trans GMH.out
      have bl : Below H w w1b := BLM.out.trans (hbs.mono (by omega))
      have blw : Below w.heap.size w w1b := by rw [← HH.out]; exact bl
      have hsz : H + 1 < w1b.heap.size := Nat.lt_of_lt_of_le hszm hbs.size
      have hlow : ∀ x, x < w.heap.size → w1b.heap[x]? = wm.heap[x]? := fun x hx => hbs.block x (by rw [HH.out]; omega)
      have HW1B := Lib.hid hw1b
      have GW := Lib.hid gW
      have G0B := Lib.hid g0
      have BL := Lib.hid bl
      have RO := Lib.hid (HRO.out.at_ blw)
      have HG := Lib.hid (HGG.out.at_ blw)
      have RD := Lib.hid (HRD.out.below blw)
      have FC : Hid (Calls Tryd.prog 16 #[.int .i64 (k : Int), .agg (dV x1), .slice a2 32 c2] w1b fun e w' => e = .returned (.tuple #[.agg (dV R), .nilIface]) ∧ Below w1b.heap.size w1b w') := Lib.hid (by
        rw [HR.out]; exact Fold_calls k hk2 x1 N1.out x2 HN.out N2.out a2 c2 e2 w1b RD.out RO.out)
      clear hw1b hbs gW g0 bl blw hlow GMH RDM ROM HGM BLM hszm
      go_wp2_with (first
        | ((refine st_row rfl (.tmp 8) (.tmp 23) rfl (H + 1) R RL.out (by rfl) (by rfl) (dV Z) (dV_size ZL.out) _ GM1.out ?_); rw [← HW1B.out])
        | ((refine ld_digG rfl (.tmp 4) rfl (H) 0 (by rfl) x1 N1.out (range_of_row G0B.out) ?_); simp only [Act.put, List.setIfInBounds_toArray, List.set_cons_zero, List.set_cons_succ]))
      refine FC.out.mono ?_
      rintro e w2 ⟨rfl, hb2⟩
      obtain ⟨X, hX⟩ : ∃ X, X = w2.heap.size := ⟨_, rfl⟩
      obtain ⟨w3, hw3⟩ : ∃ z, z = w2.alloc (.cells (dV R) 23) := ⟨_, rfl⟩
      have q3 : w3.heap.size = X + 1 := by rw [hw3, World.size_alloc, hX]
      have b3 : Below w1b.heap.size w1b w3 := by rw [hw3]; exact hb2.alloc hb2.size _
      have gR : w3.heap[X]? = some (.cells (dV R) 23 (0, 0)) := by rw [hw3, hX]; exact heap_alloc_new _ _
      have hg3 := HG.out.at_ b3
      have EC : Calls Tryd.prog 17 #[.nilIface, .int .i64 0] w3 fun r w' => r = .returned (.bool true) ∧ Below w3.heap.size w3 w' := (Error_nil 0 true (by decide) w3).mono fun r w' h => ⟨h.1, by rw [← h.2]; exact Below.refl _ _⟩
      have ro3 := RO.out.at_ b3
      have HX := Lib.hid hX
      have HW3 := Lib.hid hw3
      have B3 := Lib.hid b3
      have GR := Lib.hid gR
      have HEC := Lib.hid EC
      have RO3 := Lib.hid ro3
      have hX3 : X < w3.heap.size := by omega
      have hH13 : H + 1 < X := by rw [hX]; exact Nat.lt_of_lt_of_le hsz hb2.size
      clear q3 hX hw3 b3 gR EC ro3 hb2 hg3 FC
      go_wp2_with (first
        | ((refine st_new rfl (.tmp 9) (.tmp 29) rfl R RL.out (by rfl) _ _ (by rfl) (by rfl) ?_); rw [← HX.out, ← HW3.out]))
      refine HEC.out.mono ?_
      rintro e w4 ⟨rfl, hb4⟩
      have RO4 := Lib.hid (RO3.out.at_ hb4)
      have B4 := Lib.hid hb4
      clear hb4 HEC
      go_wp2_with (first
        | (refine wpl_ent rfl _ rfl (by rfl) Z HZ.out ?_))
      refine (Leaf_calls 1 (by decide) Z ZL.out w4 RO4.out).mono ?_
      rintro e w5 ⟨rfl, hb5⟩
      obtain ⟨Lf, hLf⟩ : ∃ L, L = leafD 1 Z := ⟨_, rfl⟩
      have lfl : Lf.length = 32 := by rw [hLf]; exact leafD_length _ _
      have lfn : (Lf == Z) = false := by rw [hLf, HZ.out]; exact leaf1_ne
      rw [← hLf]
      obtain ⟨Y, hY⟩ : ∃ Y, Y = w5.heap.size := ⟨_, rfl⟩
      obtain ⟨w6, hw6⟩ : ∃ z, z = w5.alloc (.cells (dV Lf) 23) := ⟨_, rfl⟩
      have q6 : w6.heap.size = Y + 1 := by rw [hw6, World.size_alloc, hY]
      have b6 : Below w3.heap.size w3 w6 := by rw [hw6]; exact (B4.out.trans (hb5.mono B4.out.size)).alloc (Nat.le_trans B4.out.size hb5.size) _
      have gL : w6.heap[Y]? = some (.cells (dV Lf) 23 (0, 0)) := by rw [hw6, hY]; exact heap_alloc_new _ _
      have gR6 := (b6.block X hX3).trans GR.out
      have gW6 := (b6.block (H + 1) (by omega)).trans ((B3.out.block (H + 1) hsz).trans GW.out)
      have bl6 : Below H w w6 := BL.out.trans ((B3.out.trans (b6.mono B3.out.size)).mono (by omega))
      have NC : ∀ w', InB w6.heap.size w6 w' → Calls Tryd.prog 19 #[] w' fun e w'' => e = .returned (.agg (dV Z)) ∧ InB w6.heap.size w6 w'' :=
        fun w' h => InB.call h (Nat.le_refl _) (by rw [HZ.out]; exact Nothing_calls w')
      have HNC := Lib.hid NC
      have hex := inB_ex w6.heap.size w6
      have LFL := Lib.hid lfl
      have LFN := Lib.hid lfn
      have HY := Lib.hid hY
      have HW6 := Lib.hid hw6
      have GL := Lib.hid gL
      have G6 := Lib.hid gR6
      have K6 := Lib.hid gW6
      have BL6 := Lib.hid bl6
      have hY6 : Y < w6.heap.size := by omega
      have hX6 : X < w6.heap.size := Nat.lt_of_lt_of_le hX3 b6.size
      have hH6 : H + 1 < w6.heap.size := by omega
      clear q6 NC hLf lfl lfn hY hw6 gL gR6 gW6 bl6 b6 hb5 RO4 B4
      go_wp2_with (first
        | ((refine st_new rfl (.tmp 12) (.tmp 37) rfl Lf LFL.out (by rfl) _ _ (by rfl) (by rfl) ?_); rw [← HY.out, ← HW6.out]))
      refine wp_region_inB w6.heap.size (by kernel_rfl) (by kernel_rfl) ?_
      go_big_quiet_step ((intro _; rfl))
      go_big_quiet_step ((intro _; rfl))
      refine quiet_dig rfl (.tmp 9) rfl (X) 0 (by rfl) R RL.out (fun w' hw' => hw'.range (by omega) (range_of_row G6.out)) ?_
      simp only [Act.put, List.setIfInBounds_toArray, List.set_cons_zero, List.set_cons_succ]
      refine quiet_dig rfl (.tmp 8) rfl (H + 1) 0 (by rfl) R RL.out (fun w' hw' => hw'.range (by omega) (range_of_row K6.out)) ?_
      simp only [Act.put, List.setIfInBounds_toArray, List.set_cons_zero, List.set_cons_succ]
      refine quiet_dig_eq rfl (.tmp 41) (.tmp 42) _ rfl R R (by rfl) (by rfl) RL.out RL.out ?_
      rw [show (R == R) = true by simp]
      simp only [Act.put, List.setIfInBounds_toArray, List.set_cons_zero, List.set_cons_succ]
      go_big_quiet_step ((intro _; rfl))
      go_big_quiet_step ((intro _; rfl))
      go_big_quiet_step ((intro _; rfl))
      go_big_quiet_step ((intro _; rfl))
      go_big_quiet_step ((intro _; rfl))
      go_big_quiet_step ((intro _; rfl))
      refine quiet_dig rfl (.tmp 12) rfl (Y) 0 (by rfl) Lf LFL.out (fun w' hw' => hw'.range (by omega) (range_of_row GL.out)) ?_
      simp only [Act.put, List.setIfInBounds_toArray, List.set_cons_zero, List.set_cons_succ]
      go_big_quiet_step ((intro hw'; exact HNC.out _ hw'))
      refine quiet_dig_neq rfl (.tmp 50) (.tmp 51) _ rfl Lf Z (by rfl) (by rfl) LFL.out ZL.out ?_
      rw [LFN.out]
      simp only [Act.put, List.setIfInBounds_toArray, List.set_cons_zero, List.set_cons_succ]
      go_big_quiet_step ((intro _; rfl))
      go_big_quiet_step ((intro _; rfl))
      refine wpQuiet_nil ?_
      intro w7 hw7
      have B7 := Lib.hid (BL6.out.trans (Below.mono hw7 (by omega)))
      clear hw7
      go_wp2_with fail
      go_ret
      exact ⟨rfl, by rw [← HH.out]; exact B7.out⟩
    · have z1 : ((x2.length : Int) != 32) = true := by rw [bne_iff_ne]; omega
      have z2 : (x2.length != 32) = true := by rw [bne_iff_ne]; omega
      obtain ⟨R, hR⟩ : ∃ R, R = Z := ⟨_, rfl⟩
      have FC : Hid (Calls Tryd.prog 16 #[.int .i64 a0, .agg (dV x1), .slice a2 x2.length c2] w1 fun e w' => e = .returned (.tuple #[.agg (dV R), .iface 25 (.int .i64 3)]) ∧ Below w1.heap.size w1 w') := Lib.hid (by
        rw [hR, HZ.out]; exact Fold_len a0 hk x1 a2 x2.length hn c2 w1)
      have RL := Lib.hid (show R.length = 32 by rw [hR]; exact ZL.out)
      have GW := Lib.hid (show w1.heap[H + 1]? = some (.cells (dV R) 23 (0, 0)) by rw [hR]; exact G1.out)
      clear hR hn hk
      go_enter Tryd.func3, Tryd.ntmps3
      go_upto_region 3 with fail
      rw [ZT.out, ← HH.out, ← HW0.out, ← HW1.out]
      go_wp2_with (first | (go_at_call 14; refine HIK.out.mono ?_; rintro e w' ⟨rfl, rfl⟩) | ((refine ld_digG rfl (.tmp 4) rfl (H) 0 (by rfl) x1 N1.out (range_of_row G0.out) ?_); simp only [Act.put, List.setIfInBounds_toArray, List.set_cons_zero, List.set_cons_succ]))
      refine FC.out.mono ?_
      rintro e w2 ⟨rfl, hb2⟩
      obtain ⟨X, hX⟩ : ∃ X, X = w2.heap.size := ⟨_, rfl⟩
      obtain ⟨w3, hw3⟩ : ∃ z, z = w2.alloc (.cells (dV R) 23) := ⟨_, rfl⟩
      have q3 : w3.heap.size = X + 1 := by rw [hw3, World.size_alloc, hX]
      have b3 : Below w1.heap.size w1 w3 := by rw [hw3]; exact hb2.alloc hb2.size _
      have gR : w3.heap[X]? = some (.cells (dV R) 23 (0, 0)) := by rw [hw3, hX]; exact heap_alloc_new _ _
      have hg3 := HG.out.at_ b3
      have EC : Calls Tryd.prog 17 #[.iface 25 (.int .i64 3), .int .i64 3] w3 fun r w' => r = .returned (.bool true) ∧ Below w3.heap.size w3 w' := Error_err 3 3 true (by decide) w3 hg3
      have ro3 := RO.out.at_ b3
      have HX := Lib.hid hX
      have HW3 := Lib.hid hw3
      have B3 := Lib.hid b3
      have GR := Lib.hid gR
      have HEC := Lib.hid EC
      have RO3 := Lib.hid ro3
      have hX3 : X < w3.heap.size := by omega
      have hH13 : H + 1 < X := by rw [hX]; exact Nat.lt_of_lt_of_le hsz hb2.size
      clear q3 hX hw3 b3 gR EC ro3 hb2 hg3 FC
      go_wp2_with (first
        | ((refine st_new rfl (.tmp 9) (.tmp 29) rfl R RL.out (by rfl) _ _ (by rfl) (by rfl) ?_); rw [← HX.out, ← HW3.out]))
      refine HEC.out.mono ?_
      rintro e w4 ⟨rfl, hb4⟩
      have RO4 := Lib.hid (RO3.out.at_ hb4)
      have B4 := Lib.hid hb4
      clear hb4 HEC
      go_wp2_with (first
        | (refine wpl_ent rfl _ rfl (by rfl) Z HZ.out ?_))
      refine (Leaf_calls 1 (by decide) Z ZL.out w4 RO4.out).mono ?_
      rintro e w5 ⟨rfl, hb5⟩
      obtain ⟨Lf, hLf⟩ : ∃ L, L = leafD 1 Z := ⟨_, rfl⟩
      have lfl : Lf.length = 32 := by rw [hLf]; exact leafD_length _ _
      have lfn : (Lf == Z) = false := by rw [hLf, HZ.out]; exact leaf1_ne
      rw [← hLf]
      obtain ⟨Y, hY⟩ : ∃ Y, Y = w5.heap.size := ⟨_, rfl⟩
      obtain ⟨w6, hw6⟩ : ∃ z, z = w5.alloc (.cells (dV Lf) 23) := ⟨_, rfl⟩
      have q6 : w6.heap.size = Y + 1 := by rw [hw6, World.size_alloc, hY]
      have b6 : Below w3.heap.size w3 w6 := by rw [hw6]; exact (B4.out.trans (hb5.mono B4.out.size)).alloc (Nat.le_trans B4.out.size hb5.size) _
      have gL : w6.heap[Y]? = some (.cells (dV Lf) 23 (0, 0)) := by rw [hw6, hY]; exact heap_alloc_new _ _
      have gR6 := (b6.block X hX3).trans GR.out
      have gW6 := (b6.block (H + 1) (by omega)).trans ((B3.out.block (H + 1) hsz).trans GW.out)
      have bl6 : Below H w w6 := BL.out.trans ((B3.out.trans (b6.mono B3.out.size)).mono (by omega))
      have NC : ∀ w', InB w6.heap.size w6 w' → Calls Tryd.prog 19 #[] w' fun e w'' => e = .returned (.agg (dV Z)) ∧ InB w6.heap.size w6 w'' :=
        fun w' h => InB.call h (Nat.le_refl _) (by rw [HZ.out]; exact Nothing_calls w')
      have HNC := Lib.hid NC
      have hex := inB_ex w6.heap.size w6
      have LFL := Lib.hid lfl
      have LFN := Lib.hid lfn
      have HY := Lib.hid hY
      have HW6 := Lib.hid hw6
      have GL := Lib.hid gL
      have G6 := Lib.hid gR6
      have K6 := Lib.hid gW6
      have BL6 := Lib.hid bl6
      have hY6 : Y < w6.heap.size := by omega
      have hX6 : X < w6.heap.size := Nat.lt_of_lt_of_le hX3 b6.size
      have hH6 : H + 1 < w6.heap.size := by omega
      clear q6 NC hLf lfl lfn hY hw6 gL gR6 gW6 bl6 b6 hb5 RO4 B4
      go_wp2_with (first
        | ((refine st_new rfl (.tmp 12) (.tmp 37) rfl Lf LFL.out (by rfl) _ _ (by rfl) (by rfl) ?_); rw [← HY.out, ← HW6.out]))
      refine wp_region_inB w6.heap.size (by kernel_rfl) (by kernel_rfl) ?_
      go_big_quiet_step ((intro _; rfl))
      go_big_quiet_step ((intro _; rfl))
      refine quiet_dig rfl (.tmp 9) rfl (X) 0 (by rfl) R RL.out (fun w' hw' => hw'.range (by omega) (range_of_row G6.out)) ?_
      simp only [Act.put, List.setIfInBounds_toArray, List.set_cons_zero, List.set_cons_succ]
      refine quiet_dig rfl (.tmp 8) rfl (H + 1) 0 (by rfl) R RL.out (fun w' hw' => hw'.range (by omega) (range_of_row K6.out)) ?_
      simp only [Act.put, List.setIfInBounds_toArray, List.set_cons_zero, List.set_cons_succ]
      refine quiet_dig_eq rfl (.tmp 41) (.tmp 42) _ rfl R R (by rfl) (by rfl) RL.out RL.out ?_
      rw [show (R == R) = true by simp]
      simp only [Act.put, List.setIfInBounds_toArray, List.set_cons_zero, List.set_cons_succ]
      go_big_quiet_step ((intro _; rfl))
      go_big_quiet_step ((intro _; rfl))
      go_big_quiet_step ((intro _; rfl))
      go_big_quiet_step ((intro _; rfl))
      go_big_quiet_step ((intro _; rfl))
      go_big_quiet_step ((intro _; rfl))
      refine quiet_dig rfl (.tmp 12) rfl (Y) 0 (by rfl) Lf LFL.out (fun w' hw' => hw'.range (by omega) (range_of_row GL.out)) ?_
      simp only [Act.put, List.setIfInBounds_toArray, List.set_cons_zero, List.set_cons_succ]
      go_big_quiet_step ((intro hw'; exact HNC.out _ hw'))
      refine quiet_dig_neq rfl (.tmp 50) (.tmp 51) _ rfl Lf Z (by rfl) (by rfl) LFL.out ZL.out ?_
      rw [LFN.out]
      simp only [Act.put, List.setIfInBounds_toArray, List.set_cons_zero, List.set_cons_succ]
      go_big_quiet_step ((intro _; rfl))
      go_big_quiet_step ((intro _; rfl))
      refine wpQuiet_nil ?_
      intro w7 hw7
      have B7 := Lib.hid (BL6.out.trans (Below.mono hw7 (by omega)))
      clear hw7
      go_wp2_with fail
      go_ret
      exact ⟨rfl, by rw [← HH.out]; exact B7.out⟩
  · rw [decide_eq_false hk] at IK
    have HIK := Lib.hid IK
    clear IK
    obtain ⟨R, hR⟩ : ∃ R, R = Z := ⟨_, rfl⟩
    have FC : Hid (Calls Tryd.prog 16 #[.int .i64 a0, .agg (dV x1), .slice a2 x2.length c2] w1 fun e w' => e = .returned (.tuple #[.agg (dV R), .iface 25 (.int .i64 2)]) ∧ Below w1.heap.size w1 w') := Lib.hid (by
      rw [hR, HZ.out]; exact Fold_bad a0 hk x1 a2 x2.length c2 w1)
    have RL := Lib.hid (show R.length = 32 by rw [hR]; exact ZL.out)
    have GW := Lib.hid (show w1.heap[H + 1]? = some (.cells (dV R) 23 (0, 0)) by rw [hR]; exact G1.out)
    clear hR hk
    go_enter Tryd.func3, Tryd.ntmps3
    go_upto_region 3 with fail
    rw [ZT.out, ← HH.out, ← HW0.out, ← HW1.out]
    go_wp2_with (first | (go_at_call 14; refine HIK.out.mono ?_; rintro e w' ⟨rfl, rfl⟩) | ((refine ld_digG rfl (.tmp 4) rfl (H) 0 (by rfl) x1 N1.out (range_of_row G0.out) ?_); simp only [Act.put, List.setIfInBounds_toArray, List.set_cons_zero, List.set_cons_succ]))
    refine FC.out.mono ?_
    rintro e w2 ⟨rfl, hb2⟩
    obtain ⟨X, hX⟩ : ∃ X, X = w2.heap.size := ⟨_, rfl⟩
    obtain ⟨w3, hw3⟩ : ∃ z, z = w2.alloc (.cells (dV R) 23) := ⟨_, rfl⟩
    have q3 : w3.heap.size = X + 1 := by rw [hw3, World.size_alloc, hX]
    have b3 : Below w1.heap.size w1 w3 := by rw [hw3]; exact hb2.alloc hb2.size _
    have gR : w3.heap[X]? = some (.cells (dV R) 23 (0, 0)) := by rw [hw3, hX]; exact heap_alloc_new _ _
    have hg3 := HG.out.at_ b3
    have EC : Calls Tryd.prog 17 #[.iface 25 (.int .i64 2), .int .i64 2] w3 fun r w' => r = .returned (.bool true) ∧ Below w3.heap.size w3 w' := Error_err 2 2 true (by decide) w3 hg3
    have ro3 := RO.out.at_ b3
    have HX := Lib.hid hX
    have HW3 := Lib.hid hw3
    have B3 := Lib.hid b3
    have GR := Lib.hid gR
    have HEC := Lib.hid EC
    have RO3 := Lib.hid ro3
    have hX3 : X < w3.heap.size := by omega
    have hH13 : H + 1 < X := by rw [hX]; exact Nat.lt_of_lt_of_le hsz hb2.size
    clear q3 hX hw3 b3 gR EC ro3 hb2 hg3 FC
    go_wp2_with (first
      | ((refine st_new rfl (.tmp 9) (.tmp 29) rfl R RL.out (by rfl) _ _ (by rfl) (by rfl) ?_); rw [← HX.out, ← HW3.out]))
    refine HEC.out.mono ?_
    rintro e w4 ⟨rfl, hb4⟩
    have RO4 := Lib.hid (RO3.out.at_ hb4)
    have B4 := Lib.hid hb4
    clear hb4 HEC
    go_wp2_with (first
      | (refine wpl_ent rfl _ rfl (by rfl) Z HZ.out ?_))
    refine (Leaf_calls 1 (by decide) Z ZL.out w4 RO4.out).mono ?_
    rintro e w5 ⟨rfl, hb5⟩
    obtain ⟨Lf, hLf⟩ : ∃ L, L = leafD 1 Z := ⟨_, rfl⟩
    have lfl : Lf.length = 32 := by rw [hLf]; exact leafD_length _ _
    have lfn : (Lf == Z) = false := by rw [hLf, HZ.out]; exact leaf1_ne
    rw [← hLf]
    obtain ⟨Y, hY⟩ : ∃ Y, Y = w5.heap.size := ⟨_, rfl⟩
    obtain ⟨w6, hw6⟩ : ∃ z, z = w5.alloc (.cells (dV Lf) 23) := ⟨_, rfl⟩
    have q6 : w6.heap.size = Y + 1 := by rw [hw6, World.size_alloc, hY]
    have b6 : Below w3.heap.size w3 w6 := by rw [hw6]; exact (B4.out.trans (hb5.mono B4.out.size)).alloc (Nat.le_trans B4.out.size hb5.size) _
    have gL : w6.heap[Y]? = some (.cells (dV Lf) 23 (0, 0)) := by rw [hw6, hY]; exact heap_alloc_new _ _
    have gR6 := (b6.block X hX3).trans GR.out
    have gW6 := (b6.block (H + 1) (by omega)).trans ((B3.out.block (H + 1) hsz).trans GW.out)
    have bl6 : Below H w w6 := BL.out.trans ((B3.out.trans (b6.mono B3.out.size)).mono (by omega))
    have NC : ∀ w', InB w6.heap.size w6 w' → Calls Tryd.prog 19 #[] w' fun e w'' => e = .returned (.agg (dV Z)) ∧ InB w6.heap.size w6 w'' :=
      fun w' h => InB.call h (Nat.le_refl _) (by rw [HZ.out]; exact Nothing_calls w')
    have HNC := Lib.hid NC
    have hex := inB_ex w6.heap.size w6
    have LFL := Lib.hid lfl
    have LFN := Lib.hid lfn
    have HY := Lib.hid hY
    have HW6 := Lib.hid hw6
    have GL := Lib.hid gL
    have G6 := Lib.hid gR6
    have K6 := Lib.hid gW6
    have BL6 := Lib.hid bl6
    have hY6 : Y < w6.heap.size := by omega
    have hX6 : X < w6.heap.size := Nat.lt_of_lt_of_le hX3 b6.size
    have hH6 : H + 1 < w6.heap.size := by omega
    clear q6 NC hLf lfl lfn hY hw6 gL gR6 gW6 bl6 b6 hb5 RO4 B4
    go_wp2_with (first
      | ((refine st_new rfl (.tmp 12) (.tmp 37) rfl Lf LFL.out (by rfl) _ _ (by rfl) (by rfl) ?_); rw [← HY.out, ← HW6.out]))
    refine wp_region_inB w6.heap.size (by kernel_rfl) (by kernel_rfl) ?_
    go_big_quiet_step ((intro _; rfl))
    go_big_quiet_step ((intro _; rfl))
    refine quiet_dig rfl (.tmp 9) rfl (X) 0 (by rfl) R RL.out (fun w' hw' => hw'.range (by omega) (range_of_row G6.out)) ?_
    simp only [Act.put, List.setIfInBounds_toArray, List.set_cons_zero, List.set_cons_succ]
    refine quiet_dig rfl (.tmp 8) rfl (H + 1) 0 (by rfl) R RL.out (fun w' hw' => hw'.range (by omega) (range_of_row K6.out)) ?_
    simp only [Act.put, List.setIfInBounds_toArray, List.set_cons_zero, List.set_cons_succ]
    refine quiet_dig_eq rfl (.tmp 41) (.tmp 42) _ rfl R R (by rfl) (by rfl) RL.out RL.out ?_
    rw [show (R == R) = true by simp]
    simp only [Act.put, List.setIfInBounds_toArray, List.set_cons_zero, List.set_cons_succ]
    go_big_quiet_step ((intro _; rfl))
    go_big_quiet_step ((intro _; rfl))
    go_big_quiet_step ((intro _; rfl))
    go_big_quiet_step ((intro _; rfl))
    go_big_quiet_step ((intro _; rfl))
    go_big_quiet_step ((intro _; rfl))
    refine quiet_dig rfl (.tmp 12) rfl (Y) 0 (by rfl) Lf LFL.out (fun w' hw' => hw'.range (by omega) (range_of_row GL.out)) ?_
    simp only [Act.put, List.setIfInBounds_toArray, List.set_cons_zero, List.set_cons_succ]
    go_big_quiet_step ((intro hw'; exact HNC.out _ hw'))
    refine quiet_dig_neq rfl (.tmp 50) (.tmp 51) _ rfl Lf Z (by rfl) (by rfl) LFL.out ZL.out ?_
    rw [LFN.out]
    simp only [Act.put, List.setIfInBounds_toArray, List.set_cons_zero, List.set_cons_succ]
    go_big_quiet_step ((intro _; rfl))
    go_big_quiet_step ((intro _; rfl))
    refine wpQuiet_nil ?_
    intro w7 hw7
    have B7 := Lib.hid (BL6.out.trans (Below.mono hw7 (by omega)))
    clear hw7
    go_wp2_with fail
    go_ret
    exact ⟨rfl, by rw [← HH.out]; exact B7.out⟩

set_option maxRecDepth 100000 in
theorem lifted (os : Os) (started : os.Started) (H : Type) (enc : TypeId × Value → H) :
    ReturnsInHanded {} Tryd.checked os 3 .any (fun w args => (Rows.trieFoldsSpec.pre enc Tryd.prog Tryd.f3 Rows.trieFoldsRow.domain false w args ∧ laidMetH Tryd.prog Laid.list w) ∧ sizedMet enc Tryd.prog Tryd.f3 (OpenSpec.ofChange Rows.trieFoldsSpec) false w args) (Rows.trieFoldsSpec.post enc Tryd.prog Tryd.f3 false true false false) := by
  refine returnsInHanded_of_change_and (C := Tryd.checked) (X := fun w _ => laidMetH Tryd.prog Laid.list w) (fun _ _ _ hh h => h.of_heap hh) Laid.own started (by kernel_rfl) Tryd.func3
    (ChangeSpec.witness_at (enc := enc) (C := Tryd.checked) (os := os) (X := fun w _ => laidMetH Tryd.prog Laid.list w) false (laidWorld os) #[.int .i64 0, .agg #[.int .u8 0, .int .u8 0, .int .u8 0, .int .u8 0, .int .u8 0, .int .u8 0, .int .u8 0, .int .u8 0, .int .u8 0, .int .u8 0, .int .u8 0, .int .u8 0, .int .u8 0, .int .u8 0, .int .u8 0, .int .u8 0, .int .u8 0, .int .u8 0, .int .u8 0, .int .u8 0, .int .u8 0, .int .u8 0, .int .u8 0, .int .u8 0, .int .u8 0, .int .u8 0, .int .u8 0, .int .u8 0, .int .u8 0, .int .u8 0, .int .u8 0, .int .u8 0], .slice none 0 0] 8 rfl (by kernel_rfl) (by kernel_rfl) (by kernel_rfl) (by kernel_rfl) (by kernel_rfl) (laidWorld_met os _)) ?_
  intro W base args ds gs before hval0 hW _ hsz hL _
  have hro := rounds_of_laid hL
  have hg := handle_of_laid hL
  have hval : ∀ (j : Nat) t v, Tryd.f3.params[j]? = some t → args[j]? = some v → Value.okWide Tryd.prog W .any base t v := hval0
  have hW' := hW
  obtain ⟨p, q, hA0, hV, rfl, hfz, hnd⟩ := hW
  have hA : DataW.TrodAll enc Tryd.prog W 0 (fun _ => true) true Tryd.f3.params.toList args.toList ds p := hA0
  rw [Tryd.params3] at hA hval
  obtain ⟨v0, vs0, d0, ds0, p0, q0, hargs, rfl, rfl, h0, r0⟩ := trodAll_cons hA
  obtain ⟨v1, vs1, d1, ds1, p1, q1, rfl, rfl, rfl, h1, r1⟩ := trodAll_cons r0
  obtain ⟨v2, vs2, d2, ds2, p2, q2, rfl, rfl, rfl, h2, r2⟩ := trodAll_cons r1
  obtain ⟨rfl, rfl, rfl⟩ := trodAll_nil r2
  obtain rfl : args = #[v0, v1, v2] := by cases args; simp_all
  obtain ⟨rfl, rfl⟩ := trodVars_none hV
  have k0 := h0
  have lt0 : ∀ x ∈ p0, x.block < W.heap.size := by obtain ⟨m, hm⟩ := k0; exact DataW.trod_lt m _ _ _ hm
  obtain ⟨a0, rfl, _, _, w0⟩ := open_int Tryd.underlying3 (hval 0 3 v0 rfl rfl) h0
  have b0 := bounds_i64 w0
  have k1 := h1
  have lt1 : ∀ x ∈ p1, x.block < W.heap.size := by obtain ⟨m, hm⟩ := k1; exact DataW.trod_lt m _ _ _ hm
  obtain ⟨x1, n1, rfl⟩ := open_digest Tryd.underlying23 Tryd.underlying5 (by kernel_rfl) (by kernel_rfl) (hval 1 23 v1 rfl rfl) h1
  have k2 := h2
  have lt2 : ∀ x ∈ p2, x.block < W.heap.size := by obtain ⟨m, hm⟩ := k2; exact DataW.trod_lt m _ _ _ hm
  obtain ⟨x2, a2, c2, e2, rfl, g2, g_2, n2, r_2⟩ := open_digests Tryd.underlying24 Tryd.underlying23 Tryd.underlying5 (by kernel_rfl) (by kernel_rfl) (hval 2 24 v2 rfl rfl) h2
  have l2 : x2.length * 32 ≤ 140737488351232 := by have := trod_len (B := reachBytes) Tryd.underlying24 h2 (fun n hn => of_decide_eq_true (List.all_eq_true.1 hsz n (DataW.weights_mem_each (j := 2) (by first | rfl | kernel_rfl) rfl n hn))); rw [show Tryd.prog.bytesOf 23 = 32 by kernel_rfl] at this; exact this
  clear hA0 hval0
  refine (walk a0 x1 x2 a2 c2 e2 W b0 n1 l2 n2 r_2 hro hg).mono fun e W' ⟨he, bel⟩ => ?_
  subst he
  exact ⟨_, rfl, _, _, _, [], _, [], hW', trodAll_mk1 (shut_bool Tryd.underlying4 _), (trodAll_cons_mk (Below.trod Laid.laidOut (by kernel_rfl) (of_decide_eq_true (by kernel_rfl)) k0 bel lt0) (trodAll_cons_mk (Below.trod Laid.laidOut (by kernel_rfl) (of_decide_eq_true (by kernel_rfl)) k1 bel lt1) (trodAll_cons_mk (Below.trod Laid.laidOut (by kernel_rfl) (of_decide_eq_true (by kernel_rfl)) k2 bel lt2) trodAll_mk0))), rfl, bel.frame _, fun h => by cases h⟩

theorem over : Rows.trieFoldsRow.holds Tryd.pinned (OpenSpec.ofChange Rows.trieFoldsSpec) :=
  OpenClaim.holds_of_wide 3 Tryd.f3 rfl rfl rfl rfl rfl rfl rfl ⟨rfl, rfl, rfl, rfl, rfl⟩ rfl rfl rfl rfl rfl (by kernel_rfl) Tryd.func3 (by kernel_rfl)
    (of_decide_eq_true (by kernel_rfl)) (by unfold Func.isWrapper; first | (rw [if_pos (by decide +kernel)]; kernel_rfl) | (rw [if_neg (by decide +kernel)]; exact ⟨rfl, rfl⟩))
    (fun os started H enc _ => lifted os started H enc)

theorem proved : Rows.TrieFoldsCardSaid :=
  Claim7.holds_tied_plain_at .later [] [.data, .handle] true (true, "dc8737acee50ade5d9e6156f300c62d149993f3a6545deb441f0e2b50ff31829") true
    over (fun _ h => by cases h) (by kernel_rfl) (fun _ h => by cases h) trieFolds_row_tie rfl ⟨rfl, rfl⟩ (by kernel_rfl) rfl
    (fun f fn hf hfn => by
      obtain rfl : f = 3 := Option.some.inj ((show Tryd.prog.funcNamed "oathbook/oathbooklaw2.TrieFolds" = some 3 by kernel_rfl).symm.trans hf) |>.symm
      obtain rfl : fn = Tryd.f3 := (Option.some.inj (Tryd.func3.symm.trans hfn)).symm
      exact ⟨by kernel_rfl, stand_of_all (by kernel_rfl)⟩)
    (by kernel_rfl)
#print axioms proved
end trieFolds
end Go.Proofs.YtpeomfehdccmmaaDoor
