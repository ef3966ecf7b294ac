/- Any list, any bounds, any root, any number, any range: the program tells what the document tells. -/
import Derived.Test.YtpeomfehdccmmaaDoorRows
import Derived.Test.YtpeomfehdccmmaaDoorSpanLook
import Derived.Test.YtpeomfehdccmmaaDoorSpanRef
import Derived.Test.YtpeomfehdccmmaaDoorSpanSame
import Derived.Test.YtpeomfehdccmmaaDoorFindLaws
import Derived.Test.YtpeomfehdccmmaaDoorSpanEq
import Derived.Test.YtpeomfehdccmmaaDoorSpanTold
import Derived.Test.YtpeomfehdccmmaaDoorSpanLooks
import Derived.Test.YtpeomfehdccmmaaDoorFindRange
import Derived.Test.YtpeomfehdccmmaaDoorLaidRH
import Derived.WalkKit
import Derived.ProofKit
import Derived.OpenShut
import Derived.ShutString
import Derived.ChangeOld
import Derived.Below
namespace Go.Proofs.YtpeomfehdccmmaaDoor
open Go.ChangeShapes Go.WideShapes Go.ChangeAt Go.RowKit
open Go.ChangeMaps (open_string shut_string)
set_option linter.unusedVariables false
set_option linter.unusedSimpArgs false
namespace spanTells

-- HOLE: the walk
set_option maxRecDepth 20000 in
set_option maxHeartbeats 32000000 in
theorem walk (x0 : List En) (a0 : Option Addr) (c0 e0 : Nat) (a1 : Int) (a2 : Int) (x3 : List UInt8) (a4 : Int) (j5 : Int) (x5 : List En) (a5 : Option Addr) (c5 e5 : Nat) (y5 : List (List (List UInt8))) (b5 : Option Addr) (d5 f5 : Nat) (v5 : List Value) (w : World) (l0 : x0.length ≤ c0) (m0 : c0 ≤ 9223372036854775807) (n0 : ∀ e ∈ x0, EnW e) (r0 : Rd w a0 e0 (cellsE x0)) (h1 : -9223372036854775808 ≤ a1 ∧ a1 ≤ 9223372036854775807) (h2 : -9223372036854775808 ≤ a2 ∧ a2 ≤ 9223372036854775807) (n3 : x3.length = 32) (h4 : -9223372036854775808 ≤ a4 ∧ a4 ≤ 9223372036854775807) (h5 : -9223372036854775808 ≤ j5 ∧ j5 ≤ 9223372036854775807) (l5 : x5.length ≤ c5) (m5 : c5 ≤ 9223372036854775807) (n5 : ∀ e ∈ x5, EnW e) (r5 : Rd w a5 e5 (cellsE x5)) (k5 : y5.length ≤ d5) (g5 : d5 ≤ 9223372036854775807) (s5 : Rd w b5 f5 v5) (p5 : PathsAt w y5 v5) (q5 : CapsAt y5 v5) (hro : RoundsAt w) (hg : ErrVar w) :
    Calls Tryd.prog 13 #[.slice a0 x0.length c0, .int .i64 a1, .int .i64 a2, .agg (dV x3), .int .i64 a4, .agg #[.int .i64 j5, .slice a5 x5.length c5, .slice b5 y5.length d5]] w fun e w' => e = .returned (.bool true) ∧ Below w.heap.size w w' := by
  obtain ⟨Z, hZ⟩ : ∃ Z, Z = nz := ⟨_, rfl⟩
  have zl : Z.length = 32 := by rw [hZ]; rfl
  have zlit : (#[.int .u8 0, .int .u8 0, .int .u8 0, .int .u8 0, .int .u8 0, .int .u8 0, .int .u8 0, .int .u8 0, .int .u8 0, .int .u8 0, .int .u8 0, .int .u8 0, .int .u8 0, .int .u8 0, .int .u8 0, .int .u8 0, .int .u8 0, .int .u8 0, .int .u8 0, .int .u8 0, .int .u8 0, .int .u8 0, .int .u8 0, .int .u8 0, .int .u8 0, .int .u8 0, .int .u8 0, .int .u8 0, .int .u8 0, .int .u8 0, .int .u8 0, .int .u8 0] : Array Value) = dV Z := by rw [hZ]; exact zdig
  have ZL := Lib.hid zl
  have ZT := Lib.hid zlit
  have HZ := Lib.hid hZ
  clear zl zlit hZ
  obtain ⟨H, hH⟩ : ∃ H, H = w.heap.size := ⟨_, rfl⟩
  obtain ⟨v0, hv0⟩ : ∃ z, z = w.alloc (.cells (dV x3) 23) := ⟨_, rfl⟩
  obtain ⟨v1, hv1⟩ : ∃ z, z = v0.alloc (.cells #[.int .i64 j5, .slice a5 x5.length c5, .slice b5 y5.length d5] 61) := ⟨_, rfl⟩
  have q0 : v0.heap.size = H + 1 := by rw [hv0, hH]; exact World.size_alloc _ _
  have q1 : v1.heap.size = H + 1 + 1 := by rw [hv1, World.size_alloc, q0]
  have s0 : Below (H) w v0 := by rw [hv0, hH]; exact (Below.refl _ _).alloc (Nat.le_refl _) _
  have s1 : Below (H + 1) v0 v1 := by rw [hv1, ← q0]; exact (Below.refl _ _).alloc (Nat.le_refl _) _
  have t1 : Below (H + 1 + 1) v1 v1 := Below.refl _ _
  have t0 : Below (H + 1) v0 v1 := s1.trans (t1.mono (by omega))
  have bL : Below H w v1 := s0.trans (t0.mono (by omega))
  have g0 : v1.heap[H]? = some (.cells (dV x3) 23 (0, 0)) := by
    have g : v0.heap[H]? = some (.cells (dV x3) 23 (0, 0)) := by rw [hv0, hH]; exact heap_alloc_new _ _
    exact (t0.block _ (by omega)).trans g
  have g1 : v1.heap[H + 1]? = some (.cells #[.int .i64 j5, .slice a5 x5.length c5, .slice b5 y5.length d5] 61 (0, 0)) := by
    have g : v1.heap[H + 1]? = some (.cells #[.int .i64 j5, .slice a5 x5.length c5, .slice b5 y5.length d5] 61 (0, 0)) := by rw [hv1, ← q0]; exact heap_alloc_new _ _
    exact (t1.block _ (by omega)).trans g
  have bW : Below w.heap.size w v1 := by rw [← hH]; exact bL
  have hsz : H + 1 < v1.heap.size := by omega
  have HH := Lib.hid hH
  have HW0 := Lib.hid hv0
  have HW1 := Lib.hid hv1
  have BL := Lib.hid bL
  have BW := Lib.hid bW
  have QL := Lib.hid q1
  have G0 := Lib.hid g0
  have G1 := Lib.hid g1
  clear hH hv0 hv1 q0 q1 s0 s1 t0 t1 g0 g1 bL bW
  obtain ⟨K, hK⟩ : ∃ K, K = H + 1 := ⟨_, rfl⟩
  have HK := Lib.hid hK
  have GH_0 := G0
  have LH_0 := Lib.hid (lt_of_heap G0.out)
  have GK_0 := Lib.hid (show v1.heap[K]? = some (.cells #[.int .i64 j5, .slice a5 x5.length c5, .slice b5 y5.length d5] 61 (0, 0)) by rw [hK]; exact G1.out)
  have LK_0 := Lib.hid (lt_of_heap GK_0.out)
  clear hK
  have N3 := Lib.hid n3
  have RO := Lib.hid (hro.at_ BW.out)
  have HG := Lib.hid (hg.at_ BW.out)
  have R0 := Lib.hid (r0.below BW.out)
  have R5 := Lib.hid (r5.below BW.out)
  have S5 := Lib.hid (s5.below BW.out)
  have P5 := Lib.hid (p5.below BW.out)
  have ZZ := Lib.hid (show (Z == Z) = true by simp)
  have hfi := fun w' (hb : Below v1.heap.size v1 w') => Find_calls x0 n0 a0 c0 e0 (by omega) a1 a2 h1 h2 w' (R0.out.below hb) (RO.out.at_ hb)
  have hfa := fun w' (hb : Below v1.heap.size v1 w') => ListFault_calls x0 n0 a0 c0 e0 w' (R0.out.below hb) (by omega)
  have he0 := fun w' => (Entries_calls [] [] (fun _ h => by cases h) (fun _ h => by cases h) none 0 0 none 0 0 w' (.inl rfl) (.inl rfl) (by decide)).mono fun e w'' h => (⟨by rw [h.1, decide_eq_true rfl], by obtain ⟨n, hn⟩ := h.2; rw [hn]; exact below_drewN (Below.refl _ _) n⟩ : e = .returned (.bool true) ∧ Below w'.heap.size w' w'')
  have E0 := Lib.hid he0
  have hrz := fun w' => Ranges_same 0 [] (fun _ h => by cases h) [] (by decide) (by decide) (fun i h => absurd h (by simp)) none 0 0 none 0 0 [] none 0 0 none 0 0 [] w' (.inl rfl) (.inl rfl) ⟨rfl, fun i h => absurd h (by simp)⟩ (.inl rfl) (.inl rfl) ⟨rfl, fun i h => absurd h (by simp)⟩
  have RZ := Lib.hid hrz
  have hlk := fun w' (hb : Below v1.heap.size v1 w') => Look_calls x3 n3 a4 a1 a2 j5 h4 h1 h2 h5 x5 n5 a5 c5 e5 (by omega) y5 v5 b5 d5 f5 w' (R5.out.below hb) (S5.out.below hb) (P5.out.below hb) (RO.out.at_ hb)
  clear he0 hrz
  by_cases hf : listF x0 = 0
  · obtain ⟨h256, hko, hup⟩ := listF_ok hf
    have hfa0 := hfa
    rw [hf] at hfa0
    have FA := Lib.hid hfa0
    obtain ⟨R, hR⟩ : ∃ R, R = troot (leavesD x0) := ⟨_, rfl⟩
    have RL := Lib.hid (show R.length = 32 by rw [hR]; exact troot_length _ (leavesD_dig x0))
    have REQ := Lib.hid (show (R == R) = true by simp)
    have hsr := fun w' (hb : Below v1.heap.size v1 w') => SRoot_ok x0 n0 hf a0 c0 e0 w' (R0.out.below hb) (RO.out.at_ hb)
    rw [← hR] at hsr
    have SR := Lib.hid hsr
    have hil := fun w' (hb : Below v1.heap.size v1 w') => ItemLeaves_calls x0 n0 hko a0 c0 e0 w' (R0.out.below hb) (by omega)
    have IL := Lib.hid hil
    have hrc := fun w' al cl e (i1 : x0.length ≤ cl) (i2 : cl ≤ 9223372036854775807) (hr : Rd w' al e ((leavesD x0).flatten.map vB)) => RRoot_calls x0.length (leavesD x0) (by rw [leavesD_length]; exact Nat.le_refl _) (by rw [leavesD_length]; exact h256) (leavesD_dig x0) al cl e (by rw [leavesD_length]; exact i1) i2 w' hr
    rw [leavesD_length, ← hR] at hrc
    have RC := Lib.hid hrc
    by_cases hab : a2 < a1
    · have hfb := fun w' (hb : Below v1.heap.size v1 w') => (hfi w' hb).mono fun e w'' h => (⟨h.2.1 hf hab, h.2.2.2⟩ : e = .returned (.tuple #[.agg #[.int .i64 0, .slice none 0 0, .slice none 0 0], .iface 25 (.int .i64 2)]) ∧ Below w'.heap.size w' w'')
      have FB := Lib.hid hfb
      clear hfb hfi hfa hfa0 hsr hil hrc hR hup
      have HLK := Lib.hid hlk
      have HN5 := Lib.hid n5
      have HQ5 := Lib.hid q5
      have y1 : decide (a2 < a1) = true := decide_eq_true hab
      have HABP := Lib.hid hab
      clear hlk n5 q5 n0 r0 r5 s5 p5 hro hg hab hf hko
      go_enter Tryd.func13, Tryd.ntmps13
      go_upto_region 1 with fail
      rw [← HH.out, ← HW0.out, ← HW1.out, ← HK.out]
      go_wp2_with fail
      refine (FA.out v1 (Below.refl v1.heap.size v1)).mono ?_
      rintro e w1 ⟨rfl, hb1⟩
      have B1 := Lib.hid (show Below v1.heap.size v1 w1 from Below.trans (Below.refl v1.heap.size v1) (Below.mono hb1 (Below.size (Below.refl v1.heap.size v1))))
      have GH_1 := Lib.hid ((Below.block hb1 H LH_0.out).trans GH_0.out)
      have LH_1 := Lib.hid (Nat.lt_of_lt_of_le LH_0.out (Below.size hb1))
      have GK_1 := Lib.hid ((Below.block hb1 K LK_0.out).trans GK_0.out)
      have LK_1 := Lib.hid (Nat.lt_of_lt_of_le LK_0.out (Below.size hb1))
      clear hb1
      obtain ⟨W, hW⟩ : ∃ z, z = w1.heap.size := ⟨_, rfl⟩
      obtain ⟨w2, hw2⟩ : ∃ z, z = w1.alloc (.cells (dV Z) 23) := ⟨_, rfl⟩
      have st2 : Below w1.heap.size w1 w2 := by rw [hw2]; exact (Below.refl _ _).alloc (Nat.le_refl _) _
      have B2 := Lib.hid (show Below v1.heap.size v1 w2 from Below.trans B1.out (Below.mono st2 (Below.size B1.out)))
      have GH_2 := Lib.hid ((Below.block st2 H LH_1.out).trans GH_1.out)
      have LH_2 := Lib.hid (Nat.lt_of_lt_of_le LH_1.out (Below.size st2))
      have GK_2 := Lib.hid ((Below.block st2 K LK_1.out).trans GK_1.out)
      have LK_2 := Lib.hid (Nat.lt_of_lt_of_le LK_1.out (Below.size st2))
      have GW_2 := Lib.hid (show w2.heap[W]? = some (.cells (dV Z) 23 (0, 0)) by rw [hw2, hW]; exact heap_alloc_new _ _)
      have LW_2 := Lib.hid (lt_of_heap GW_2.out)
      have HW := Lib.hid hW
      have Hw2 := Lib.hid hw2
      clear hW hw2 st2
      go_wp2_with fail
      rw [ZT.out, ← HW.out, ← Hw2.out]
      refine (IL.out w2 B2.out).mono ?_
      rintro e w3 ⟨al, cl, rfl, hol, hb3⟩
      have B3 := Lib.hid (show Below v1.heap.size v1 w3 from Below.trans B2.out (Below.mono hb3 (Below.size B2.out)))
      have GH_3 := Lib.hid ((Below.block hb3 H LH_2.out).trans GH_2.out)
      have LH_3 := Lib.hid (Nat.lt_of_lt_of_le LH_2.out (Below.size hb3))
      have GK_3 := Lib.hid ((Below.block hb3 K LK_2.out).trans GK_2.out)
      have LK_3 := Lib.hid (Nat.lt_of_lt_of_le LK_2.out (Below.size hb3))
      have GW_3 := Lib.hid ((Below.block hb3 W LW_2.out).trans GW_2.out)
      have LW_3 := Lib.hid (Nat.lt_of_lt_of_le LW_2.out (Below.size hb3))
      have LV_3 := Lib.hid (Rd.of_own hol)
      have HOC := Lib.hid (own_cappW hol)
      clear hol
      clear hb3
      go_wp2_with fail
      refine (RC.out w3 al cl _ HOC.out.1 HOC.out.2 LV_3.out).mono ?_
      rintro e w4 ⟨rfl, hb4⟩
      have B4 := Lib.hid (show Below v1.heap.size v1 w4 from Below.trans B3.out (Below.mono hb4 (Below.size B3.out)))
      have GH_4 := Lib.hid ((Below.block hb4 H LH_3.out).trans GH_3.out)
      have LH_4 := Lib.hid (Nat.lt_of_lt_of_le LH_3.out (Below.size hb4))
      have GK_4 := Lib.hid ((Below.block hb4 K LK_3.out).trans GK_3.out)
      have LK_4 := Lib.hid (Nat.lt_of_lt_of_le LK_3.out (Below.size hb4))
      have GW_4 := Lib.hid ((Below.block hb4 W LW_3.out).trans GW_3.out)
      have LW_4 := Lib.hid (Nat.lt_of_lt_of_le LW_3.out (Below.size hb4))
      have LV_4 := Lib.hid (LV_3.out.below hb4)
      clear hb4
      obtain ⟨w5, hw5⟩ : ∃ z, z = w4.setRow W (dV R) := ⟨_, rfl⟩
      have B5 := Lib.hid (show Below v1.heap.size v1 w5 by rw [hw5]; exact below_setRowW B4.out (by rw [HW.out]; exact Below.size B1.out) _)
      have sz5 : w5.heap.size = w4.heap.size := by rw [hw5]; exact setRow_size _ _ _
      have GH_5 := Lib.hid (show w5.heap[H]? = some (.cells (dV x3) 23 (0, 0)) by rw [hw5]; exact (_root_.Go.setRow_other _ _ _ _ (by rw [HW.out]; exact Nat.ne_of_lt LH_1.out)).trans GH_4.out)
      have LH_5 := Lib.hid (show H < w5.heap.size by rw [sz5]; exact LH_4.out)
      have GK_5 := Lib.hid (show w5.heap[K]? = some (.cells #[.int .i64 j5, .slice a5 x5.length c5, .slice b5 y5.length d5] 61 (0, 0)) by rw [hw5]; exact (_root_.Go.setRow_other _ _ _ _ (by rw [HW.out]; exact Nat.ne_of_lt LK_1.out)).trans GK_4.out)
      have LK_5 := Lib.hid (show K < w5.heap.size by rw [sz5]; exact LK_4.out)
      have GW_5 := Lib.hid (show w5.heap[W]? = some (.cells (dV R) 23 (0, 0)) by rw [hw5]; exact setRow_heap _ _ _ _ _ _ GW_4.out)
      have LW_5 := Lib.hid (show W < w5.heap.size by rw [sz5]; exact LW_4.out)
      have Hw5 := Lib.hid hw5
      clear hw5 sz5
      go_wp2_with (first
        | ((refine st_row rfl (.tmp 14) (.tmp 29) rfl W R RL.out (by rfl) (by rfl) (dV Z) (dV_size ZL.out) _ GW_4.out ?_); rw [← Hw5.out]))
      refine (SR.out w5 B5.out).mono ?_
      rintro e w6 ⟨rfl, hb6⟩
      have B6 := Lib.hid (show Below v1.heap.size v1 w6 from Below.trans B5.out (Below.mono hb6 (Below.size B5.out)))
      have GH_6 := Lib.hid ((Below.block hb6 H LH_5.out).trans GH_5.out)
      have LH_6 := Lib.hid (Nat.lt_of_lt_of_le LH_5.out (Below.size hb6))
      have GK_6 := Lib.hid ((Below.block hb6 K LK_5.out).trans GK_5.out)
      have LK_6 := Lib.hid (Nat.lt_of_lt_of_le LK_5.out (Below.size hb6))
      have GW_6 := Lib.hid ((Below.block hb6 W LW_5.out).trans GW_5.out)
      have LW_6 := Lib.hid (Nat.lt_of_lt_of_le LW_5.out (Below.size hb6))
      clear hb6
      obtain ⟨D, hD⟩ : ∃ z, z = w6.heap.size := ⟨_, rfl⟩
      obtain ⟨w7, hw7⟩ : ∃ z, z = w6.alloc (.cells (dV R) 23) := ⟨_, rfl⟩
      have st7 : Below w6.heap.size w6 w7 := by rw [hw7]; exact (Below.refl _ _).alloc (Nat.le_refl _) _
      have B7 := Lib.hid (show Below v1.heap.size v1 w7 from Below.trans B6.out (Below.mono st7 (Below.size B6.out)))
      have GH_7 := Lib.hid ((Below.block st7 H LH_6.out).trans GH_6.out)
      have LH_7 := Lib.hid (Nat.lt_of_lt_of_le LH_6.out (Below.size st7))
      have GK_7 := Lib.hid ((Below.block st7 K LK_6.out).trans GK_6.out)
      have LK_7 := Lib.hid (Nat.lt_of_lt_of_le LK_6.out (Below.size st7))
      have GW_7 := Lib.hid ((Below.block st7 W LW_6.out).trans GW_6.out)
      have LW_7 := Lib.hid (Nat.lt_of_lt_of_le LW_6.out (Below.size st7))
      have GD_7 := Lib.hid (show w7.heap[D]? = some (.cells (dV R) 23 (0, 0)) by rw [hw7, hD]; exact heap_alloc_new _ _)
      have LD_7 := Lib.hid (lt_of_heap GD_7.out)
      have HD := Lib.hid hD
      have Hw7 := Lib.hid hw7
      clear hD hw7 st7
      go_wp2_with (first
        | ((refine st_new rfl (.tmp 15) (.tmp 33) rfl R RL.out (by rfl) _ _ (by rfl) (by rfl) ?_); rw [← HD.out, ← Hw7.out]))
      refine (((Error_nil 0 true (by decide) w7).mono fun r w' h => (⟨h.1, by rw [← h.2]; exact Below.refl _ _⟩ : r = .returned (.bool true) ∧ Below w7.heap.size w7 w'))).mono ?_
      rintro e w8 ⟨rfl, hb8⟩
      have B8 := Lib.hid (show Below v1.heap.size v1 w8 from Below.trans B7.out (Below.mono hb8 (Below.size B7.out)))
      have GH_8 := Lib.hid ((Below.block hb8 H LH_7.out).trans GH_7.out)
      have LH_8 := Lib.hid (Nat.lt_of_lt_of_le LH_7.out (Below.size hb8))
      have GK_8 := Lib.hid ((Below.block hb8 K LK_7.out).trans GK_7.out)
      have LK_8 := Lib.hid (Nat.lt_of_lt_of_le LK_7.out (Below.size hb8))
      have GW_8 := Lib.hid ((Below.block hb8 W LW_7.out).trans GW_7.out)
      have LW_8 := Lib.hid (Nat.lt_of_lt_of_le LW_7.out (Below.size hb8))
      have GD_8 := Lib.hid ((Below.block hb8 D LD_7.out).trans GD_7.out)
      have LD_8 := Lib.hid (Nat.lt_of_lt_of_le LD_7.out (Below.size hb8))
      clear hb8
      obtain ⟨X, hX⟩ : ∃ z, z = w8.heap.size := ⟨_, rfl⟩
      obtain ⟨w9, hw9⟩ : ∃ z, z = w8.alloc (.cells #[.int .i64 0, .slice none 0 0, .slice none 0 0] 61) := ⟨_, rfl⟩
      have st9 : Below w8.heap.size w8 w9 := by rw [hw9]; exact (Below.refl _ _).alloc (Nat.le_refl _) _
      have B9 := Lib.hid (show Below v1.heap.size v1 w9 from Below.trans B8.out (Below.mono st9 (Below.size B8.out)))
      have GH_9 := Lib.hid ((Below.block st9 H LH_8.out).trans GH_8.out)
      have LH_9 := Lib.hid (Nat.lt_of_lt_of_le LH_8.out (Below.size st9))
      have GK_9 := Lib.hid ((Below.block st9 K LK_8.out).trans GK_8.out)
      have LK_9 := Lib.hid (Nat.lt_of_lt_of_le LK_8.out (Below.size st9))
      have GW_9 := Lib.hid ((Below.block st9 W LW_8.out).trans GW_8.out)
      have LW_9 := Lib.hid (Nat.lt_of_lt_of_le LW_8.out (Below.size st9))
      have GD_9 := Lib.hid ((Below.block st9 D LD_8.out).trans GD_8.out)
      have LD_9 := Lib.hid (Nat.lt_of_lt_of_le LD_8.out (Below.size st9))
      have GX_9 := Lib.hid (show w9.heap[X]? = some (.cells #[.int .i64 0, .slice none 0 0, .slice none 0 0] 61 (0, 0)) by rw [hw9, hX]; exact heap_alloc_new _ _)
      have LX_9 := Lib.hid (lt_of_heap GX_9.out)
      have HX := Lib.hid hX
      have Hw9 := Lib.hid hw9
      clear hX hw9 st9
      go_wp2_with (first
        | ((refine ld_digG rfl (.tmp 15) rfl (D) 0 (by rfl) R RL.out (range_of_row GD_8.out) ?_); simp only [Act.put, List.setIfInBounds_toArray, List.set_cons_zero, List.set_cons_succ])
        | ((refine ld_digG rfl (.tmp 14) rfl (W) 0 (by rfl) R RL.out (range_of_row GW_8.out) ?_); simp only [Act.put, List.setIfInBounds_toArray, List.set_cons_zero, List.set_cons_succ])
        | ((refine neq_digG rfl (.tmp 41) (.tmp 42) _ rfl R R (by rfl) (by rfl) RL.out RL.out ?_); rw [REQ.out]; simp only [Act.put, List.setIfInBounds_toArray, List.set_cons_zero, List.set_cons_succ]))
      rw [← HX.out, ← Hw9.out]
      refine (FB.out w9 B9.out).mono ?_
      rintro e w10 ⟨rfl, hb10⟩
      have B10 := Lib.hid (show Below v1.heap.size v1 w10 from Below.trans B9.out (Below.mono hb10 (Below.size B9.out)))
      have GH_10 := Lib.hid ((Below.block hb10 H LH_9.out).trans GH_9.out)
      have LH_10 := Lib.hid (Nat.lt_of_lt_of_le LH_9.out (Below.size hb10))
      have GK_10 := Lib.hid ((Below.block hb10 K LK_9.out).trans GK_9.out)
      have LK_10 := Lib.hid (Nat.lt_of_lt_of_le LK_9.out (Below.size hb10))
      have GW_10 := Lib.hid ((Below.block hb10 W LW_9.out).trans GW_9.out)
      have LW_10 := Lib.hid (Nat.lt_of_lt_of_le LW_9.out (Below.size hb10))
      have GD_10 := Lib.hid ((Below.block hb10 D LD_9.out).trans GD_9.out)
      have LD_10 := Lib.hid (Nat.lt_of_lt_of_le LD_9.out (Below.size hb10))
      have GX_10 := Lib.hid ((Below.block hb10 X LX_9.out).trans GX_9.out)
      have LX_10 := Lib.hid (Nat.lt_of_lt_of_le LX_9.out (Below.size hb10))
      clear hb10
      obtain ⟨Y, hY⟩ : ∃ z, z = w10.heap.size := ⟨_, rfl⟩
      obtain ⟨w11, hw11⟩ : ∃ z, z = w10.alloc (.cells #[.int .i64 0, .slice none 0 0, .slice none 0 0] 61) := ⟨_, rfl⟩
      have st11 : Below w10.heap.size w10 w11 := by rw [hw11]; exact (Below.refl _ _).alloc (Nat.le_refl _) _
      have B11 := Lib.hid (show Below v1.heap.size v1 w11 from Below.trans B10.out (Below.mono st11 (Below.size B10.out)))
      have GH_11 := Lib.hid ((Below.block st11 H LH_10.out).trans GH_10.out)
      have LH_11 := Lib.hid (Nat.lt_of_lt_of_le LH_10.out (Below.size st11))
      have GK_11 := Lib.hid ((Below.block st11 K LK_10.out).trans GK_10.out)
      have LK_11 := Lib.hid (Nat.lt_of_lt_of_le LK_10.out (Below.size st11))
      have GX_11 := Lib.hid ((Below.block st11 X LX_10.out).trans GX_10.out)
      have LX_11 := Lib.hid (Nat.lt_of_lt_of_le LX_10.out (Below.size st11))
      have GY_11 := Lib.hid (show w11.heap[Y]? = some (.cells #[.int .i64 0, .slice none 0 0, .slice none 0 0] 61 (0, 0)) by rw [hw11, hY]; exact heap_alloc_new _ _)
      have LY_11 := Lib.hid (lt_of_heap GY_11.out)
      have HY := Lib.hid hY
      have Hw11 := Lib.hid hw11
      clear hY hw11 st11
      go_wp2_with (first
        | ((refine wpList_store_row rfl _ (.tmp 19) (.tmp 63) rfl w10.heap.size #[.int .i64 0, .slice none 0 0, .slice none 0 0] (by rfl) (by rfl) _ #[.int .i64 0, .slice none 0 0, .slice none 0 0] (heap_alloc_new w10 _) info_rngF rfl (rng_one _ _ _ rfl rfl rfl) ?_); rw [World.setRow_alloc_new, ← HY.out, ← Hw11.out]))
      refine (Error_err (2) (2) true (by simp) w11 (HG.out.at_ B11.out)).mono ?_
      rintro e w12 ⟨rfl, hb12⟩
      have B12 := Lib.hid (show Below v1.heap.size v1 w12 from Below.trans B11.out (Below.mono hb12 (Below.size B11.out)))
      have GH_12 := Lib.hid ((Below.block hb12 H LH_11.out).trans GH_11.out)
      have LH_12 := Lib.hid (Nat.lt_of_lt_of_le LH_11.out (Below.size hb12))
      have GK_12 := Lib.hid ((Below.block hb12 K LK_11.out).trans GK_11.out)
      have LK_12 := Lib.hid (Nat.lt_of_lt_of_le LK_11.out (Below.size hb12))
      have GX_12 := Lib.hid ((Below.block hb12 X LX_11.out).trans GX_11.out)
      have LX_12 := Lib.hid (Nat.lt_of_lt_of_le LX_11.out (Below.size hb12))
      have GY_12 := Lib.hid ((Below.block hb12 Y LY_11.out).trans GY_11.out)
      have LY_12 := Lib.hid (Nat.lt_of_lt_of_le LY_11.out (Below.size hb12))
      clear hb12
      go_wp2_with (first
        | ((refine wpList_load_row rfl _ (.tmp 19) rfl Y (by rfl) _ _ _ _ GY_12.out Tryd.underlying61 rfl info_rngF ?_); simp only [Act.put, List.setIfInBounds_toArray, List.set_cons_zero, List.set_cons_succ])
        | ((refine wpList_load_row rfl _ (.tmp 18) rfl X (by rfl) _ _ _ _ GX_12.out Tryd.underlying61 rfl info_rngF ?_); simp only [Act.put, List.setIfInBounds_toArray, List.set_cons_zero, List.set_cons_succ]))
      refine (RZ.out w12).mono ?_
      rintro e w13 ⟨rfl, hb13⟩
      have B13 := Lib.hid (show Below v1.heap.size v1 w13 from Below.trans B12.out (Below.mono hb13 (Below.size B12.out)))
      have GH_13 := Lib.hid ((Below.block hb13 H LH_12.out).trans GH_12.out)
      have LH_13 := Lib.hid (Nat.lt_of_lt_of_le LH_12.out (Below.size hb13))
      have GK_13 := Lib.hid ((Below.block hb13 K LK_12.out).trans GK_12.out)
      have LK_13 := Lib.hid (Nat.lt_of_lt_of_le LK_12.out (Below.size hb13))
      have GX_13 := Lib.hid ((Below.block hb13 X LX_12.out).trans GX_12.out)
      have LX_13 := Lib.hid (Nat.lt_of_lt_of_le LX_12.out (Below.size hb13))
      have GY_13 := Lib.hid ((Below.block hb13 Y LY_12.out).trans GY_12.out)
      have LY_13 := Lib.hid (Nat.lt_of_lt_of_le LY_12.out (Below.size hb13))
      clear hb13
      have hlk := HLK.out
      have n5 := HN5.out
      have q5 := HQ5.out
      have hab : a2 < a1 := by have := HABP.out; omega
      have y1 : decide (a2 < a1) = true := decide_eq_true hab
      have hF : lookF x3 a4 a1 a2 j5 x5 y5 = 2 := by unfold lookF; rw [if_pos (.inl hab)]
      have hlk2 := fun w' (hb : Below v1.heap.size v1 w') => (hlk w' hb).mono fun e w'' h => (⟨by rw [h.1 (by rw [hF]; decide), hF], h.2.2⟩ : e = .returned (.tuple #[.slice none 0 0, .iface 25 (.int .i64 2)]) ∧ Below w'.heap.size w' w'')
      have LK := Lib.hid hlk2
      clear hlk hlk2 hF n5 q5 hab
      obtain ⟨k0_, k1_, k2_⟩ := rng_cells GK_13.out
      go_wp2_with (first
        | ((refine ld_digG rfl (.tmp 9) rfl (H) 0 (by rfl) x3 N3.out (range_of_row GH_13.out) ?_); simp only [Act.put, List.setIfInBounds_toArray, List.set_cons_zero, List.set_cons_succ])
        | ((refine wpList_load_row rfl _ (.tmp 11) rfl K (by rfl) _ _ _ _ GK_13.out Tryd.underlying61 rfl info_rngF ?_); simp only [Act.put, List.setIfInBounds_toArray, List.set_cons_zero, List.set_cons_succ]))
      refine (LK.out w13 B13.out).mono ?_
      rintro e w14 ⟨rfl, hb14⟩
      have B14 := Lib.hid (show Below v1.heap.size v1 w14 from Below.trans B13.out (Below.mono hb14 (Below.size B13.out)))
      have GH_14 := Lib.hid ((Below.block hb14 H LH_13.out).trans GH_13.out)
      have LH_14 := Lib.hid (Nat.lt_of_lt_of_le LH_13.out (Below.size hb14))
      have GK_14 := Lib.hid ((Below.block hb14 K LK_13.out).trans GK_13.out)
      have LK_14 := Lib.hid (Nat.lt_of_lt_of_le LK_13.out (Below.size hb14))
      try clear k0_ k1_ k2_
      clear hb14
      go_wp2_with fail
      refine (Error_err (2) (2) true (by simp) w14 (HG.out.at_ B14.out)).mono ?_
      rintro e w15 ⟨rfl, hb15⟩
      have B15 := Lib.hid (show Below v1.heap.size v1 w15 from Below.trans B14.out (Below.mono hb15 (Below.size B14.out)))
      have GH_15 := Lib.hid ((Below.block hb15 H LH_14.out).trans GH_14.out)
      have LH_15 := Lib.hid (Nat.lt_of_lt_of_le LH_14.out (Below.size hb15))
      have GK_15 := Lib.hid ((Below.block hb15 K LK_14.out).trans GK_14.out)
      have LK_15 := Lib.hid (Nat.lt_of_lt_of_le LK_14.out (Below.size hb15))
      clear hb15
      go_wp2_with fail
      refine (E0.out w15).mono ?_
      rintro e w16 ⟨rfl, hb16⟩
      have B16 := Lib.hid (show Below v1.heap.size v1 w16 from Below.trans B15.out (Below.mono hb16 (Below.size B15.out)))
      have GH_16 := Lib.hid ((Below.block hb16 H LH_15.out).trans GH_15.out)
      have LH_16 := Lib.hid (Nat.lt_of_lt_of_le LH_15.out (Below.size hb16))
      have GK_16 := Lib.hid ((Below.block hb16 K LK_15.out).trans GK_15.out)
      have LK_16 := Lib.hid (Nat.lt_of_lt_of_le LK_15.out (Below.size hb16))
      clear hb16
      go_wp2_with fail
      refine (Spanned_calls w16 (RO.out.at_ B16.out)).mono ?_
      rintro e w17 ⟨rfl, hb17⟩
      have B17 := Lib.hid (show Below v1.heap.size v1 w17 from Below.trans B16.out (Below.mono hb17 (Below.size B16.out)))
      have GH_17 := Lib.hid ((Below.block hb17 H LH_16.out).trans GH_16.out)
      have LH_17 := Lib.hid (Nat.lt_of_lt_of_le LH_16.out (Below.size hb17))
      have GK_17 := Lib.hid ((Below.block hb17 K LK_16.out).trans GK_16.out)
      have LK_17 := Lib.hid (Nat.lt_of_lt_of_le LK_16.out (Below.size hb17))
      clear hb17
      go_wp2_with fail
      go_ret
      exact ⟨rfl, BW.out.trans (Below.mono B17.out BW.out.size)⟩
    · have hab2 : a1 ≤ a2 := by omega
      obtain ⟨f, hFr⟩ := from_ex x0 a1 _ 0 rfl (fun j h i1 i2 => absurd i1 (by omega)) (.inl rfl)
      obtain ⟨t, hTo⟩ := to_ex x0 a2 x0.length (Nat.le_refl _) (by omega) (fun j h i1 i2 => absurd i1 (by omega))
      have hfg := fun w' (hb : Below v1.heap.size v1 w') => (hfi w' hb).mono fun e w'' h => (⟨by
        obtain ⟨f2, t2, ia, ic, ie, pa, pc, pe, vs, k1, k2, k3⟩ := h.2.2.1 hf hab2
        obtain rfl := from_one hFr k1
        obtain rfl := to_one hTo k2
        exact ⟨ia, ic, ie, pa, pc, pe, vs, k3⟩, h.2.2.2⟩ : (∃ (ia : Option Addr) (ic ie : Nat) (pa : Option Addr) (pc pe : Nat) (vs : List Value), e = .returned (.tuple #[.agg #[.int .i64 (f : Int), .slice ia (itemsF x0 f t).length ic, .slice pa (pathsF x0 f t).length pc], .nilIface]) ∧ Rd w'' ia ie (cellsE (itemsF x0 f t)) ∧ Rd w'' pa pe vs ∧ PathsAt w'' (pathsF x0 f t) vs) ∧ Below w'.heap.size w' w'')
      have FG := Lib.hid hfg
      have hro2 := fun w' (hb : Below v1.heap.size v1 w') => RangeOf_calls x0 n0 hf a0 c0 e0 a1 a2 hab2 f t hFr hTo w' (R0.out.below hb)
      have RO_ := Lib.hid hro2
      have hiw : ∀ e ∈ itemsF x0 f t, e.val.length = 32 := fun e he => (n0 e (List.mem_of_mem_drop (List.mem_of_mem_take he))).1
      have htl := hTo.1
      have hitl := itemsF_length (f := f) htl
      have hpal := pathsF_length x0 f t
      have hrg := fun ia ic ie pa pc pe vs ib jc je qa qc qe us w' g1 g2 g3 g4 g5 g6 => Ranges_same (f : Int) (itemsF x0 f t) hiw (pathsF x0 f t) (by omega) (by omega) (fun i h => by
        rw [pathsF_get (by rw [← pathsF_length x0 f t]; exact h), tpath_long _ _ _ (Nat.le_refl _)]
        have := tlong_le 256 (f + i) (leavesD x0).length (by rw [leavesD_length]; omega)
        omega) ia ic ie pa pc pe vs ib jc je qa qc qe us w' g1 g2 g3 g4 g5 g6
      have RG := Lib.hid hrg
      clear hfg hfi hfa hfa0 hsr hil hrc hR hup hro2 hiw htl hitl hpal hrg hFr hTo hab2
      have HLK := Lib.hid hlk
      have HN5 := Lib.hid n5
      have HQ5 := Lib.hid q5
      have y1 : decide (a2 < a1) = false := decide_eq_false hab
      have HABP := Lib.hid hab
      clear hlk n5 q5 n0 r0 r5 s5 p5 hro hg hab hf hko
      go_enter Tryd.func13, Tryd.ntmps13
      go_upto_region 1 with fail
      rw [← HH.out, ← HW0.out, ← HW1.out, ← HK.out]
      go_wp2_with fail
      refine (FA.out v1 (Below.refl v1.heap.size v1)).mono ?_
      rintro e w1 ⟨rfl, hb1⟩
      have B1 := Lib.hid (show Below v1.heap.size v1 w1 from Below.trans (Below.refl v1.heap.size v1) (Below.mono hb1 (Below.size (Below.refl v1.heap.size v1))))
      have GH_1 := Lib.hid ((Below.block hb1 H LH_0.out).trans GH_0.out)
      have LH_1 := Lib.hid (Nat.lt_of_lt_of_le LH_0.out (Below.size hb1))
      have GK_1 := Lib.hid ((Below.block hb1 K LK_0.out).trans GK_0.out)
      have LK_1 := Lib.hid (Nat.lt_of_lt_of_le LK_0.out (Below.size hb1))
      clear hb1
      obtain ⟨W, hW⟩ : ∃ z, z = w1.heap.size := ⟨_, rfl⟩
      obtain ⟨w2, hw2⟩ : ∃ z, z = w1.alloc (.cells (dV Z) 23) := ⟨_, rfl⟩
      have st2 : Below w1.heap.size w1 w2 := by rw [hw2]; exact (Below.refl _ _).alloc (Nat.le_refl _) _
      have B2 := Lib.hid (show Below v1.heap.size v1 w2 from Below.trans B1.out (Below.mono st2 (Below.size B1.out)))
      have GH_2 := Lib.hid ((Below.block st2 H LH_1.out).trans GH_1.out)
      have LH_2 := Lib.hid (Nat.lt_of_lt_of_le LH_1.out (Below.size st2))
      have GK_2 := Lib.hid ((Below.block st2 K LK_1.out).trans GK_1.out)
      have LK_2 := Lib.hid (Nat.lt_of_lt_of_le LK_1.out (Below.size st2))
      have GW_2 := Lib.hid (show w2.heap[W]? = some (.cells (dV Z) 23 (0, 0)) by rw [hw2, hW]; exact heap_alloc_new _ _)
      have LW_2 := Lib.hid (lt_of_heap GW_2.out)
      have HW := Lib.hid hW
      have Hw2 := Lib.hid hw2
      clear hW hw2 st2
      go_wp2_with fail
      rw [ZT.out, ← HW.out, ← Hw2.out]
      refine (IL.out w2 B2.out).mono ?_
      rintro e w3 ⟨al, cl, rfl, hol, hb3⟩
      have B3 := Lib.hid (show Below v1.heap.size v1 w3 from Below.trans B2.out (Below.mono hb3 (Below.size B2.out)))
      have GH_3 := Lib.hid ((Below.block hb3 H LH_2.out).trans GH_2.out)
      have LH_3 := Lib.hid (Nat.lt_of_lt_of_le LH_2.out (Below.size hb3))
      have GK_3 := Lib.hid ((Below.block hb3 K LK_2.out).trans GK_2.out)
      have LK_3 := Lib.hid (Nat.lt_of_lt_of_le LK_2.out (Below.size hb3))
      have GW_3 := Lib.hid ((Below.block hb3 W LW_2.out).trans GW_2.out)
      have LW_3 := Lib.hid (Nat.lt_of_lt_of_le LW_2.out (Below.size hb3))
      have LV_3 := Lib.hid (Rd.of_own hol)
      have HOC := Lib.hid (own_cappW hol)
      clear hol
      clear hb3
      go_wp2_with fail
      refine (RC.out w3 al cl _ HOC.out.1 HOC.out.2 LV_3.out).mono ?_
      rintro e w4 ⟨rfl, hb4⟩
      have B4 := Lib.hid (show Below v1.heap.size v1 w4 from Below.trans B3.out (Below.mono hb4 (Below.size B3.out)))
      have GH_4 := Lib.hid ((Below.block hb4 H LH_3.out).trans GH_3.out)
      have LH_4 := Lib.hid (Nat.lt_of_lt_of_le LH_3.out (Below.size hb4))
      have GK_4 := Lib.hid ((Below.block hb4 K LK_3.out).trans GK_3.out)
      have LK_4 := Lib.hid (Nat.lt_of_lt_of_le LK_3.out (Below.size hb4))
      have GW_4 := Lib.hid ((Below.block hb4 W LW_3.out).trans GW_3.out)
      have LW_4 := Lib.hid (Nat.lt_of_lt_of_le LW_3.out (Below.size hb4))
      have LV_4 := Lib.hid (LV_3.out.below hb4)
      clear hb4
      obtain ⟨w5, hw5⟩ : ∃ z, z = w4.setRow W (dV R) := ⟨_, rfl⟩
      have B5 := Lib.hid (show Below v1.heap.size v1 w5 by rw [hw5]; exact below_setRowW B4.out (by rw [HW.out]; exact Below.size B1.out) _)
      have sz5 : w5.heap.size = w4.heap.size := by rw [hw5]; exact setRow_size _ _ _
      have GH_5 := Lib.hid (show w5.heap[H]? = some (.cells (dV x3) 23 (0, 0)) by rw [hw5]; exact (_root_.Go.setRow_other _ _ _ _ (by rw [HW.out]; exact Nat.ne_of_lt LH_1.out)).trans GH_4.out)
      have LH_5 := Lib.hid (show H < w5.heap.size by rw [sz5]; exact LH_4.out)
      have GK_5 := Lib.hid (show w5.heap[K]? = some (.cells #[.int .i64 j5, .slice a5 x5.length c5, .slice b5 y5.length d5] 61 (0, 0)) by rw [hw5]; exact (_root_.Go.setRow_other _ _ _ _ (by rw [HW.out]; exact Nat.ne_of_lt LK_1.out)).trans GK_4.out)
      have LK_5 := Lib.hid (show K < w5.heap.size by rw [sz5]; exact LK_4.out)
      have GW_5 := Lib.hid (show w5.heap[W]? = some (.cells (dV R) 23 (0, 0)) by rw [hw5]; exact setRow_heap _ _ _ _ _ _ GW_4.out)
      have LW_5 := Lib.hid (show W < w5.heap.size by rw [sz5]; exact LW_4.out)
      have Hw5 := Lib.hid hw5
      clear hw5 sz5
      go_wp2_with (first
        | ((refine st_row rfl (.tmp 14) (.tmp 29) rfl W R RL.out (by rfl) (by rfl) (dV Z) (dV_size ZL.out) _ GW_4.out ?_); rw [← Hw5.out]))
      refine (SR.out w5 B5.out).mono ?_
      rintro e w6 ⟨rfl, hb6⟩
      have B6 := Lib.hid (show Below v1.heap.size v1 w6 from Below.trans B5.out (Below.mono hb6 (Below.size B5.out)))
      have GH_6 := Lib.hid ((Below.block hb6 H LH_5.out).trans GH_5.out)
      have LH_6 := Lib.hid (Nat.lt_of_lt_of_le LH_5.out (Below.size hb6))
      have GK_6 := Lib.hid ((Below.block hb6 K LK_5.out).trans GK_5.out)
      have LK_6 := Lib.hid (Nat.lt_of_lt_of_le LK_5.out (Below.size hb6))
      have GW_6 := Lib.hid ((Below.block hb6 W LW_5.out).trans GW_5.out)
      have LW_6 := Lib.hid (Nat.lt_of_lt_of_le LW_5.out (Below.size hb6))
      clear hb6
      obtain ⟨D, hD⟩ : ∃ z, z = w6.heap.size := ⟨_, rfl⟩
      obtain ⟨w7, hw7⟩ : ∃ z, z = w6.alloc (.cells (dV R) 23) := ⟨_, rfl⟩
      have st7 : Below w6.heap.size w6 w7 := by rw [hw7]; exact (Below.refl _ _).alloc (Nat.le_refl _) _
      have B7 := Lib.hid (show Below v1.heap.size v1 w7 from Below.trans B6.out (Below.mono st7 (Below.size B6.out)))
      have GH_7 := Lib.hid ((Below.block st7 H LH_6.out).trans GH_6.out)
      have LH_7 := Lib.hid (Nat.lt_of_lt_of_le LH_6.out (Below.size st7))
      have GK_7 := Lib.hid ((Below.block st7 K LK_6.out).trans GK_6.out)
      have LK_7 := Lib.hid (Nat.lt_of_lt_of_le LK_6.out (Below.size st7))
      have GW_7 := Lib.hid ((Below.block st7 W LW_6.out).trans GW_6.out)
      have LW_7 := Lib.hid (Nat.lt_of_lt_of_le LW_6.out (Below.size st7))
      have GD_7 := Lib.hid (show w7.heap[D]? = some (.cells (dV R) 23 (0, 0)) by rw [hw7, hD]; exact heap_alloc_new _ _)
      have LD_7 := Lib.hid (lt_of_heap GD_7.out)
      have HD := Lib.hid hD
      have Hw7 := Lib.hid hw7
      clear hD hw7 st7
      go_wp2_with (first
        | ((refine st_new rfl (.tmp 15) (.tmp 33) rfl R RL.out (by rfl) _ _ (by rfl) (by rfl) ?_); rw [← HD.out, ← Hw7.out]))
      refine (((Error_nil 0 true (by decide) w7).mono fun r w' h => (⟨h.1, by rw [← h.2]; exact Below.refl _ _⟩ : r = .returned (.bool true) ∧ Below w7.heap.size w7 w'))).mono ?_
      rintro e w8 ⟨rfl, hb8⟩
      have B8 := Lib.hid (show Below v1.heap.size v1 w8 from Below.trans B7.out (Below.mono hb8 (Below.size B7.out)))
      have GH_8 := Lib.hid ((Below.block hb8 H LH_7.out).trans GH_7.out)
      have LH_8 := Lib.hid (Nat.lt_of_lt_of_le LH_7.out (Below.size hb8))
      have GK_8 := Lib.hid ((Below.block hb8 K LK_7.out).trans GK_7.out)
      have LK_8 := Lib.hid (Nat.lt_of_lt_of_le LK_7.out (Below.size hb8))
      have GW_8 := Lib.hid ((Below.block hb8 W LW_7.out).trans GW_7.out)
      have LW_8 := Lib.hid (Nat.lt_of_lt_of_le LW_7.out (Below.size hb8))
      have GD_8 := Lib.hid ((Below.block hb8 D LD_7.out).trans GD_7.out)
      have LD_8 := Lib.hid (Nat.lt_of_lt_of_le LD_7.out (Below.size hb8))
      clear hb8
      obtain ⟨X, hX⟩ : ∃ z, z = w8.heap.size := ⟨_, rfl⟩
      obtain ⟨w9, hw9⟩ : ∃ z, z = w8.alloc (.cells #[.int .i64 0, .slice none 0 0, .slice none 0 0] 61) := ⟨_, rfl⟩
      have st9 : Below w8.heap.size w8 w9 := by rw [hw9]; exact (Below.refl _ _).alloc (Nat.le_refl _) _
      have B9 := Lib.hid (show Below v1.heap.size v1 w9 from Below.trans B8.out (Below.mono st9 (Below.size B8.out)))
      have GH_9 := Lib.hid ((Below.block st9 H LH_8.out).trans GH_8.out)
      have LH_9 := Lib.hid (Nat.lt_of_lt_of_le LH_8.out (Below.size st9))
      have GK_9 := Lib.hid ((Below.block st9 K LK_8.out).trans GK_8.out)
      have LK_9 := Lib.hid (Nat.lt_of_lt_of_le LK_8.out (Below.size st9))
      have GW_9 := Lib.hid ((Below.block st9 W LW_8.out).trans GW_8.out)
      have LW_9 := Lib.hid (Nat.lt_of_lt_of_le LW_8.out (Below.size st9))
      have GD_9 := Lib.hid ((Below.block st9 D LD_8.out).trans GD_8.out)
      have LD_9 := Lib.hid (Nat.lt_of_lt_of_le LD_8.out (Below.size st9))
      have GX_9 := Lib.hid (show w9.heap[X]? = some (.cells #[.int .i64 0, .slice none 0 0, .slice none 0 0] 61 (0, 0)) by rw [hw9, hX]; exact heap_alloc_new _ _)
      have LX_9 := Lib.hid (lt_of_heap GX_9.out)
      have HX := Lib.hid hX
      have Hw9 := Lib.hid hw9
      clear hX hw9 st9
      go_wp2_with (first
        | ((refine ld_digG rfl (.tmp 15) rfl (D) 0 (by rfl) R RL.out (range_of_row GD_8.out) ?_); simp only [Act.put, List.setIfInBounds_toArray, List.set_cons_zero, List.set_cons_succ])
        | ((refine ld_digG rfl (.tmp 14) rfl (W) 0 (by rfl) R RL.out (range_of_row GW_8.out) ?_); simp only [Act.put, List.setIfInBounds_toArray, List.set_cons_zero, List.set_cons_succ])
        | ((refine neq_digG rfl (.tmp 41) (.tmp 42) _ rfl R R (by rfl) (by rfl) RL.out RL.out ?_); rw [REQ.out]; simp only [Act.put, List.setIfInBounds_toArray, List.set_cons_zero, List.set_cons_succ]))
      rw [← HX.out, ← Hw9.out]
      refine (RO_.out w9 B9.out).mono ?_
      rintro e w10 ⟨⟨ia, ic, pa, pc, vs, rfl, hri, hrp, hps⟩, hb10⟩
      have B10 := Lib.hid (show Below v1.heap.size v1 w10 from Below.trans B9.out (Below.mono hb10 (Below.size B9.out)))
      have GH_10 := Lib.hid ((Below.block hb10 H LH_9.out).trans GH_9.out)
      have LH_10 := Lib.hid (Nat.lt_of_lt_of_le LH_9.out (Below.size hb10))
      have GK_10 := Lib.hid ((Below.block hb10 K LK_9.out).trans GK_9.out)
      have LK_10 := Lib.hid (Nat.lt_of_lt_of_le LK_9.out (Below.size hb10))
      have GW_10 := Lib.hid ((Below.block hb10 W LW_9.out).trans GW_9.out)
      have LW_10 := Lib.hid (Nat.lt_of_lt_of_le LW_9.out (Below.size hb10))
      have GD_10 := Lib.hid ((Below.block hb10 D LD_9.out).trans GD_9.out)
      have LD_10 := Lib.hid (Nat.lt_of_lt_of_le LD_9.out (Below.size hb10))
      have GX_10 := Lib.hid ((Below.block hb10 X LX_9.out).trans GX_9.out)
      have LX_10 := Lib.hid (Nat.lt_of_lt_of_le LX_9.out (Below.size hb10))
      have RI_10 := Lib.hid hri
      have RP_10 := Lib.hid hrp
      have PS_10 := Lib.hid hps
      clear hri hrp hps
      clear hb10
      obtain ⟨w11, hw11⟩ : ∃ z, z = w10.setRow X #[.int .i64 (f : Int), .slice ia (itemsF x0 f t).length ic, .slice pa (pathsF x0 f t).length pc] := ⟨_, rfl⟩
      have B11 := Lib.hid (show Below v1.heap.size v1 w11 by rw [hw11]; exact below_setRowW B10.out (by rw [HX.out]; exact Below.size B8.out) _)
      have sz11 : w11.heap.size = w10.heap.size := by rw [hw11]; exact setRow_size _ _ _
      have GH_11 := Lib.hid (show w11.heap[H]? = some (.cells (dV x3) 23 (0, 0)) by rw [hw11]; exact (_root_.Go.setRow_other _ _ _ _ (by rw [HX.out]; exact Nat.ne_of_lt LH_8.out)).trans GH_10.out)
      have LH_11 := Lib.hid (show H < w11.heap.size by rw [sz11]; exact LH_10.out)
      have GK_11 := Lib.hid (show w11.heap[K]? = some (.cells #[.int .i64 j5, .slice a5 x5.length c5, .slice b5 y5.length d5] 61 (0, 0)) by rw [hw11]; exact (_root_.Go.setRow_other _ _ _ _ (by rw [HX.out]; exact Nat.ne_of_lt LK_8.out)).trans GK_10.out)
      have LK_11 := Lib.hid (show K < w11.heap.size by rw [sz11]; exact LK_10.out)
      have GX_11 := Lib.hid (show w11.heap[X]? = some (.cells #[.int .i64 (f : Int), .slice ia (itemsF x0 f t).length ic, .slice pa (pathsF x0 f t).length pc] 61 (0, 0)) by rw [hw11]; exact setRow_heap _ _ _ _ _ _ GX_10.out)
      have LX_11 := Lib.hid (show X < w11.heap.size by rw [sz11]; exact LX_10.out)
      have Hw11 := Lib.hid hw11
      clear hw11 sz11
      have FARX := Lib.hid (show ∀ b, b ≠ X → w11.heap[b]? = w10.heap[b]? from fun b hb => by rw [Hw11.out]; exact _root_.Go.setRow_other _ _ _ _ hb)
      have RI_11 := Lib.hid (RI_10.out.other_type GX_10.out (by decide) FARX.out)
      have RP_11 := Lib.hid (RP_10.out.other_type GX_10.out (by decide) FARX.out)
      have PS_11 := Lib.hid (PS_10.out.map fun _ _ hr => hr.other_type GX_10.out (by decide) FARX.out).at_
      clear FARX
      go_wp2_with (first
        | ((refine wpList_store_row rfl _ (.tmp 18) (.tmp 57) rfl X #[.int .i64 (f : Int), .slice ia (itemsF x0 f t).length ic, .slice pa (pathsF x0 f t).length pc] (by rfl) (by rfl) _ #[.int .i64 0, .slice none 0 0, .slice none 0 0] GX_10.out info_rngF rfl (rng_one _ _ _ rfl rfl rfl) ?_); rw [← Hw11.out]))
      refine (FG.out w11 B11.out).mono ?_
      rintro e w12 ⟨⟨ib, jc, je, qa, qc, qe, us, rfl, hri, hrp, hps⟩, hb12⟩
      have B12 := Lib.hid (show Below v1.heap.size v1 w12 from Below.trans B11.out (Below.mono hb12 (Below.size B11.out)))
      have GH_12 := Lib.hid ((Below.block hb12 H LH_11.out).trans GH_11.out)
      have LH_12 := Lib.hid (Nat.lt_of_lt_of_le LH_11.out (Below.size hb12))
      have GK_12 := Lib.hid ((Below.block hb12 K LK_11.out).trans GK_11.out)
      have LK_12 := Lib.hid (Nat.lt_of_lt_of_le LK_11.out (Below.size hb12))
      have GX_12 := Lib.hid ((Below.block hb12 X LX_11.out).trans GX_11.out)
      have LX_12 := Lib.hid (Nat.lt_of_lt_of_le LX_11.out (Below.size hb12))
      have RI_12 := Lib.hid (RI_11.out.below hb12)
      have RP_12 := Lib.hid (RP_11.out.below hb12)
      have PS_12 := Lib.hid (PS_11.out.below hb12)
      have SI_12 := Lib.hid hri
      have SP_12 := Lib.hid hrp
      have SS_12 := Lib.hid hps
      clear hri hrp hps
      clear hb12
      obtain ⟨Y, hY⟩ : ∃ z, z = w12.heap.size := ⟨_, rfl⟩
      obtain ⟨w13, hw13⟩ : ∃ z, z = w12.alloc (.cells #[.int .i64 (f : Int), .slice ib (itemsF x0 f t).length jc, .slice qa (pathsF x0 f t).length qc] 61) := ⟨_, rfl⟩
      have st13 : Below w12.heap.size w12 w13 := by rw [hw13]; exact (Below.refl _ _).alloc (Nat.le_refl _) _
      have B13 := Lib.hid (show Below v1.heap.size v1 w13 from Below.trans B12.out (Below.mono st13 (Below.size B12.out)))
      have GH_13 := Lib.hid ((Below.block st13 H LH_12.out).trans GH_12.out)
      have LH_13 := Lib.hid (Nat.lt_of_lt_of_le LH_12.out (Below.size st13))
      have GK_13 := Lib.hid ((Below.block st13 K LK_12.out).trans GK_12.out)
      have LK_13 := Lib.hid (Nat.lt_of_lt_of_le LK_12.out (Below.size st13))
      have GX_13 := Lib.hid ((Below.block st13 X LX_12.out).trans GX_12.out)
      have LX_13 := Lib.hid (Nat.lt_of_lt_of_le LX_12.out (Below.size st13))
      have RI_13 := Lib.hid (RI_12.out.below st13)
      have RP_13 := Lib.hid (RP_12.out.below st13)
      have PS_13 := Lib.hid (PS_12.out.below st13)
      have SI_13 := Lib.hid (SI_12.out.below st13)
      have SP_13 := Lib.hid (SP_12.out.below st13)
      have SS_13 := Lib.hid (SS_12.out.below st13)
      have GY_13 := Lib.hid (show w13.heap[Y]? = some (.cells #[.int .i64 (f : Int), .slice ib (itemsF x0 f t).length jc, .slice qa (pathsF x0 f t).length qc] 61 (0, 0)) by rw [hw13, hY]; exact heap_alloc_new _ _)
      have LY_13 := Lib.hid (lt_of_heap GY_13.out)
      have HY := Lib.hid hY
      have Hw13 := Lib.hid hw13
      clear hY hw13 st13
      go_wp2_with (first
        | ((refine wpList_store_row rfl _ (.tmp 19) (.tmp 63) rfl w12.heap.size #[.int .i64 (f : Int), .slice ib (itemsF x0 f t).length jc, .slice qa (pathsF x0 f t).length qc] (by rfl) (by rfl) _ #[.int .i64 0, .slice none 0 0, .slice none 0 0] (heap_alloc_new w12 _) info_rngF rfl (rng_one _ _ _ rfl rfl rfl) ?_); rw [World.setRow_alloc_new, ← HY.out, ← Hw13.out]))
      refine (((Error_nil 0 true (by decide) w13).mono fun r w' h => (⟨h.1, by rw [← h.2]; exact Below.refl _ _⟩ : r = .returned (.bool true) ∧ Below w13.heap.size w13 w'))).mono ?_
      rintro e w14 ⟨rfl, hb14⟩
      have B14 := Lib.hid (show Below v1.heap.size v1 w14 from Below.trans B13.out (Below.mono hb14 (Below.size B13.out)))
      have GH_14 := Lib.hid ((Below.block hb14 H LH_13.out).trans GH_13.out)
      have LH_14 := Lib.hid (Nat.lt_of_lt_of_le LH_13.out (Below.size hb14))
      have GK_14 := Lib.hid ((Below.block hb14 K LK_13.out).trans GK_13.out)
      have LK_14 := Lib.hid (Nat.lt_of_lt_of_le LK_13.out (Below.size hb14))
      have GX_14 := Lib.hid ((Below.block hb14 X LX_13.out).trans GX_13.out)
      have LX_14 := Lib.hid (Nat.lt_of_lt_of_le LX_13.out (Below.size hb14))
      have GY_14 := Lib.hid ((Below.block hb14 Y LY_13.out).trans GY_13.out)
      have LY_14 := Lib.hid (Nat.lt_of_lt_of_le LY_13.out (Below.size hb14))
      have RI_14 := Lib.hid (RI_13.out.below hb14)
      have RP_14 := Lib.hid (RP_13.out.below hb14)
      have PS_14 := Lib.hid (PS_13.out.below hb14)
      have SI_14 := Lib.hid (SI_13.out.below hb14)
      have SP_14 := Lib.hid (SP_13.out.below hb14)
      have SS_14 := Lib.hid (SS_13.out.below hb14)
      clear hb14
      go_wp2_with (first
        | ((refine wpList_load_row rfl _ (.tmp 19) rfl Y (by rfl) _ _ _ _ GY_14.out Tryd.underlying61 rfl info_rngF ?_); simp only [Act.put, List.setIfInBounds_toArray, List.set_cons_zero, List.set_cons_succ])
        | ((refine wpList_load_row rfl _ (.tmp 18) rfl X (by rfl) _ _ _ _ GX_14.out Tryd.underlying61 rfl info_rngF ?_); simp only [Act.put, List.setIfInBounds_toArray, List.set_cons_zero, List.set_cons_succ]))
      refine (RG.out ib jc _ qa qc _ us ia ic _ pa pc _ vs w14 SI_14.out SP_14.out SS_14.out RI_14.out RP_14.out PS_14.out).mono ?_
      rintro e w15 ⟨rfl, hb15⟩
      have B15 := Lib.hid (show Below v1.heap.size v1 w15 from Below.trans B14.out (Below.mono hb15 (Below.size B14.out)))
      have GH_15 := Lib.hid ((Below.block hb15 H LH_14.out).trans GH_14.out)
      have LH_15 := Lib.hid (Nat.lt_of_lt_of_le LH_14.out (Below.size hb15))
      have GK_15 := Lib.hid ((Below.block hb15 K LK_14.out).trans GK_14.out)
      have LK_15 := Lib.hid (Nat.lt_of_lt_of_le LK_14.out (Below.size hb15))
      have GX_15 := Lib.hid ((Below.block hb15 X LX_14.out).trans GX_14.out)
      have LX_15 := Lib.hid (Nat.lt_of_lt_of_le LX_14.out (Below.size hb15))
      have GY_15 := Lib.hid ((Below.block hb15 Y LY_14.out).trans GY_14.out)
      have LY_15 := Lib.hid (Nat.lt_of_lt_of_le LY_14.out (Below.size hb15))
      have RI_15 := Lib.hid (RI_14.out.below hb15)
      have RP_15 := Lib.hid (RP_14.out.below hb15)
      have PS_15 := Lib.hid (PS_14.out.below hb15)
      have SI_15 := Lib.hid (SI_14.out.below hb15)
      have SP_15 := Lib.hid (SP_14.out.below hb15)
      have SS_15 := Lib.hid (SS_14.out.below hb15)
      clear hb15
      have hlk := HLK.out
      have n5 := HN5.out
      have q5 := HQ5.out
      have hab : ¬ a2 < a1 := by have := HABP.out; omega
      have y1 : decide (a2 < a1) = false := decide_eq_false hab
      by_cases hn0 : a4 < 0
      · have y2 : decide (a4 < 0) = true := decide_eq_true hn0
        have hF : lookF x3 a4 a1 a2 j5 x5 y5 = 2 := by unfold lookF; rw [if_pos (.inr (.inl hn0))]
        have hlk2 := fun w' (hb : Below v1.heap.size v1 w') => (hlk w' hb).mono fun e w'' h => (⟨by rw [h.1 (by rw [hF]; decide), hF], h.2.2⟩ : e = .returned (.tuple #[.slice none 0 0, .iface 25 (.int .i64 2)]) ∧ Below w'.heap.size w' w'')
        have LK := Lib.hid hlk2
        clear hlk hlk2 hF hn0 n5 q5 hab
        obtain ⟨k0_, k1_, k2_⟩ := rng_cells GK_15.out
        go_wp2_with (first
          | ((refine ld_digG rfl (.tmp 9) rfl (H) 0 (by rfl) x3 N3.out (range_of_row GH_15.out) ?_); simp only [Act.put, List.setIfInBounds_toArray, List.set_cons_zero, List.set_cons_succ])
          | ((refine wpList_load_row rfl _ (.tmp 11) rfl K (by rfl) _ _ _ _ GK_15.out Tryd.underlying61 rfl info_rngF ?_); simp only [Act.put, List.setIfInBounds_toArray, List.set_cons_zero, List.set_cons_succ]))
        refine (LK.out w15 B15.out).mono ?_
        rintro e w16 ⟨rfl, hb16⟩
        have B16 := Lib.hid (show Below v1.heap.size v1 w16 from Below.trans B15.out (Below.mono hb16 (Below.size B15.out)))
        have GH_16 := Lib.hid ((Below.block hb16 H LH_15.out).trans GH_15.out)
        have LH_16 := Lib.hid (Nat.lt_of_lt_of_le LH_15.out (Below.size hb16))
        have GK_16 := Lib.hid ((Below.block hb16 K LK_15.out).trans GK_15.out)
        have LK_16 := Lib.hid (Nat.lt_of_lt_of_le LK_15.out (Below.size hb16))
        try clear k0_ k1_ k2_
        clear hb16
        go_wp2_with fail
        refine (Error_err (2) (2) true (by simp) w16 (HG.out.at_ B16.out)).mono ?_
        rintro e w17 ⟨rfl, hb17⟩
        have B17 := Lib.hid (show Below v1.heap.size v1 w17 from Below.trans B16.out (Below.mono hb17 (Below.size B16.out)))
        have GH_17 := Lib.hid ((Below.block hb17 H LH_16.out).trans GH_16.out)
        have LH_17 := Lib.hid (Nat.lt_of_lt_of_le LH_16.out (Below.size hb17))
        have GK_17 := Lib.hid ((Below.block hb17 K LK_16.out).trans GK_16.out)
        have LK_17 := Lib.hid (Nat.lt_of_lt_of_le LK_16.out (Below.size hb17))
        clear hb17
        go_wp2_with fail
        refine (E0.out w17).mono ?_
        rintro e w18 ⟨rfl, hb18⟩
        have B18 := Lib.hid (show Below v1.heap.size v1 w18 from Below.trans B17.out (Below.mono hb18 (Below.size B17.out)))
        have GH_18 := Lib.hid ((Below.block hb18 H LH_17.out).trans GH_17.out)
        have LH_18 := Lib.hid (Nat.lt_of_lt_of_le LH_17.out (Below.size hb18))
        have GK_18 := Lib.hid ((Below.block hb18 K LK_17.out).trans GK_17.out)
        have LK_18 := Lib.hid (Nat.lt_of_lt_of_le LK_17.out (Below.size hb18))
        clear hb18
        go_wp2_with fail
        refine (Spanned_calls w18 (RO.out.at_ B18.out)).mono ?_
        rintro e w19 ⟨rfl, hb19⟩
        have B19 := Lib.hid (show Below v1.heap.size v1 w19 from Below.trans B18.out (Below.mono hb19 (Below.size B18.out)))
        have GH_19 := Lib.hid ((Below.block hb19 H LH_18.out).trans GH_18.out)
        have LH_19 := Lib.hid (Nat.lt_of_lt_of_le LH_18.out (Below.size hb19))
        have GK_19 := Lib.hid ((Below.block hb19 K LK_18.out).trans GK_18.out)
        have LK_19 := Lib.hid (Nat.lt_of_lt_of_le LK_18.out (Below.size hb19))
        clear hb19
        go_wp2_with fail
        go_ret
        exact ⟨rfl, BW.out.trans (Below.mono B19.out BW.out.size)⟩
      · have y2 : decide (a4 < 0) = false := decide_eq_false hn0
        by_cases hnn : 256 < a4
        · have y3 : decide (256 < a4) = true := decide_eq_true hnn
          have hF : lookF x3 a4 a1 a2 j5 x5 y5 = 2 := by unfold lookF; rw [if_pos (.inr (.inr hnn))]
          have hlk2 := fun w' (hb : Below v1.heap.size v1 w') => (hlk w' hb).mono fun e w'' h => (⟨by rw [h.1 (by rw [hF]; decide), hF], h.2.2⟩ : e = .returned (.tuple #[.slice none 0 0, .iface 25 (.int .i64 2)]) ∧ Below w'.heap.size w' w'')
          have LK := Lib.hid hlk2
          clear hlk hlk2 hF hn0 hnn n5 q5 hab
          obtain ⟨k0_, k1_, k2_⟩ := rng_cells GK_15.out
          go_wp2_with (first
            | ((refine ld_digG rfl (.tmp 9) rfl (H) 0 (by rfl) x3 N3.out (range_of_row GH_15.out) ?_); simp only [Act.put, List.setIfInBounds_toArray, List.set_cons_zero, List.set_cons_succ])
            | ((refine wpList_load_row rfl _ (.tmp 11) rfl K (by rfl) _ _ _ _ GK_15.out Tryd.underlying61 rfl info_rngF ?_); simp only [Act.put, List.setIfInBounds_toArray, List.set_cons_zero, List.set_cons_succ]))
          refine (LK.out w15 B15.out).mono ?_
          rintro e w16 ⟨rfl, hb16⟩
          have B16 := Lib.hid (show Below v1.heap.size v1 w16 from Below.trans B15.out (Below.mono hb16 (Below.size B15.out)))
          have GH_16 := Lib.hid ((Below.block hb16 H LH_15.out).trans GH_15.out)
          have LH_16 := Lib.hid (Nat.lt_of_lt_of_le LH_15.out (Below.size hb16))
          have GK_16 := Lib.hid ((Below.block hb16 K LK_15.out).trans GK_15.out)
          have LK_16 := Lib.hid (Nat.lt_of_lt_of_le LK_15.out (Below.size hb16))
          try clear k0_ k1_ k2_
          clear hb16
          go_wp2_with fail
          refine (Error_err (2) (2) true (by simp) w16 (HG.out.at_ B16.out)).mono ?_
          rintro e w17 ⟨rfl, hb17⟩
          have B17 := Lib.hid (show Below v1.heap.size v1 w17 from Below.trans B16.out (Below.mono hb17 (Below.size B16.out)))
          have GH_17 := Lib.hid ((Below.block hb17 H LH_16.out).trans GH_16.out)
          have LH_17 := Lib.hid (Nat.lt_of_lt_of_le LH_16.out (Below.size hb17))
          have GK_17 := Lib.hid ((Below.block hb17 K LK_16.out).trans GK_16.out)
          have LK_17 := Lib.hid (Nat.lt_of_lt_of_le LK_16.out (Below.size hb17))
          clear hb17
          go_wp2_with fail
          refine (E0.out w17).mono ?_
          rintro e w18 ⟨rfl, hb18⟩
          have B18 := Lib.hid (show Below v1.heap.size v1 w18 from Below.trans B17.out (Below.mono hb18 (Below.size B17.out)))
          have GH_18 := Lib.hid ((Below.block hb18 H LH_17.out).trans GH_17.out)
          have LH_18 := Lib.hid (Nat.lt_of_lt_of_le LH_17.out (Below.size hb18))
          have GK_18 := Lib.hid ((Below.block hb18 K LK_17.out).trans GK_17.out)
          have LK_18 := Lib.hid (Nat.lt_of_lt_of_le LK_17.out (Below.size hb18))
          clear hb18
          go_wp2_with fail
          refine (Spanned_calls w18 (RO.out.at_ B18.out)).mono ?_
          rintro e w19 ⟨rfl, hb19⟩
          have B19 := Lib.hid (show Below v1.heap.size v1 w19 from Below.trans B18.out (Below.mono hb19 (Below.size B18.out)))
          have GH_19 := Lib.hid ((Below.block hb19 H LH_18.out).trans GH_18.out)
          have LH_19 := Lib.hid (Nat.lt_of_lt_of_le LH_18.out (Below.size hb19))
          have GK_19 := Lib.hid ((Below.block hb19 K LK_18.out).trans GK_18.out)
          have LK_19 := Lib.hid (Nat.lt_of_lt_of_le LK_18.out (Below.size hb19))
          clear hb19
          go_wp2_with fail
          go_ret
          exact ⟨rfl, BW.out.trans (Below.mono B19.out BW.out.size)⟩
        · have y3 : decide (256 < a4) = false := decide_eq_false hnn
          by_cases hpl : y5.length = x5.length
          · have y4 : ((y5.length : Int) != (x5.length : Int)) = false := by rw [hpl]; simp
            have y5_ : (y5.length != x5.length) = false := by rw [hpl]; simp
            obtain ⟨n, hn⟩ : ∃ n : Nat, a4 = (n : Int) := ⟨a4.toNat, by omega⟩
            subst hn
            have hls := fun w' (hb : Below v1.heap.size v1 w') => Looks_calls x3 n3 n (by omega) a1 a2 j5 h5 x5 n5 a5 c5 e5 (by omega) y5 hpl v5 b5 d5 f5 q5 w' (R5.out.below hb) (S5.out.below hb) (P5.out.below hb)
            by_cases hB : fitsB x3 n a1 a2 j5 x5 y5 = true
            · rw [hB] at hls
              have LS := Lib.hid hls
              have hF : lookF x3 (n : Int) a1 a2 j5 x5 y5 = 0 := by unfold lookF; rw [if_neg (by omega), if_neg (by rw [hpl]; simp), if_pos (by rw [Int.toNat_natCast]; exact hB)]
              have hll := fitsB_len hpl hB
              obtain ⟨J, hJ⟩ : ∃ J, J = withinE x5 a1 a2 := ⟨_, rfl⟩
              rw [hF, ← hJ] at hlk
              have hlk2 := fun w' (hb : Below v1.heap.size v1 w') => (hlk w' hb).mono fun e w'' h => (⟨h.2.1 rfl, h.2.2⟩ : (∃ a c e', e = .returned (.tuple #[.slice a J.length c, .nilIface]) ∧ Rd w'' a e' (cellsE J)) ∧ Below w'.heap.size w' w'')
              have LK := Lib.hid hlk2
              have hwc := fun w' (hb : Below v1.heap.size v1 w') => Within_calls x5 n5 a5 c5 e5 a1 a2 w' (R5.out.below hb) (by omega)
              rw [← hJ] at hwc
              have WC := Lib.hid hwc
              have hJe : ∀ e ∈ J, e.val.length = 32 := by rw [hJ]; exact fun e he => (n5 e (List.mem_filter.1 he).1).1
              have hJl : J.length ≤ 9223372036854775807 := by rw [hJ]; exact Nat.le_trans (List.length_filter_le _ _) (by omega)
              have hec := fun w' ag cg eg aw cw ew (hr1 : Rd w' ag eg (cellsE J)) (hr2 : Rd w' aw ew (cellsE J)) => (Entries_calls J J hJe hJe ag cg eg aw cw ew w' hr1 hr2 hJl).mono fun e w'' h => (⟨by rw [h.1, decide_eq_true rfl], by obtain ⟨n, hn⟩ := h.2; rw [hn]; exact below_drewN (Below.refl _ _) n⟩ : e = .returned (.bool true) ∧ Below w'.heap.size w' w'')
              have EC := Lib.hid hec
              clear hlk hlk2 hls hF hB hll hJ hwc hJe hJl hec hpl hn0 hnn n5 q5 hab
              obtain ⟨k0_, k1_, k2_⟩ := rng_cells GK_15.out
              go_wp2_with (first
                | ((refine ld_digG rfl (.tmp 9) rfl (H) 0 (by rfl) x3 N3.out (range_of_row GH_15.out) ?_); simp only [Act.put, List.setIfInBounds_toArray, List.set_cons_zero, List.set_cons_succ])
                | ((refine wpList_load_row rfl _ (.tmp 11) rfl K (by rfl) _ _ _ _ GK_15.out Tryd.underlying61 rfl info_rngF ?_); simp only [Act.put, List.setIfInBounds_toArray, List.set_cons_zero, List.set_cons_succ]))
              refine (LS.out w15 B15.out).mono ?_
              rintro e w16 ⟨rfl, hb16⟩
              have B16 := Lib.hid (show Below v1.heap.size v1 w16 from Below.trans B15.out (Below.mono hb16 (Below.size B15.out)))
              have GH_16 := Lib.hid ((Below.block hb16 H LH_15.out).trans GH_15.out)
              have LH_16 := Lib.hid (Nat.lt_of_lt_of_le LH_15.out (Below.size hb16))
              have GK_16 := Lib.hid ((Below.block hb16 K LK_15.out).trans GK_15.out)
              have LK_16 := Lib.hid (Nat.lt_of_lt_of_le LK_15.out (Below.size hb16))
              clear k0_ k1_ k2_
              clear hb16
              obtain ⟨k0_, k1_, k2_⟩ := rng_cells GK_16.out
              go_wp2_with fail
              refine (WC.out w16 B16.out).mono ?_
              rintro e w17 ⟨aw, cw, rfl, how, hb17⟩
              have B17 := Lib.hid (show Below v1.heap.size v1 w17 from Below.trans B16.out (Below.mono hb17 (Below.size B16.out)))
              have GH_17 := Lib.hid ((Below.block hb17 H LH_16.out).trans GH_16.out)
              have LH_17 := Lib.hid (Nat.lt_of_lt_of_le LH_16.out (Below.size hb17))
              have GK_17 := Lib.hid ((Below.block hb17 K LK_16.out).trans GK_16.out)
              have LK_17 := Lib.hid (Nat.lt_of_lt_of_le LK_16.out (Below.size hb17))
              clear k0_ k1_ k2_
              have RW_17 := Lib.hid (Rd.of_own how)
              clear how
              clear hb17
              go_wp2_with (first
                | ((refine ld_digG rfl (.tmp 9) rfl (H) 0 (by rfl) x3 N3.out (range_of_row GH_17.out) ?_); simp only [Act.put, List.setIfInBounds_toArray, List.set_cons_zero, List.set_cons_succ])
                | ((refine wpList_load_row rfl _ (.tmp 11) rfl K (by rfl) _ _ _ _ GK_17.out Tryd.underlying61 rfl info_rngF ?_); simp only [Act.put, List.setIfInBounds_toArray, List.set_cons_zero, List.set_cons_succ]))
              refine (LK.out w17 B17.out).mono ?_
              rintro e w18 ⟨⟨ag, cg, eg, rfl, hrg⟩, hb18⟩
              have B18 := Lib.hid (show Below v1.heap.size v1 w18 from Below.trans B17.out (Below.mono hb18 (Below.size B17.out)))
              have GH_18 := Lib.hid ((Below.block hb18 H LH_17.out).trans GH_17.out)
              have LH_18 := Lib.hid (Nat.lt_of_lt_of_le LH_17.out (Below.size hb18))
              have GK_18 := Lib.hid ((Below.block hb18 K LK_17.out).trans GK_17.out)
              have LK_18 := Lib.hid (Nat.lt_of_lt_of_le LK_17.out (Below.size hb18))
              have RW_18 := Lib.hid (RW_17.out.below hb18)
              have RG_18 := Lib.hid hrg
              clear hrg
              clear hb18
              go_wp2_with fail
              refine (((Error_nil 0 true (by decide) w18).mono fun r w' h => (⟨h.1, by rw [← h.2]; exact Below.refl _ _⟩ : r = .returned (.bool true) ∧ Below w18.heap.size w18 w'))).mono ?_
              rintro e w19 ⟨rfl, hb19⟩
              have B19 := Lib.hid (show Below v1.heap.size v1 w19 from Below.trans B18.out (Below.mono hb19 (Below.size B18.out)))
              have GH_19 := Lib.hid ((Below.block hb19 H LH_18.out).trans GH_18.out)
              have LH_19 := Lib.hid (Nat.lt_of_lt_of_le LH_18.out (Below.size hb19))
              have GK_19 := Lib.hid ((Below.block hb19 K LK_18.out).trans GK_18.out)
              have LK_19 := Lib.hid (Nat.lt_of_lt_of_le LK_18.out (Below.size hb19))
              have RW_19 := Lib.hid (RW_18.out.below hb19)
              have RG_19 := Lib.hid (RG_18.out.below hb19)
              clear hb19
              go_wp2_with fail
              refine (EC.out w19 ag cg eg aw cw _ RG_19.out RW_19.out).mono ?_
              rintro e w20 ⟨rfl, hb20⟩
              have B20 := Lib.hid (show Below v1.heap.size v1 w20 from Below.trans B19.out (Below.mono hb20 (Below.size B19.out)))
              have GH_20 := Lib.hid ((Below.block hb20 H LH_19.out).trans GH_19.out)
              have LH_20 := Lib.hid (Nat.lt_of_lt_of_le LH_19.out (Below.size hb20))
              have GK_20 := Lib.hid ((Below.block hb20 K LK_19.out).trans GK_19.out)
              have LK_20 := Lib.hid (Nat.lt_of_lt_of_le LK_19.out (Below.size hb20))
              have RW_20 := Lib.hid (RW_19.out.below hb20)
              have RG_20 := Lib.hid (RG_19.out.below hb20)
              clear hb20
              go_wp2_with fail
              refine (Spanned_calls w20 (RO.out.at_ B20.out)).mono ?_
              rintro e w21 ⟨rfl, hb21⟩
              have B21 := Lib.hid (show Below v1.heap.size v1 w21 from Below.trans B20.out (Below.mono hb21 (Below.size B20.out)))
              have GH_21 := Lib.hid ((Below.block hb21 H LH_20.out).trans GH_20.out)
              have LH_21 := Lib.hid (Nat.lt_of_lt_of_le LH_20.out (Below.size hb21))
              have GK_21 := Lib.hid ((Below.block hb21 K LK_20.out).trans GK_20.out)
              have LK_21 := Lib.hid (Nat.lt_of_lt_of_le LK_20.out (Below.size hb21))
              clear hb21
              go_wp2_with fail
              go_ret
              exact ⟨rfl, BW.out.trans (Below.mono B21.out BW.out.size)⟩
            · have hB2 : fitsB x3 n a1 a2 j5 x5 y5 = false := by simpa using hB
              rw [hB2] at hls
              have LS := Lib.hid hls
              have hF : lookF x3 (n : Int) a1 a2 j5 x5 y5 = 9 := by unfold lookF; rw [if_neg (by omega), if_neg (by rw [hpl]; simp), if_neg (by rw [Int.toNat_natCast]; exact hB)]
              have hlk2 := fun w' (hb : Below v1.heap.size v1 w') => (hlk w' hb).mono fun e w'' h => (⟨by rw [h.1 (by rw [hF]; decide), hF], h.2.2⟩ : e = .returned (.tuple #[.slice none 0 0, .iface 25 (.int .i64 9)]) ∧ Below w'.heap.size w' w'')
              have LK := Lib.hid hlk2
              clear hlk hlk2 hls hF hB hB2 hpl hn0 hnn n5 q5 hab
              obtain ⟨k0_, k1_, k2_⟩ := rng_cells GK_15.out
              go_wp2_with (first
                | ((refine ld_digG rfl (.tmp 9) rfl (H) 0 (by rfl) x3 N3.out (range_of_row GH_15.out) ?_); simp only [Act.put, List.setIfInBounds_toArray, List.set_cons_zero, List.set_cons_succ])
                | ((refine wpList_load_row rfl _ (.tmp 11) rfl K (by rfl) _ _ _ _ GK_15.out Tryd.underlying61 rfl info_rngF ?_); simp only [Act.put, List.setIfInBounds_toArray, List.set_cons_zero, List.set_cons_succ]))
              refine (LS.out w15 B15.out).mono ?_
              rintro e w16 ⟨rfl, hb16⟩
              have B16 := Lib.hid (show Below v1.heap.size v1 w16 from Below.trans B15.out (Below.mono hb16 (Below.size B15.out)))
              have GH_16 := Lib.hid ((Below.block hb16 H LH_15.out).trans GH_15.out)
              have LH_16 := Lib.hid (Nat.lt_of_lt_of_le LH_15.out (Below.size hb16))
              have GK_16 := Lib.hid ((Below.block hb16 K LK_15.out).trans GK_15.out)
              have LK_16 := Lib.hid (Nat.lt_of_lt_of_le LK_15.out (Below.size hb16))
              clear k0_ k1_ k2_
              clear hb16
              go_wp2_with (first
                | ((refine ld_digG rfl (.tmp 9) rfl (H) 0 (by rfl) x3 N3.out (range_of_row GH_16.out) ?_); simp only [Act.put, List.setIfInBounds_toArray, List.set_cons_zero, List.set_cons_succ])
                | ((refine wpList_load_row rfl _ (.tmp 11) rfl K (by rfl) _ _ _ _ GK_16.out Tryd.underlying61 rfl info_rngF ?_); simp only [Act.put, List.setIfInBounds_toArray, List.set_cons_zero, List.set_cons_succ]))
              refine (LK.out w16 B16.out).mono ?_
              rintro e w17 ⟨rfl, hb17⟩
              have B17 := Lib.hid (show Below v1.heap.size v1 w17 from Below.trans B16.out (Below.mono hb17 (Below.size B16.out)))
              have GH_17 := Lib.hid ((Below.block hb17 H LH_16.out).trans GH_16.out)
              have LH_17 := Lib.hid (Nat.lt_of_lt_of_le LH_16.out (Below.size hb17))
              have GK_17 := Lib.hid ((Below.block hb17 K LK_16.out).trans GK_16.out)
              have LK_17 := Lib.hid (Nat.lt_of_lt_of_le LK_16.out (Below.size hb17))
              try clear k0_ k1_ k2_
              clear hb17
              go_wp2_with fail
              refine (Error_err (9) (9) true (by simp) w17 (HG.out.at_ B17.out)).mono ?_
              rintro e w18 ⟨rfl, hb18⟩
              have B18 := Lib.hid (show Below v1.heap.size v1 w18 from Below.trans B17.out (Below.mono hb18 (Below.size B17.out)))
              have GH_18 := Lib.hid ((Below.block hb18 H LH_17.out).trans GH_17.out)
              have LH_18 := Lib.hid (Nat.lt_of_lt_of_le LH_17.out (Below.size hb18))
              have GK_18 := Lib.hid ((Below.block hb18 K LK_17.out).trans GK_17.out)
              have LK_18 := Lib.hid (Nat.lt_of_lt_of_le LK_17.out (Below.size hb18))
              clear hb18
              go_wp2_with fail
              refine (E0.out w18).mono ?_
              rintro e w19 ⟨rfl, hb19⟩
              have B19 := Lib.hid (show Below v1.heap.size v1 w19 from Below.trans B18.out (Below.mono hb19 (Below.size B18.out)))
              have GH_19 := Lib.hid ((Below.block hb19 H LH_18.out).trans GH_18.out)
              have LH_19 := Lib.hid (Nat.lt_of_lt_of_le LH_18.out (Below.size hb19))
              have GK_19 := Lib.hid ((Below.block hb19 K LK_18.out).trans GK_18.out)
              have LK_19 := Lib.hid (Nat.lt_of_lt_of_le LK_18.out (Below.size hb19))
              clear hb19
              go_wp2_with fail
              refine (Spanned_calls w19 (RO.out.at_ B19.out)).mono ?_
              rintro e w20 ⟨rfl, hb20⟩
              have B20 := Lib.hid (show Below v1.heap.size v1 w20 from Below.trans B19.out (Below.mono hb20 (Below.size B19.out)))
              have GH_20 := Lib.hid ((Below.block hb20 H LH_19.out).trans GH_19.out)
              have LH_20 := Lib.hid (Nat.lt_of_lt_of_le LH_19.out (Below.size hb20))
              have GK_20 := Lib.hid ((Below.block hb20 K LK_19.out).trans GK_19.out)
              have LK_20 := Lib.hid (Nat.lt_of_lt_of_le LK_19.out (Below.size hb20))
              clear hb20
              go_wp2_with fail
              go_ret
              exact ⟨rfl, BW.out.trans (Below.mono B20.out BW.out.size)⟩
          · have y4 : ((y5.length : Int) != (x5.length : Int)) = true := by rw [bne_iff_ne]; omega
            have y5_ : (y5.length != x5.length) = true := by rw [bne_iff_ne]; exact hpl
            have hF : lookF x3 a4 a1 a2 j5 x5 y5 = 3 := by unfold lookF; rw [if_neg (by omega), if_pos hpl]
            have hlk2 := fun w' (hb : Below v1.heap.size v1 w') => (hlk w' hb).mono fun e w'' h => (⟨by rw [h.1 (by rw [hF]; decide), hF], h.2.2⟩ : e = .returned (.tuple #[.slice none 0 0, .iface 25 (.int .i64 3)]) ∧ Below w'.heap.size w' w'')
            have LK := Lib.hid hlk2
            clear hlk hlk2 hF hpl hn0 hnn n5 q5 hab
            obtain ⟨k0_, k1_, k2_⟩ := rng_cells GK_15.out
            go_wp2_with (first
              | ((refine ld_digG rfl (.tmp 9) rfl (H) 0 (by rfl) x3 N3.out (range_of_row GH_15.out) ?_); simp only [Act.put, List.setIfInBounds_toArray, List.set_cons_zero, List.set_cons_succ])
              | ((refine wpList_load_row rfl _ (.tmp 11) rfl K (by rfl) _ _ _ _ GK_15.out Tryd.underlying61 rfl info_rngF ?_); simp only [Act.put, List.setIfInBounds_toArray, List.set_cons_zero, List.set_cons_succ]))
            refine (LK.out w15 B15.out).mono ?_
            rintro e w16 ⟨rfl, hb16⟩
            have B16 := Lib.hid (show Below v1.heap.size v1 w16 from Below.trans B15.out (Below.mono hb16 (Below.size B15.out)))
            have GH_16 := Lib.hid ((Below.block hb16 H LH_15.out).trans GH_15.out)
            have LH_16 := Lib.hid (Nat.lt_of_lt_of_le LH_15.out (Below.size hb16))
            have GK_16 := Lib.hid ((Below.block hb16 K LK_15.out).trans GK_15.out)
            have LK_16 := Lib.hid (Nat.lt_of_lt_of_le LK_15.out (Below.size hb16))
            try clear k0_ k1_ k2_
            clear hb16
            go_wp2_with fail
            refine (Error_err (3) (3) true (by simp) w16 (HG.out.at_ B16.out)).mono ?_
            rintro e w17 ⟨rfl, hb17⟩
            have B17 := Lib.hid (show Below v1.heap.size v1 w17 from Below.trans B16.out (Below.mono hb17 (Below.size B16.out)))
            have GH_17 := Lib.hid ((Below.block hb17 H LH_16.out).trans GH_16.out)
            have LH_17 := Lib.hid (Nat.lt_of_lt_of_le LH_16.out (Below.size hb17))
            have GK_17 := Lib.hid ((Below.block hb17 K LK_16.out).trans GK_16.out)
            have LK_17 := Lib.hid (Nat.lt_of_lt_of_le LK_16.out (Below.size hb17))
            clear hb17
            go_wp2_with fail
            refine (E0.out w17).mono ?_
            rintro e w18 ⟨rfl, hb18⟩
            have B18 := Lib.hid (show Below v1.heap.size v1 w18 from Below.trans B17.out (Below.mono hb18 (Below.size B17.out)))
            have GH_18 := Lib.hid ((Below.block hb18 H LH_17.out).trans GH_17.out)
            have LH_18 := Lib.hid (Nat.lt_of_lt_of_le LH_17.out (Below.size hb18))
            have GK_18 := Lib.hid ((Below.block hb18 K LK_17.out).trans GK_17.out)
            have LK_18 := Lib.hid (Nat.lt_of_lt_of_le LK_17.out (Below.size hb18))
            clear hb18
            go_wp2_with fail
            refine (Spanned_calls w18 (RO.out.at_ B18.out)).mono ?_
            rintro e w19 ⟨rfl, hb19⟩
            have B19 := Lib.hid (show Below v1.heap.size v1 w19 from Below.trans B18.out (Below.mono hb19 (Below.size B18.out)))
            have GH_19 := Lib.hid ((Below.block hb19 H LH_18.out).trans GH_18.out)
            have LH_19 := Lib.hid (Nat.lt_of_lt_of_le LH_18.out (Below.size hb19))
            have GK_19 := Lib.hid ((Below.block hb19 K LK_18.out).trans GK_18.out)
            have LK_19 := Lib.hid (Nat.lt_of_lt_of_le LK_18.out (Below.size hb19))
            clear hb19
            go_wp2_with fail
            go_ret
            exact ⟨rfl, BW.out.trans (Below.mono B19.out BW.out.size)⟩
  · obtain ⟨F1, hF1⟩ : ∃ F, F = listF x0 := ⟨_, rfl⟩
    rw [← hF1] at hfa
    have FA := Lib.hid hfa
    have hf1 : F1 ≠ 0 := by rw [hF1]; exact hf
    have z1 : (F1 == 0) = false := by rw [beq_eq_false_iff_ne]; exact hf1
    have hsb := fun w' (hb : Below v1.heap.size v1 w') => SRoot_bad x0 n0 F1 hF1.symm hf1 a0 c0 e0 (by omega) w' (R0.out.below hb) (RO.out.at_ hb)
    rw [← HZ.out] at hsb
    have SB := Lib.hid hsb
    have hfb := fun w' (hb : Below v1.heap.size v1 w') => (hfi w' hb).mono fun e w'' h => (⟨h.1 hf, h.2.2.2⟩ : e = .returned (.tuple #[.agg #[.int .i64 0, .slice none 0 0, .slice none 0 0], .iface 25 (.int .i64 (listF x0))]) ∧ Below w'.heap.size w' w'')
    rw [← hF1] at hfb
    have FB := Lib.hid hfb
    clear hfb hfi hfa hsb hF1 hf hf1
    have HLK := Lib.hid hlk
    have HN5 := Lib.hid n5
    have HQ5 := Lib.hid q5
    clear hlk n5 q5 n0 r0 r5 s5 p5 hro hg
    go_enter Tryd.func13, Tryd.ntmps13
    go_upto_region 1 with fail
    rw [← HH.out, ← HW0.out, ← HW1.out, ← HK.out]
    go_wp2_with fail
    refine (FA.out v1 (Below.refl v1.heap.size v1)).mono ?_
    rintro e w1 ⟨rfl, hb1⟩
    have B1 := Lib.hid (show Below v1.heap.size v1 w1 from Below.trans (Below.refl v1.heap.size v1) (Below.mono hb1 (Below.size (Below.refl v1.heap.size v1))))
    have GH_1 := Lib.hid ((Below.block hb1 H LH_0.out).trans GH_0.out)
    have LH_1 := Lib.hid (Nat.lt_of_lt_of_le LH_0.out (Below.size hb1))
    have GK_1 := Lib.hid ((Below.block hb1 K LK_0.out).trans GK_0.out)
    have LK_1 := Lib.hid (Nat.lt_of_lt_of_le LK_0.out (Below.size hb1))
    clear hb1
    obtain ⟨W, hW⟩ : ∃ z, z = w1.heap.size := ⟨_, rfl⟩
    obtain ⟨w2, hw2⟩ : ∃ z, z = w1.alloc (.cells (dV Z) 23) := ⟨_, rfl⟩
    have st2 : Below w1.heap.size w1 w2 := by rw [hw2]; exact (Below.refl _ _).alloc (Nat.le_refl _) _
    have B2 := Lib.hid (show Below v1.heap.size v1 w2 from Below.trans B1.out (Below.mono st2 (Below.size B1.out)))
    have GH_2 := Lib.hid ((Below.block st2 H LH_1.out).trans GH_1.out)
    have LH_2 := Lib.hid (Nat.lt_of_lt_of_le LH_1.out (Below.size st2))
    have GK_2 := Lib.hid ((Below.block st2 K LK_1.out).trans GK_1.out)
    have LK_2 := Lib.hid (Nat.lt_of_lt_of_le LK_1.out (Below.size st2))
    have GW_2 := Lib.hid (show w2.heap[W]? = some (.cells (dV Z) 23 (0, 0)) by rw [hw2, hW]; exact heap_alloc_new _ _)
    have LW_2 := Lib.hid (lt_of_heap GW_2.out)
    have HW := Lib.hid hW
    have Hw2 := Lib.hid hw2
    clear hW hw2 st2
    go_wp2_with fail
    rw [ZT.out, ← HW.out, ← Hw2.out]
    refine (SB.out w2 B2.out).mono ?_
    rintro e w3 ⟨rfl, hb3⟩
    have B3 := Lib.hid (show Below v1.heap.size v1 w3 from Below.trans B2.out (Below.mono hb3 (Below.size B2.out)))
    have GH_3 := Lib.hid ((Below.block hb3 H LH_2.out).trans GH_2.out)
    have LH_3 := Lib.hid (Nat.lt_of_lt_of_le LH_2.out (Below.size hb3))
    have GK_3 := Lib.hid ((Below.block hb3 K LK_2.out).trans GK_2.out)
    have LK_3 := Lib.hid (Nat.lt_of_lt_of_le LK_2.out (Below.size hb3))
    have GW_3 := Lib.hid ((Below.block hb3 W LW_2.out).trans GW_2.out)
    have LW_3 := Lib.hid (Nat.lt_of_lt_of_le LW_2.out (Below.size hb3))
    clear hb3
    obtain ⟨D, hD⟩ : ∃ z, z = w3.heap.size := ⟨_, rfl⟩
    obtain ⟨w4, hw4⟩ : ∃ z, z = w3.alloc (.cells (dV Z) 23) := ⟨_, rfl⟩
    have st4 : Below w3.heap.size w3 w4 := by rw [hw4]; exact (Below.refl _ _).alloc (Nat.le_refl _) _
    have B4 := Lib.hid (show Below v1.heap.size v1 w4 from Below.trans B3.out (Below.mono st4 (Below.size B3.out)))
    have GH_4 := Lib.hid ((Below.block st4 H LH_3.out).trans GH_3.out)
    have LH_4 := Lib.hid (Nat.lt_of_lt_of_le LH_3.out (Below.size st4))
    have GK_4 := Lib.hid ((Below.block st4 K LK_3.out).trans GK_3.out)
    have LK_4 := Lib.hid (Nat.lt_of_lt_of_le LK_3.out (Below.size st4))
    have GW_4 := Lib.hid ((Below.block st4 W LW_3.out).trans GW_3.out)
    have LW_4 := Lib.hid (Nat.lt_of_lt_of_le LW_3.out (Below.size st4))
    have GD_4 := Lib.hid (show w4.heap[D]? = some (.cells (dV Z) 23 (0, 0)) by rw [hw4, hD]; exact heap_alloc_new _ _)
    have LD_4 := Lib.hid (lt_of_heap GD_4.out)
    have HD := Lib.hid hD
    have Hw4 := Lib.hid hw4
    clear hD hw4 st4
    go_wp2_with (first
      | ((refine st_new rfl (.tmp 15) (.tmp 33) rfl Z ZL.out (by rfl) _ _ (by rfl) (by rfl) ?_); rw [← HD.out, ← Hw4.out]))
    refine (Error_err (F1) (F1) true (by simp) w4 (HG.out.at_ B4.out)).mono ?_
    rintro e w5 ⟨rfl, hb5⟩
    have B5 := Lib.hid (show Below v1.heap.size v1 w5 from Below.trans B4.out (Below.mono hb5 (Below.size B4.out)))
    have GH_5 := Lib.hid ((Below.block hb5 H LH_4.out).trans GH_4.out)
    have LH_5 := Lib.hid (Nat.lt_of_lt_of_le LH_4.out (Below.size hb5))
    have GK_5 := Lib.hid ((Below.block hb5 K LK_4.out).trans GK_4.out)
    have LK_5 := Lib.hid (Nat.lt_of_lt_of_le LK_4.out (Below.size hb5))
    have GW_5 := Lib.hid ((Below.block hb5 W LW_4.out).trans GW_4.out)
    have LW_5 := Lib.hid (Nat.lt_of_lt_of_le LW_4.out (Below.size hb5))
    have GD_5 := Lib.hid ((Below.block hb5 D LD_4.out).trans GD_4.out)
    have LD_5 := Lib.hid (Nat.lt_of_lt_of_le LD_4.out (Below.size hb5))
    clear hb5
    obtain ⟨X, hX⟩ : ∃ z, z = w5.heap.size := ⟨_, rfl⟩
    obtain ⟨w6, hw6⟩ : ∃ z, z = w5.alloc (.cells #[.int .i64 0, .slice none 0 0, .slice none 0 0] 61) := ⟨_, rfl⟩
    have st6 : Below w5.heap.size w5 w6 := by rw [hw6]; exact (Below.refl _ _).alloc (Nat.le_refl _) _
    have B6 := Lib.hid (show Below v1.heap.size v1 w6 from Below.trans B5.out (Below.mono st6 (Below.size B5.out)))
    have GH_6 := Lib.hid ((Below.block st6 H LH_5.out).trans GH_5.out)
    have LH_6 := Lib.hid (Nat.lt_of_lt_of_le LH_5.out (Below.size st6))
    have GK_6 := Lib.hid ((Below.block st6 K LK_5.out).trans GK_5.out)
    have LK_6 := Lib.hid (Nat.lt_of_lt_of_le LK_5.out (Below.size st6))
    have GW_6 := Lib.hid ((Below.block st6 W LW_5.out).trans GW_5.out)
    have LW_6 := Lib.hid (Nat.lt_of_lt_of_le LW_5.out (Below.size st6))
    have GD_6 := Lib.hid ((Below.block st6 D LD_5.out).trans GD_5.out)
    have LD_6 := Lib.hid (Nat.lt_of_lt_of_le LD_5.out (Below.size st6))
    have GX_6 := Lib.hid (show w6.heap[X]? = some (.cells #[.int .i64 0, .slice none 0 0, .slice none 0 0] 61 (0, 0)) by rw [hw6, hX]; exact heap_alloc_new _ _)
    have LX_6 := Lib.hid (lt_of_heap GX_6.out)
    have HX := Lib.hid hX
    have Hw6 := Lib.hid hw6
    clear hX hw6 st6
    go_wp2_with (first
      | ((refine ld_digG rfl (.tmp 15) rfl (D) 0 (by rfl) Z ZL.out (range_of_row GD_5.out) ?_); simp only [Act.put, List.setIfInBounds_toArray, List.set_cons_zero, List.set_cons_succ])
      | ((refine ld_digG rfl (.tmp 14) rfl (W) 0 (by rfl) Z ZL.out (range_of_row GW_5.out) ?_); simp only [Act.put, List.setIfInBounds_toArray, List.set_cons_zero, List.set_cons_succ])
      | ((refine neq_digG rfl (.tmp 41) (.tmp 42) _ rfl Z Z (by rfl) (by rfl) ZL.out ZL.out ?_); rw [ZZ.out]; simp only [Act.put, List.setIfInBounds_toArray, List.set_cons_zero, List.set_cons_succ]))
    rw [← HX.out, ← Hw6.out]
    refine (FB.out w6 B6.out).mono ?_
    rintro e w7 ⟨rfl, hb7⟩
    have B7 := Lib.hid (show Below v1.heap.size v1 w7 from Below.trans B6.out (Below.mono hb7 (Below.size B6.out)))
    have GH_7 := Lib.hid ((Below.block hb7 H LH_6.out).trans GH_6.out)
    have LH_7 := Lib.hid (Nat.lt_of_lt_of_le LH_6.out (Below.size hb7))
    have GK_7 := Lib.hid ((Below.block hb7 K LK_6.out).trans GK_6.out)
    have LK_7 := Lib.hid (Nat.lt_of_lt_of_le LK_6.out (Below.size hb7))
    have GW_7 := Lib.hid ((Below.block hb7 W LW_6.out).trans GW_6.out)
    have LW_7 := Lib.hid (Nat.lt_of_lt_of_le LW_6.out (Below.size hb7))
    have GD_7 := Lib.hid ((Below.block hb7 D LD_6.out).trans GD_6.out)
    have LD_7 := Lib.hid (Nat.lt_of_lt_of_le LD_6.out (Below.size hb7))
    have GX_7 := Lib.hid ((Below.block hb7 X LX_6.out).trans GX_6.out)
    have LX_7 := Lib.hid (Nat.lt_of_lt_of_le LX_6.out (Below.size hb7))
    clear hb7
    obtain ⟨Y, hY⟩ : ∃ z, z = w7.heap.size := ⟨_, rfl⟩
    obtain ⟨w8, hw8⟩ : ∃ z, z = w7.alloc (.cells #[.int .i64 0, .slice none 0 0, .slice none 0 0] 61) := ⟨_, rfl⟩
    have st8 : Below w7.heap.size w7 w8 := by rw [hw8]; exact (Below.refl _ _).alloc (Nat.le_refl _) _
    have B8 := Lib.hid (show Below v1.heap.size v1 w8 from Below.trans B7.out (Below.mono st8 (Below.size B7.out)))
    have GH_8 := Lib.hid ((Below.block st8 H LH_7.out).trans GH_7.out)
    have LH_8 := Lib.hid (Nat.lt_of_lt_of_le LH_7.out (Below.size st8))
    have GK_8 := Lib.hid ((Below.block st8 K LK_7.out).trans GK_7.out)
    have LK_8 := Lib.hid (Nat.lt_of_lt_of_le LK_7.out (Below.size st8))
    have GX_8 := Lib.hid ((Below.block st8 X LX_7.out).trans GX_7.out)
    have LX_8 := Lib.hid (Nat.lt_of_lt_of_le LX_7.out (Below.size st8))
    have GY_8 := Lib.hid (show w8.heap[Y]? = some (.cells #[.int .i64 0, .slice none 0 0, .slice none 0 0] 61 (0, 0)) by rw [hw8, hY]; exact heap_alloc_new _ _)
    have LY_8 := Lib.hid (lt_of_heap GY_8.out)
    have HY := Lib.hid hY
    have Hw8 := Lib.hid hw8
    clear hY hw8 st8
    go_wp2_with (first
      | ((refine wpList_store_row rfl _ (.tmp 19) (.tmp 63) rfl w7.heap.size #[.int .i64 0, .slice none 0 0, .slice none 0 0] (by rfl) (by rfl) _ #[.int .i64 0, .slice none 0 0, .slice none 0 0] (heap_alloc_new w7 _) info_rngF rfl (rng_one _ _ _ rfl rfl rfl) ?_); rw [World.setRow_alloc_new, ← HY.out, ← Hw8.out]))
    refine (Error_err (F1) (F1) true (by simp) w8 (HG.out.at_ B8.out)).mono ?_
    rintro e w9 ⟨rfl, hb9⟩
    have B9 := Lib.hid (show Below v1.heap.size v1 w9 from Below.trans B8.out (Below.mono hb9 (Below.size B8.out)))
    have GH_9 := Lib.hid ((Below.block hb9 H LH_8.out).trans GH_8.out)
    have LH_9 := Lib.hid (Nat.lt_of_lt_of_le LH_8.out (Below.size hb9))
    have GK_9 := Lib.hid ((Below.block hb9 K LK_8.out).trans GK_8.out)
    have LK_9 := Lib.hid (Nat.lt_of_lt_of_le LK_8.out (Below.size hb9))
    have GX_9 := Lib.hid ((Below.block hb9 X LX_8.out).trans GX_8.out)
    have LX_9 := Lib.hid (Nat.lt_of_lt_of_le LX_8.out (Below.size hb9))
    have GY_9 := Lib.hid ((Below.block hb9 Y LY_8.out).trans GY_8.out)
    have LY_9 := Lib.hid (Nat.lt_of_lt_of_le LY_8.out (Below.size hb9))
    clear hb9
    go_wp2_with (first
      | ((refine wpList_load_row rfl _ (.tmp 19) rfl Y (by rfl) _ _ _ _ GY_9.out Tryd.underlying61 rfl info_rngF ?_); simp only [Act.put, List.setIfInBounds_toArray, List.set_cons_zero, List.set_cons_succ])
      | ((refine wpList_load_row rfl _ (.tmp 18) rfl X (by rfl) _ _ _ _ GX_9.out Tryd.underlying61 rfl info_rngF ?_); simp only [Act.put, List.setIfInBounds_toArray, List.set_cons_zero, List.set_cons_succ]))
    refine (RZ.out w9).mono ?_
    rintro e w10 ⟨rfl, hb10⟩
    have B10 := Lib.hid (show Below v1.heap.size v1 w10 from Below.trans B9.out (Below.mono hb10 (Below.size B9.out)))
    have GH_10 := Lib.hid ((Below.block hb10 H LH_9.out).trans GH_9.out)
    have LH_10 := Lib.hid (Nat.lt_of_lt_of_le LH_9.out (Below.size hb10))
    have GK_10 := Lib.hid ((Below.block hb10 K LK_9.out).trans GK_9.out)
    have LK_10 := Lib.hid (Nat.lt_of_lt_of_le LK_9.out (Below.size hb10))
    have GX_10 := Lib.hid ((Below.block hb10 X LX_9.out).trans GX_9.out)
    have LX_10 := Lib.hid (Nat.lt_of_lt_of_le LX_9.out (Below.size hb10))
    have GY_10 := Lib.hid ((Below.block hb10 Y LY_9.out).trans GY_9.out)
    have LY_10 := Lib.hid (Nat.lt_of_lt_of_le LY_9.out (Below.size hb10))
    clear hb10
    have hlk := HLK.out
    have n5 := HN5.out
    have q5 := HQ5.out
    by_cases hab : a2 < a1
    · have y1 : decide (a2 < a1) = true := decide_eq_true hab
      have hF : lookF x3 a4 a1 a2 j5 x5 y5 = 2 := by unfold lookF; rw [if_pos (.inl hab)]
      have hlk2 := fun w' (hb : Below v1.heap.size v1 w') => (hlk w' hb).mono fun e w'' h => (⟨by rw [h.1 (by rw [hF]; decide), hF], h.2.2⟩ : e = .returned (.tuple #[.slice none 0 0, .iface 25 (.int .i64 2)]) ∧ Below w'.heap.size w' w'')
      have LK := Lib.hid hlk2
      clear hlk hlk2 hF n5 q5 hab
      obtain ⟨k0_, k1_, k2_⟩ := rng_cells GK_10.out
      go_wp2_with (first
        | ((refine ld_digG rfl (.tmp 9) rfl (H) 0 (by rfl) x3 N3.out (range_of_row GH_10.out) ?_); simp only [Act.put, List.setIfInBounds_toArray, List.set_cons_zero, List.set_cons_succ])
        | ((refine wpList_load_row rfl _ (.tmp 11) rfl K (by rfl) _ _ _ _ GK_10.out Tryd.underlying61 rfl info_rngF ?_); simp only [Act.put, List.setIfInBounds_toArray, List.set_cons_zero, List.set_cons_succ]))
      refine (LK.out w10 B10.out).mono ?_
      rintro e w11 ⟨rfl, hb11⟩
      have B11 := Lib.hid (show Below v1.heap.size v1 w11 from Below.trans B10.out (Below.mono hb11 (Below.size B10.out)))
      have GH_11 := Lib.hid ((Below.block hb11 H LH_10.out).trans GH_10.out)
      have LH_11 := Lib.hid (Nat.lt_of_lt_of_le LH_10.out (Below.size hb11))
      have GK_11 := Lib.hid ((Below.block hb11 K LK_10.out).trans GK_10.out)
      have LK_11 := Lib.hid (Nat.lt_of_lt_of_le LK_10.out (Below.size hb11))
      try clear k0_ k1_ k2_
      clear hb11
      go_wp2_with fail
      refine (Error_err (2) (2) true (by simp) w11 (HG.out.at_ B11.out)).mono ?_
      rintro e w12 ⟨rfl, hb12⟩
      have B12 := Lib.hid (show Below v1.heap.size v1 w12 from Below.trans B11.out (Below.mono hb12 (Below.size B11.out)))
      have GH_12 := Lib.hid ((Below.block hb12 H LH_11.out).trans GH_11.out)
      have LH_12 := Lib.hid (Nat.lt_of_lt_of_le LH_11.out (Below.size hb12))
      have GK_12 := Lib.hid ((Below.block hb12 K LK_11.out).trans GK_11.out)
      have LK_12 := Lib.hid (Nat.lt_of_lt_of_le LK_11.out (Below.size hb12))
      clear hb12
      go_wp2_with fail
      refine (E0.out w12).mono ?_
      rintro e w13 ⟨rfl, hb13⟩
      have B13 := Lib.hid (show Below v1.heap.size v1 w13 from Below.trans B12.out (Below.mono hb13 (Below.size B12.out)))
      have GH_13 := Lib.hid ((Below.block hb13 H LH_12.out).trans GH_12.out)
      have LH_13 := Lib.hid (Nat.lt_of_lt_of_le LH_12.out (Below.size hb13))
      have GK_13 := Lib.hid ((Below.block hb13 K LK_12.out).trans GK_12.out)
      have LK_13 := Lib.hid (Nat.lt_of_lt_of_le LK_12.out (Below.size hb13))
      clear hb13
      go_wp2_with fail
      refine (Spanned_calls w13 (RO.out.at_ B13.out)).mono ?_
      rintro e w14 ⟨rfl, hb14⟩
      have B14 := Lib.hid (show Below v1.heap.size v1 w14 from Below.trans B13.out (Below.mono hb14 (Below.size B13.out)))
      have GH_14 := Lib.hid ((Below.block hb14 H LH_13.out).trans GH_13.out)
      have LH_14 := Lib.hid (Nat.lt_of_lt_of_le LH_13.out (Below.size hb14))
      have GK_14 := Lib.hid ((Below.block hb14 K LK_13.out).trans GK_13.out)
      have LK_14 := Lib.hid (Nat.lt_of_lt_of_le LK_13.out (Below.size hb14))
      clear hb14
      go_wp2_with fail
      go_ret
      exact ⟨rfl, BW.out.trans (Below.mono B14.out BW.out.size)⟩
    · have y1 : decide (a2 < a1) = false := decide_eq_false hab
      by_cases hn0 : a4 < 0
      · have y2 : decide (a4 < 0) = true := decide_eq_true hn0
        have hF : lookF x3 a4 a1 a2 j5 x5 y5 = 2 := by unfold lookF; rw [if_pos (.inr (.inl hn0))]
        have hlk2 := fun w' (hb : Below v1.heap.size v1 w') => (hlk w' hb).mono fun e w'' h => (⟨by rw [h.1 (by rw [hF]; decide), hF], h.2.2⟩ : e = .returned (.tuple #[.slice none 0 0, .iface 25 (.int .i64 2)]) ∧ Below w'.heap.size w' w'')
        have LK := Lib.hid hlk2
        clear hlk hlk2 hF hn0 n5 q5 hab
        obtain ⟨k0_, k1_, k2_⟩ := rng_cells GK_10.out
        go_wp2_with (first
          | ((refine ld_digG rfl (.tmp 9) rfl (H) 0 (by rfl) x3 N3.out (range_of_row GH_10.out) ?_); simp only [Act.put, List.setIfInBounds_toArray, List.set_cons_zero, List.set_cons_succ])
          | ((refine wpList_load_row rfl _ (.tmp 11) rfl K (by rfl) _ _ _ _ GK_10.out Tryd.underlying61 rfl info_rngF ?_); simp only [Act.put, List.setIfInBounds_toArray, List.set_cons_zero, List.set_cons_succ]))
        refine (LK.out w10 B10.out).mono ?_
        rintro e w11 ⟨rfl, hb11⟩
        have B11 := Lib.hid (show Below v1.heap.size v1 w11 from Below.trans B10.out (Below.mono hb11 (Below.size B10.out)))
        have GH_11 := Lib.hid ((Below.block hb11 H LH_10.out).trans GH_10.out)
        have LH_11 := Lib.hid (Nat.lt_of_lt_of_le LH_10.out (Below.size hb11))
        have GK_11 := Lib.hid ((Below.block hb11 K LK_10.out).trans GK_10.out)
        have LK_11 := Lib.hid (Nat.lt_of_lt_of_le LK_10.out (Below.size hb11))
        try clear k0_ k1_ k2_
        clear hb11
        go_wp2_with fail
        refine (Error_err (2) (2) true (by simp) w11 (HG.out.at_ B11.out)).mono ?_
        rintro e w12 ⟨rfl, hb12⟩
        have B12 := Lib.hid (show Below v1.heap.size v1 w12 from Below.trans B11.out (Below.mono hb12 (Below.size B11.out)))
        have GH_12 := Lib.hid ((Below.block hb12 H LH_11.out).trans GH_11.out)
        have LH_12 := Lib.hid (Nat.lt_of_lt_of_le LH_11.out (Below.size hb12))
        have GK_12 := Lib.hid ((Below.block hb12 K LK_11.out).trans GK_11.out)
        have LK_12 := Lib.hid (Nat.lt_of_lt_of_le LK_11.out (Below.size hb12))
        clear hb12
        go_wp2_with fail
        refine (E0.out w12).mono ?_
        rintro e w13 ⟨rfl, hb13⟩
        have B13 := Lib.hid (show Below v1.heap.size v1 w13 from Below.trans B12.out (Below.mono hb13 (Below.size B12.out)))
        have GH_13 := Lib.hid ((Below.block hb13 H LH_12.out).trans GH_12.out)
        have LH_13 := Lib.hid (Nat.lt_of_lt_of_le LH_12.out (Below.size hb13))
        have GK_13 := Lib.hid ((Below.block hb13 K LK_12.out).trans GK_12.out)
        have LK_13 := Lib.hid (Nat.lt_of_lt_of_le LK_12.out (Below.size hb13))
        clear hb13
        go_wp2_with fail
        refine (Spanned_calls w13 (RO.out.at_ B13.out)).mono ?_
        rintro e w14 ⟨rfl, hb14⟩
        have B14 := Lib.hid (show Below v1.heap.size v1 w14 from Below.trans B13.out (Below.mono hb14 (Below.size B13.out)))
        have GH_14 := Lib.hid ((Below.block hb14 H LH_13.out).trans GH_13.out)
        have LH_14 := Lib.hid (Nat.lt_of_lt_of_le LH_13.out (Below.size hb14))
        have GK_14 := Lib.hid ((Below.block hb14 K LK_13.out).trans GK_13.out)
        have LK_14 := Lib.hid (Nat.lt_of_lt_of_le LK_13.out (Below.size hb14))
        clear hb14
        go_wp2_with fail
        go_ret
        exact ⟨rfl, BW.out.trans (Below.mono B14.out BW.out.size)⟩
      · have y2 : decide (a4 < 0) = false := decide_eq_false hn0
        by_cases hnn : 256 < a4
        · have y3 : decide (256 < a4) = true := decide_eq_true hnn
          have hF : lookF x3 a4 a1 a2 j5 x5 y5 = 2 := by unfold lookF; rw [if_pos (.inr (.inr hnn))]
          have hlk2 := fun w' (hb : Below v1.heap.size v1 w') => (hlk w' hb).mono fun e w'' h => (⟨by rw [h.1 (by rw [hF]; decide), hF], h.2.2⟩ : e = .returned (.tuple #[.slice none 0 0, .iface 25 (.int .i64 2)]) ∧ Below w'.heap.size w' w'')
          have LK := Lib.hid hlk2
          clear hlk hlk2 hF hn0 hnn n5 q5 hab
          obtain ⟨k0_, k1_, k2_⟩ := rng_cells GK_10.out
          go_wp2_with (first
            | ((refine ld_digG rfl (.tmp 9) rfl (H) 0 (by rfl) x3 N3.out (range_of_row GH_10.out) ?_); simp only [Act.put, List.setIfInBounds_toArray, List.set_cons_zero, List.set_cons_succ])
            | ((refine wpList_load_row rfl _ (.tmp 11) rfl K (by rfl) _ _ _ _ GK_10.out Tryd.underlying61 rfl info_rngF ?_); simp only [Act.put, List.setIfInBounds_toArray, List.set_cons_zero, List.set_cons_succ]))
          refine (LK.out w10 B10.out).mono ?_
          rintro e w11 ⟨rfl, hb11⟩
          have B11 := Lib.hid (show Below v1.heap.size v1 w11 from Below.trans B10.out (Below.mono hb11 (Below.size B10.out)))
          have GH_11 := Lib.hid ((Below.block hb11 H LH_10.out).trans GH_10.out)
          have LH_11 := Lib.hid (Nat.lt_of_lt_of_le LH_10.out (Below.size hb11))
          have GK_11 := Lib.hid ((Below.block hb11 K LK_10.out).trans GK_10.out)
          have LK_11 := Lib.hid (Nat.lt_of_lt_of_le LK_10.out (Below.size hb11))
          try clear k0_ k1_ k2_
          clear hb11
          go_wp2_with fail
          refine (Error_err (2) (2) true (by simp) w11 (HG.out.at_ B11.out)).mono ?_
          rintro e w12 ⟨rfl, hb12⟩
          have B12 := Lib.hid (show Below v1.heap.size v1 w12 from Below.trans B11.out (Below.mono hb12 (Below.size B11.out)))
          have GH_12 := Lib.hid ((Below.block hb12 H LH_11.out).trans GH_11.out)
          have LH_12 := Lib.hid (Nat.lt_of_lt_of_le LH_11.out (Below.size hb12))
          have GK_12 := Lib.hid ((Below.block hb12 K LK_11.out).trans GK_11.out)
          have LK_12 := Lib.hid (Nat.lt_of_lt_of_le LK_11.out (Below.size hb12))
          clear hb12
          go_wp2_with fail
          refine (E0.out w12).mono ?_
          rintro e w13 ⟨rfl, hb13⟩
          have B13 := Lib.hid (show Below v1.heap.size v1 w13 from Below.trans B12.out (Below.mono hb13 (Below.size B12.out)))
          have GH_13 := Lib.hid ((Below.block hb13 H LH_12.out).trans GH_12.out)
          have LH_13 := Lib.hid (Nat.lt_of_lt_of_le LH_12.out (Below.size hb13))
          have GK_13 := Lib.hid ((Below.block hb13 K LK_12.out).trans GK_12.out)
          have LK_13 := Lib.hid (Nat.lt_of_lt_of_le LK_12.out (Below.size hb13))
          clear hb13
          go_wp2_with fail
          refine (Spanned_calls w13 (RO.out.at_ B13.out)).mono ?_
          rintro e w14 ⟨rfl, hb14⟩
          have B14 := Lib.hid (show Below v1.heap.size v1 w14 from Below.trans B13.out (Below.mono hb14 (Below.size B13.out)))
          have GH_14 := Lib.hid ((Below.block hb14 H LH_13.out).trans GH_13.out)
          have LH_14 := Lib.hid (Nat.lt_of_lt_of_le LH_13.out (Below.size hb14))
          have GK_14 := Lib.hid ((Below.block hb14 K LK_13.out).trans GK_13.out)
          have LK_14 := Lib.hid (Nat.lt_of_lt_of_le LK_13.out (Below.size hb14))
          clear hb14
          go_wp2_with fail
          go_ret
          exact ⟨rfl, BW.out.trans (Below.mono B14.out BW.out.size)⟩
        · have y3 : decide (256 < a4) = false := decide_eq_false hnn
          by_cases hpl : y5.length = x5.length
          · have y4 : ((y5.length : Int) != (x5.length : Int)) = false := by rw [hpl]; simp
            have y5_ : (y5.length != x5.length) = false := by rw [hpl]; simp
            obtain ⟨n, hn⟩ : ∃ n : Nat, a4 = (n : Int) := ⟨a4.toNat, by omega⟩
            subst hn
            have hls := fun w' (hb : Below v1.heap.size v1 w') => Looks_calls x3 n3 n (by omega) a1 a2 j5 h5 x5 n5 a5 c5 e5 (by omega) y5 hpl v5 b5 d5 f5 q5 w' (R5.out.below hb) (S5.out.below hb) (P5.out.below hb)
            by_cases hB : fitsB x3 n a1 a2 j5 x5 y5 = true
            · rw [hB] at hls
              have LS := Lib.hid hls
              have hF : lookF x3 (n : Int) a1 a2 j5 x5 y5 = 0 := by unfold lookF; rw [if_neg (by omega), if_neg (by rw [hpl]; simp), if_pos (by rw [Int.toNat_natCast]; exact hB)]
              have hll := fitsB_len hpl hB
              obtain ⟨J, hJ⟩ : ∃ J, J = withinE x5 a1 a2 := ⟨_, rfl⟩
              rw [hF, ← hJ] at hlk
              have hlk2 := fun w' (hb : Below v1.heap.size v1 w') => (hlk w' hb).mono fun e w'' h => (⟨h.2.1 rfl, h.2.2⟩ : (∃ a c e', e = .returned (.tuple #[.slice a J.length c, .nilIface]) ∧ Rd w'' a e' (cellsE J)) ∧ Below w'.heap.size w' w'')
              have LK := Lib.hid hlk2
              have hwc := fun w' (hb : Below v1.heap.size v1 w') => Within_calls x5 n5 a5 c5 e5 a1 a2 w' (R5.out.below hb) (by omega)
              rw [← hJ] at hwc
              have WC := Lib.hid hwc
              have hJe : ∀ e ∈ J, e.val.length = 32 := by rw [hJ]; exact fun e he => (n5 e (List.mem_filter.1 he).1).1
              have hJl : J.length ≤ 9223372036854775807 := by rw [hJ]; exact Nat.le_trans (List.length_filter_le _ _) (by omega)
              have hec := fun w' ag cg eg aw cw ew (hr1 : Rd w' ag eg (cellsE J)) (hr2 : Rd w' aw ew (cellsE J)) => (Entries_calls J J hJe hJe ag cg eg aw cw ew w' hr1 hr2 hJl).mono fun e w'' h => (⟨by rw [h.1, decide_eq_true rfl], by obtain ⟨n, hn⟩ := h.2; rw [hn]; exact below_drewN (Below.refl _ _) n⟩ : e = .returned (.bool true) ∧ Below w'.heap.size w' w'')
              have EC := Lib.hid hec
              clear hlk hlk2 hls hF hB hll hJ hwc hJe hJl hec hpl hn0 hnn n5 q5 hab
              obtain ⟨k0_, k1_, k2_⟩ := rng_cells GK_10.out
              go_wp2_with (first
                | ((refine ld_digG rfl (.tmp 9) rfl (H) 0 (by rfl) x3 N3.out (range_of_row GH_10.out) ?_); simp only [Act.put, List.setIfInBounds_toArray, List.set_cons_zero, List.set_cons_succ])
                | ((refine wpList_load_row rfl _ (.tmp 11) rfl K (by rfl) _ _ _ _ GK_10.out Tryd.underlying61 rfl info_rngF ?_); simp only [Act.put, List.setIfInBounds_toArray, List.set_cons_zero, List.set_cons_succ]))
              refine (LS.out w10 B10.out).mono ?_
              rintro e w11 ⟨rfl, hb11⟩
              have B11 := Lib.hid (show Below v1.heap.size v1 w11 from Below.trans B10.out (Below.mono hb11 (Below.size B10.out)))
              have GH_11 := Lib.hid ((Below.block hb11 H LH_10.out).trans GH_10.out)
              have LH_11 := Lib.hid (Nat.lt_of_lt_of_le LH_10.out (Below.size hb11))
              have GK_11 := Lib.hid ((Below.block hb11 K LK_10.out).trans GK_10.out)
              have LK_11 := Lib.hid (Nat.lt_of_lt_of_le LK_10.out (Below.size hb11))
              clear k0_ k1_ k2_
              clear hb11
              obtain ⟨k0_, k1_, k2_⟩ := rng_cells GK_11.out
              go_wp2_with fail
              refine (WC.out w11 B11.out).mono ?_
              rintro e w12 ⟨aw, cw, rfl, how, hb12⟩
              have B12 := Lib.hid (show Below v1.heap.size v1 w12 from Below.trans B11.out (Below.mono hb12 (Below.size B11.out)))
              have GH_12 := Lib.hid ((Below.block hb12 H LH_11.out).trans GH_11.out)
              have LH_12 := Lib.hid (Nat.lt_of_lt_of_le LH_11.out (Below.size hb12))
              have GK_12 := Lib.hid ((Below.block hb12 K LK_11.out).trans GK_11.out)
              have LK_12 := Lib.hid (Nat.lt_of_lt_of_le LK_11.out (Below.size hb12))
              clear k0_ k1_ k2_
              have RW_12 := Lib.hid (Rd.of_own how)
              clear how
              clear hb12
              go_wp2_with (first
                | ((refine ld_digG rfl (.tmp 9) rfl (H) 0 (by rfl) x3 N3.out (range_of_row GH_12.out) ?_); simp only [Act.put, List.setIfInBounds_toArray, List.set_cons_zero, List.set_cons_succ])
                | ((refine wpList_load_row rfl _ (.tmp 11) rfl K (by rfl) _ _ _ _ GK_12.out Tryd.underlying61 rfl info_rngF ?_); simp only [Act.put, List.setIfInBounds_toArray, List.set_cons_zero, List.set_cons_succ]))
              refine (LK.out w12 B12.out).mono ?_
              rintro e w13 ⟨⟨ag, cg, eg, rfl, hrg⟩, hb13⟩
              have B13 := Lib.hid (show Below v1.heap.size v1 w13 from Below.trans B12.out (Below.mono hb13 (Below.size B12.out)))
              have GH_13 := Lib.hid ((Below.block hb13 H LH_12.out).trans GH_12.out)
              have LH_13 := Lib.hid (Nat.lt_of_lt_of_le LH_12.out (Below.size hb13))
              have GK_13 := Lib.hid ((Below.block hb13 K LK_12.out).trans GK_12.out)
              have LK_13 := Lib.hid (Nat.lt_of_lt_of_le LK_12.out (Below.size hb13))
              have RW_13 := Lib.hid (RW_12.out.below hb13)
              have RG_13 := Lib.hid hrg
              clear hrg
              clear hb13
              go_wp2_with fail
              refine (((Error_nil 0 true (by decide) w13).mono fun r w' h => (⟨h.1, by rw [← h.2]; exact Below.refl _ _⟩ : r = .returned (.bool true) ∧ Below w13.heap.size w13 w'))).mono ?_
              rintro e w14 ⟨rfl, hb14⟩
              have B14 := Lib.hid (show Below v1.heap.size v1 w14 from Below.trans B13.out (Below.mono hb14 (Below.size B13.out)))
              have GH_14 := Lib.hid ((Below.block hb14 H LH_13.out).trans GH_13.out)
              have LH_14 := Lib.hid (Nat.lt_of_lt_of_le LH_13.out (Below.size hb14))
              have GK_14 := Lib.hid ((Below.block hb14 K LK_13.out).trans GK_13.out)
              have LK_14 := Lib.hid (Nat.lt_of_lt_of_le LK_13.out (Below.size hb14))
              have RW_14 := Lib.hid (RW_13.out.below hb14)
              have RG_14 := Lib.hid (RG_13.out.below hb14)
              clear hb14
              go_wp2_with fail
              refine (EC.out w14 ag cg eg aw cw _ RG_14.out RW_14.out).mono ?_
              rintro e w15 ⟨rfl, hb15⟩
              have B15 := Lib.hid (show Below v1.heap.size v1 w15 from Below.trans B14.out (Below.mono hb15 (Below.size B14.out)))
              have GH_15 := Lib.hid ((Below.block hb15 H LH_14.out).trans GH_14.out)
              have LH_15 := Lib.hid (Nat.lt_of_lt_of_le LH_14.out (Below.size hb15))
              have GK_15 := Lib.hid ((Below.block hb15 K LK_14.out).trans GK_14.out)
              have LK_15 := Lib.hid (Nat.lt_of_lt_of_le LK_14.out (Below.size hb15))
              have RW_15 := Lib.hid (RW_14.out.below hb15)
              have RG_15 := Lib.hid (RG_14.out.below hb15)
              clear hb15
              go_wp2_with fail
              refine (Spanned_calls w15 (RO.out.at_ B15.out)).mono ?_
              rintro e w16 ⟨rfl, hb16⟩
              have B16 := Lib.hid (show Below v1.heap.size v1 w16 from Below.trans B15.out (Below.mono hb16 (Below.size B15.out)))
              have GH_16 := Lib.hid ((Below.block hb16 H LH_15.out).trans GH_15.out)
              have LH_16 := Lib.hid (Nat.lt_of_lt_of_le LH_15.out (Below.size hb16))
              have GK_16 := Lib.hid ((Below.block hb16 K LK_15.out).trans GK_15.out)
              have LK_16 := Lib.hid (Nat.lt_of_lt_of_le LK_15.out (Below.size hb16))
              clear hb16
              go_wp2_with fail
              go_ret
              exact ⟨rfl, BW.out.trans (Below.mono B16.out BW.out.size)⟩
            · have hB2 : fitsB x3 n a1 a2 j5 x5 y5 = false := by simpa using hB
              rw [hB2] at hls
              have LS := Lib.hid hls
              have hF : lookF x3 (n : Int) a1 a2 j5 x5 y5 = 9 := by unfold lookF; rw [if_neg (by omega), if_neg (by rw [hpl]; simp), if_neg (by rw [Int.toNat_natCast]; exact hB)]
              have hlk2 := fun w' (hb : Below v1.heap.size v1 w') => (hlk w' hb).mono fun e w'' h => (⟨by rw [h.1 (by rw [hF]; decide), hF], h.2.2⟩ : e = .returned (.tuple #[.slice none 0 0, .iface 25 (.int .i64 9)]) ∧ Below w'.heap.size w' w'')
              have LK := Lib.hid hlk2
              clear hlk hlk2 hls hF hB hB2 hpl hn0 hnn n5 q5 hab
              obtain ⟨k0_, k1_, k2_⟩ := rng_cells GK_10.out
              go_wp2_with (first
                | ((refine ld_digG rfl (.tmp 9) rfl (H) 0 (by rfl) x3 N3.out (range_of_row GH_10.out) ?_); simp only [Act.put, List.setIfInBounds_toArray, List.set_cons_zero, List.set_cons_succ])
                | ((refine wpList_load_row rfl _ (.tmp 11) rfl K (by rfl) _ _ _ _ GK_10.out Tryd.underlying61 rfl info_rngF ?_); simp only [Act.put, List.setIfInBounds_toArray, List.set_cons_zero, List.set_cons_succ]))
              refine (LS.out w10 B10.out).mono ?_
              rintro e w11 ⟨rfl, hb11⟩
              have B11 := Lib.hid (show Below v1.heap.size v1 w11 from Below.trans B10.out (Below.mono hb11 (Below.size B10.out)))
              have GH_11 := Lib.hid ((Below.block hb11 H LH_10.out).trans GH_10.out)
              have LH_11 := Lib.hid (Nat.lt_of_lt_of_le LH_10.out (Below.size hb11))
              have GK_11 := Lib.hid ((Below.block hb11 K LK_10.out).trans GK_10.out)
              have LK_11 := Lib.hid (Nat.lt_of_lt_of_le LK_10.out (Below.size hb11))
              clear k0_ k1_ k2_
              clear hb11
              go_wp2_with (first
                | ((refine ld_digG rfl (.tmp 9) rfl (H) 0 (by rfl) x3 N3.out (range_of_row GH_11.out) ?_); simp only [Act.put, List.setIfInBounds_toArray, List.set_cons_zero, List.set_cons_succ])
                | ((refine wpList_load_row rfl _ (.tmp 11) rfl K (by rfl) _ _ _ _ GK_11.out Tryd.underlying61 rfl info_rngF ?_); simp only [Act.put, List.setIfInBounds_toArray, List.set_cons_zero, List.set_cons_succ]))
              refine (LK.out w11 B11.out).mono ?_
              rintro e w12 ⟨rfl, hb12⟩
              have B12 := Lib.hid (show Below v1.heap.size v1 w12 from Below.trans B11.out (Below.mono hb12 (Below.size B11.out)))
              have GH_12 := Lib.hid ((Below.block hb12 H LH_11.out).trans GH_11.out)
              have LH_12 := Lib.hid (Nat.lt_of_lt_of_le LH_11.out (Below.size hb12))
              have GK_12 := Lib.hid ((Below.block hb12 K LK_11.out).trans GK_11.out)
              have LK_12 := Lib.hid (Nat.lt_of_lt_of_le LK_11.out (Below.size hb12))
              try clear k0_ k1_ k2_
              clear hb12
              go_wp2_with fail
              refine (Error_err (9) (9) true (by simp) w12 (HG.out.at_ B12.out)).mono ?_
              rintro e w13 ⟨rfl, hb13⟩
              have B13 := Lib.hid (show Below v1.heap.size v1 w13 from Below.trans B12.out (Below.mono hb13 (Below.size B12.out)))
              have GH_13 := Lib.hid ((Below.block hb13 H LH_12.out).trans GH_12.out)
              have LH_13 := Lib.hid (Nat.lt_of_lt_of_le LH_12.out (Below.size hb13))
              have GK_13 := Lib.hid ((Below.block hb13 K LK_12.out).trans GK_12.out)
              have LK_13 := Lib.hid (Nat.lt_of_lt_of_le LK_12.out (Below.size hb13))
              clear hb13
              go_wp2_with fail
              refine (E0.out w13).mono ?_
              rintro e w14 ⟨rfl, hb14⟩
              have B14 := Lib.hid (show Below v1.heap.size v1 w14 from Below.trans B13.out (Below.mono hb14 (Below.size B13.out)))
              have GH_14 := Lib.hid ((Below.block hb14 H LH_13.out).trans GH_13.out)
              have LH_14 := Lib.hid (Nat.lt_of_lt_of_le LH_13.out (Below.size hb14))
              have GK_14 := Lib.hid ((Below.block hb14 K LK_13.out).trans GK_13.out)
              have LK_14 := Lib.hid (Nat.lt_of_lt_of_le LK_13.out (Below.size hb14))
              clear hb14
              go_wp2_with fail
              refine (Spanned_calls w14 (RO.out.at_ B14.out)).mono ?_
              rintro e w15 ⟨rfl, hb15⟩
              have B15 := Lib.hid (show Below v1.heap.size v1 w15 from Below.trans B14.out (Below.mono hb15 (Below.size B14.out)))
              have GH_15 := Lib.hid ((Below.block hb15 H LH_14.out).trans GH_14.out)
              have LH_15 := Lib.hid (Nat.lt_of_lt_of_le LH_14.out (Below.size hb15))
              have GK_15 := Lib.hid ((Below.block hb15 K LK_14.out).trans GK_14.out)
              have LK_15 := Lib.hid (Nat.lt_of_lt_of_le LK_14.out (Below.size hb15))
              clear hb15
              go_wp2_with fail
              go_ret
              exact ⟨rfl, BW.out.trans (Below.mono B15.out BW.out.size)⟩
          · have y4 : ((y5.length : Int) != (x5.length : Int)) = true := by rw [bne_iff_ne]; omega
            have y5_ : (y5.length != x5.length) = true := by rw [bne_iff_ne]; exact hpl
            have hF : lookF x3 a4 a1 a2 j5 x5 y5 = 3 := by unfold lookF; rw [if_neg (by omega), if_pos hpl]
            have hlk2 := fun w' (hb : Below v1.heap.size v1 w') => (hlk w' hb).mono fun e w'' h => (⟨by rw [h.1 (by rw [hF]; decide), hF], h.2.2⟩ : e = .returned (.tuple #[.slice none 0 0, .iface 25 (.int .i64 3)]) ∧ Below w'.heap.size w' w'')
            have LK := Lib.hid hlk2
            clear hlk hlk2 hF hpl hn0 hnn n5 q5 hab
            obtain ⟨k0_, k1_, k2_⟩ := rng_cells GK_10.out
            go_wp2_with (first
              | ((refine ld_digG rfl (.tmp 9) rfl (H) 0 (by rfl) x3 N3.out (range_of_row GH_10.out) ?_); simp only [Act.put, List.setIfInBounds_toArray, List.set_cons_zero, List.set_cons_succ])
              | ((refine wpList_load_row rfl _ (.tmp 11) rfl K (by rfl) _ _ _ _ GK_10.out Tryd.underlying61 rfl info_rngF ?_); simp only [Act.put, List.setIfInBounds_toArray, List.set_cons_zero, List.set_cons_succ]))
            refine (LK.out w10 B10.out).mono ?_
            rintro e w11 ⟨rfl, hb11⟩
            have B11 := Lib.hid (show Below v1.heap.size v1 w11 from Below.trans B10.out (Below.mono hb11 (Below.size B10.out)))
            have GH_11 := Lib.hid ((Below.block hb11 H LH_10.out).trans GH_10.out)
            have LH_11 := Lib.hid (Nat.lt_of_lt_of_le LH_10.out (Below.size hb11))
            have GK_11 := Lib.hid ((Below.block hb11 K LK_10.out).trans GK_10.out)
            have LK_11 := Lib.hid (Nat.lt_of_lt_of_le LK_10.out (Below.size hb11))
            try clear k0_ k1_ k2_
            clear hb11
            go_wp2_with fail
            refine (Error_err (3) (3) true (by simp) w11 (HG.out.at_ B11.out)).mono ?_
            rintro e w12 ⟨rfl, hb12⟩
            have B12 := Lib.hid (show Below v1.heap.size v1 w12 from Below.trans B11.out (Below.mono hb12 (Below.size B11.out)))
            have GH_12 := Lib.hid ((Below.block hb12 H LH_11.out).trans GH_11.out)
            have LH_12 := Lib.hid (Nat.lt_of_lt_of_le LH_11.out (Below.size hb12))
            have GK_12 := Lib.hid ((Below.block hb12 K LK_11.out).trans GK_11.out)
            have LK_12 := Lib.hid (Nat.lt_of_lt_of_le LK_11.out (Below.size hb12))
            clear hb12
            go_wp2_with fail
            refine (E0.out w12).mono ?_
            rintro e w13 ⟨rfl, hb13⟩
            have B13 := Lib.hid (show Below v1.heap.size v1 w13 from Below.trans B12.out (Below.mono hb13 (Below.size B12.out)))
            have GH_13 := Lib.hid ((Below.block hb13 H LH_12.out).trans GH_12.out)
            have LH_13 := Lib.hid (Nat.lt_of_lt_of_le LH_12.out (Below.size hb13))
            have GK_13 := Lib.hid ((Below.block hb13 K LK_12.out).trans GK_12.out)
            have LK_13 := Lib.hid (Nat.lt_of_lt_of_le LK_12.out (Below.size hb13))
            clear hb13
            go_wp2_with fail
            refine (Spanned_calls w13 (RO.out.at_ B13.out)).mono ?_
            rintro e w14 ⟨rfl, hb14⟩
            have B14 := Lib.hid (show Below v1.heap.size v1 w14 from Below.trans B13.out (Below.mono hb14 (Below.size B13.out)))
            have GH_14 := Lib.hid ((Below.block hb14 H LH_13.out).trans GH_13.out)
            have LH_14 := Lib.hid (Nat.lt_of_lt_of_le LH_13.out (Below.size hb14))
            have GK_14 := Lib.hid ((Below.block hb14 K LK_13.out).trans GK_13.out)
            have LK_14 := Lib.hid (Nat.lt_of_lt_of_le LK_13.out (Below.size hb14))
            clear hb14
            go_wp2_with fail
            go_ret
            exact ⟨rfl, BW.out.trans (Below.mono B14.out BW.out.size)⟩

set_option maxRecDepth 100000 in
theorem lifted (os : Os) (started : os.Started) (H : Type) (enc : TypeId × Value → H) :
    ReturnsInHanded {} Tryd.checked os 13 .any (fun w args => (Rows.spanTellsSpec.pre enc Tryd.prog Tryd.f13 Rows.spanTellsRow.domain false w args ∧ laidMetH Tryd.prog Laid.list w) ∧ sizedMet enc Tryd.prog Tryd.f13 (OpenSpec.ofChange Rows.spanTellsSpec) false w args) (Rows.spanTellsSpec.post enc Tryd.prog Tryd.f13 false true false false) := by
  refine returnsInHanded_of_change_and (C := Tryd.checked) (X := fun w _ => laidMetH Tryd.prog Laid.list w) (fun _ _ _ hh h => h.of_heap hh) Laid.own started (by kernel_rfl) Tryd.func13
    (ChangeSpec.witness_at (enc := enc) (C := Tryd.checked) (os := os) (X := fun w _ => laidMetH Tryd.prog Laid.list w) false (laidWorld os) #[.slice none 0 0, .int .i64 0, .int .i64 0, .agg #[.int .u8 0, .int .u8 0, .int .u8 0, .int .u8 0, .int .u8 0, .int .u8 0, .int .u8 0, .int .u8 0, .int .u8 0, .int .u8 0, .int .u8 0, .int .u8 0, .int .u8 0, .int .u8 0, .int .u8 0, .int .u8 0, .int .u8 0, .int .u8 0, .int .u8 0, .int .u8 0, .int .u8 0, .int .u8 0, .int .u8 0, .int .u8 0, .int .u8 0, .int .u8 0, .int .u8 0, .int .u8 0, .int .u8 0, .int .u8 0, .int .u8 0, .int .u8 0], .int .i64 0, .agg #[.int .i64 0, .slice none 0 0, .slice none 0 0]] 8 rfl (by kernel_rfl) (by kernel_rfl) (by kernel_rfl) (by kernel_rfl) (by kernel_rfl) (laidWorld_met os _)) ?_
  intro W base args ds gs before hval0 hW _ hsz hL _
  have hro := rounds_of_laid hL
  have hg := handle_of_laid hL
  have hval : ∀ (j : Nat) t v, Tryd.f13.params[j]? = some t → args[j]? = some v → Value.okWide Tryd.prog W .any base t v := hval0
  have hW' := hW
  obtain ⟨p, q, hA0, hV, rfl, hfz, hnd⟩ := hW
  have hA : DataW.TrodAll enc Tryd.prog W 0 (fun _ => true) true Tryd.f13.params.toList args.toList ds p := hA0
  rw [Tryd.params13] at hA hval
  obtain ⟨v0, vs0, d0, ds0, p0, q0, hargs, rfl, rfl, h0, r0⟩ := trodAll_cons hA
  obtain ⟨v1, vs1, d1, ds1, p1, q1, rfl, rfl, rfl, h1, r1⟩ := trodAll_cons r0
  obtain ⟨v2, vs2, d2, ds2, p2, q2, rfl, rfl, rfl, h2, r2⟩ := trodAll_cons r1
  obtain ⟨v3, vs3, d3, ds3, p3, q3, rfl, rfl, rfl, h3, r3⟩ := trodAll_cons r2
  obtain ⟨v4, vs4, d4, ds4, p4, q4, rfl, rfl, rfl, h4, r4⟩ := trodAll_cons r3
  obtain ⟨v5, vs5, d5, ds5, p5, q5, rfl, rfl, rfl, h5, r5⟩ := trodAll_cons r4
  obtain ⟨rfl, rfl, rfl⟩ := trodAll_nil r5
  obtain rfl : args = #[v0, v1, v2, v3, v4, v5] := by cases args; simp_all
  obtain ⟨rfl, rfl⟩ := trodVars_none hV
  have k0 := h0
  have lt0 : ∀ x ∈ p0, x.block < W.heap.size := by obtain ⟨m, hm⟩ := k0; exact DataW.trod_lt m _ _ _ hm
  obtain ⟨x0, a0, c0, e0, rfl, l0, m0, n0, r_0⟩ := open_ents Tryd.underlying40 Tryd.underlying35 Tryd.underlying3 Tryd.underlying23 Tryd.underlying5 (by kernel_rfl) (by kernel_rfl) (by kernel_rfl) (by kernel_rfl) rfl rfl (hval 0 40 v0 rfl rfl) h0
  have k1 := h1
  have lt1 : ∀ x ∈ p1, x.block < W.heap.size := by obtain ⟨m, hm⟩ := k1; exact DataW.trod_lt m _ _ _ hm
  obtain ⟨a1, rfl, _, _, w1⟩ := open_int Tryd.underlying3 (hval 1 3 v1 rfl rfl) h1
  have b1 := bounds_i64 w1
  have k2 := h2
  have lt2 : ∀ x ∈ p2, x.block < W.heap.size := by obtain ⟨m, hm⟩ := k2; exact DataW.trod_lt m _ _ _ hm
  obtain ⟨a2, rfl, _, _, w2⟩ := open_int Tryd.underlying3 (hval 2 3 v2 rfl rfl) h2
  have b2 := bounds_i64 w2
  have k3 := h3
  have lt3 : ∀ x ∈ p3, x.block < W.heap.size := by obtain ⟨m, hm⟩ := k3; exact DataW.trod_lt m _ _ _ hm
  obtain ⟨x3, n3, rfl⟩ := open_digest Tryd.underlying23 Tryd.underlying5 (by kernel_rfl) (by kernel_rfl) (hval 3 23 v3 rfl rfl) h3
  have k4 := h4
  have lt4 : ∀ x ∈ p4, x.block < W.heap.size := by obtain ⟨m, hm⟩ := k4; exact DataW.trod_lt m _ _ _ hm
  obtain ⟨a4, rfl, _, _, w4⟩ := open_int Tryd.underlying3 (hval 4 3 v4 rfl rfl) h4
  have b4 := bounds_i64 w4
  have k5 := h5
  have lt5 : ∀ x ∈ p5, x.block < W.heap.size := by obtain ⟨m, hm⟩ := k5; exact DataW.trod_lt m _ _ _ hm
  obtain ⟨j5, x5, a5, c5, e5, y5, b_5, d_5, f5, u5, rfl, h_5, l5, m5, n5, r_5, k_5, g5, s_5, p_5, q_5⟩ := open_range Tryd.underlying61 Tryd.underlying3 Tryd.underlying40 Tryd.underlying59 Tryd.underlying35 Tryd.underlying3 Tryd.underlying23 Tryd.underlying5 Tryd.underlying24 Tryd.underlying23 (by kernel_rfl) (by kernel_rfl) (by kernel_rfl) (by kernel_rfl) (by kernel_rfl) (by kernel_rfl) (by kernel_rfl) (by kernel_rfl) (by kernel_rfl) (by kernel_rfl) rfl rfl rfl rfl rfl (hval 5 61 v5 rfl rfl) h5
  clear hA0 hval0
  refine (walk x0 a0 c0 e0 a1 a2 x3 a4 j5 x5 a5 c5 e5 y5 b_5 d_5 f5 u5 W l0 m0 n0 r_0 b1 b2 n3 b4 h_5 l5 m5 n5 r_5 k_5 g5 s_5 p_5 q_5 hro hg).mono fun e W' ⟨he, bel⟩ => ?_
  subst he
  exact ⟨_, rfl, _, _, _, [], _, [], hW', trodAll_mk1 (shut_bool Tryd.underlying4 _), (trodAll_cons_mk (Below.trod Laid.laidOut (by kernel_rfl) (of_decide_eq_true (by kernel_rfl)) k0 bel lt0) (trodAll_cons_mk (Below.trod Laid.laidOut (by kernel_rfl) (of_decide_eq_true (by kernel_rfl)) k1 bel lt1) (trodAll_cons_mk (Below.trod Laid.laidOut (by kernel_rfl) (of_decide_eq_true (by kernel_rfl)) k2 bel lt2) (trodAll_cons_mk (Below.trod Laid.laidOut (by kernel_rfl) (of_decide_eq_true (by kernel_rfl)) k3 bel lt3) (trodAll_cons_mk (Below.trod Laid.laidOut (by kernel_rfl) (of_decide_eq_true (by kernel_rfl)) k4 bel lt4) (trodAll_cons_mk (Below.trod Laid.laidOut (by kernel_rfl) (of_decide_eq_true (by kernel_rfl)) k5 bel lt5) trodAll_mk0)))))), rfl, bel.frame _, fun h => by cases h⟩

theorem over : Rows.spanTellsRow.holds Tryd.pinned (OpenSpec.ofChange Rows.spanTellsSpec) :=
  OpenClaim.holds_of_wide 13 Tryd.f13 rfl rfl rfl rfl rfl rfl rfl ⟨rfl, rfl, rfl, rfl, rfl⟩ rfl rfl rfl rfl rfl (by kernel_rfl) Tryd.func13 (by kernel_rfl)
    (of_decide_eq_true (by kernel_rfl)) (by unfold Func.isWrapper; first | (rw [if_pos (by decide +kernel)]; kernel_rfl) | (rw [if_neg (by decide +kernel)]; exact ⟨rfl, rfl⟩))
    (fun os started H enc _ => lifted os started H enc)

theorem proved : Rows.SpanTellsCardSaid :=
  Claim7.holds_tied_plain_at .later [] [.data, .handle] true (true, "dc8737acee50ade5d9e6156f300c62d149993f3a6545deb441f0e2b50ff31829") true
    over (fun _ h => by cases h) (by kernel_rfl) (fun _ h => by cases h) spanTells_row_tie rfl ⟨rfl, rfl⟩ (by kernel_rfl) rfl
    (fun f fn hf hfn => by
      obtain rfl : f = 13 := Option.some.inj ((show Tryd.prog.funcNamed "oathbook/oathbooklaw4.SpanTells" = some 13 by kernel_rfl).symm.trans hf) |>.symm
      obtain rfl : fn = Tryd.f13 := (Option.some.inj (Tryd.func13.symm.trans hfn)).symm
      exact ⟨by kernel_rfl, stand_of_all (by kernel_rfl)⟩)
    (by kernel_rfl)
#print axioms proved
end spanTells
end Go.Proofs.YtpeomfehdccmmaaDoor
