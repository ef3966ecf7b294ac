/- THE MAP AS THE DOCUMENT HAS IT: oathbooklaw2.TrieRoots answers true at every input. -/
import Derived.Test.YtpeomfehdccmmaaDoorRows
import Derived.Test.YtpeomfehdccmmaaDoorTrieRefs
import Derived.Test.YtpeomfehdccmmaaDoorTrieClash
import Derived.Test.YtpeomfehdccmmaaDoorLaidRH
import Derived.WalkKit
import Derived.ProofKit
import Derived.OpenShut
import Derived.ShutString
import Derived.ChangeOld
import Derived.Below
namespace Go.Proofs.YtpeomfehdccmmaaDoor
open Go.ChangeShapes Go.WideShapes Go.ChangeAt Go.RowKit
open Go.ChangeMaps (open_string shut_string)
set_option linter.unusedVariables false
namespace trieRoots

theorem SameD (P : List (List UInt8)) (hn : P.length = 32) (hd : ∀ p ∈ P, p.length = 32) (a b : Option Addr) (ca cb ea eb : Nat) (w : World) (ha : Rd w a ea (P.flatten.map vB)) (hb : Rd w b eb (P.flatten.map vB)) :
    Calls Tryd.prog 30 #[.slice a 32 ca, .slice b 32 cb] w fun e w' => e = .returned (.bool true) ∧ Below w.heap.size w w' := by
  have := Digests_calls P P hd hd a b ca cb ea eb w ha hb (by omega)
  rw [hn, decide_eq_true rfl] at this
  refine this.mono ?_
  rintro e w' ⟨h, n, rfl⟩
  exact ⟨h, below_drewN (Below.refl _ _) n⟩
theorem SameN (w : World) : Calls Tryd.prog 30 #[.slice none 0 0, .slice none 0 0] w fun e w' => e = .returned (.bool true) ∧ Below w.heap.size w w' := by
  refine (Digests_calls [] [] (fun _ h => by cases h) (fun _ h => by cases h) none none 0 0 0 0 w (.inl rfl) (.inl rfl) (by decide)).mono ?_
  rintro e w' ⟨h, n, rfl⟩
  exact ⟨h, below_drewN (Below.refl _ _) n⟩
-- HOLE: the walk
set_option maxRecDepth 20000 in
set_option maxHeartbeats 16000000 in
theorem walk (x0 : List En) (a0 : Option Addr) (c0 e0 : Nat) (a1 : Int) (x2 : En) (w : World) (l0 : x0.length ≤ c0) (m0 : c0 ≤ 9223372036854775807) (n0 : ∀ e ∈ x0, EnW e) (r0 : Rd w a0 e0 (cellsE x0)) (h1 : -9223372036854775808 ≤ a1 ∧ a1 ≤ 9223372036854775807) (n2 : EnW x2) (hro : RoundsAt w) (hg : ErrVar w) :
    Calls Tryd.prog 9 #[.slice a0 x0.length c0, .int .i64 a1, .agg (eV x2.key x2.val)] w fun e w' => e = .returned (.bool true) ∧ Below w.heap.size w w' := by
  obtain ⟨Z, hZ⟩ : ∃ Z, Z = nz := ⟨_, rfl⟩
  have zl : Z.length = 32 := by rw [hZ]; rfl
  have zlit : (#[.int .u8 0, .int .u8 0, .int .u8 0, .int .u8 0, .int .u8 0, .int .u8 0, .int .u8 0, .int .u8 0, .int .u8 0, .int .u8 0, .int .u8 0, .int .u8 0, .int .u8 0, .int .u8 0, .int .u8 0, .int .u8 0, .int .u8 0, .int .u8 0, .int .u8 0, .int .u8 0, .int .u8 0, .int .u8 0, .int .u8 0, .int .u8 0, .int .u8 0, .int .u8 0, .int .u8 0, .int .u8 0, .int .u8 0, .int .u8 0, .int .u8 0, .int .u8 0] : Array Value) = dV Z := by rw [hZ]; exact zdig
  have ZL := Lib.hid zl
  have ZT := Lib.hid zlit
  have HZ := Lib.hid hZ
  clear zl zlit hZ
  obtain ⟨H, hH⟩ : ∃ H, H = w.heap.size := ⟨_, rfl⟩
  obtain ⟨w0, hw0⟩ : ∃ z, z = w.alloc (.cells (eV x2.key x2.val) 35) := ⟨_, rfl⟩
  have q0 : w0.heap.size = H + 1 := by rw [hw0, hH]; exact World.size_alloc _ _
  have s0 : Below (H) w w0 := by rw [hw0, hH]; exact (Below.refl _ _).alloc (Nat.le_refl _) _
  have t0 : Below (H + 1) w0 w0 := Below.refl _ _
  have bL : Below H w w0 := s0.trans (t0.mono (by omega))
  have g0 : w0.heap[H]? = some (.cells (eV x2.key x2.val) 35 (0, 0)) := by
    have g : w0.heap[H]? = some (.cells (eV x2.key x2.val) 35 (0, 0)) := by rw [hw0, hH]; exact heap_alloc_new _ _
    exact (t0.block _ (by omega)).trans g
  have bW : Below w.heap.size w w0 := by rw [← hH]; exact bL
  have hsz : H < w0.heap.size := by omega
  have HH := Lib.hid hH
  have HW0 := Lib.hid hw0
  have BL := Lib.hid bL
  have BW := Lib.hid bW
  have QL := Lib.hid q0
  have G0 := Lib.hid g0
  clear hH hw0 q0 s0 t0 g0 bL bW
  have B0 := BW
  have GH_0 := G0
  have LH_0 := Lib.hid hsz
  have RO := Lib.hid hro
  have HG := Lib.hid hg
  have E32 := Lib.hid n2.1
  have hle : x0.length ≤ 9223372036854775807 := by omega
  replace r0 := Lib.hid r0
  replace n0 := Lib.hid n0
  have MF := fun w' hr => MapFault_calls x0 n0.out a0 c0 e0 w' hr hle
  clear hro hg n2 hsz h1
  by_cases hf0 : mapF x0 = 0
  · obtain ⟨R, hR⟩ : ∃ R, R = rootD x0 := ⟨_, rfl⟩
    have RL := Lib.hid (show R.length = 32 by rw [hR]; exact rootD_length x0)
    obtain ⟨h64, hko, hap⟩ := apart_ok x0 hf0
    have MR : ∀ w', Rd w' a0 e0 (cellsE x0) → Calls Tryd.prog 28 #[.slice a0 x0.length c0, .int .i64 0, .int .i64 4294967296] w' fun e w'' => e = .returned (.agg (dV R)) ∧ Below w'.heap.size w' w'' := fun w' hr => by
      have := MapRoot_calls 32 (Nat.le_refl _) x0 n0.out hko h64 a0 c0 e0 0 (by decide) w' hr
      have hm := mapR_eq 32 0 x0 hap
      rw [Nat.zero_mul] at hm
      rw [hm] at this
      rw [hR]
      exact this
    have TRO := fun w' hr ho => TRoot_ok x0 n0.out a0 c0 e0 l0 m0 w' hr hf0 ho
    rw [← hR] at TRO
    rw [hf0] at MF
    have HF0 := Lib.hid hf0
    have ERR := Lib.hid (show (R == R) = true by simp)
    clear hR h64 hko hap hf0 hle
    by_cases hk : KeyOk a1
    · obtain ⟨k, hk1⟩ : ∃ k : Nat, a1 = (k : Int) := ⟨a1.toNat, by have := hk.1; omega⟩
      have hk2 : k < 4294967296 := by have := hk.2; omega
      have PO := fun w' hr ho => Path_ok x0 n0.out a0 c0 e0 l0 m0 k hk2 w' hr HF0.out ho
      have MP := fun w' hr => MapPath_calls x0 n0.out HF0.out a0 c0 e0 k hk2 w' hr
      obtain ⟨P, hP⟩ : ∃ P, P = pathD (leafF x0) k := ⟨_, rfl⟩
      have PN := Lib.hid (show P.length = 32 by rw [hP]; exact pathD_length _ _)
      have PD := Lib.hid (show ∀ p ∈ P, p.length = 32 by rw [hP, ← sibs_zero]; exact sibs_dig _ (leafF_length x0) k 0)
      rw [← hP, ← hk1] at PO MP
      have HK := Lib.hid hk
      clear hP hk1 hk hk2
      by_cases hke : KeyOk x2.key
      · obtain ⟨q, hq⟩ : ∃ q : Nat, x2.key = (q : Int) := ⟨x2.key.toNat, by have := hke.1; omega⟩
        have hq2 : q < 4294967296 := by have := hke.2; omega
        have EL := EntryLeaf_calls q hq2 x2.val E32.out
        have TL := Leaf_calls q hq2 x2.val E32.out
        obtain ⟨LF, hLF⟩ : ∃ L, L = leafD q x2.val := ⟨_, rfl⟩
        have LFL := Lib.hid (show LF.length = 32 by rw [hLF]; exact leafD_length _ _)
        rw [← hLF, ← hq] at EL TL
        have KB := decide_eq_true hke
        clear hLF hq hq2 hke
        obtain ⟨N, hN⟩ : ∃ N, N = nodeD LF R := ⟨_, rfl⟩
        have NL := Lib.hid (show N.length = 32 by rw [hN]; exact nodeD_length _ _)
        have NOD := Node_calls LF R LFL.out RL.out
        have MNO := RMapNode_calls LF R LFL.out RL.out
        rw [← hN] at NOD MNO
        have ERL := Lib.hid (show (LF == LF) = true by simp)
        have ERN := Lib.hid (show (N == N) = true by simp)
        clear hN
        go_enter Tryd.func9, Tryd.ntmps9
        go_upto_region 1 with fail
        rw [← HH.out, ← HW0.out]
        go_wp2_with fail
        refine (MF w0 (r0.out.below B0.out)).mono ?_
        rintro e w1 ⟨rfl, hb1⟩
        have B1 := Lib.hid (show Below w.heap.size w w1 from Below.trans B0.out (Below.mono hb1 (Below.size B0.out)))
        have GH_1 := Lib.hid ((Below.block hb1 H LH_0.out).trans GH_0.out)
        have LH_1 := Lib.hid (Nat.lt_of_lt_of_le LH_0.out (Below.size hb1))
        clear hb1
        obtain ⟨V, hV⟩ : ∃ z, z = w1.heap.size := ⟨_, rfl⟩
        obtain ⟨w2, hw2⟩ : ∃ z, z = w1.alloc (.cells (dV Z) 23) := ⟨_, rfl⟩
        have st2 : Below w1.heap.size w1 w2 := by rw [hw2]; exact (Below.refl _ _).alloc (Nat.le_refl _) _
        have B2 := Lib.hid (show Below w.heap.size w w2 from Below.trans B1.out (Below.mono st2 (Below.size B1.out)))
        have GH_2 := Lib.hid ((Below.block st2 H LH_1.out).trans GH_1.out)
        have LH_2 := Lib.hid (Nat.lt_of_lt_of_le LH_1.out (Below.size st2))
        have GV_2 := Lib.hid (show w2.heap[V]? = some (.cells (dV Z) 23 (0, 0)) by rw [hw2, hV]; exact heap_alloc_new _ _)
        have LV_2 := Lib.hid (lt_of_heap GV_2.out)
        have HV := Lib.hid hV
        have Hw2 := Lib.hid hw2
        clear hV hw2 st2
        go_wp2_with fail
        rw [ZT.out, ← HV.out, ← Hw2.out]
        refine (MR w2 (r0.out.below B2.out)).mono ?_
        rintro e w3 ⟨rfl, hb3⟩
        have B3 := Lib.hid (show Below w.heap.size w w3 from Below.trans B2.out (Below.mono hb3 (Below.size B2.out)))
        have GH_3 := Lib.hid ((Below.block hb3 H LH_2.out).trans GH_2.out)
        have LH_3 := Lib.hid (Nat.lt_of_lt_of_le LH_2.out (Below.size hb3))
        have GV_3 := Lib.hid ((Below.block hb3 V LV_2.out).trans GV_2.out)
        have LV_3 := Lib.hid (Nat.lt_of_lt_of_le LV_2.out (Below.size hb3))
        clear hb3
        obtain ⟨w4, hw4⟩ : ∃ z, z = w3.setRow V (dV R) := ⟨_, rfl⟩
        have B4 := Lib.hid (show Below w.heap.size w w4 by rw [hw4]; exact below_setRowW B3.out (by rw [HV.out]; exact Below.size B1.out) _)
        have sz4 : w4.heap.size = w3.heap.size := by rw [hw4]; exact setRow_size _ _ _
        have GH_4 := Lib.hid (show w4.heap[H]? = some (.cells (eV x2.key x2.val) 35 (0, 0)) by rw [hw4]; exact (_root_.Go.setRow_other _ _ _ _ (by rw [HV.out]; exact Nat.ne_of_lt LH_1.out)).trans GH_3.out)
        have LH_4 := Lib.hid (show H < w4.heap.size by rw [sz4]; exact LH_3.out)
        have GV_4 := Lib.hid (show w4.heap[V]? = some (.cells (dV R) 23 (0, 0)) by rw [hw4]; exact setRow_heap _ _ _ _ _ _ GV_3.out)
        have LV_4 := Lib.hid (show V < w4.heap.size by rw [sz4]; exact LV_3.out)
        have Hw4 := Lib.hid hw4
        clear hw4 sz4
        go_wp2_with (first
          | ((refine st_row rfl (.tmp 8) (.tmp 22) rfl V R RL.out (by rfl) (by rfl) (dV Z) (dV_size ZL.out) _ GV_3.out ?_); rw [← Hw4.out]))
        refine (TRO w4 (r0.out.below B4.out) (RO.out.at_ B4.out)).mono ?_
        rintro e w5 ⟨rfl, hb5⟩
        have B5 := Lib.hid (show Below w.heap.size w w5 from Below.trans B4.out (Below.mono hb5 (Below.size B4.out)))
        have GH_5 := Lib.hid ((Below.block hb5 H LH_4.out).trans GH_4.out)
        have LH_5 := Lib.hid (Nat.lt_of_lt_of_le LH_4.out (Below.size hb5))
        have GV_5 := Lib.hid ((Below.block hb5 V LV_4.out).trans GV_4.out)
        have LV_5 := Lib.hid (Nat.lt_of_lt_of_le LV_4.out (Below.size hb5))
        clear hb5
        obtain ⟨U, hU⟩ : ∃ z, z = w5.heap.size := ⟨_, rfl⟩
        obtain ⟨w6, hw6⟩ : ∃ z, z = w5.alloc (.cells (dV R) 23) := ⟨_, rfl⟩
        have st6 : Below w5.heap.size w5 w6 := by rw [hw6]; exact (Below.refl _ _).alloc (Nat.le_refl _) _
        have B6 := Lib.hid (show Below w.heap.size w w6 from Below.trans B5.out (Below.mono st6 (Below.size B5.out)))
        have GH_6 := Lib.hid ((Below.block st6 H LH_5.out).trans GH_5.out)
        have LH_6 := Lib.hid (Nat.lt_of_lt_of_le LH_5.out (Below.size st6))
        have GV_6 := Lib.hid ((Below.block st6 V LV_5.out).trans GV_5.out)
        have LV_6 := Lib.hid (Nat.lt_of_lt_of_le LV_5.out (Below.size st6))
        have GU_6 := Lib.hid (show w6.heap[U]? = some (.cells (dV R) 23 (0, 0)) by rw [hw6, hU]; exact heap_alloc_new _ _)
        have LU_6 := Lib.hid (lt_of_heap GU_6.out)
        have HU := Lib.hid hU
        have Hw6 := Lib.hid hw6
        clear hU hw6 st6
        go_wp2_with (first
          | ((refine st_new rfl (.tmp 9) (.tmp 26) rfl R RL.out (by rfl) _ _ (by rfl) (by rfl) ?_); rw [← HU.out, ← Hw6.out]))
        refine (((Error_nil 0 true (by decide) w6).mono fun r w' h => (⟨h.1, by rw [← h.2]; exact Below.refl _ _⟩ : r = .returned (.bool true) ∧ Below w6.heap.size w6 w'))).mono ?_
        rintro e w7 ⟨rfl, hb7⟩
        have B7 := Lib.hid (show Below w.heap.size w w7 from Below.trans B6.out (Below.mono hb7 (Below.size B6.out)))
        have GH_7 := Lib.hid ((Below.block hb7 H LH_6.out).trans GH_6.out)
        have LH_7 := Lib.hid (Nat.lt_of_lt_of_le LH_6.out (Below.size hb7))
        have GV_7 := Lib.hid ((Below.block hb7 V LV_6.out).trans GV_6.out)
        have LV_7 := Lib.hid (Nat.lt_of_lt_of_le LV_6.out (Below.size hb7))
        have GU_7 := Lib.hid ((Below.block hb7 U LU_6.out).trans GU_6.out)
        have LU_7 := Lib.hid (Nat.lt_of_lt_of_le LU_6.out (Below.size hb7))
        clear hb7
        go_wp2_with (first
          | ((refine ld_digG rfl (.tmp 9) rfl (U) 0 (by rfl) R RL.out (range_of_row GU_7.out) ?_); simp only [Act.put, List.setIfInBounds_toArray, List.set_cons_zero, List.set_cons_succ])
          | ((refine ld_digG rfl (.tmp 8) rfl (V) 0 (by rfl) R RL.out (range_of_row GV_7.out) ?_); simp only [Act.put, List.setIfInBounds_toArray, List.set_cons_zero, List.set_cons_succ])
          | ((refine neq_digG rfl (.tmp 34) (.tmp 35) _ rfl R R (by rfl) (by rfl) RL.out RL.out ?_); rw [ERR.out]; simp only [Act.put, List.setIfInBounds_toArray, List.set_cons_zero, List.set_cons_succ]))
        refine (((IsKey_calls a1 w7).mono fun r w' h => (⟨by rw [h.1, decide_eq_true HK.out], by rw [← h.2]; exact Below.refl _ _⟩ : r = .returned (.bool true) ∧ Below w7.heap.size w7 w'))).mono ?_
        rintro e w8 ⟨rfl, hb8⟩
        have B8 := Lib.hid (show Below w.heap.size w w8 from Below.trans B7.out (Below.mono hb8 (Below.size B7.out)))
        have GH_8 := Lib.hid ((Below.block hb8 H LH_7.out).trans GH_7.out)
        have LH_8 := Lib.hid (Nat.lt_of_lt_of_le LH_7.out (Below.size hb8))
        have GV_8 := Lib.hid ((Below.block hb8 V LV_7.out).trans GV_7.out)
        have LV_8 := Lib.hid (Nat.lt_of_lt_of_le LV_7.out (Below.size hb8))
        have GU_8 := Lib.hid ((Below.block hb8 U LU_7.out).trans GU_7.out)
        have LU_8 := Lib.hid (Nat.lt_of_lt_of_le LU_7.out (Below.size hb8))
        clear hb8
        go_wp2_with fail
        refine (MP w8 (r0.out.below B8.out)).mono ?_
        rintro e w9 ⟨ma, mc, rfl, hown, hb9⟩
        have B9 := Lib.hid (show Below w.heap.size w w9 from Below.trans B8.out (Below.mono hb9 (Below.size B8.out)))
        have GH_9 := Lib.hid ((Below.block hb9 H LH_8.out).trans GH_8.out)
        have LH_9 := Lib.hid (Nat.lt_of_lt_of_le LH_8.out (Below.size hb9))
        have GV_9 := Lib.hid ((Below.block hb9 V LV_8.out).trans GV_8.out)
        have LV_9 := Lib.hid (Nat.lt_of_lt_of_le LV_8.out (Below.size hb9))
        have GU_9 := Lib.hid ((Below.block hb9 U LU_8.out).trans GU_8.out)
        have LU_9 := Lib.hid (Nat.lt_of_lt_of_le LU_8.out (Below.size hb9))
        have RM_9 := Lib.hid (Rd.of_own hown)
        clear hown
        clear hb9
        go_wp2_with fail
        refine (PO w9 (r0.out.below B9.out) (RO.out.at_ B9.out)).mono ?_
        rintro e w10 ⟨pa, pc, rfl, hown, hb10⟩
        have B10 := Lib.hid (show Below w.heap.size w w10 from Below.trans B9.out (Below.mono hb10 (Below.size B9.out)))
        have GH_10 := Lib.hid ((Below.block hb10 H LH_9.out).trans GH_9.out)
        have LH_10 := Lib.hid (Nat.lt_of_lt_of_le LH_9.out (Below.size hb10))
        have GV_10 := Lib.hid ((Below.block hb10 V LV_9.out).trans GV_9.out)
        have LV_10 := Lib.hid (Nat.lt_of_lt_of_le LV_9.out (Below.size hb10))
        have GU_10 := Lib.hid ((Below.block hb10 U LU_9.out).trans GU_9.out)
        have LU_10 := Lib.hid (Nat.lt_of_lt_of_le LU_9.out (Below.size hb10))
        have RM_10 := Lib.hid (RM_9.out.below hb10)
        have RP_10 := Lib.hid (Rd.of_own hown)
        clear hown
        clear hb10
        go_wp2_with fail
        refine (((Error_nil 0 true (by decide) w10).mono fun r w' h => (⟨h.1, by rw [← h.2]; exact Below.refl _ _⟩ : r = .returned (.bool true) ∧ Below w10.heap.size w10 w'))).mono ?_
        rintro e w11 ⟨rfl, hb11⟩
        have B11 := Lib.hid (show Below w.heap.size w w11 from Below.trans B10.out (Below.mono hb11 (Below.size B10.out)))
        have GH_11 := Lib.hid ((Below.block hb11 H LH_10.out).trans GH_10.out)
        have LH_11 := Lib.hid (Nat.lt_of_lt_of_le LH_10.out (Below.size hb11))
        have GV_11 := Lib.hid ((Below.block hb11 V LV_10.out).trans GV_10.out)
        have LV_11 := Lib.hid (Nat.lt_of_lt_of_le LV_10.out (Below.size hb11))
        have GU_11 := Lib.hid ((Below.block hb11 U LU_10.out).trans GU_10.out)
        have LU_11 := Lib.hid (Nat.lt_of_lt_of_le LU_10.out (Below.size hb11))
        have RM_11 := Lib.hid (RM_10.out.below hb11)
        have RP_11 := Lib.hid (RP_10.out.below hb11)
        clear hb11
        go_wp2_with fail
        refine (SameD P PN.out PD.out pa ma pc mc _ _ w11 RP_11.out RM_11.out).mono ?_
        rintro e w12 ⟨rfl, hb12⟩
        have B12 := Lib.hid (show Below w.heap.size w w12 from Below.trans B11.out (Below.mono hb12 (Below.size B11.out)))
        have GH_12 := Lib.hid ((Below.block hb12 H LH_11.out).trans GH_11.out)
        have LH_12 := Lib.hid (Nat.lt_of_lt_of_le LH_11.out (Below.size hb12))
        have GV_12 := Lib.hid ((Below.block hb12 V LV_11.out).trans GV_11.out)
        have LV_12 := Lib.hid (Nat.lt_of_lt_of_le LV_11.out (Below.size hb12))
        have GU_12 := Lib.hid ((Below.block hb12 U LU_11.out).trans GU_11.out)
        have LU_12 := Lib.hid (Nat.lt_of_lt_of_le LU_11.out (Below.size hb12))
        have RM_12 := Lib.hid (RM_11.out.below hb12)
        have RP_12 := Lib.hid (RP_11.out.below hb12)
        clear hb12
        obtain ⟨Y, hY⟩ : ∃ z, z = w12.heap.size := ⟨_, rfl⟩
        obtain ⟨w13, hw13⟩ : ∃ z, z = w12.alloc (.cells (dV Z) 23) := ⟨_, rfl⟩
        have st13 : Below w12.heap.size w12 w13 := by rw [hw13]; exact (Below.refl _ _).alloc (Nat.le_refl _) _
        have B13 := Lib.hid (show Below w.heap.size w w13 from Below.trans B12.out (Below.mono st13 (Below.size B12.out)))
        have GH_13 := Lib.hid ((Below.block st13 H LH_12.out).trans GH_12.out)
        have LH_13 := Lib.hid (Nat.lt_of_lt_of_le LH_12.out (Below.size st13))
        have GV_13 := Lib.hid ((Below.block st13 V LV_12.out).trans GV_12.out)
        have LV_13 := Lib.hid (Nat.lt_of_lt_of_le LV_12.out (Below.size st13))
        have GU_13 := Lib.hid ((Below.block st13 U LU_12.out).trans GU_12.out)
        have LU_13 := Lib.hid (Nat.lt_of_lt_of_le LU_12.out (Below.size st13))
        have GY_13 := Lib.hid (show w13.heap[Y]? = some (.cells (dV Z) 23 (0, 0)) by rw [hw13, hY]; exact heap_alloc_new _ _)
        have LY_13 := Lib.hid (lt_of_heap GY_13.out)
        have HY := Lib.hid hY
        have Hw13 := Lib.hid hw13
        clear hY hw13 st13
        go_upto_region 21 with fail
        rw [ZT.out, ← HY.out, ← Hw13.out]
        have ck := eV_key GH_13.out
        go_wp2_with fail
        refine (((IsKey_calls x2.key w13).mono fun r w' h => (⟨by rw [h.1, KB], by rw [← h.2]; exact Below.refl _ _⟩ : r = .returned (.bool true) ∧ Below w13.heap.size w13 w'))).mono ?_
        rintro e w14 ⟨rfl, hb14⟩
        have B14 := Lib.hid (show Below w.heap.size w w14 from Below.trans B13.out (Below.mono hb14 (Below.size B13.out)))
        have GH_14 := Lib.hid ((Below.block hb14 H LH_13.out).trans GH_13.out)
        have LH_14 := Lib.hid (Nat.lt_of_lt_of_le LH_13.out (Below.size hb14))
        have GV_14 := Lib.hid ((Below.block hb14 V LV_13.out).trans GV_13.out)
        have LV_14 := Lib.hid (Nat.lt_of_lt_of_le LV_13.out (Below.size hb14))
        have GU_14 := Lib.hid ((Below.block hb14 U LU_13.out).trans GU_13.out)
        have LU_14 := Lib.hid (Nat.lt_of_lt_of_le LU_13.out (Below.size hb14))
        have GY_14 := Lib.hid ((Below.block hb14 Y LY_13.out).trans GY_13.out)
        have LY_14 := Lib.hid (Nat.lt_of_lt_of_le LY_13.out (Below.size hb14))
        clear hb14
        go_wp2_with (first
          | ((refine ld_entG rfl (.tmp 5) rfl H 0 (by rfl) x2 E32.out (range_ent GH_14.out) ?_); simp only [Act.put, List.setIfInBounds_toArray, List.set_cons_zero, List.set_cons_succ]))
        refine (EL w14).mono ?_
        rintro e w15 ⟨rfl, hb15⟩
        have B15 := Lib.hid (show Below w.heap.size w w15 from Below.trans B14.out (Below.mono hb15 (Below.size B14.out)))
        have GH_15 := Lib.hid ((Below.block hb15 H LH_14.out).trans GH_14.out)
        have LH_15 := Lib.hid (Nat.lt_of_lt_of_le LH_14.out (Below.size hb15))
        have GV_15 := Lib.hid ((Below.block hb15 V LV_14.out).trans GV_14.out)
        have LV_15 := Lib.hid (Nat.lt_of_lt_of_le LV_14.out (Below.size hb15))
        have GU_15 := Lib.hid ((Below.block hb15 U LU_14.out).trans GU_14.out)
        have LU_15 := Lib.hid (Nat.lt_of_lt_of_le LU_14.out (Below.size hb15))
        have GY_15 := Lib.hid ((Below.block hb15 Y LY_14.out).trans GY_14.out)
        have LY_15 := Lib.hid (Nat.lt_of_lt_of_le LY_14.out (Below.size hb15))
        clear hb15
        obtain ⟨w16, hw16⟩ : ∃ z, z = w15.setRow Y (dV LF) := ⟨_, rfl⟩
        have B16 := Lib.hid (show Below w.heap.size w w16 by rw [hw16]; exact below_setRowW B15.out (by rw [HY.out]; exact Below.size B12.out) _)
        have sz16 : w16.heap.size = w15.heap.size := by rw [hw16]; exact setRow_size _ _ _
        have GH_16 := Lib.hid (show w16.heap[H]? = some (.cells (eV x2.key x2.val) 35 (0, 0)) by rw [hw16]; exact (_root_.Go.setRow_other _ _ _ _ (by rw [HY.out]; exact Nat.ne_of_lt LH_12.out)).trans GH_15.out)
        have LH_16 := Lib.hid (show H < w16.heap.size by rw [sz16]; exact LH_15.out)
        have GV_16 := Lib.hid (show w16.heap[V]? = some (.cells (dV R) 23 (0, 0)) by rw [hw16]; exact (_root_.Go.setRow_other _ _ _ _ (by rw [HY.out]; exact Nat.ne_of_lt LV_12.out)).trans GV_15.out)
        have LV_16 := Lib.hid (show V < w16.heap.size by rw [sz16]; exact LV_15.out)
        have GU_16 := Lib.hid (show w16.heap[U]? = some (.cells (dV R) 23 (0, 0)) by rw [hw16]; exact (_root_.Go.setRow_other _ _ _ _ (by rw [HY.out]; exact Nat.ne_of_lt LU_12.out)).trans GU_15.out)
        have LU_16 := Lib.hid (show U < w16.heap.size by rw [sz16]; exact LU_15.out)
        have GY_16 := Lib.hid (show w16.heap[Y]? = some (.cells (dV LF) 23 (0, 0)) by rw [hw16]; exact setRow_heap _ _ _ _ _ _ GY_15.out)
        have LY_16 := Lib.hid (show Y < w16.heap.size by rw [sz16]; exact LY_15.out)
        have Hw16 := Lib.hid hw16
        clear hw16 sz16
        go_wp2_with (first
          | ((refine st_row rfl (.tmp 15) (.tmp 72) rfl Y LF LFL.out (by rfl) (by rfl) (dV Z) (dV_size ZL.out) _ GY_15.out ?_); rw [← Hw16.out])
          | ((refine ld_entG rfl (.tmp 5) rfl H 0 (by rfl) x2 E32.out (range_ent GH_16.out) ?_); simp only [Act.put, List.setIfInBounds_toArray, List.set_cons_zero, List.set_cons_succ]))
        refine (TL w16 (RO.out.at_ B16.out)).mono ?_
        rintro e w17 ⟨rfl, hb17⟩
        have B17 := Lib.hid (show Below w.heap.size w w17 from Below.trans B16.out (Below.mono hb17 (Below.size B16.out)))
        have GH_17 := Lib.hid ((Below.block hb17 H LH_16.out).trans GH_16.out)
        have LH_17 := Lib.hid (Nat.lt_of_lt_of_le LH_16.out (Below.size hb17))
        have GV_17 := Lib.hid ((Below.block hb17 V LV_16.out).trans GV_16.out)
        have LV_17 := Lib.hid (Nat.lt_of_lt_of_le LV_16.out (Below.size hb17))
        have GU_17 := Lib.hid ((Below.block hb17 U LU_16.out).trans GU_16.out)
        have LU_17 := Lib.hid (Nat.lt_of_lt_of_le LU_16.out (Below.size hb17))
        have GY_17 := Lib.hid ((Below.block hb17 Y LY_16.out).trans GY_16.out)
        have LY_17 := Lib.hid (Nat.lt_of_lt_of_le LY_16.out (Below.size hb17))
        clear hb17
        obtain ⟨X, hX⟩ : ∃ z, z = w17.heap.size := ⟨_, rfl⟩
        obtain ⟨w18, hw18⟩ : ∃ z, z = w17.alloc (.cells (dV LF) 23) := ⟨_, rfl⟩
        have st18 : Below w17.heap.size w17 w18 := by rw [hw18]; exact (Below.refl _ _).alloc (Nat.le_refl _) _
        have B18 := Lib.hid (show Below w.heap.size w w18 from Below.trans B17.out (Below.mono st18 (Below.size B17.out)))
        have GH_18 := Lib.hid ((Below.block st18 H LH_17.out).trans GH_17.out)
        have LH_18 := Lib.hid (Nat.lt_of_lt_of_le LH_17.out (Below.size st18))
        have GV_18 := Lib.hid ((Below.block st18 V LV_17.out).trans GV_17.out)
        have LV_18 := Lib.hid (Nat.lt_of_lt_of_le LV_17.out (Below.size st18))
        have GU_18 := Lib.hid ((Below.block st18 U LU_17.out).trans GU_17.out)
        have LU_18 := Lib.hid (Nat.lt_of_lt_of_le LU_17.out (Below.size st18))
        have GY_18 := Lib.hid ((Below.block st18 Y LY_17.out).trans GY_17.out)
        have LY_18 := Lib.hid (Nat.lt_of_lt_of_le LY_17.out (Below.size st18))
        have GX_18 := Lib.hid (show w18.heap[X]? = some (.cells (dV LF) 23 (0, 0)) by rw [hw18, hX]; exact heap_alloc_new _ _)
        have LX_18 := Lib.hid (lt_of_heap GX_18.out)
        have HX := Lib.hid hX
        have Hw18 := Lib.hid hw18
        clear hX hw18 st18
        go_wp2_with (first
          | ((refine st_new rfl (.tmp 16) (.tmp 76) rfl LF LFL.out (by rfl) _ _ (by rfl) (by rfl) ?_); rw [← HX.out, ← Hw18.out]))
        refine (((Error_nil 0 true (by decide) w18).mono fun r w' h => (⟨h.1, by rw [← h.2]; exact Below.refl _ _⟩ : r = .returned (.bool true) ∧ Below w18.heap.size w18 w'))).mono ?_
        rintro e w19 ⟨rfl, hb19⟩
        have B19 := Lib.hid (show Below w.heap.size w w19 from Below.trans B18.out (Below.mono hb19 (Below.size B18.out)))
        have GH_19 := Lib.hid ((Below.block hb19 H LH_18.out).trans GH_18.out)
        have LH_19 := Lib.hid (Nat.lt_of_lt_of_le LH_18.out (Below.size hb19))
        have GV_19 := Lib.hid ((Below.block hb19 V LV_18.out).trans GV_18.out)
        have LV_19 := Lib.hid (Nat.lt_of_lt_of_le LV_18.out (Below.size hb19))
        have GU_19 := Lib.hid ((Below.block hb19 U LU_18.out).trans GU_18.out)
        have LU_19 := Lib.hid (Nat.lt_of_lt_of_le LU_18.out (Below.size hb19))
        have GY_19 := Lib.hid ((Below.block hb19 Y LY_18.out).trans GY_18.out)
        have LY_19 := Lib.hid (Nat.lt_of_lt_of_le LY_18.out (Below.size hb19))
        have GX_19 := Lib.hid ((Below.block hb19 X LX_18.out).trans GX_18.out)
        have LX_19 := Lib.hid (Nat.lt_of_lt_of_le LX_18.out (Below.size hb19))
        clear hb19
        go_wp2_with fail
        have NC : ∀ w', InB w19.heap.size w19 w' → Calls Tryd.prog 31 #[.agg (dV LF), .agg (dV R)] w' fun e w'' => e = .returned (.agg (dV N)) ∧ InB w19.heap.size w19 w'' :=
          fun w' h => InB.call h (Nat.le_refl _) (NOD w' (RO.out.at_ (Below.trans B19.out (Below.mono h (Below.size B19.out)))))
        have MC : ∀ w', InB w19.heap.size w19 w' → Calls Tryd.prog 26 #[.agg (dV LF), .agg (dV R)] w' fun e w'' => e = .returned (.agg (dV N)) ∧ InB w19.heap.size w19 w'' :=
          fun w' h => InB.call h (Nat.le_refl _) (MNO w')
        have HNC := Lib.hid NC
        have HMC := Lib.hid MC
        have hex := inB_ex w19.heap.size w19
        have RX := Lib.hid (range_of_row GX_19.out)
        have RY := Lib.hid (range_of_row GY_19.out)
        have RV := Lib.hid (range_of_row GV_19.out)
        have lX := LX_19.out
        have lY := LY_19.out
        have lV := LV_19.out
        clear NC MC
        refine wp_region_inB w19.heap.size (by kernel_rfl) (by kernel_rfl) ?_
        go_big_quiet_step ((intro _; rfl))
        go_big_quiet_step ((intro _; rfl))
        refine quiet_dig rfl (.tmp 16) rfl X 0 (by rfl) LF LFL.out (fun w' hw' => hw'.range lX RX.out) ?_
        simp only [Act.put, List.setIfInBounds_toArray, List.set_cons_zero, List.set_cons_succ]
        refine quiet_dig rfl (.tmp 15) rfl Y 0 (by rfl) LF LFL.out (fun w' hw' => hw'.range lY RY.out) ?_
        simp only [Act.put, List.setIfInBounds_toArray, List.set_cons_zero, List.set_cons_succ]
        refine quiet_dig_eq rfl (.tmp 83) (.tmp 84) _ rfl LF LF (by rfl) (by rfl) LFL.out LFL.out ?_
        rw [ERL.out]
        simp only [Act.put, List.setIfInBounds_toArray, List.set_cons_zero, List.set_cons_succ]
        go_big_quiet_step ((intro _; rfl))
        go_big_quiet_step ((intro _; rfl))
        refine quiet_dig rfl (.tmp 16) rfl X 0 (by rfl) LF LFL.out (fun w' hw' => hw'.range lX RX.out) ?_
        simp only [Act.put, List.setIfInBounds_toArray, List.set_cons_zero, List.set_cons_succ]
        refine quiet_dig rfl (.tmp 8) rfl V 0 (by rfl) R RL.out (fun w' hw' => hw'.range lV RV.out) ?_
        simp only [Act.put, List.setIfInBounds_toArray, List.set_cons_zero, List.set_cons_succ]
        go_big_quiet_step ((intro hw'; exact HNC.out _ hw'))
        refine quiet_dig rfl (.tmp 15) rfl Y 0 (by rfl) LF LFL.out (fun w' hw' => hw'.range lY RY.out) ?_
        simp only [Act.put, List.setIfInBounds_toArray, List.set_cons_zero, List.set_cons_succ]
        refine quiet_dig rfl (.tmp 8) rfl V 0 (by rfl) R RL.out (fun w' hw' => hw'.range lV RV.out) ?_
        simp only [Act.put, List.setIfInBounds_toArray, List.set_cons_zero, List.set_cons_succ]
        go_big_quiet_step ((intro hw'; exact HMC.out _ hw'))
        refine quiet_dig_eq rfl (.tmp 90) (.tmp 93) _ rfl N N (by rfl) (by rfl) NL.out NL.out ?_
        rw [ERN.out]
        simp only [Act.put, List.setIfInBounds_toArray, List.set_cons_zero, List.set_cons_succ]
        go_big_quiet_step ((intro _; rfl))
        go_big_quiet_step ((intro _; rfl))
        refine wpQuiet_nil ?_
        intro wZ hwZ
        have BZ := Lib.hid (Below.trans B19.out (Below.mono hwZ (Below.size B19.out)))
        clear hwZ HNC HMC
        go_wp2_with fail
        go_ret
        exact ⟨rfl, BZ.out⟩
      · have TLB := Leaf_bad x2.key hke x2.val
        rw [← HZ.out] at TLB
        have KB := decide_eq_false hke
        clear hke
        obtain ⟨N, hN⟩ : ∃ N, N = nodeD Z R := ⟨_, rfl⟩
        have NL := Lib.hid (show N.length = 32 by rw [hN]; exact nodeD_length _ _)
        have NOD := Node_calls Z R ZL.out RL.out
        have MNO := RMapNode_calls Z R ZL.out RL.out
        rw [← hN] at NOD MNO
        have ERL := Lib.hid (show (Z == Z) = true by simp)
        have ERN := Lib.hid (show (N == N) = true by simp)
        clear hN
        go_enter Tryd.func9, Tryd.ntmps9
        go_upto_region 1 with fail
        rw [← HH.out, ← HW0.out]
        go_wp2_with fail
        refine (MF w0 (r0.out.below B0.out)).mono ?_
        rintro e w1 ⟨rfl, hb1⟩
        have B1 := Lib.hid (show Below w.heap.size w w1 from Below.trans B0.out (Below.mono hb1 (Below.size B0.out)))
        have GH_1 := Lib.hid ((Below.block hb1 H LH_0.out).trans GH_0.out)
        have LH_1 := Lib.hid (Nat.lt_of_lt_of_le LH_0.out (Below.size hb1))
        clear hb1
        obtain ⟨V, hV⟩ : ∃ z, z = w1.heap.size := ⟨_, rfl⟩
        obtain ⟨w2, hw2⟩ : ∃ z, z = w1.alloc (.cells (dV Z) 23) := ⟨_, rfl⟩
        have st2 : Below w1.heap.size w1 w2 := by rw [hw2]; exact (Below.refl _ _).alloc (Nat.le_refl _) _
        have B2 := Lib.hid (show Below w.heap.size w w2 from Below.trans B1.out (Below.mono st2 (Below.size B1.out)))
        have GH_2 := Lib.hid ((Below.block st2 H LH_1.out).trans GH_1.out)
        have LH_2 := Lib.hid (Nat.lt_of_lt_of_le LH_1.out (Below.size st2))
        have GV_2 := Lib.hid (show w2.heap[V]? = some (.cells (dV Z) 23 (0, 0)) by rw [hw2, hV]; exact heap_alloc_new _ _)
        have LV_2 := Lib.hid (lt_of_heap GV_2.out)
        have HV := Lib.hid hV
        have Hw2 := Lib.hid hw2
        clear hV hw2 st2
        go_wp2_with fail
        rw [ZT.out, ← HV.out, ← Hw2.out]
        refine (MR w2 (r0.out.below B2.out)).mono ?_
        rintro e w3 ⟨rfl, hb3⟩
        have B3 := Lib.hid (show Below w.heap.size w w3 from Below.trans B2.out (Below.mono hb3 (Below.size B2.out)))
        have GH_3 := Lib.hid ((Below.block hb3 H LH_2.out).trans GH_2.out)
        have LH_3 := Lib.hid (Nat.lt_of_lt_of_le LH_2.out (Below.size hb3))
        have GV_3 := Lib.hid ((Below.block hb3 V LV_2.out).trans GV_2.out)
        have LV_3 := Lib.hid (Nat.lt_of_lt_of_le LV_2.out (Below.size hb3))
        clear hb3
        obtain ⟨w4, hw4⟩ : ∃ z, z = w3.setRow V (dV R) := ⟨_, rfl⟩
        have B4 := Lib.hid (show Below w.heap.size w w4 by rw [hw4]; exact below_setRowW B3.out (by rw [HV.out]; exact Below.size B1.out) _)
        have sz4 : w4.heap.size = w3.heap.size := by rw [hw4]; exact setRow_size _ _ _
        have GH_4 := Lib.hid (show w4.heap[H]? = some (.cells (eV x2.key x2.val) 35 (0, 0)) by rw [hw4]; exact (_root_.Go.setRow_other _ _ _ _ (by rw [HV.out]; exact Nat.ne_of_lt LH_1.out)).trans GH_3.out)
        have LH_4 := Lib.hid (show H < w4.heap.size by rw [sz4]; exact LH_3.out)
        have GV_4 := Lib.hid (show w4.heap[V]? = some (.cells (dV R) 23 (0, 0)) by rw [hw4]; exact setRow_heap _ _ _ _ _ _ GV_3.out)
        have LV_4 := Lib.hid (show V < w4.heap.size by rw [sz4]; exact LV_3.out)
        have Hw4 := Lib.hid hw4
        clear hw4 sz4
        go_wp2_with (first
          | ((refine st_row rfl (.tmp 8) (.tmp 22) rfl V R RL.out (by rfl) (by rfl) (dV Z) (dV_size ZL.out) _ GV_3.out ?_); rw [← Hw4.out]))
        refine (TRO w4 (r0.out.below B4.out) (RO.out.at_ B4.out)).mono ?_
        rintro e w5 ⟨rfl, hb5⟩
        have B5 := Lib.hid (show Below w.heap.size w w5 from Below.trans B4.out (Below.mono hb5 (Below.size B4.out)))
        have GH_5 := Lib.hid ((Below.block hb5 H LH_4.out).trans GH_4.out)
        have LH_5 := Lib.hid (Nat.lt_of_lt_of_le LH_4.out (Below.size hb5))
        have GV_5 := Lib.hid ((Below.block hb5 V LV_4.out).trans GV_4.out)
        have LV_5 := Lib.hid (Nat.lt_of_lt_of_le LV_4.out (Below.size hb5))
        clear hb5
        obtain ⟨U, hU⟩ : ∃ z, z = w5.heap.size := ⟨_, rfl⟩
        obtain ⟨w6, hw6⟩ : ∃ z, z = w5.alloc (.cells (dV R) 23) := ⟨_, rfl⟩
        have st6 : Below w5.heap.size w5 w6 := by rw [hw6]; exact (Below.refl _ _).alloc (Nat.le_refl _) _
        have B6 := Lib.hid (show Below w.heap.size w w6 from Below.trans B5.out (Below.mono st6 (Below.size B5.out)))
        have GH_6 := Lib.hid ((Below.block st6 H LH_5.out).trans GH_5.out)
        have LH_6 := Lib.hid (Nat.lt_of_lt_of_le LH_5.out (Below.size st6))
        have GV_6 := Lib.hid ((Below.block st6 V LV_5.out).trans GV_5.out)
        have LV_6 := Lib.hid (Nat.lt_of_lt_of_le LV_5.out (Below.size st6))
        have GU_6 := Lib.hid (show w6.heap[U]? = some (.cells (dV R) 23 (0, 0)) by rw [hw6, hU]; exact heap_alloc_new _ _)
        have LU_6 := Lib.hid (lt_of_heap GU_6.out)
        have HU := Lib.hid hU
        have Hw6 := Lib.hid hw6
        clear hU hw6 st6
        go_wp2_with (first
          | ((refine st_new rfl (.tmp 9) (.tmp 26) rfl R RL.out (by rfl) _ _ (by rfl) (by rfl) ?_); rw [← HU.out, ← Hw6.out]))
        refine (((Error_nil 0 true (by decide) w6).mono fun r w' h => (⟨h.1, by rw [← h.2]; exact Below.refl _ _⟩ : r = .returned (.bool true) ∧ Below w6.heap.size w6 w'))).mono ?_
        rintro e w7 ⟨rfl, hb7⟩
        have B7 := Lib.hid (show Below w.heap.size w w7 from Below.trans B6.out (Below.mono hb7 (Below.size B6.out)))
        have GH_7 := Lib.hid ((Below.block hb7 H LH_6.out).trans GH_6.out)
        have LH_7 := Lib.hid (Nat.lt_of_lt_of_le LH_6.out (Below.size hb7))
        have GV_7 := Lib.hid ((Below.block hb7 V LV_6.out).trans GV_6.out)
        have LV_7 := Lib.hid (Nat.lt_of_lt_of_le LV_6.out (Below.size hb7))
        have GU_7 := Lib.hid ((Below.block hb7 U LU_6.out).trans GU_6.out)
        have LU_7 := Lib.hid (Nat.lt_of_lt_of_le LU_6.out (Below.size hb7))
        clear hb7
        go_wp2_with (first
          | ((refine ld_digG rfl (.tmp 9) rfl (U) 0 (by rfl) R RL.out (range_of_row GU_7.out) ?_); simp only [Act.put, List.setIfInBounds_toArray, List.set_cons_zero, List.set_cons_succ])
          | ((refine ld_digG rfl (.tmp 8) rfl (V) 0 (by rfl) R RL.out (range_of_row GV_7.out) ?_); simp only [Act.put, List.setIfInBounds_toArray, List.set_cons_zero, List.set_cons_succ])
          | ((refine neq_digG rfl (.tmp 34) (.tmp 35) _ rfl R R (by rfl) (by rfl) RL.out RL.out ?_); rw [ERR.out]; simp only [Act.put, List.setIfInBounds_toArray, List.set_cons_zero, List.set_cons_succ]))
        refine (((IsKey_calls a1 w7).mono fun r w' h => (⟨by rw [h.1, decide_eq_true HK.out], by rw [← h.2]; exact Below.refl _ _⟩ : r = .returned (.bool true) ∧ Below w7.heap.size w7 w'))).mono ?_
        rintro e w8 ⟨rfl, hb8⟩
        have B8 := Lib.hid (show Below w.heap.size w w8 from Below.trans B7.out (Below.mono hb8 (Below.size B7.out)))
        have GH_8 := Lib.hid ((Below.block hb8 H LH_7.out).trans GH_7.out)
        have LH_8 := Lib.hid (Nat.lt_of_lt_of_le LH_7.out (Below.size hb8))
        have GV_8 := Lib.hid ((Below.block hb8 V LV_7.out).trans GV_7.out)
        have LV_8 := Lib.hid (Nat.lt_of_lt_of_le LV_7.out (Below.size hb8))
        have GU_8 := Lib.hid ((Below.block hb8 U LU_7.out).trans GU_7.out)
        have LU_8 := Lib.hid (Nat.lt_of_lt_of_le LU_7.out (Below.size hb8))
        clear hb8
        go_wp2_with fail
        refine (MP w8 (r0.out.below B8.out)).mono ?_
        rintro e w9 ⟨ma, mc, rfl, hown, hb9⟩
        have B9 := Lib.hid (show Below w.heap.size w w9 from Below.trans B8.out (Below.mono hb9 (Below.size B8.out)))
        have GH_9 := Lib.hid ((Below.block hb9 H LH_8.out).trans GH_8.out)
        have LH_9 := Lib.hid (Nat.lt_of_lt_of_le LH_8.out (Below.size hb9))
        have GV_9 := Lib.hid ((Below.block hb9 V LV_8.out).trans GV_8.out)
        have LV_9 := Lib.hid (Nat.lt_of_lt_of_le LV_8.out (Below.size hb9))
        have GU_9 := Lib.hid ((Below.block hb9 U LU_8.out).trans GU_8.out)
        have LU_9 := Lib.hid (Nat.lt_of_lt_of_le LU_8.out (Below.size hb9))
        have RM_9 := Lib.hid (Rd.of_own hown)
        clear hown
        clear hb9
        go_wp2_with fail
        refine (PO w9 (r0.out.below B9.out) (RO.out.at_ B9.out)).mono ?_
        rintro e w10 ⟨pa, pc, rfl, hown, hb10⟩
        have B10 := Lib.hid (show Below w.heap.size w w10 from Below.trans B9.out (Below.mono hb10 (Below.size B9.out)))
        have GH_10 := Lib.hid ((Below.block hb10 H LH_9.out).trans GH_9.out)
        have LH_10 := Lib.hid (Nat.lt_of_lt_of_le LH_9.out (Below.size hb10))
        have GV_10 := Lib.hid ((Below.block hb10 V LV_9.out).trans GV_9.out)
        have LV_10 := Lib.hid (Nat.lt_of_lt_of_le LV_9.out (Below.size hb10))
        have GU_10 := Lib.hid ((Below.block hb10 U LU_9.out).trans GU_9.out)
        have LU_10 := Lib.hid (Nat.lt_of_lt_of_le LU_9.out (Below.size hb10))
        have RM_10 := Lib.hid (RM_9.out.below hb10)
        have RP_10 := Lib.hid (Rd.of_own hown)
        clear hown
        clear hb10
        go_wp2_with fail
        refine (((Error_nil 0 true (by decide) w10).mono fun r w' h => (⟨h.1, by rw [← h.2]; exact Below.refl _ _⟩ : r = .returned (.bool true) ∧ Below w10.heap.size w10 w'))).mono ?_
        rintro e w11 ⟨rfl, hb11⟩
        have B11 := Lib.hid (show Below w.heap.size w w11 from Below.trans B10.out (Below.mono hb11 (Below.size B10.out)))
        have GH_11 := Lib.hid ((Below.block hb11 H LH_10.out).trans GH_10.out)
        have LH_11 := Lib.hid (Nat.lt_of_lt_of_le LH_10.out (Below.size hb11))
        have GV_11 := Lib.hid ((Below.block hb11 V LV_10.out).trans GV_10.out)
        have LV_11 := Lib.hid (Nat.lt_of_lt_of_le LV_10.out (Below.size hb11))
        have GU_11 := Lib.hid ((Below.block hb11 U LU_10.out).trans GU_10.out)
        have LU_11 := Lib.hid (Nat.lt_of_lt_of_le LU_10.out (Below.size hb11))
        have RM_11 := Lib.hid (RM_10.out.below hb11)
        have RP_11 := Lib.hid (RP_10.out.below hb11)
        clear hb11
        go_wp2_with fail
        refine (SameD P PN.out PD.out pa ma pc mc _ _ w11 RP_11.out RM_11.out).mono ?_
        rintro e w12 ⟨rfl, hb12⟩
        have B12 := Lib.hid (show Below w.heap.size w w12 from Below.trans B11.out (Below.mono hb12 (Below.size B11.out)))
        have GH_12 := Lib.hid ((Below.block hb12 H LH_11.out).trans GH_11.out)
        have LH_12 := Lib.hid (Nat.lt_of_lt_of_le LH_11.out (Below.size hb12))
        have GV_12 := Lib.hid ((Below.block hb12 V LV_11.out).trans GV_11.out)
        have LV_12 := Lib.hid (Nat.lt_of_lt_of_le LV_11.out (Below.size hb12))
        have GU_12 := Lib.hid ((Below.block hb12 U LU_11.out).trans GU_11.out)
        have LU_12 := Lib.hid (Nat.lt_of_lt_of_le LU_11.out (Below.size hb12))
        have RM_12 := Lib.hid (RM_11.out.below hb12)
        have RP_12 := Lib.hid (RP_11.out.below hb12)
        clear hb12
        obtain ⟨Y, hY⟩ : ∃ z, z = w12.heap.size := ⟨_, rfl⟩
        obtain ⟨w13, hw13⟩ : ∃ z, z = w12.alloc (.cells (dV Z) 23) := ⟨_, rfl⟩
        have st13 : Below w12.heap.size w12 w13 := by rw [hw13]; exact (Below.refl _ _).alloc (Nat.le_refl _) _
        have B13 := Lib.hid (show Below w.heap.size w w13 from Below.trans B12.out (Below.mono st13 (Below.size B12.out)))
        have GH_13 := Lib.hid ((Below.block st13 H LH_12.out).trans GH_12.out)
        have LH_13 := Lib.hid (Nat.lt_of_lt_of_le LH_12.out (Below.size st13))
        have GV_13 := Lib.hid ((Below.block st13 V LV_12.out).trans GV_12.out)
        have LV_13 := Lib.hid (Nat.lt_of_lt_of_le LV_12.out (Below.size st13))
        have GU_13 := Lib.hid ((Below.block st13 U LU_12.out).trans GU_12.out)
        have LU_13 := Lib.hid (Nat.lt_of_lt_of_le LU_12.out (Below.size st13))
        have GY_13 := Lib.hid (show w13.heap[Y]? = some (.cells (dV Z) 23 (0, 0)) by rw [hw13, hY]; exact heap_alloc_new _ _)
        have LY_13 := Lib.hid (lt_of_heap GY_13.out)
        have HY := Lib.hid hY
        have Hw13 := Lib.hid hw13
        clear hY hw13 st13
        go_upto_region 21 with fail
        rw [ZT.out, ← HY.out, ← Hw13.out]
        have ck := eV_key GH_13.out
        go_wp2_with fail
        refine (((IsKey_calls x2.key w13).mono fun r w' h => (⟨by rw [h.1, KB], by rw [← h.2]; exact Below.refl _ _⟩ : r = .returned (.bool false) ∧ Below w13.heap.size w13 w'))).mono ?_
        rintro e w14 ⟨rfl, hb14⟩
        have B14 := Lib.hid (show Below w.heap.size w w14 from Below.trans B13.out (Below.mono hb14 (Below.size B13.out)))
        have GH_14 := Lib.hid ((Below.block hb14 H LH_13.out).trans GH_13.out)
        have LH_14 := Lib.hid (Nat.lt_of_lt_of_le LH_13.out (Below.size hb14))
        have GV_14 := Lib.hid ((Below.block hb14 V LV_13.out).trans GV_13.out)
        have LV_14 := Lib.hid (Nat.lt_of_lt_of_le LV_13.out (Below.size hb14))
        have GU_14 := Lib.hid ((Below.block hb14 U LU_13.out).trans GU_13.out)
        have LU_14 := Lib.hid (Nat.lt_of_lt_of_le LU_13.out (Below.size hb14))
        have GY_14 := Lib.hid ((Below.block hb14 Y LY_13.out).trans GY_13.out)
        have LY_14 := Lib.hid (Nat.lt_of_lt_of_le LY_13.out (Below.size hb14))
        clear hb14
        go_wp2_with (first
          | ((refine ld_entG rfl (.tmp 5) rfl H 0 (by rfl) x2 E32.out (range_ent GH_14.out) ?_); simp only [Act.put, List.setIfInBounds_toArray, List.set_cons_zero, List.set_cons_succ]))
        refine (TLB w14).mono ?_
        rintro e w15 ⟨rfl, hb15⟩
        have B15 := Lib.hid (show Below w.heap.size w w15 from Below.trans B14.out (Below.mono hb15 (Below.size B14.out)))
        have GH_15 := Lib.hid ((Below.block hb15 H LH_14.out).trans GH_14.out)
        have LH_15 := Lib.hid (Nat.lt_of_lt_of_le LH_14.out (Below.size hb15))
        have GV_15 := Lib.hid ((Below.block hb15 V LV_14.out).trans GV_14.out)
        have LV_15 := Lib.hid (Nat.lt_of_lt_of_le LV_14.out (Below.size hb15))
        have GU_15 := Lib.hid ((Below.block hb15 U LU_14.out).trans GU_14.out)
        have LU_15 := Lib.hid (Nat.lt_of_lt_of_le LU_14.out (Below.size hb15))
        have GY_15 := Lib.hid ((Below.block hb15 Y LY_14.out).trans GY_14.out)
        have LY_15 := Lib.hid (Nat.lt_of_lt_of_le LY_14.out (Below.size hb15))
        clear hb15
        obtain ⟨X, hX⟩ : ∃ z, z = w15.heap.size := ⟨_, rfl⟩
        obtain ⟨w16, hw16⟩ : ∃ z, z = w15.alloc (.cells (dV Z) 23) := ⟨_, rfl⟩
        have st16 : Below w15.heap.size w15 w16 := by rw [hw16]; exact (Below.refl _ _).alloc (Nat.le_refl _) _
        have B16 := Lib.hid (show Below w.heap.size w w16 from Below.trans B15.out (Below.mono st16 (Below.size B15.out)))
        have GH_16 := Lib.hid ((Below.block st16 H LH_15.out).trans GH_15.out)
        have LH_16 := Lib.hid (Nat.lt_of_lt_of_le LH_15.out (Below.size st16))
        have GV_16 := Lib.hid ((Below.block st16 V LV_15.out).trans GV_15.out)
        have LV_16 := Lib.hid (Nat.lt_of_lt_of_le LV_15.out (Below.size st16))
        have GU_16 := Lib.hid ((Below.block st16 U LU_15.out).trans GU_15.out)
        have LU_16 := Lib.hid (Nat.lt_of_lt_of_le LU_15.out (Below.size st16))
        have GY_16 := Lib.hid ((Below.block st16 Y LY_15.out).trans GY_15.out)
        have LY_16 := Lib.hid (Nat.lt_of_lt_of_le LY_15.out (Below.size st16))
        have GX_16 := Lib.hid (show w16.heap[X]? = some (.cells (dV Z) 23 (0, 0)) by rw [hw16, hX]; exact heap_alloc_new _ _)
        have LX_16 := Lib.hid (lt_of_heap GX_16.out)
        have HX := Lib.hid hX
        have Hw16 := Lib.hid hw16
        clear hX hw16 st16
        go_wp2_with (first
          | ((refine st_new rfl (.tmp 16) (.tmp 76) rfl Z ZL.out (by rfl) _ _ (by rfl) (by rfl) ?_); rw [← HX.out, ← Hw16.out]))
        refine (Error_err 2 2 true (by simp) w16 (HG.out.at_ B16.out)).mono ?_
        rintro e w17 ⟨rfl, hb17⟩
        have B17 := Lib.hid (show Below w.heap.size w w17 from Below.trans B16.out (Below.mono hb17 (Below.size B16.out)))
        have GH_17 := Lib.hid ((Below.block hb17 H LH_16.out).trans GH_16.out)
        have LH_17 := Lib.hid (Nat.lt_of_lt_of_le LH_16.out (Below.size hb17))
        have GV_17 := Lib.hid ((Below.block hb17 V LV_16.out).trans GV_16.out)
        have LV_17 := Lib.hid (Nat.lt_of_lt_of_le LV_16.out (Below.size hb17))
        have GU_17 := Lib.hid ((Below.block hb17 U LU_16.out).trans GU_16.out)
        have LU_17 := Lib.hid (Nat.lt_of_lt_of_le LU_16.out (Below.size hb17))
        have GY_17 := Lib.hid ((Below.block hb17 Y LY_16.out).trans GY_16.out)
        have LY_17 := Lib.hid (Nat.lt_of_lt_of_le LY_16.out (Below.size hb17))
        have GX_17 := Lib.hid ((Below.block hb17 X LX_16.out).trans GX_16.out)
        have LX_17 := Lib.hid (Nat.lt_of_lt_of_le LX_16.out (Below.size hb17))
        clear hb17
        go_wp2_with fail
        have NC : ∀ w', InB w17.heap.size w17 w' → Calls Tryd.prog 31 #[.agg (dV Z), .agg (dV R)] w' fun e w'' => e = .returned (.agg (dV N)) ∧ InB w17.heap.size w17 w'' :=
          fun w' h => InB.call h (Nat.le_refl _) (NOD w' (RO.out.at_ (Below.trans B17.out (Below.mono h (Below.size B17.out)))))
        have MC : ∀ w', InB w17.heap.size w17 w' → Calls Tryd.prog 26 #[.agg (dV Z), .agg (dV R)] w' fun e w'' => e = .returned (.agg (dV N)) ∧ InB w17.heap.size w17 w'' :=
          fun w' h => InB.call h (Nat.le_refl _) (MNO w')
        have HNC := Lib.hid NC
        have HMC := Lib.hid MC
        have hex := inB_ex w17.heap.size w17
        have RX := Lib.hid (range_of_row GX_17.out)
        have RY := Lib.hid (range_of_row GY_17.out)
        have RV := Lib.hid (range_of_row GV_17.out)
        have lX := LX_17.out
        have lY := LY_17.out
        have lV := LV_17.out
        clear NC MC
        refine wp_region_inB w17.heap.size (by kernel_rfl) (by kernel_rfl) ?_
        go_big_quiet_step ((intro _; rfl))
        go_big_quiet_step ((intro _; rfl))
        refine quiet_dig rfl (.tmp 16) rfl X 0 (by rfl) Z ZL.out (fun w' hw' => hw'.range lX RX.out) ?_
        simp only [Act.put, List.setIfInBounds_toArray, List.set_cons_zero, List.set_cons_succ]
        refine quiet_dig rfl (.tmp 15) rfl Y 0 (by rfl) Z ZL.out (fun w' hw' => hw'.range lY RY.out) ?_
        simp only [Act.put, List.setIfInBounds_toArray, List.set_cons_zero, List.set_cons_succ]
        refine quiet_dig_eq rfl (.tmp 83) (.tmp 84) _ rfl Z Z (by rfl) (by rfl) ZL.out ZL.out ?_
        rw [ERL.out]
        simp only [Act.put, List.setIfInBounds_toArray, List.set_cons_zero, List.set_cons_succ]
        go_big_quiet_step ((intro _; rfl))
        go_big_quiet_step ((intro _; rfl))
        refine quiet_dig rfl (.tmp 16) rfl X 0 (by rfl) Z ZL.out (fun w' hw' => hw'.range lX RX.out) ?_
        simp only [Act.put, List.setIfInBounds_toArray, List.set_cons_zero, List.set_cons_succ]
        refine quiet_dig rfl (.tmp 8) rfl V 0 (by rfl) R RL.out (fun w' hw' => hw'.range lV RV.out) ?_
        simp only [Act.put, List.setIfInBounds_toArray, List.set_cons_zero, List.set_cons_succ]
        go_big_quiet_step ((intro hw'; exact HNC.out _ hw'))
        refine quiet_dig rfl (.tmp 15) rfl Y 0 (by rfl) Z ZL.out (fun w' hw' => hw'.range lY RY.out) ?_
        simp only [Act.put, List.setIfInBounds_toArray, List.set_cons_zero, List.set_cons_succ]
        refine quiet_dig rfl (.tmp 8) rfl V 0 (by rfl) R RL.out (fun w' hw' => hw'.range lV RV.out) ?_
        simp only [Act.put, List.setIfInBounds_toArray, List.set_cons_zero, List.set_cons_succ]
        go_big_quiet_step ((intro hw'; exact HMC.out _ hw'))
        refine quiet_dig_eq rfl (.tmp 90) (.tmp 93) _ rfl N N (by rfl) (by rfl) NL.out NL.out ?_
        rw [ERN.out]
        simp only [Act.put, List.setIfInBounds_toArray, List.set_cons_zero, List.set_cons_succ]
        go_big_quiet_step ((intro _; rfl))
        go_big_quiet_step ((intro _; rfl))
        refine wpQuiet_nil ?_
        intro wZ hwZ
        have BZ := Lib.hid (Below.trans B17.out (Below.mono hwZ (Below.size B17.out)))
        clear hwZ HNC HMC
        go_wp2_with fail
        go_ret
        exact ⟨rfl, BZ.out⟩
    · have PK := fun w' hr => Path_key x0 n0.out a0 c0 e0 l0 m0 a1 hk w' hr HF0.out
      have HK := Lib.hid hk
      clear hk
      by_cases hke : KeyOk x2.key
      · obtain ⟨q, hq⟩ : ∃ q : Nat, x2.key = (q : Int) := ⟨x2.key.toNat, by have := hke.1; omega⟩
        have hq2 : q < 4294967296 := by have := hke.2; omega
        have EL := EntryLeaf_calls q hq2 x2.val E32.out
        have TL := Leaf_calls q hq2 x2.val E32.out
        obtain ⟨LF, hLF⟩ : ∃ L, L = leafD q x2.val := ⟨_, rfl⟩
        have LFL := Lib.hid (show LF.length = 32 by rw [hLF]; exact leafD_length _ _)
        rw [← hLF, ← hq] at EL TL
        have KB := decide_eq_true hke
        clear hLF hq hq2 hke
        obtain ⟨N, hN⟩ : ∃ N, N = nodeD LF R := ⟨_, rfl⟩
        have NL := Lib.hid (show N.length = 32 by rw [hN]; exact nodeD_length _ _)
        have NOD := Node_calls LF R LFL.out RL.out
        have MNO := RMapNode_calls LF R LFL.out RL.out
        rw [← hN] at NOD MNO
        have ERL := Lib.hid (show (LF == LF) = true by simp)
        have ERN := Lib.hid (show (N == N) = true by simp)
        clear hN
        go_enter Tryd.func9, Tryd.ntmps9
        go_upto_region 1 with fail
        rw [← HH.out, ← HW0.out]
        go_wp2_with fail
        refine (MF w0 (r0.out.below B0.out)).mono ?_
        rintro e w1 ⟨rfl, hb1⟩
        have B1 := Lib.hid (show Below w.heap.size w w1 from Below.trans B0.out (Below.mono hb1 (Below.size B0.out)))
        have GH_1 := Lib.hid ((Below.block hb1 H LH_0.out).trans GH_0.out)
        have LH_1 := Lib.hid (Nat.lt_of_lt_of_le LH_0.out (Below.size hb1))
        clear hb1
        obtain ⟨V, hV⟩ : ∃ z, z = w1.heap.size := ⟨_, rfl⟩
        obtain ⟨w2, hw2⟩ : ∃ z, z = w1.alloc (.cells (dV Z) 23) := ⟨_, rfl⟩
        have st2 : Below w1.heap.size w1 w2 := by rw [hw2]; exact (Below.refl _ _).alloc (Nat.le_refl _) _
        have B2 := Lib.hid (show Below w.heap.size w w2 from Below.trans B1.out (Below.mono st2 (Below.size B1.out)))
        have GH_2 := Lib.hid ((Below.block st2 H LH_1.out).trans GH_1.out)
        have LH_2 := Lib.hid (Nat.lt_of_lt_of_le LH_1.out (Below.size st2))
        have GV_2 := Lib.hid (show w2.heap[V]? = some (.cells (dV Z) 23 (0, 0)) by rw [hw2, hV]; exact heap_alloc_new _ _)
        have LV_2 := Lib.hid (lt_of_heap GV_2.out)
        have HV := Lib.hid hV
        have Hw2 := Lib.hid hw2
        clear hV hw2 st2
        go_wp2_with fail
        rw [ZT.out, ← HV.out, ← Hw2.out]
        refine (MR w2 (r0.out.below B2.out)).mono ?_
        rintro e w3 ⟨rfl, hb3⟩
        have B3 := Lib.hid (show Below w.heap.size w w3 from Below.trans B2.out (Below.mono hb3 (Below.size B2.out)))
        have GH_3 := Lib.hid ((Below.block hb3 H LH_2.out).trans GH_2.out)
        have LH_3 := Lib.hid (Nat.lt_of_lt_of_le LH_2.out (Below.size hb3))
        have GV_3 := Lib.hid ((Below.block hb3 V LV_2.out).trans GV_2.out)
        have LV_3 := Lib.hid (Nat.lt_of_lt_of_le LV_2.out (Below.size hb3))
        clear hb3
        obtain ⟨w4, hw4⟩ : ∃ z, z = w3.setRow V (dV R) := ⟨_, rfl⟩
        have B4 := Lib.hid (show Below w.heap.size w w4 by rw [hw4]; exact below_setRowW B3.out (by rw [HV.out]; exact Below.size B1.out) _)
        have sz4 : w4.heap.size = w3.heap.size := by rw [hw4]; exact setRow_size _ _ _
        have GH_4 := Lib.hid (show w4.heap[H]? = some (.cells (eV x2.key x2.val) 35 (0, 0)) by rw [hw4]; exact (_root_.Go.setRow_other _ _ _ _ (by rw [HV.out]; exact Nat.ne_of_lt LH_1.out)).trans GH_3.out)
        have LH_4 := Lib.hid (show H < w4.heap.size by rw [sz4]; exact LH_3.out)
        have GV_4 := Lib.hid (show w4.heap[V]? = some (.cells (dV R) 23 (0, 0)) by rw [hw4]; exact setRow_heap _ _ _ _ _ _ GV_3.out)
        have LV_4 := Lib.hid (show V < w4.heap.size by rw [sz4]; exact LV_3.out)
        have Hw4 := Lib.hid hw4
        clear hw4 sz4
        go_wp2_with (first
          | ((refine st_row rfl (.tmp 8) (.tmp 22) rfl V R RL.out (by rfl) (by rfl) (dV Z) (dV_size ZL.out) _ GV_3.out ?_); rw [← Hw4.out]))
        refine (TRO w4 (r0.out.below B4.out) (RO.out.at_ B4.out)).mono ?_
        rintro e w5 ⟨rfl, hb5⟩
        have B5 := Lib.hid (show Below w.heap.size w w5 from Below.trans B4.out (Below.mono hb5 (Below.size B4.out)))
        have GH_5 := Lib.hid ((Below.block hb5 H LH_4.out).trans GH_4.out)
        have LH_5 := Lib.hid (Nat.lt_of_lt_of_le LH_4.out (Below.size hb5))
        have GV_5 := Lib.hid ((Below.block hb5 V LV_4.out).trans GV_4.out)
        have LV_5 := Lib.hid (Nat.lt_of_lt_of_le LV_4.out (Below.size hb5))
        clear hb5
        obtain ⟨U, hU⟩ : ∃ z, z = w5.heap.size := ⟨_, rfl⟩
        obtain ⟨w6, hw6⟩ : ∃ z, z = w5.alloc (.cells (dV R) 23) := ⟨_, rfl⟩
        have st6 : Below w5.heap.size w5 w6 := by rw [hw6]; exact (Below.refl _ _).alloc (Nat.le_refl _) _
        have B6 := Lib.hid (show Below w.heap.size w w6 from Below.trans B5.out (Below.mono st6 (Below.size B5.out)))
        have GH_6 := Lib.hid ((Below.block st6 H LH_5.out).trans GH_5.out)
        have LH_6 := Lib.hid (Nat.lt_of_lt_of_le LH_5.out (Below.size st6))
        have GV_6 := Lib.hid ((Below.block st6 V LV_5.out).trans GV_5.out)
        have LV_6 := Lib.hid (Nat.lt_of_lt_of_le LV_5.out (Below.size st6))
        have GU_6 := Lib.hid (show w6.heap[U]? = some (.cells (dV R) 23 (0, 0)) by rw [hw6, hU]; exact heap_alloc_new _ _)
        have LU_6 := Lib.hid (lt_of_heap GU_6.out)
        have HU := Lib.hid hU
        have Hw6 := Lib.hid hw6
        clear hU hw6 st6
        go_wp2_with (first
          | ((refine st_new rfl (.tmp 9) (.tmp 26) rfl R RL.out (by rfl) _ _ (by rfl) (by rfl) ?_); rw [← HU.out, ← Hw6.out]))
        refine (((Error_nil 0 true (by decide) w6).mono fun r w' h => (⟨h.1, by rw [← h.2]; exact Below.refl _ _⟩ : r = .returned (.bool true) ∧ Below w6.heap.size w6 w'))).mono ?_
        rintro e w7 ⟨rfl, hb7⟩
        have B7 := Lib.hid (show Below w.heap.size w w7 from Below.trans B6.out (Below.mono hb7 (Below.size B6.out)))
        have GH_7 := Lib.hid ((Below.block hb7 H LH_6.out).trans GH_6.out)
        have LH_7 := Lib.hid (Nat.lt_of_lt_of_le LH_6.out (Below.size hb7))
        have GV_7 := Lib.hid ((Below.block hb7 V LV_6.out).trans GV_6.out)
        have LV_7 := Lib.hid (Nat.lt_of_lt_of_le LV_6.out (Below.size hb7))
        have GU_7 := Lib.hid ((Below.block hb7 U LU_6.out).trans GU_6.out)
        have LU_7 := Lib.hid (Nat.lt_of_lt_of_le LU_6.out (Below.size hb7))
        clear hb7
        go_wp2_with (first
          | ((refine ld_digG rfl (.tmp 9) rfl (U) 0 (by rfl) R RL.out (range_of_row GU_7.out) ?_); simp only [Act.put, List.setIfInBounds_toArray, List.set_cons_zero, List.set_cons_succ])
          | ((refine ld_digG rfl (.tmp 8) rfl (V) 0 (by rfl) R RL.out (range_of_row GV_7.out) ?_); simp only [Act.put, List.setIfInBounds_toArray, List.set_cons_zero, List.set_cons_succ])
          | ((refine neq_digG rfl (.tmp 34) (.tmp 35) _ rfl R R (by rfl) (by rfl) RL.out RL.out ?_); rw [ERR.out]; simp only [Act.put, List.setIfInBounds_toArray, List.set_cons_zero, List.set_cons_succ]))
        refine (((IsKey_calls a1 w7).mono fun r w' h => (⟨by rw [h.1, decide_eq_false HK.out], by rw [← h.2]; exact Below.refl _ _⟩ : r = .returned (.bool false) ∧ Below w7.heap.size w7 w'))).mono ?_
        rintro e w8 ⟨rfl, hb8⟩
        have B8 := Lib.hid (show Below w.heap.size w w8 from Below.trans B7.out (Below.mono hb8 (Below.size B7.out)))
        have GH_8 := Lib.hid ((Below.block hb8 H LH_7.out).trans GH_7.out)
        have LH_8 := Lib.hid (Nat.lt_of_lt_of_le LH_7.out (Below.size hb8))
        have GV_8 := Lib.hid ((Below.block hb8 V LV_7.out).trans GV_7.out)
        have LV_8 := Lib.hid (Nat.lt_of_lt_of_le LV_7.out (Below.size hb8))
        have GU_8 := Lib.hid ((Below.block hb8 U LU_7.out).trans GU_7.out)
        have LU_8 := Lib.hid (Nat.lt_of_lt_of_le LU_7.out (Below.size hb8))
        clear hb8
        go_wp2_with fail
        refine (PK w8 (r0.out.below B8.out)).mono ?_
        rintro e w9 ⟨rfl, hb9⟩
        have B9 := Lib.hid (show Below w.heap.size w w9 from Below.trans B8.out (Below.mono hb9 (Below.size B8.out)))
        have GH_9 := Lib.hid ((Below.block hb9 H LH_8.out).trans GH_8.out)
        have LH_9 := Lib.hid (Nat.lt_of_lt_of_le LH_8.out (Below.size hb9))
        have GV_9 := Lib.hid ((Below.block hb9 V LV_8.out).trans GV_8.out)
        have LV_9 := Lib.hid (Nat.lt_of_lt_of_le LV_8.out (Below.size hb9))
        have GU_9 := Lib.hid ((Below.block hb9 U LU_8.out).trans GU_8.out)
        have LU_9 := Lib.hid (Nat.lt_of_lt_of_le LU_8.out (Below.size hb9))
        clear hb9
        go_wp2_with fail
        refine (Error_err 2 2 true (by simp) w9 (HG.out.at_ B9.out)).mono ?_
        rintro e w10 ⟨rfl, hb10⟩
        have B10 := Lib.hid (show Below w.heap.size w w10 from Below.trans B9.out (Below.mono hb10 (Below.size B9.out)))
        have GH_10 := Lib.hid ((Below.block hb10 H LH_9.out).trans GH_9.out)
        have LH_10 := Lib.hid (Nat.lt_of_lt_of_le LH_9.out (Below.size hb10))
        have GV_10 := Lib.hid ((Below.block hb10 V LV_9.out).trans GV_9.out)
        have LV_10 := Lib.hid (Nat.lt_of_lt_of_le LV_9.out (Below.size hb10))
        have GU_10 := Lib.hid ((Below.block hb10 U LU_9.out).trans GU_9.out)
        have LU_10 := Lib.hid (Nat.lt_of_lt_of_le LU_9.out (Below.size hb10))
        clear hb10
        go_wp2_with fail
        refine (SameN w10).mono ?_
        rintro e w11 ⟨rfl, hb11⟩
        have B11 := Lib.hid (show Below w.heap.size w w11 from Below.trans B10.out (Below.mono hb11 (Below.size B10.out)))
        have GH_11 := Lib.hid ((Below.block hb11 H LH_10.out).trans GH_10.out)
        have LH_11 := Lib.hid (Nat.lt_of_lt_of_le LH_10.out (Below.size hb11))
        have GV_11 := Lib.hid ((Below.block hb11 V LV_10.out).trans GV_10.out)
        have LV_11 := Lib.hid (Nat.lt_of_lt_of_le LV_10.out (Below.size hb11))
        have GU_11 := Lib.hid ((Below.block hb11 U LU_10.out).trans GU_10.out)
        have LU_11 := Lib.hid (Nat.lt_of_lt_of_le LU_10.out (Below.size hb11))
        clear hb11
        obtain ⟨Y, hY⟩ : ∃ z, z = w11.heap.size := ⟨_, rfl⟩
        obtain ⟨w12, hw12⟩ : ∃ z, z = w11.alloc (.cells (dV Z) 23) := ⟨_, rfl⟩
        have st12 : Below w11.heap.size w11 w12 := by rw [hw12]; exact (Below.refl _ _).alloc (Nat.le_refl _) _
        have B12 := Lib.hid (show Below w.heap.size w w12 from Below.trans B11.out (Below.mono st12 (Below.size B11.out)))
        have GH_12 := Lib.hid ((Below.block st12 H LH_11.out).trans GH_11.out)
        have LH_12 := Lib.hid (Nat.lt_of_lt_of_le LH_11.out (Below.size st12))
        have GV_12 := Lib.hid ((Below.block st12 V LV_11.out).trans GV_11.out)
        have LV_12 := Lib.hid (Nat.lt_of_lt_of_le LV_11.out (Below.size st12))
        have GU_12 := Lib.hid ((Below.block st12 U LU_11.out).trans GU_11.out)
        have LU_12 := Lib.hid (Nat.lt_of_lt_of_le LU_11.out (Below.size st12))
        have GY_12 := Lib.hid (show w12.heap[Y]? = some (.cells (dV Z) 23 (0, 0)) by rw [hw12, hY]; exact heap_alloc_new _ _)
        have LY_12 := Lib.hid (lt_of_heap GY_12.out)
        have HY := Lib.hid hY
        have Hw12 := Lib.hid hw12
        clear hY hw12 st12
        go_upto_region 21 with fail
        rw [ZT.out, ← HY.out, ← Hw12.out]
        have ck := eV_key GH_12.out
        go_wp2_with fail
        refine (((IsKey_calls x2.key w12).mono fun r w' h => (⟨by rw [h.1, KB], by rw [← h.2]; exact Below.refl _ _⟩ : r = .returned (.bool true) ∧ Below w12.heap.size w12 w'))).mono ?_
        rintro e w13 ⟨rfl, hb13⟩
        have B13 := Lib.hid (show Below w.heap.size w w13 from Below.trans B12.out (Below.mono hb13 (Below.size B12.out)))
        have GH_13 := Lib.hid ((Below.block hb13 H LH_12.out).trans GH_12.out)
        have LH_13 := Lib.hid (Nat.lt_of_lt_of_le LH_12.out (Below.size hb13))
        have GV_13 := Lib.hid ((Below.block hb13 V LV_12.out).trans GV_12.out)
        have LV_13 := Lib.hid (Nat.lt_of_lt_of_le LV_12.out (Below.size hb13))
        have GU_13 := Lib.hid ((Below.block hb13 U LU_12.out).trans GU_12.out)
        have LU_13 := Lib.hid (Nat.lt_of_lt_of_le LU_12.out (Below.size hb13))
        have GY_13 := Lib.hid ((Below.block hb13 Y LY_12.out).trans GY_12.out)
        have LY_13 := Lib.hid (Nat.lt_of_lt_of_le LY_12.out (Below.size hb13))
        clear hb13
        go_wp2_with (first
          | ((refine ld_entG rfl (.tmp 5) rfl H 0 (by rfl) x2 E32.out (range_ent GH_13.out) ?_); simp only [Act.put, List.setIfInBounds_toArray, List.set_cons_zero, List.set_cons_succ]))
        refine (EL w13).mono ?_
        rintro e w14 ⟨rfl, hb14⟩
        have B14 := Lib.hid (show Below w.heap.size w w14 from Below.trans B13.out (Below.mono hb14 (Below.size B13.out)))
        have GH_14 := Lib.hid ((Below.block hb14 H LH_13.out).trans GH_13.out)
        have LH_14 := Lib.hid (Nat.lt_of_lt_of_le LH_13.out (Below.size hb14))
        have GV_14 := Lib.hid ((Below.block hb14 V LV_13.out).trans GV_13.out)
        have LV_14 := Lib.hid (Nat.lt_of_lt_of_le LV_13.out (Below.size hb14))
        have GU_14 := Lib.hid ((Below.block hb14 U LU_13.out).trans GU_13.out)
        have LU_14 := Lib.hid (Nat.lt_of_lt_of_le LU_13.out (Below.size hb14))
        have GY_14 := Lib.hid ((Below.block hb14 Y LY_13.out).trans GY_13.out)
        have LY_14 := Lib.hid (Nat.lt_of_lt_of_le LY_13.out (Below.size hb14))
        clear hb14
        obtain ⟨w15, hw15⟩ : ∃ z, z = w14.setRow Y (dV LF) := ⟨_, rfl⟩
        have B15 := Lib.hid (show Below w.heap.size w w15 by rw [hw15]; exact below_setRowW B14.out (by rw [HY.out]; exact Below.size B11.out) _)
        have sz15 : w15.heap.size = w14.heap.size := by rw [hw15]; exact setRow_size _ _ _
        have GH_15 := Lib.hid (show w15.heap[H]? = some (.cells (eV x2.key x2.val) 35 (0, 0)) by rw [hw15]; exact (_root_.Go.setRow_other _ _ _ _ (by rw [HY.out]; exact Nat.ne_of_lt LH_11.out)).trans GH_14.out)
        have LH_15 := Lib.hid (show H < w15.heap.size by rw [sz15]; exact LH_14.out)
        have GV_15 := Lib.hid (show w15.heap[V]? = some (.cells (dV R) 23 (0, 0)) by rw [hw15]; exact (_root_.Go.setRow_other _ _ _ _ (by rw [HY.out]; exact Nat.ne_of_lt LV_11.out)).trans GV_14.out)
        have LV_15 := Lib.hid (show V < w15.heap.size by rw [sz15]; exact LV_14.out)
        have GU_15 := Lib.hid (show w15.heap[U]? = some (.cells (dV R) 23 (0, 0)) by rw [hw15]; exact (_root_.Go.setRow_other _ _ _ _ (by rw [HY.out]; exact Nat.ne_of_lt LU_11.out)).trans GU_14.out)
        have LU_15 := Lib.hid (show U < w15.heap.size by rw [sz15]; exact LU_14.out)
        have GY_15 := Lib.hid (show w15.heap[Y]? = some (.cells (dV LF) 23 (0, 0)) by rw [hw15]; exact setRow_heap _ _ _ _ _ _ GY_14.out)
        have LY_15 := Lib.hid (show Y < w15.heap.size by rw [sz15]; exact LY_14.out)
        have Hw15 := Lib.hid hw15
        clear hw15 sz15
        go_wp2_with (first
          | ((refine st_row rfl (.tmp 15) (.tmp 72) rfl Y LF LFL.out (by rfl) (by rfl) (dV Z) (dV_size ZL.out) _ GY_14.out ?_); rw [← Hw15.out])
          | ((refine ld_entG rfl (.tmp 5) rfl H 0 (by rfl) x2 E32.out (range_ent GH_15.out) ?_); simp only [Act.put, List.setIfInBounds_toArray, List.set_cons_zero, List.set_cons_succ]))
        refine (TL w15 (RO.out.at_ B15.out)).mono ?_
        rintro e w16 ⟨rfl, hb16⟩
        have B16 := Lib.hid (show Below w.heap.size w w16 from Below.trans B15.out (Below.mono hb16 (Below.size B15.out)))
        have GH_16 := Lib.hid ((Below.block hb16 H LH_15.out).trans GH_15.out)
        have LH_16 := Lib.hid (Nat.lt_of_lt_of_le LH_15.out (Below.size hb16))
        have GV_16 := Lib.hid ((Below.block hb16 V LV_15.out).trans GV_15.out)
        have LV_16 := Lib.hid (Nat.lt_of_lt_of_le LV_15.out (Below.size hb16))
        have GU_16 := Lib.hid ((Below.block hb16 U LU_15.out).trans GU_15.out)
        have LU_16 := Lib.hid (Nat.lt_of_lt_of_le LU_15.out (Below.size hb16))
        have GY_16 := Lib.hid ((Below.block hb16 Y LY_15.out).trans GY_15.out)
        have LY_16 := Lib.hid (Nat.lt_of_lt_of_le LY_15.out (Below.size hb16))
        clear hb16
        obtain ⟨X, hX⟩ : ∃ z, z = w16.heap.size := ⟨_, rfl⟩
        obtain ⟨w17, hw17⟩ : ∃ z, z = w16.alloc (.cells (dV LF) 23) := ⟨_, rfl⟩
        have st17 : Below w16.heap.size w16 w17 := by rw [hw17]; exact (Below.refl _ _).alloc (Nat.le_refl _) _
        have B17 := Lib.hid (show Below w.heap.size w w17 from Below.trans B16.out (Below.mono st17 (Below.size B16.out)))
        have GH_17 := Lib.hid ((Below.block st17 H LH_16.out).trans GH_16.out)
        have LH_17 := Lib.hid (Nat.lt_of_lt_of_le LH_16.out (Below.size st17))
        have GV_17 := Lib.hid ((Below.block st17 V LV_16.out).trans GV_16.out)
        have LV_17 := Lib.hid (Nat.lt_of_lt_of_le LV_16.out (Below.size st17))
        have GU_17 := Lib.hid ((Below.block st17 U LU_16.out).trans GU_16.out)
        have LU_17 := Lib.hid (Nat.lt_of_lt_of_le LU_16.out (Below.size st17))
        have GY_17 := Lib.hid ((Below.block st17 Y LY_16.out).trans GY_16.out)
        have LY_17 := Lib.hid (Nat.lt_of_lt_of_le LY_16.out (Below.size st17))
        have GX_17 := Lib.hid (show w17.heap[X]? = some (.cells (dV LF) 23 (0, 0)) by rw [hw17, hX]; exact heap_alloc_new _ _)
        have LX_17 := Lib.hid (lt_of_heap GX_17.out)
        have HX := Lib.hid hX
        have Hw17 := Lib.hid hw17
        clear hX hw17 st17
        go_wp2_with (first
          | ((refine st_new rfl (.tmp 16) (.tmp 76) rfl LF LFL.out (by rfl) _ _ (by rfl) (by rfl) ?_); rw [← HX.out, ← Hw17.out]))
        refine (((Error_nil 0 true (by decide) w17).mono fun r w' h => (⟨h.1, by rw [← h.2]; exact Below.refl _ _⟩ : r = .returned (.bool true) ∧ Below w17.heap.size w17 w'))).mono ?_
        rintro e w18 ⟨rfl, hb18⟩
        have B18 := Lib.hid (show Below w.heap.size w w18 from Below.trans B17.out (Below.mono hb18 (Below.size B17.out)))
        have GH_18 := Lib.hid ((Below.block hb18 H LH_17.out).trans GH_17.out)
        have LH_18 := Lib.hid (Nat.lt_of_lt_of_le LH_17.out (Below.size hb18))
        have GV_18 := Lib.hid ((Below.block hb18 V LV_17.out).trans GV_17.out)
        have LV_18 := Lib.hid (Nat.lt_of_lt_of_le LV_17.out (Below.size hb18))
        have GU_18 := Lib.hid ((Below.block hb18 U LU_17.out).trans GU_17.out)
        have LU_18 := Lib.hid (Nat.lt_of_lt_of_le LU_17.out (Below.size hb18))
        have GY_18 := Lib.hid ((Below.block hb18 Y LY_17.out).trans GY_17.out)
        have LY_18 := Lib.hid (Nat.lt_of_lt_of_le LY_17.out (Below.size hb18))
        have GX_18 := Lib.hid ((Below.block hb18 X LX_17.out).trans GX_17.out)
        have LX_18 := Lib.hid (Nat.lt_of_lt_of_le LX_17.out (Below.size hb18))
        clear hb18
        go_wp2_with fail
        have NC : ∀ w', InB w18.heap.size w18 w' → Calls Tryd.prog 31 #[.agg (dV LF), .agg (dV R)] w' fun e w'' => e = .returned (.agg (dV N)) ∧ InB w18.heap.size w18 w'' :=
          fun w' h => InB.call h (Nat.le_refl _) (NOD w' (RO.out.at_ (Below.trans B18.out (Below.mono h (Below.size B18.out)))))
        have MC : ∀ w', InB w18.heap.size w18 w' → Calls Tryd.prog 26 #[.agg (dV LF), .agg (dV R)] w' fun e w'' => e = .returned (.agg (dV N)) ∧ InB w18.heap.size w18 w'' :=
          fun w' h => InB.call h (Nat.le_refl _) (MNO w')
        have HNC := Lib.hid NC
        have HMC := Lib.hid MC
        have hex := inB_ex w18.heap.size w18
        have RX := Lib.hid (range_of_row GX_18.out)
        have RY := Lib.hid (range_of_row GY_18.out)
        have RV := Lib.hid (range_of_row GV_18.out)
        have lX := LX_18.out
        have lY := LY_18.out
        have lV := LV_18.out
        clear NC MC
        refine wp_region_inB w18.heap.size (by kernel_rfl) (by kernel_rfl) ?_
        go_big_quiet_step ((intro _; rfl))
        go_big_quiet_step ((intro _; rfl))
        refine quiet_dig rfl (.tmp 16) rfl X 0 (by rfl) LF LFL.out (fun w' hw' => hw'.range lX RX.out) ?_
        simp only [Act.put, List.setIfInBounds_toArray, List.set_cons_zero, List.set_cons_succ]
        refine quiet_dig rfl (.tmp 15) rfl Y 0 (by rfl) LF LFL.out (fun w' hw' => hw'.range lY RY.out) ?_
        simp only [Act.put, List.setIfInBounds_toArray, List.set_cons_zero, List.set_cons_succ]
        refine quiet_dig_eq rfl (.tmp 83) (.tmp 84) _ rfl LF LF (by rfl) (by rfl) LFL.out LFL.out ?_
        rw [ERL.out]
        simp only [Act.put, List.setIfInBounds_toArray, List.set_cons_zero, List.set_cons_succ]
        go_big_quiet_step ((intro _; rfl))
        go_big_quiet_step ((intro _; rfl))
        refine quiet_dig rfl (.tmp 16) rfl X 0 (by rfl) LF LFL.out (fun w' hw' => hw'.range lX RX.out) ?_
        simp only [Act.put, List.setIfInBounds_toArray, List.set_cons_zero, List.set_cons_succ]
        refine quiet_dig rfl (.tmp 8) rfl V 0 (by rfl) R RL.out (fun w' hw' => hw'.range lV RV.out) ?_
        simp only [Act.put, List.setIfInBounds_toArray, List.set_cons_zero, List.set_cons_succ]
        go_big_quiet_step ((intro hw'; exact HNC.out _ hw'))
        refine quiet_dig rfl (.tmp 15) rfl Y 0 (by rfl) LF LFL.out (fun w' hw' => hw'.range lY RY.out) ?_
        simp only [Act.put, List.setIfInBounds_toArray, List.set_cons_zero, List.set_cons_succ]
        refine quiet_dig rfl (.tmp 8) rfl V 0 (by rfl) R RL.out (fun w' hw' => hw'.range lV RV.out) ?_
        simp only [Act.put, List.setIfInBounds_toArray, List.set_cons_zero, List.set_cons_succ]
        go_big_quiet_step ((intro hw'; exact HMC.out _ hw'))
        refine quiet_dig_eq rfl (.tmp 90) (.tmp 93) _ rfl N N (by rfl) (by rfl) NL.out NL.out ?_
        rw [ERN.out]
        simp only [Act.put, List.setIfInBounds_toArray, List.set_cons_zero, List.set_cons_succ]
        go_big_quiet_step ((intro _; rfl))
        go_big_quiet_step ((intro _; rfl))
        refine wpQuiet_nil ?_
        intro wZ hwZ
        have BZ := Lib.hid (Below.trans B18.out (Below.mono hwZ (Below.size B18.out)))
        clear hwZ HNC HMC
        go_wp2_with fail
        go_ret
        exact ⟨rfl, BZ.out⟩
      · have TLB := Leaf_bad x2.key hke x2.val
        rw [← HZ.out] at TLB
        have KB := decide_eq_false hke
        clear hke
        obtain ⟨N, hN⟩ : ∃ N, N = nodeD Z R := ⟨_, rfl⟩
        have NL := Lib.hid (show N.length = 32 by rw [hN]; exact nodeD_length _ _)
        have NOD := Node_calls Z R ZL.out RL.out
        have MNO := RMapNode_calls Z R ZL.out RL.out
        rw [← hN] at NOD MNO
        have ERL := Lib.hid (show (Z == Z) = true by simp)
        have ERN := Lib.hid (show (N == N) = true by simp)
        clear hN
        go_enter Tryd.func9, Tryd.ntmps9
        go_upto_region 1 with fail
        rw [← HH.out, ← HW0.out]
        go_wp2_with fail
        refine (MF w0 (r0.out.below B0.out)).mono ?_
        rintro e w1 ⟨rfl, hb1⟩
        have B1 := Lib.hid (show Below w.heap.size w w1 from Below.trans B0.out (Below.mono hb1 (Below.size B0.out)))
        have GH_1 := Lib.hid ((Below.block hb1 H LH_0.out).trans GH_0.out)
        have LH_1 := Lib.hid (Nat.lt_of_lt_of_le LH_0.out (Below.size hb1))
        clear hb1
        obtain ⟨V, hV⟩ : ∃ z, z = w1.heap.size := ⟨_, rfl⟩
        obtain ⟨w2, hw2⟩ : ∃ z, z = w1.alloc (.cells (dV Z) 23) := ⟨_, rfl⟩
        have st2 : Below w1.heap.size w1 w2 := by rw [hw2]; exact (Below.refl _ _).alloc (Nat.le_refl _) _
        have B2 := Lib.hid (show Below w.heap.size w w2 from Below.trans B1.out (Below.mono st2 (Below.size B1.out)))
        have GH_2 := Lib.hid ((Below.block st2 H LH_1.out).trans GH_1.out)
        have LH_2 := Lib.hid (Nat.lt_of_lt_of_le LH_1.out (Below.size st2))
        have GV_2 := Lib.hid (show w2.heap[V]? = some (.cells (dV Z) 23 (0, 0)) by rw [hw2, hV]; exact heap_alloc_new _ _)
        have LV_2 := Lib.hid (lt_of_heap GV_2.out)
        have HV := Lib.hid hV
        have Hw2 := Lib.hid hw2
        clear hV hw2 st2
        go_wp2_with fail
        rw [ZT.out, ← HV.out, ← Hw2.out]
        refine (MR w2 (r0.out.below B2.out)).mono ?_
        rintro e w3 ⟨rfl, hb3⟩
        have B3 := Lib.hid (show Below w.heap.size w w3 from Below.trans B2.out (Below.mono hb3 (Below.size B2.out)))
        have GH_3 := Lib.hid ((Below.block hb3 H LH_2.out).trans GH_2.out)
        have LH_3 := Lib.hid (Nat.lt_of_lt_of_le LH_2.out (Below.size hb3))
        have GV_3 := Lib.hid ((Below.block hb3 V LV_2.out).trans GV_2.out)
        have LV_3 := Lib.hid (Nat.lt_of_lt_of_le LV_2.out (Below.size hb3))
        clear hb3
        obtain ⟨w4, hw4⟩ : ∃ z, z = w3.setRow V (dV R) := ⟨_, rfl⟩
        have B4 := Lib.hid (show Below w.heap.size w w4 by rw [hw4]; exact below_setRowW B3.out (by rw [HV.out]; exact Below.size B1.out) _)
        have sz4 : w4.heap.size = w3.heap.size := by rw [hw4]; exact setRow_size _ _ _
        have GH_4 := Lib.hid (show w4.heap[H]? = some (.cells (eV x2.key x2.val) 35 (0, 0)) by rw [hw4]; exact (_root_.Go.setRow_other _ _ _ _ (by rw [HV.out]; exact Nat.ne_of_lt LH_1.out)).trans GH_3.out)
        have LH_4 := Lib.hid (show H < w4.heap.size by rw [sz4]; exact LH_3.out)
        have GV_4 := Lib.hid (show w4.heap[V]? = some (.cells (dV R) 23 (0, 0)) by rw [hw4]; exact setRow_heap _ _ _ _ _ _ GV_3.out)
        have LV_4 := Lib.hid (show V < w4.heap.size by rw [sz4]; exact LV_3.out)
        have Hw4 := Lib.hid hw4
        clear hw4 sz4
        go_wp2_with (first
          | ((refine st_row rfl (.tmp 8) (.tmp 22) rfl V R RL.out (by rfl) (by rfl) (dV Z) (dV_size ZL.out) _ GV_3.out ?_); rw [← Hw4.out]))
        refine (TRO w4 (r0.out.below B4.out) (RO.out.at_ B4.out)).mono ?_
        rintro e w5 ⟨rfl, hb5⟩
        have B5 := Lib.hid (show Below w.heap.size w w5 from Below.trans B4.out (Below.mono hb5 (Below.size B4.out)))
        have GH_5 := Lib.hid ((Below.block hb5 H LH_4.out).trans GH_4.out)
        have LH_5 := Lib.hid (Nat.lt_of_lt_of_le LH_4.out (Below.size hb5))
        have GV_5 := Lib.hid ((Below.block hb5 V LV_4.out).trans GV_4.out)
        have LV_5 := Lib.hid (Nat.lt_of_lt_of_le LV_4.out (Below.size hb5))
        clear hb5
        obtain ⟨U, hU⟩ : ∃ z, z = w5.heap.size := ⟨_, rfl⟩
        obtain ⟨w6, hw6⟩ : ∃ z, z = w5.alloc (.cells (dV R) 23) := ⟨_, rfl⟩
        have st6 : Below w5.heap.size w5 w6 := by rw [hw6]; exact (Below.refl _ _).alloc (Nat.le_refl _) _
        have B6 := Lib.hid (show Below w.heap.size w w6 from Below.trans B5.out (Below.mono st6 (Below.size B5.out)))
        have GH_6 := Lib.hid ((Below.block st6 H LH_5.out).trans GH_5.out)
        have LH_6 := Lib.hid (Nat.lt_of_lt_of_le LH_5.out (Below.size st6))
        have GV_6 := Lib.hid ((Below.block st6 V LV_5.out).trans GV_5.out)
        have LV_6 := Lib.hid (Nat.lt_of_lt_of_le LV_5.out (Below.size st6))
        have GU_6 := Lib.hid (show w6.heap[U]? = some (.cells (dV R) 23 (0, 0)) by rw [hw6, hU]; exact heap_alloc_new _ _)
        have LU_6 := Lib.hid (lt_of_heap GU_6.out)
        have HU := Lib.hid hU
        have Hw6 := Lib.hid hw6
        clear hU hw6 st6
        go_wp2_with (first
          | ((refine st_new rfl (.tmp 9) (.tmp 26) rfl R RL.out (by rfl) _ _ (by rfl) (by rfl) ?_); rw [← HU.out, ← Hw6.out]))
        refine (((Error_nil 0 true (by decide) w6).mono fun r w' h => (⟨h.1, by rw [← h.2]; exact Below.refl _ _⟩ : r = .returned (.bool true) ∧ Below w6.heap.size w6 w'))).mono ?_
        rintro e w7 ⟨rfl, hb7⟩
        have B7 := Lib.hid (show Below w.heap.size w w7 from Below.trans B6.out (Below.mono hb7 (Below.size B6.out)))
        have GH_7 := Lib.hid ((Below.block hb7 H LH_6.out).trans GH_6.out)
        have LH_7 := Lib.hid (Nat.lt_of_lt_of_le LH_6.out (Below.size hb7))
        have GV_7 := Lib.hid ((Below.block hb7 V LV_6.out).trans GV_6.out)
        have LV_7 := Lib.hid (Nat.lt_of_lt_of_le LV_6.out (Below.size hb7))
        have GU_7 := Lib.hid ((Below.block hb7 U LU_6.out).trans GU_6.out)
        have LU_7 := Lib.hid (Nat.lt_of_lt_of_le LU_6.out (Below.size hb7))
        clear hb7
        go_wp2_with (first
          | ((refine ld_digG rfl (.tmp 9) rfl (U) 0 (by rfl) R RL.out (range_of_row GU_7.out) ?_); simp only [Act.put, List.setIfInBounds_toArray, List.set_cons_zero, List.set_cons_succ])
          | ((refine ld_digG rfl (.tmp 8) rfl (V) 0 (by rfl) R RL.out (range_of_row GV_7.out) ?_); simp only [Act.put, List.setIfInBounds_toArray, List.set_cons_zero, List.set_cons_succ])
          | ((refine neq_digG rfl (.tmp 34) (.tmp 35) _ rfl R R (by rfl) (by rfl) RL.out RL.out ?_); rw [ERR.out]; simp only [Act.put, List.setIfInBounds_toArray, List.set_cons_zero, List.set_cons_succ]))
        refine (((IsKey_calls a1 w7).mono fun r w' h => (⟨by rw [h.1, decide_eq_false HK.out], by rw [← h.2]; exact Below.refl _ _⟩ : r = .returned (.bool false) ∧ Below w7.heap.size w7 w'))).mono ?_
        rintro e w8 ⟨rfl, hb8⟩
        have B8 := Lib.hid (show Below w.heap.size w w8 from Below.trans B7.out (Below.mono hb8 (Below.size B7.out)))
        have GH_8 := Lib.hid ((Below.block hb8 H LH_7.out).trans GH_7.out)
        have LH_8 := Lib.hid (Nat.lt_of_lt_of_le LH_7.out (Below.size hb8))
        have GV_8 := Lib.hid ((Below.block hb8 V LV_7.out).trans GV_7.out)
        have LV_8 := Lib.hid (Nat.lt_of_lt_of_le LV_7.out (Below.size hb8))
        have GU_8 := Lib.hid ((Below.block hb8 U LU_7.out).trans GU_7.out)
        have LU_8 := Lib.hid (Nat.lt_of_lt_of_le LU_7.out (Below.size hb8))
        clear hb8
        go_wp2_with fail
        refine (PK w8 (r0.out.below B8.out)).mono ?_
        rintro e w9 ⟨rfl, hb9⟩
        have B9 := Lib.hid (show Below w.heap.size w w9 from Below.trans B8.out (Below.mono hb9 (Below.size B8.out)))
        have GH_9 := Lib.hid ((Below.block hb9 H LH_8.out).trans GH_8.out)
        have LH_9 := Lib.hid (Nat.lt_of_lt_of_le LH_8.out (Below.size hb9))
        have GV_9 := Lib.hid ((Below.block hb9 V LV_8.out).trans GV_8.out)
        have LV_9 := Lib.hid (Nat.lt_of_lt_of_le LV_8.out (Below.size hb9))
        have GU_9 := Lib.hid ((Below.block hb9 U LU_8.out).trans GU_8.out)
        have LU_9 := Lib.hid (Nat.lt_of_lt_of_le LU_8.out (Below.size hb9))
        clear hb9
        go_wp2_with fail
        refine (Error_err 2 2 true (by simp) w9 (HG.out.at_ B9.out)).mono ?_
        rintro e w10 ⟨rfl, hb10⟩
        have B10 := Lib.hid (show Below w.heap.size w w10 from Below.trans B9.out (Below.mono hb10 (Below.size B9.out)))
        have GH_10 := Lib.hid ((Below.block hb10 H LH_9.out).trans GH_9.out)
        have LH_10 := Lib.hid (Nat.lt_of_lt_of_le LH_9.out (Below.size hb10))
        have GV_10 := Lib.hid ((Below.block hb10 V LV_9.out).trans GV_9.out)
        have LV_10 := Lib.hid (Nat.lt_of_lt_of_le LV_9.out (Below.size hb10))
        have GU_10 := Lib.hid ((Below.block hb10 U LU_9.out).trans GU_9.out)
        have LU_10 := Lib.hid (Nat.lt_of_lt_of_le LU_9.out (Below.size hb10))
        clear hb10
        go_wp2_with fail
        refine (SameN w10).mono ?_
        rintro e w11 ⟨rfl, hb11⟩
        have B11 := Lib.hid (show Below w.heap.size w w11 from Below.trans B10.out (Below.mono hb11 (Below.size B10.out)))
        have GH_11 := Lib.hid ((Below.block hb11 H LH_10.out).trans GH_10.out)
        have LH_11 := Lib.hid (Nat.lt_of_lt_of_le LH_10.out (Below.size hb11))
        have GV_11 := Lib.hid ((Below.block hb11 V LV_10.out).trans GV_10.out)
        have LV_11 := Lib.hid (Nat.lt_of_lt_of_le LV_10.out (Below.size hb11))
        have GU_11 := Lib.hid ((Below.block hb11 U LU_10.out).trans GU_10.out)
        have LU_11 := Lib.hid (Nat.lt_of_lt_of_le LU_10.out (Below.size hb11))
        clear hb11
        obtain ⟨Y, hY⟩ : ∃ z, z = w11.heap.size := ⟨_, rfl⟩
        obtain ⟨w12, hw12⟩ : ∃ z, z = w11.alloc (.cells (dV Z) 23) := ⟨_, rfl⟩
        have st12 : Below w11.heap.size w11 w12 := by rw [hw12]; exact (Below.refl _ _).alloc (Nat.le_refl _) _
        have B12 := Lib.hid (show Below w.heap.size w w12 from Below.trans B11.out (Below.mono st12 (Below.size B11.out)))
        have GH_12 := Lib.hid ((Below.block st12 H LH_11.out).trans GH_11.out)
        have LH_12 := Lib.hid (Nat.lt_of_lt_of_le LH_11.out (Below.size st12))
        have GV_12 := Lib.hid ((Below.block st12 V LV_11.out).trans GV_11.out)
        have LV_12 := Lib.hid (Nat.lt_of_lt_of_le LV_11.out (Below.size st12))
        have GU_12 := Lib.hid ((Below.block st12 U LU_11.out).trans GU_11.out)
        have LU_12 := Lib.hid (Nat.lt_of_lt_of_le LU_11.out (Below.size st12))
        have GY_12 := Lib.hid (show w12.heap[Y]? = some (.cells (dV Z) 23 (0, 0)) by rw [hw12, hY]; exact heap_alloc_new _ _)
        have LY_12 := Lib.hid (lt_of_heap GY_12.out)
        have HY := Lib.hid hY
        have Hw12 := Lib.hid hw12
        clear hY hw12 st12
        go_upto_region 21 with fail
        rw [ZT.out, ← HY.out, ← Hw12.out]
        have ck := eV_key GH_12.out
        go_wp2_with fail
        refine (((IsKey_calls x2.key w12).mono fun r w' h => (⟨by rw [h.1, KB], by rw [← h.2]; exact Below.refl _ _⟩ : r = .returned (.bool false) ∧ Below w12.heap.size w12 w'))).mono ?_
        rintro e w13 ⟨rfl, hb13⟩
        have B13 := Lib.hid (show Below w.heap.size w w13 from Below.trans B12.out (Below.mono hb13 (Below.size B12.out)))
        have GH_13 := Lib.hid ((Below.block hb13 H LH_12.out).trans GH_12.out)
        have LH_13 := Lib.hid (Nat.lt_of_lt_of_le LH_12.out (Below.size hb13))
        have GV_13 := Lib.hid ((Below.block hb13 V LV_12.out).trans GV_12.out)
        have LV_13 := Lib.hid (Nat.lt_of_lt_of_le LV_12.out (Below.size hb13))
        have GU_13 := Lib.hid ((Below.block hb13 U LU_12.out).trans GU_12.out)
        have LU_13 := Lib.hid (Nat.lt_of_lt_of_le LU_12.out (Below.size hb13))
        have GY_13 := Lib.hid ((Below.block hb13 Y LY_12.out).trans GY_12.out)
        have LY_13 := Lib.hid (Nat.lt_of_lt_of_le LY_12.out (Below.size hb13))
        clear hb13
        go_wp2_with (first
          | ((refine ld_entG rfl (.tmp 5) rfl H 0 (by rfl) x2 E32.out (range_ent GH_13.out) ?_); simp only [Act.put, List.setIfInBounds_toArray, List.set_cons_zero, List.set_cons_succ]))
        refine (TLB w13).mono ?_
        rintro e w14 ⟨rfl, hb14⟩
        have B14 := Lib.hid (show Below w.heap.size w w14 from Below.trans B13.out (Below.mono hb14 (Below.size B13.out)))
        have GH_14 := Lib.hid ((Below.block hb14 H LH_13.out).trans GH_13.out)
        have LH_14 := Lib.hid (Nat.lt_of_lt_of_le LH_13.out (Below.size hb14))
        have GV_14 := Lib.hid ((Below.block hb14 V LV_13.out).trans GV_13.out)
        have LV_14 := Lib.hid (Nat.lt_of_lt_of_le LV_13.out (Below.size hb14))
        have GU_14 := Lib.hid ((Below.block hb14 U LU_13.out).trans GU_13.out)
        have LU_14 := Lib.hid (Nat.lt_of_lt_of_le LU_13.out (Below.size hb14))
        have GY_14 := Lib.hid ((Below.block hb14 Y LY_13.out).trans GY_13.out)
        have LY_14 := Lib.hid (Nat.lt_of_lt_of_le LY_13.out (Below.size hb14))
        clear hb14
        obtain ⟨X, hX⟩ : ∃ z, z = w14.heap.size := ⟨_, rfl⟩
        obtain ⟨w15, hw15⟩ : ∃ z, z = w14.alloc (.cells (dV Z) 23) := ⟨_, rfl⟩
        have st15 : Below w14.heap.size w14 w15 := by rw [hw15]; exact (Below.refl _ _).alloc (Nat.le_refl _) _
        have B15 := Lib.hid (show Below w.heap.size w w15 from Below.trans B14.out (Below.mono st15 (Below.size B14.out)))
        have GH_15 := Lib.hid ((Below.block st15 H LH_14.out).trans GH_14.out)
        have LH_15 := Lib.hid (Nat.lt_of_lt_of_le LH_14.out (Below.size st15))
        have GV_15 := Lib.hid ((Below.block st15 V LV_14.out).trans GV_14.out)
        have LV_15 := Lib.hid (Nat.lt_of_lt_of_le LV_14.out (Below.size st15))
        have GU_15 := Lib.hid ((Below.block st15 U LU_14.out).trans GU_14.out)
        have LU_15 := Lib.hid (Nat.lt_of_lt_of_le LU_14.out (Below.size st15))
        have GY_15 := Lib.hid ((Below.block st15 Y LY_14.out).trans GY_14.out)
        have LY_15 := Lib.hid (Nat.lt_of_lt_of_le LY_14.out (Below.size st15))
        have GX_15 := Lib.hid (show w15.heap[X]? = some (.cells (dV Z) 23 (0, 0)) by rw [hw15, hX]; exact heap_alloc_new _ _)
        have LX_15 := Lib.hid (lt_of_heap GX_15.out)
        have HX := Lib.hid hX
        have Hw15 := Lib.hid hw15
        clear hX hw15 st15
        go_wp2_with (first
          | ((refine st_new rfl (.tmp 16) (.tmp 76) rfl Z ZL.out (by rfl) _ _ (by rfl) (by rfl) ?_); rw [← HX.out, ← Hw15.out]))
        refine (Error_err 2 2 true (by simp) w15 (HG.out.at_ B15.out)).mono ?_
        rintro e w16 ⟨rfl, hb16⟩
        have B16 := Lib.hid (show Below w.heap.size w w16 from Below.trans B15.out (Below.mono hb16 (Below.size B15.out)))
        have GH_16 := Lib.hid ((Below.block hb16 H LH_15.out).trans GH_15.out)
        have LH_16 := Lib.hid (Nat.lt_of_lt_of_le LH_15.out (Below.size hb16))
        have GV_16 := Lib.hid ((Below.block hb16 V LV_15.out).trans GV_15.out)
        have LV_16 := Lib.hid (Nat.lt_of_lt_of_le LV_15.out (Below.size hb16))
        have GU_16 := Lib.hid ((Below.block hb16 U LU_15.out).trans GU_15.out)
        have LU_16 := Lib.hid (Nat.lt_of_lt_of_le LU_15.out (Below.size hb16))
        have GY_16 := Lib.hid ((Below.block hb16 Y LY_15.out).trans GY_15.out)
        have LY_16 := Lib.hid (Nat.lt_of_lt_of_le LY_15.out (Below.size hb16))
        have GX_16 := Lib.hid ((Below.block hb16 X LX_15.out).trans GX_15.out)
        have LX_16 := Lib.hid (Nat.lt_of_lt_of_le LX_15.out (Below.size hb16))
        clear hb16
        go_wp2_with fail
        have NC : ∀ w', InB w16.heap.size w16 w' → Calls Tryd.prog 31 #[.agg (dV Z), .agg (dV R)] w' fun e w'' => e = .returned (.agg (dV N)) ∧ InB w16.heap.size w16 w'' :=
          fun w' h => InB.call h (Nat.le_refl _) (NOD w' (RO.out.at_ (Below.trans B16.out (Below.mono h (Below.size B16.out)))))
        have MC : ∀ w', InB w16.heap.size w16 w' → Calls Tryd.prog 26 #[.agg (dV Z), .agg (dV R)] w' fun e w'' => e = .returned (.agg (dV N)) ∧ InB w16.heap.size w16 w'' :=
          fun w' h => InB.call h (Nat.le_refl _) (MNO w')
        have HNC := Lib.hid NC
        have HMC := Lib.hid MC
        have hex := inB_ex w16.heap.size w16
        have RX := Lib.hid (range_of_row GX_16.out)
        have RY := Lib.hid (range_of_row GY_16.out)
        have RV := Lib.hid (range_of_row GV_16.out)
        have lX := LX_16.out
        have lY := LY_16.out
        have lV := LV_16.out
        clear NC MC
        refine wp_region_inB w16.heap.size (by kernel_rfl) (by kernel_rfl) ?_
        go_big_quiet_step ((intro _; rfl))
        go_big_quiet_step ((intro _; rfl))
        refine quiet_dig rfl (.tmp 16) rfl X 0 (by rfl) Z ZL.out (fun w' hw' => hw'.range lX RX.out) ?_
        simp only [Act.put, List.setIfInBounds_toArray, List.set_cons_zero, List.set_cons_succ]
        refine quiet_dig rfl (.tmp 15) rfl Y 0 (by rfl) Z ZL.out (fun w' hw' => hw'.range lY RY.out) ?_
        simp only [Act.put, List.setIfInBounds_toArray, List.set_cons_zero, List.set_cons_succ]
        refine quiet_dig_eq rfl (.tmp 83) (.tmp 84) _ rfl Z Z (by rfl) (by rfl) ZL.out ZL.out ?_
        rw [ERL.out]
        simp only [Act.put, List.setIfInBounds_toArray, List.set_cons_zero, List.set_cons_succ]
        go_big_quiet_step ((intro _; rfl))
        go_big_quiet_step ((intro _; rfl))
        refine quiet_dig rfl (.tmp 16) rfl X 0 (by rfl) Z ZL.out (fun w' hw' => hw'.range lX RX.out) ?_
        simp only [Act.put, List.setIfInBounds_toArray, List.set_cons_zero, List.set_cons_succ]
        refine quiet_dig rfl (.tmp 8) rfl V 0 (by rfl) R RL.out (fun w' hw' => hw'.range lV RV.out) ?_
        simp only [Act.put, List.setIfInBounds_toArray, List.set_cons_zero, List.set_cons_succ]
        go_big_quiet_step ((intro hw'; exact HNC.out _ hw'))
        refine quiet_dig rfl (.tmp 15) rfl Y 0 (by rfl) Z ZL.out (fun w' hw' => hw'.range lY RY.out) ?_
        simp only [Act.put, List.setIfInBounds_toArray, List.set_cons_zero, List.set_cons_succ]
        refine quiet_dig rfl (.tmp 8) rfl V 0 (by rfl) R RL.out (fun w' hw' => hw'.range lV RV.out) ?_
        simp only [Act.put, List.setIfInBounds_toArray, List.set_cons_zero, List.set_cons_succ]
        go_big_quiet_step ((intro hw'; exact HMC.out _ hw'))
        refine quiet_dig_eq rfl (.tmp 90) (.tmp 93) _ rfl N N (by rfl) (by rfl) NL.out NL.out ?_
        rw [ERN.out]
        simp only [Act.put, List.setIfInBounds_toArray, List.set_cons_zero, List.set_cons_succ]
        go_big_quiet_step ((intro _; rfl))
        go_big_quiet_step ((intro _; rfl))
        refine wpQuiet_nil ?_
        intro wZ hwZ
        have BZ := Lib.hid (Below.trans B16.out (Below.mono hwZ (Below.size B16.out)))
        clear hwZ HNC HMC
        go_wp2_with fail
        go_ret
        exact ⟨rfl, BZ.out⟩
  · obtain ⟨F, hF⟩ : ∃ F, F = mapF x0 := ⟨_, rfl⟩
    have TRB := fun w' hr => TRoot_bad x0 n0.out a0 c0 e0 l0 m0 w' hr F hF.symm (by rw [hF]; exact hf0)
    have PB := fun w' hr => Path_bad x0 n0.out a0 c0 e0 l0 m0 a1 w' hr F hF.symm (by rw [hF]; exact hf0)
    rw [← HZ.out] at TRB
    have hF9 : F ≠ 0 := by rw [hF]; exact hf0
    have z9 : (F == 0) = false := by rw [beq_eq_false_iff_ne]; exact hF9
    rw [← hF] at MF
    have ERR := Lib.hid (show (Z == Z) = true by simp)
    clear hF hf0 hle
    by_cases hke : KeyOk x2.key
    · obtain ⟨q, hq⟩ : ∃ q : Nat, x2.key = (q : Int) := ⟨x2.key.toNat, by have := hke.1; omega⟩
      have hq2 : q < 4294967296 := by have := hke.2; omega
      have EL := EntryLeaf_calls q hq2 x2.val E32.out
      have TL := Leaf_calls q hq2 x2.val E32.out
      obtain ⟨LF, hLF⟩ : ∃ L, L = leafD q x2.val := ⟨_, rfl⟩
      have LFL := Lib.hid (show LF.length = 32 by rw [hLF]; exact leafD_length _ _)
      rw [← hLF, ← hq] at EL TL
      have KB := decide_eq_true hke
      clear hLF hq hq2 hke
      obtain ⟨N, hN⟩ : ∃ N, N = nodeD LF Z := ⟨_, rfl⟩
      have NL := Lib.hid (show N.length = 32 by rw [hN]; exact nodeD_length _ _)
      have NOD := Node_calls LF Z LFL.out ZL.out
      have MNO := RMapNode_calls LF Z LFL.out ZL.out
      rw [← hN] at NOD MNO
      have ERL := Lib.hid (show (LF == LF) = true by simp)
      have ERN := Lib.hid (show (N == N) = true by simp)
      clear hN
      go_enter Tryd.func9, Tryd.ntmps9
      go_upto_region 1 with fail
      rw [← HH.out, ← HW0.out]
      go_wp2_with fail
      refine (MF w0 (r0.out.below B0.out)).mono ?_
      rintro e w1 ⟨rfl, hb1⟩
      have B1 := Lib.hid (show Below w.heap.size w w1 from Below.trans B0.out (Below.mono hb1 (Below.size B0.out)))
      have GH_1 := Lib.hid ((Below.block hb1 H LH_0.out).trans GH_0.out)
      have LH_1 := Lib.hid (Nat.lt_of_lt_of_le LH_0.out (Below.size hb1))
      clear hb1
      obtain ⟨V, hV⟩ : ∃ z, z = w1.heap.size := ⟨_, rfl⟩
      obtain ⟨w2, hw2⟩ : ∃ z, z = w1.alloc (.cells (dV Z) 23) := ⟨_, rfl⟩
      have st2 : Below w1.heap.size w1 w2 := by rw [hw2]; exact (Below.refl _ _).alloc (Nat.le_refl _) _
      have B2 := Lib.hid (show Below w.heap.size w w2 from Below.trans B1.out (Below.mono st2 (Below.size B1.out)))
      have GH_2 := Lib.hid ((Below.block st2 H LH_1.out).trans GH_1.out)
      have LH_2 := Lib.hid (Nat.lt_of_lt_of_le LH_1.out (Below.size st2))
      have GV_2 := Lib.hid (show w2.heap[V]? = some (.cells (dV Z) 23 (0, 0)) by rw [hw2, hV]; exact heap_alloc_new _ _)
      have LV_2 := Lib.hid (lt_of_heap GV_2.out)
      have HV := Lib.hid hV
      have Hw2 := Lib.hid hw2
      clear hV hw2 st2
      go_wp2_with fail
      rw [ZT.out, ← HV.out, ← Hw2.out]
      refine (TRB w2 (r0.out.below B2.out)).mono ?_
      rintro e w3 ⟨rfl, hb3⟩
      have B3 := Lib.hid (show Below w.heap.size w w3 from Below.trans B2.out (Below.mono hb3 (Below.size B2.out)))
      have GH_3 := Lib.hid ((Below.block hb3 H LH_2.out).trans GH_2.out)
      have LH_3 := Lib.hid (Nat.lt_of_lt_of_le LH_2.out (Below.size hb3))
      have GV_3 := Lib.hid ((Below.block hb3 V LV_2.out).trans GV_2.out)
      have LV_3 := Lib.hid (Nat.lt_of_lt_of_le LV_2.out (Below.size hb3))
      clear hb3
      obtain ⟨U, hU⟩ : ∃ z, z = w3.heap.size := ⟨_, rfl⟩
      obtain ⟨w4, hw4⟩ : ∃ z, z = w3.alloc (.cells (dV Z) 23) := ⟨_, rfl⟩
      have st4 : Below w3.heap.size w3 w4 := by rw [hw4]; exact (Below.refl _ _).alloc (Nat.le_refl _) _
      have B4 := Lib.hid (show Below w.heap.size w w4 from Below.trans B3.out (Below.mono st4 (Below.size B3.out)))
      have GH_4 := Lib.hid ((Below.block st4 H LH_3.out).trans GH_3.out)
      have LH_4 := Lib.hid (Nat.lt_of_lt_of_le LH_3.out (Below.size st4))
      have GV_4 := Lib.hid ((Below.block st4 V LV_3.out).trans GV_3.out)
      have LV_4 := Lib.hid (Nat.lt_of_lt_of_le LV_3.out (Below.size st4))
      have GU_4 := Lib.hid (show w4.heap[U]? = some (.cells (dV Z) 23 (0, 0)) by rw [hw4, hU]; exact heap_alloc_new _ _)
      have LU_4 := Lib.hid (lt_of_heap GU_4.out)
      have HU := Lib.hid hU
      have Hw4 := Lib.hid hw4
      clear hU hw4 st4
      go_wp2_with (first
        | ((refine st_new rfl (.tmp 9) (.tmp 26) rfl Z ZL.out (by rfl) _ _ (by rfl) (by rfl) ?_); rw [← HU.out, ← Hw4.out]))
      refine (Error_err F F true (by simp) w4 (HG.out.at_ B4.out)).mono ?_
      rintro e w5 ⟨rfl, hb5⟩
      have B5 := Lib.hid (show Below w.heap.size w w5 from Below.trans B4.out (Below.mono hb5 (Below.size B4.out)))
      have GH_5 := Lib.hid ((Below.block hb5 H LH_4.out).trans GH_4.out)
      have LH_5 := Lib.hid (Nat.lt_of_lt_of_le LH_4.out (Below.size hb5))
      have GV_5 := Lib.hid ((Below.block hb5 V LV_4.out).trans GV_4.out)
      have LV_5 := Lib.hid (Nat.lt_of_lt_of_le LV_4.out (Below.size hb5))
      have GU_5 := Lib.hid ((Below.block hb5 U LU_4.out).trans GU_4.out)
      have LU_5 := Lib.hid (Nat.lt_of_lt_of_le LU_4.out (Below.size hb5))
      clear hb5
      go_wp2_with (first
        | ((refine ld_digG rfl (.tmp 9) rfl (U) 0 (by rfl) Z ZL.out (range_of_row GU_5.out) ?_); simp only [Act.put, List.setIfInBounds_toArray, List.set_cons_zero, List.set_cons_succ])
        | ((refine ld_digG rfl (.tmp 8) rfl (V) 0 (by rfl) Z ZL.out (range_of_row GV_5.out) ?_); simp only [Act.put, List.setIfInBounds_toArray, List.set_cons_zero, List.set_cons_succ])
        | ((refine neq_digG rfl (.tmp 34) (.tmp 35) _ rfl Z Z (by rfl) (by rfl) ZL.out ZL.out ?_); rw [ERR.out]; simp only [Act.put, List.setIfInBounds_toArray, List.set_cons_zero, List.set_cons_succ]))
      refine (PB w5 (r0.out.below B5.out)).mono ?_
      rintro e w6 ⟨rfl, hb6⟩
      have B6 := Lib.hid (show Below w.heap.size w w6 from Below.trans B5.out (Below.mono hb6 (Below.size B5.out)))
      have GH_6 := Lib.hid ((Below.block hb6 H LH_5.out).trans GH_5.out)
      have LH_6 := Lib.hid (Nat.lt_of_lt_of_le LH_5.out (Below.size hb6))
      have GV_6 := Lib.hid ((Below.block hb6 V LV_5.out).trans GV_5.out)
      have LV_6 := Lib.hid (Nat.lt_of_lt_of_le LV_5.out (Below.size hb6))
      have GU_6 := Lib.hid ((Below.block hb6 U LU_5.out).trans GU_5.out)
      have LU_6 := Lib.hid (Nat.lt_of_lt_of_le LU_5.out (Below.size hb6))
      clear hb6
      go_wp2_with fail
      refine (Error_err F F true (by simp) w6 (HG.out.at_ B6.out)).mono ?_
      rintro e w7 ⟨rfl, hb7⟩
      have B7 := Lib.hid (show Below w.heap.size w w7 from Below.trans B6.out (Below.mono hb7 (Below.size B6.out)))
      have GH_7 := Lib.hid ((Below.block hb7 H LH_6.out).trans GH_6.out)
      have LH_7 := Lib.hid (Nat.lt_of_lt_of_le LH_6.out (Below.size hb7))
      have GV_7 := Lib.hid ((Below.block hb7 V LV_6.out).trans GV_6.out)
      have LV_7 := Lib.hid (Nat.lt_of_lt_of_le LV_6.out (Below.size hb7))
      have GU_7 := Lib.hid ((Below.block hb7 U LU_6.out).trans GU_6.out)
      have LU_7 := Lib.hid (Nat.lt_of_lt_of_le LU_6.out (Below.size hb7))
      clear hb7
      go_wp2_with fail
      refine (SameN w7).mono ?_
      rintro e w8 ⟨rfl, hb8⟩
      have B8 := Lib.hid (show Below w.heap.size w w8 from Below.trans B7.out (Below.mono hb8 (Below.size B7.out)))
      have GH_8 := Lib.hid ((Below.block hb8 H LH_7.out).trans GH_7.out)
      have LH_8 := Lib.hid (Nat.lt_of_lt_of_le LH_7.out (Below.size hb8))
      have GV_8 := Lib.hid ((Below.block hb8 V LV_7.out).trans GV_7.out)
      have LV_8 := Lib.hid (Nat.lt_of_lt_of_le LV_7.out (Below.size hb8))
      have GU_8 := Lib.hid ((Below.block hb8 U LU_7.out).trans GU_7.out)
      have LU_8 := Lib.hid (Nat.lt_of_lt_of_le LU_7.out (Below.size hb8))
      clear hb8
      obtain ⟨Y, hY⟩ : ∃ z, z = w8.heap.size := ⟨_, rfl⟩
      obtain ⟨w9, hw9⟩ : ∃ z, z = w8.alloc (.cells (dV Z) 23) := ⟨_, rfl⟩
      have st9 : Below w8.heap.size w8 w9 := by rw [hw9]; exact (Below.refl _ _).alloc (Nat.le_refl _) _
      have B9 := Lib.hid (show Below w.heap.size w w9 from Below.trans B8.out (Below.mono st9 (Below.size B8.out)))
      have GH_9 := Lib.hid ((Below.block st9 H LH_8.out).trans GH_8.out)
      have LH_9 := Lib.hid (Nat.lt_of_lt_of_le LH_8.out (Below.size st9))
      have GV_9 := Lib.hid ((Below.block st9 V LV_8.out).trans GV_8.out)
      have LV_9 := Lib.hid (Nat.lt_of_lt_of_le LV_8.out (Below.size st9))
      have GU_9 := Lib.hid ((Below.block st9 U LU_8.out).trans GU_8.out)
      have LU_9 := Lib.hid (Nat.lt_of_lt_of_le LU_8.out (Below.size st9))
      have GY_9 := Lib.hid (show w9.heap[Y]? = some (.cells (dV Z) 23 (0, 0)) by rw [hw9, hY]; exact heap_alloc_new _ _)
      have LY_9 := Lib.hid (lt_of_heap GY_9.out)
      have HY := Lib.hid hY
      have Hw9 := Lib.hid hw9
      clear hY hw9 st9
      go_upto_region 21 with fail
      rw [ZT.out, ← HY.out, ← Hw9.out]
      have ck := eV_key GH_9.out
      go_wp2_with fail
      refine (((IsKey_calls x2.key w9).mono fun r w' h => (⟨by rw [h.1, KB], by rw [← h.2]; exact Below.refl _ _⟩ : r = .returned (.bool true) ∧ Below w9.heap.size w9 w'))).mono ?_
      rintro e w10 ⟨rfl, hb10⟩
      have B10 := Lib.hid (show Below w.heap.size w w10 from Below.trans B9.out (Below.mono hb10 (Below.size B9.out)))
      have GH_10 := Lib.hid ((Below.block hb10 H LH_9.out).trans GH_9.out)
      have LH_10 := Lib.hid (Nat.lt_of_lt_of_le LH_9.out (Below.size hb10))
      have GV_10 := Lib.hid ((Below.block hb10 V LV_9.out).trans GV_9.out)
      have LV_10 := Lib.hid (Nat.lt_of_lt_of_le LV_9.out (Below.size hb10))
      have GU_10 := Lib.hid ((Below.block hb10 U LU_9.out).trans GU_9.out)
      have LU_10 := Lib.hid (Nat.lt_of_lt_of_le LU_9.out (Below.size hb10))
      have GY_10 := Lib.hid ((Below.block hb10 Y LY_9.out).trans GY_9.out)
      have LY_10 := Lib.hid (Nat.lt_of_lt_of_le LY_9.out (Below.size hb10))
      clear hb10
      go_wp2_with (first
        | ((refine ld_entG rfl (.tmp 5) rfl H 0 (by rfl) x2 E32.out (range_ent GH_10.out) ?_); simp only [Act.put, List.setIfInBounds_toArray, List.set_cons_zero, List.set_cons_succ]))
      refine (EL w10).mono ?_
      rintro e w11 ⟨rfl, hb11⟩
      have B11 := Lib.hid (show Below w.heap.size w w11 from Below.trans B10.out (Below.mono hb11 (Below.size B10.out)))
      have GH_11 := Lib.hid ((Below.block hb11 H LH_10.out).trans GH_10.out)
      have LH_11 := Lib.hid (Nat.lt_of_lt_of_le LH_10.out (Below.size hb11))
      have GV_11 := Lib.hid ((Below.block hb11 V LV_10.out).trans GV_10.out)
      have LV_11 := Lib.hid (Nat.lt_of_lt_of_le LV_10.out (Below.size hb11))
      have GU_11 := Lib.hid ((Below.block hb11 U LU_10.out).trans GU_10.out)
      have LU_11 := Lib.hid (Nat.lt_of_lt_of_le LU_10.out (Below.size hb11))
      have GY_11 := Lib.hid ((Below.block hb11 Y LY_10.out).trans GY_10.out)
      have LY_11 := Lib.hid (Nat.lt_of_lt_of_le LY_10.out (Below.size hb11))
      clear hb11
      obtain ⟨w12, hw12⟩ : ∃ z, z = w11.setRow Y (dV LF) := ⟨_, rfl⟩
      have B12 := Lib.hid (show Below w.heap.size w w12 by rw [hw12]; exact below_setRowW B11.out (by rw [HY.out]; exact Below.size B8.out) _)
      have sz12 : w12.heap.size = w11.heap.size := by rw [hw12]; exact setRow_size _ _ _
      have GH_12 := Lib.hid (show w12.heap[H]? = some (.cells (eV x2.key x2.val) 35 (0, 0)) by rw [hw12]; exact (_root_.Go.setRow_other _ _ _ _ (by rw [HY.out]; exact Nat.ne_of_lt LH_8.out)).trans GH_11.out)
      have LH_12 := Lib.hid (show H < w12.heap.size by rw [sz12]; exact LH_11.out)
      have GV_12 := Lib.hid (show w12.heap[V]? = some (.cells (dV Z) 23 (0, 0)) by rw [hw12]; exact (_root_.Go.setRow_other _ _ _ _ (by rw [HY.out]; exact Nat.ne_of_lt LV_8.out)).trans GV_11.out)
      have LV_12 := Lib.hid (show V < w12.heap.size by rw [sz12]; exact LV_11.out)
      have GU_12 := Lib.hid (show w12.heap[U]? = some (.cells (dV Z) 23 (0, 0)) by rw [hw12]; exact (_root_.Go.setRow_other _ _ _ _ (by rw [HY.out]; exact Nat.ne_of_lt LU_8.out)).trans GU_11.out)
      have LU_12 := Lib.hid (show U < w12.heap.size by rw [sz12]; exact LU_11.out)
      have GY_12 := Lib.hid (show w12.heap[Y]? = some (.cells (dV LF) 23 (0, 0)) by rw [hw12]; exact setRow_heap _ _ _ _ _ _ GY_11.out)
      have LY_12 := Lib.hid (show Y < w12.heap.size by rw [sz12]; exact LY_11.out)
      have Hw12 := Lib.hid hw12
      clear hw12 sz12
      go_wp2_with (first
        | ((refine st_row rfl (.tmp 15) (.tmp 72) rfl Y LF LFL.out (by rfl) (by rfl) (dV Z) (dV_size ZL.out) _ GY_11.out ?_); rw [← Hw12.out])
        | ((refine ld_entG rfl (.tmp 5) rfl H 0 (by rfl) x2 E32.out (range_ent GH_12.out) ?_); simp only [Act.put, List.setIfInBounds_toArray, List.set_cons_zero, List.set_cons_succ]))
      refine (TL w12 (RO.out.at_ B12.out)).mono ?_
      rintro e w13 ⟨rfl, hb13⟩
      have B13 := Lib.hid (show Below w.heap.size w w13 from Below.trans B12.out (Below.mono hb13 (Below.size B12.out)))
      have GH_13 := Lib.hid ((Below.block hb13 H LH_12.out).trans GH_12.out)
      have LH_13 := Lib.hid (Nat.lt_of_lt_of_le LH_12.out (Below.size hb13))
      have GV_13 := Lib.hid ((Below.block hb13 V LV_12.out).trans GV_12.out)
      have LV_13 := Lib.hid (Nat.lt_of_lt_of_le LV_12.out (Below.size hb13))
      have GU_13 := Lib.hid ((Below.block hb13 U LU_12.out).trans GU_12.out)
      have LU_13 := Lib.hid (Nat.lt_of_lt_of_le LU_12.out (Below.size hb13))
      have GY_13 := Lib.hid ((Below.block hb13 Y LY_12.out).trans GY_12.out)
      have LY_13 := Lib.hid (Nat.lt_of_lt_of_le LY_12.out (Below.size hb13))
      clear hb13
      obtain ⟨X, hX⟩ : ∃ z, z = w13.heap.size := ⟨_, rfl⟩
      obtain ⟨w14, hw14⟩ : ∃ z, z = w13.alloc (.cells (dV LF) 23) := ⟨_, rfl⟩
      have st14 : Below w13.heap.size w13 w14 := by rw [hw14]; exact (Below.refl _ _).alloc (Nat.le_refl _) _
      have B14 := Lib.hid (show Below w.heap.size w w14 from Below.trans B13.out (Below.mono st14 (Below.size B13.out)))
      have GH_14 := Lib.hid ((Below.block st14 H LH_13.out).trans GH_13.out)
      have LH_14 := Lib.hid (Nat.lt_of_lt_of_le LH_13.out (Below.size st14))
      have GV_14 := Lib.hid ((Below.block st14 V LV_13.out).trans GV_13.out)
      have LV_14 := Lib.hid (Nat.lt_of_lt_of_le LV_13.out (Below.size st14))
      have GU_14 := Lib.hid ((Below.block st14 U LU_13.out).trans GU_13.out)
      have LU_14 := Lib.hid (Nat.lt_of_lt_of_le LU_13.out (Below.size st14))
      have GY_14 := Lib.hid ((Below.block st14 Y LY_13.out).trans GY_13.out)
      have LY_14 := Lib.hid (Nat.lt_of_lt_of_le LY_13.out (Below.size st14))
      have GX_14 := Lib.hid (show w14.heap[X]? = some (.cells (dV LF) 23 (0, 0)) by rw [hw14, hX]; exact heap_alloc_new _ _)
      have LX_14 := Lib.hid (lt_of_heap GX_14.out)
      have HX := Lib.hid hX
      have Hw14 := Lib.hid hw14
      clear hX hw14 st14
      go_wp2_with (first
        | ((refine st_new rfl (.tmp 16) (.tmp 76) rfl LF LFL.out (by rfl) _ _ (by rfl) (by rfl) ?_); rw [← HX.out, ← Hw14.out]))
      refine (((Error_nil 0 true (by decide) w14).mono fun r w' h => (⟨h.1, by rw [← h.2]; exact Below.refl _ _⟩ : r = .returned (.bool true) ∧ Below w14.heap.size w14 w'))).mono ?_
      rintro e w15 ⟨rfl, hb15⟩
      have B15 := Lib.hid (show Below w.heap.size w w15 from Below.trans B14.out (Below.mono hb15 (Below.size B14.out)))
      have GH_15 := Lib.hid ((Below.block hb15 H LH_14.out).trans GH_14.out)
      have LH_15 := Lib.hid (Nat.lt_of_lt_of_le LH_14.out (Below.size hb15))
      have GV_15 := Lib.hid ((Below.block hb15 V LV_14.out).trans GV_14.out)
      have LV_15 := Lib.hid (Nat.lt_of_lt_of_le LV_14.out (Below.size hb15))
      have GU_15 := Lib.hid ((Below.block hb15 U LU_14.out).trans GU_14.out)
      have LU_15 := Lib.hid (Nat.lt_of_lt_of_le LU_14.out (Below.size hb15))
      have GY_15 := Lib.hid ((Below.block hb15 Y LY_14.out).trans GY_14.out)
      have LY_15 := Lib.hid (Nat.lt_of_lt_of_le LY_14.out (Below.size hb15))
      have GX_15 := Lib.hid ((Below.block hb15 X LX_14.out).trans GX_14.out)
      have LX_15 := Lib.hid (Nat.lt_of_lt_of_le LX_14.out (Below.size hb15))
      clear hb15
      go_wp2_with fail
      have NC : ∀ w', InB w15.heap.size w15 w' → Calls Tryd.prog 31 #[.agg (dV LF), .agg (dV Z)] w' fun e w'' => e = .returned (.agg (dV N)) ∧ InB w15.heap.size w15 w'' :=
        fun w' h => InB.call h (Nat.le_refl _) (NOD w' (RO.out.at_ (Below.trans B15.out (Below.mono h (Below.size B15.out)))))
      have MC : ∀ w', InB w15.heap.size w15 w' → Calls Tryd.prog 26 #[.agg (dV LF), .agg (dV Z)] w' fun e w'' => e = .returned (.agg (dV N)) ∧ InB w15.heap.size w15 w'' :=
        fun w' h => InB.call h (Nat.le_refl _) (MNO w')
      have HNC := Lib.hid NC
      have HMC := Lib.hid MC
      have hex := inB_ex w15.heap.size w15
      have RX := Lib.hid (range_of_row GX_15.out)
      have RY := Lib.hid (range_of_row GY_15.out)
      have RV := Lib.hid (range_of_row GV_15.out)
      have lX := LX_15.out
      have lY := LY_15.out
      have lV := LV_15.out
      clear NC MC
      refine wp_region_inB w15.heap.size (by kernel_rfl) (by kernel_rfl) ?_
      go_big_quiet_step ((intro _; rfl))
      go_big_quiet_step ((intro _; rfl))
      refine quiet_dig rfl (.tmp 16) rfl X 0 (by rfl) LF LFL.out (fun w' hw' => hw'.range lX RX.out) ?_
      simp only [Act.put, List.setIfInBounds_toArray, List.set_cons_zero, List.set_cons_succ]
      refine quiet_dig rfl (.tmp 15) rfl Y 0 (by rfl) LF LFL.out (fun w' hw' => hw'.range lY RY.out) ?_
      simp only [Act.put, List.setIfInBounds_toArray, List.set_cons_zero, List.set_cons_succ]
      refine quiet_dig_eq rfl (.tmp 83) (.tmp 84) _ rfl LF LF (by rfl) (by rfl) LFL.out LFL.out ?_
      rw [ERL.out]
      simp only [Act.put, List.setIfInBounds_toArray, List.set_cons_zero, List.set_cons_succ]
      go_big_quiet_step ((intro _; rfl))
      go_big_quiet_step ((intro _; rfl))
      refine quiet_dig rfl (.tmp 16) rfl X 0 (by rfl) LF LFL.out (fun w' hw' => hw'.range lX RX.out) ?_
      simp only [Act.put, List.setIfInBounds_toArray, List.set_cons_zero, List.set_cons_succ]
      refine quiet_dig rfl (.tmp 8) rfl V 0 (by rfl) Z ZL.out (fun w' hw' => hw'.range lV RV.out) ?_
      simp only [Act.put, List.setIfInBounds_toArray, List.set_cons_zero, List.set_cons_succ]
      go_big_quiet_step ((intro hw'; exact HNC.out _ hw'))
      refine quiet_dig rfl (.tmp 15) rfl Y 0 (by rfl) LF LFL.out (fun w' hw' => hw'.range lY RY.out) ?_
      simp only [Act.put, List.setIfInBounds_toArray, List.set_cons_zero, List.set_cons_succ]
      refine quiet_dig rfl (.tmp 8) rfl V 0 (by rfl) Z ZL.out (fun w' hw' => hw'.range lV RV.out) ?_
      simp only [Act.put, List.setIfInBounds_toArray, List.set_cons_zero, List.set_cons_succ]
      go_big_quiet_step ((intro hw'; exact HMC.out _ hw'))
      refine quiet_dig_eq rfl (.tmp 90) (.tmp 93) _ rfl N N (by rfl) (by rfl) NL.out NL.out ?_
      rw [ERN.out]
      simp only [Act.put, List.setIfInBounds_toArray, List.set_cons_zero, List.set_cons_succ]
      go_big_quiet_step ((intro _; rfl))
      go_big_quiet_step ((intro _; rfl))
      refine wpQuiet_nil ?_
      intro wZ hwZ
      have BZ := Lib.hid (Below.trans B15.out (Below.mono hwZ (Below.size B15.out)))
      clear hwZ HNC HMC
      go_wp2_with fail
      go_ret
      exact ⟨rfl, BZ.out⟩
    · have TLB := Leaf_bad x2.key hke x2.val
      rw [← HZ.out] at TLB
      have KB := decide_eq_false hke
      clear hke
      obtain ⟨N, hN⟩ : ∃ N, N = nodeD Z Z := ⟨_, rfl⟩
      have NL := Lib.hid (show N.length = 32 by rw [hN]; exact nodeD_length _ _)
      have NOD := Node_calls Z Z ZL.out ZL.out
      have MNO := RMapNode_calls Z Z ZL.out ZL.out
      rw [← hN] at NOD MNO
      have ERL := Lib.hid (show (Z == Z) = true by simp)
      have ERN := Lib.hid (show (N == N) = true by simp)
      clear hN
      go_enter Tryd.func9, Tryd.ntmps9
      go_upto_region 1 with fail
      rw [← HH.out, ← HW0.out]
      go_wp2_with fail
      refine (MF w0 (r0.out.below B0.out)).mono ?_
      rintro e w1 ⟨rfl, hb1⟩
      have B1 := Lib.hid (show Below w.heap.size w w1 from Below.trans B0.out (Below.mono hb1 (Below.size B0.out)))
      have GH_1 := Lib.hid ((Below.block hb1 H LH_0.out).trans GH_0.out)
      have LH_1 := Lib.hid (Nat.lt_of_lt_of_le LH_0.out (Below.size hb1))
      clear hb1
      obtain ⟨V, hV⟩ : ∃ z, z = w1.heap.size := ⟨_, rfl⟩
      obtain ⟨w2, hw2⟩ : ∃ z, z = w1.alloc (.cells (dV Z) 23) := ⟨_, rfl⟩
      have st2 : Below w1.heap.size w1 w2 := by rw [hw2]; exact (Below.refl _ _).alloc (Nat.le_refl _) _
      have B2 := Lib.hid (show Below w.heap.size w w2 from Below.trans B1.out (Below.mono st2 (Below.size B1.out)))
      have GH_2 := Lib.hid ((Below.block st2 H LH_1.out).trans GH_1.out)
      have LH_2 := Lib.hid (Nat.lt_of_lt_of_le LH_1.out (Below.size st2))
      have GV_2 := Lib.hid (show w2.heap[V]? = some (.cells (dV Z) 23 (0, 0)) by rw [hw2, hV]; exact heap_alloc_new _ _)
      have LV_2 := Lib.hid (lt_of_heap GV_2.out)
      have HV := Lib.hid hV
      have Hw2 := Lib.hid hw2
      clear hV hw2 st2
      go_wp2_with fail
      rw [ZT.out, ← HV.out, ← Hw2.out]
      refine (TRB w2 (r0.out.below B2.out)).mono ?_
      rintro e w3 ⟨rfl, hb3⟩
      have B3 := Lib.hid (show Below w.heap.size w w3 from Below.trans B2.out (Below.mono hb3 (Below.size B2.out)))
      have GH_3 := Lib.hid ((Below.block hb3 H LH_2.out).trans GH_2.out)
      have LH_3 := Lib.hid (Nat.lt_of_lt_of_le LH_2.out (Below.size hb3))
      have GV_3 := Lib.hid ((Below.block hb3 V LV_2.out).trans GV_2.out)
      have LV_3 := Lib.hid (Nat.lt_of_lt_of_le LV_2.out (Below.size hb3))
      clear hb3
      obtain ⟨U, hU⟩ : ∃ z, z = w3.heap.size := ⟨_, rfl⟩
      obtain ⟨w4, hw4⟩ : ∃ z, z = w3.alloc (.cells (dV Z) 23) := ⟨_, rfl⟩
      have st4 : Below w3.heap.size w3 w4 := by rw [hw4]; exact (Below.refl _ _).alloc (Nat.le_refl _) _
      have B4 := Lib.hid (show Below w.heap.size w w4 from Below.trans B3.out (Below.mono st4 (Below.size B3.out)))
      have GH_4 := Lib.hid ((Below.block st4 H LH_3.out).trans GH_3.out)
      have LH_4 := Lib.hid (Nat.lt_of_lt_of_le LH_3.out (Below.size st4))
      have GV_4 := Lib.hid ((Below.block st4 V LV_3.out).trans GV_3.out)
      have LV_4 := Lib.hid (Nat.lt_of_lt_of_le LV_3.out (Below.size st4))
      have GU_4 := Lib.hid (show w4.heap[U]? = some (.cells (dV Z) 23 (0, 0)) by rw [hw4, hU]; exact heap_alloc_new _ _)
      have LU_4 := Lib.hid (lt_of_heap GU_4.out)
      have HU := Lib.hid hU
      have Hw4 := Lib.hid hw4
      clear hU hw4 st4
      go_wp2_with (first
        | ((refine st_new rfl (.tmp 9) (.tmp 26) rfl Z ZL.out (by rfl) _ _ (by rfl) (by rfl) ?_); rw [← HU.out, ← Hw4.out]))
      refine (Error_err F F true (by simp) w4 (HG.out.at_ B4.out)).mono ?_
      rintro e w5 ⟨rfl, hb5⟩
      have B5 := Lib.hid (show Below w.heap.size w w5 from Below.trans B4.out (Below.mono hb5 (Below.size B4.out)))
      have GH_5 := Lib.hid ((Below.block hb5 H LH_4.out).trans GH_4.out)
      have LH_5 := Lib.hid (Nat.lt_of_lt_of_le LH_4.out (Below.size hb5))
      have GV_5 := Lib.hid ((Below.block hb5 V LV_4.out).trans GV_4.out)
      have LV_5 := Lib.hid (Nat.lt_of_lt_of_le LV_4.out (Below.size hb5))
      have GU_5 := Lib.hid ((Below.block hb5 U LU_4.out).trans GU_4.out)
      have LU_5 := Lib.hid (Nat.lt_of_lt_of_le LU_4.out (Below.size hb5))
      clear hb5
      go_wp2_with (first
        | ((refine ld_digG rfl (.tmp 9) rfl (U) 0 (by rfl) Z ZL.out (range_of_row GU_5.out) ?_); simp only [Act.put, List.setIfInBounds_toArray, List.set_cons_zero, List.set_cons_succ])
        | ((refine ld_digG rfl (.tmp 8) rfl (V) 0 (by rfl) Z ZL.out (range_of_row GV_5.out) ?_); simp only [Act.put, List.setIfInBounds_toArray, List.set_cons_zero, List.set_cons_succ])
        | ((refine neq_digG rfl (.tmp 34) (.tmp 35) _ rfl Z Z (by rfl) (by rfl) ZL.out ZL.out ?_); rw [ERR.out]; simp only [Act.put, List.setIfInBounds_toArray, List.set_cons_zero, List.set_cons_succ]))
      refine (PB w5 (r0.out.below B5.out)).mono ?_
      rintro e w6 ⟨rfl, hb6⟩
      have B6 := Lib.hid (show Below w.heap.size w w6 from Below.trans B5.out (Below.mono hb6 (Below.size B5.out)))
      have GH_6 := Lib.hid ((Below.block hb6 H LH_5.out).trans GH_5.out)
      have LH_6 := Lib.hid (Nat.lt_of_lt_of_le LH_5.out (Below.size hb6))
      have GV_6 := Lib.hid ((Below.block hb6 V LV_5.out).trans GV_5.out)
      have LV_6 := Lib.hid (Nat.lt_of_lt_of_le LV_5.out (Below.size hb6))
      have GU_6 := Lib.hid ((Below.block hb6 U LU_5.out).trans GU_5.out)
      have LU_6 := Lib.hid (Nat.lt_of_lt_of_le LU_5.out (Below.size hb6))
      clear hb6
      go_wp2_with fail
      refine (Error_err F F true (by simp) w6 (HG.out.at_ B6.out)).mono ?_
      rintro e w7 ⟨rfl, hb7⟩
      have B7 := Lib.hid (show Below w.heap.size w w7 from Below.trans B6.out (Below.mono hb7 (Below.size B6.out)))
      have GH_7 := Lib.hid ((Below.block hb7 H LH_6.out).trans GH_6.out)
      have LH_7 := Lib.hid (Nat.lt_of_lt_of_le LH_6.out (Below.size hb7))
      have GV_7 := Lib.hid ((Below.block hb7 V LV_6.out).trans GV_6.out)
      have LV_7 := Lib.hid (Nat.lt_of_lt_of_le LV_6.out (Below.size hb7))
      have GU_7 := Lib.hid ((Below.block hb7 U LU_6.out).trans GU_6.out)
      have LU_7 := Lib.hid (Nat.lt_of_lt_of_le LU_6.out (Below.size hb7))
      clear hb7
      go_wp2_with fail
      refine (SameN w7).mono ?_
      rintro e w8 ⟨rfl, hb8⟩
      have B8 := Lib.hid (show Below w.heap.size w w8 from Below.trans B7.out (Below.mono hb8 (Below.size B7.out)))
      have GH_8 := Lib.hid ((Below.block hb8 H LH_7.out).trans GH_7.out)
      have LH_8 := Lib.hid (Nat.lt_of_lt_of_le LH_7.out (Below.size hb8))
      have GV_8 := Lib.hid ((Below.block hb8 V LV_7.out).trans GV_7.out)
      have LV_8 := Lib.hid (Nat.lt_of_lt_of_le LV_7.out (Below.size hb8))
      have GU_8 := Lib.hid ((Below.block hb8 U LU_7.out).trans GU_7.out)
      have LU_8 := Lib.hid (Nat.lt_of_lt_of_le LU_7.out (Below.size hb8))
      clear hb8
      obtain ⟨Y, hY⟩ : ∃ z, z = w8.heap.size := ⟨_, rfl⟩
      obtain ⟨w9, hw9⟩ : ∃ z, z = w8.alloc (.cells (dV Z) 23) := ⟨_, rfl⟩
      have st9 : Below w8.heap.size w8 w9 := by rw [hw9]; exact (Below.refl _ _).alloc (Nat.le_refl _) _
      have B9 := Lib.hid (show Below w.heap.size w w9 from Below.trans B8.out (Below.mono st9 (Below.size B8.out)))
      have GH_9 := Lib.hid ((Below.block st9 H LH_8.out).trans GH_8.out)
      have LH_9 := Lib.hid (Nat.lt_of_lt_of_le LH_8.out (Below.size st9))
      have GV_9 := Lib.hid ((Below.block st9 V LV_8.out).trans GV_8.out)
      have LV_9 := Lib.hid (Nat.lt_of_lt_of_le LV_8.out (Below.size st9))
      have GU_9 := Lib.hid ((Below.block st9 U LU_8.out).trans GU_8.out)
      have LU_9 := Lib.hid (Nat.lt_of_lt_of_le LU_8.out (Below.size st9))
      have GY_9 := Lib.hid (show w9.heap[Y]? = some (.cells (dV Z) 23 (0, 0)) by rw [hw9, hY]; exact heap_alloc_new _ _)
      have LY_9 := Lib.hid (lt_of_heap GY_9.out)
      have HY := Lib.hid hY
      have Hw9 := Lib.hid hw9
      clear hY hw9 st9
      go_upto_region 21 with fail
      rw [ZT.out, ← HY.out, ← Hw9.out]
      have ck := eV_key GH_9.out
      go_wp2_with fail
      refine (((IsKey_calls x2.key w9).mono fun r w' h => (⟨by rw [h.1, KB], by rw [← h.2]; exact Below.refl _ _⟩ : r = .returned (.bool false) ∧ Below w9.heap.size w9 w'))).mono ?_
      rintro e w10 ⟨rfl, hb10⟩
      have B10 := Lib.hid (show Below w.heap.size w w10 from Below.trans B9.out (Below.mono hb10 (Below.size B9.out)))
      have GH_10 := Lib.hid ((Below.block hb10 H LH_9.out).trans GH_9.out)
      have LH_10 := Lib.hid (Nat.lt_of_lt_of_le LH_9.out (Below.size hb10))
      have GV_10 := Lib.hid ((Below.block hb10 V LV_9.out).trans GV_9.out)
      have LV_10 := Lib.hid (Nat.lt_of_lt_of_le LV_9.out (Below.size hb10))
      have GU_10 := Lib.hid ((Below.block hb10 U LU_9.out).trans GU_9.out)
      have LU_10 := Lib.hid (Nat.lt_of_lt_of_le LU_9.out (Below.size hb10))
      have GY_10 := Lib.hid ((Below.block hb10 Y LY_9.out).trans GY_9.out)
      have LY_10 := Lib.hid (Nat.lt_of_lt_of_le LY_9.out (Below.size hb10))
      clear hb10
      go_wp2_with (first
        | ((refine ld_entG rfl (.tmp 5) rfl H 0 (by rfl) x2 E32.out (range_ent GH_10.out) ?_); simp only [Act.put, List.setIfInBounds_toArray, List.set_cons_zero, List.set_cons_succ]))
      refine (TLB w10).mono ?_
      rintro e w11 ⟨rfl, hb11⟩
      have B11 := Lib.hid (show Below w.heap.size w w11 from Below.trans B10.out (Below.mono hb11 (Below.size B10.out)))
      have GH_11 := Lib.hid ((Below.block hb11 H LH_10.out).trans GH_10.out)
      have LH_11 := Lib.hid (Nat.lt_of_lt_of_le LH_10.out (Below.size hb11))
      have GV_11 := Lib.hid ((Below.block hb11 V LV_10.out).trans GV_10.out)
      have LV_11 := Lib.hid (Nat.lt_of_lt_of_le LV_10.out (Below.size hb11))
      have GU_11 := Lib.hid ((Below.block hb11 U LU_10.out).trans GU_10.out)
      have LU_11 := Lib.hid (Nat.lt_of_lt_of_le LU_10.out (Below.size hb11))
      have GY_11 := Lib.hid ((Below.block hb11 Y LY_10.out).trans GY_10.out)
      have LY_11 := Lib.hid (Nat.lt_of_lt_of_le LY_10.out (Below.size hb11))
      clear hb11
      obtain ⟨X, hX⟩ : ∃ z, z = w11.heap.size := ⟨_, rfl⟩
      obtain ⟨w12, hw12⟩ : ∃ z, z = w11.alloc (.cells (dV Z) 23) := ⟨_, rfl⟩
      have st12 : Below w11.heap.size w11 w12 := by rw [hw12]; exact (Below.refl _ _).alloc (Nat.le_refl _) _
      have B12 := Lib.hid (show Below w.heap.size w w12 from Below.trans B11.out (Below.mono st12 (Below.size B11.out)))
      have GH_12 := Lib.hid ((Below.block st12 H LH_11.out).trans GH_11.out)
      have LH_12 := Lib.hid (Nat.lt_of_lt_of_le LH_11.out (Below.size st12))
      have GV_12 := Lib.hid ((Below.block st12 V LV_11.out).trans GV_11.out)
      have LV_12 := Lib.hid (Nat.lt_of_lt_of_le LV_11.out (Below.size st12))
      have GU_12 := Lib.hid ((Below.block st12 U LU_11.out).trans GU_11.out)
      have LU_12 := Lib.hid (Nat.lt_of_lt_of_le LU_11.out (Below.size st12))
      have GY_12 := Lib.hid ((Below.block st12 Y LY_11.out).trans GY_11.out)
      have LY_12 := Lib.hid (Nat.lt_of_lt_of_le LY_11.out (Below.size st12))
      have GX_12 := Lib.hid (show w12.heap[X]? = some (.cells (dV Z) 23 (0, 0)) by rw [hw12, hX]; exact heap_alloc_new _ _)
      have LX_12 := Lib.hid (lt_of_heap GX_12.out)
      have HX := Lib.hid hX
      have Hw12 := Lib.hid hw12
      clear hX hw12 st12
      go_wp2_with (first
        | ((refine st_new rfl (.tmp 16) (.tmp 76) rfl Z ZL.out (by rfl) _ _ (by rfl) (by rfl) ?_); rw [← HX.out, ← Hw12.out]))
      refine (Error_err 2 2 true (by simp) w12 (HG.out.at_ B12.out)).mono ?_
      rintro e w13 ⟨rfl, hb13⟩
      have B13 := Lib.hid (show Below w.heap.size w w13 from Below.trans B12.out (Below.mono hb13 (Below.size B12.out)))
      have GH_13 := Lib.hid ((Below.block hb13 H LH_12.out).trans GH_12.out)
      have LH_13 := Lib.hid (Nat.lt_of_lt_of_le LH_12.out (Below.size hb13))
      have GV_13 := Lib.hid ((Below.block hb13 V LV_12.out).trans GV_12.out)
      have LV_13 := Lib.hid (Nat.lt_of_lt_of_le LV_12.out (Below.size hb13))
      have GU_13 := Lib.hid ((Below.block hb13 U LU_12.out).trans GU_12.out)
      have LU_13 := Lib.hid (Nat.lt_of_lt_of_le LU_12.out (Below.size hb13))
      have GY_13 := Lib.hid ((Below.block hb13 Y LY_12.out).trans GY_12.out)
      have LY_13 := Lib.hid (Nat.lt_of_lt_of_le LY_12.out (Below.size hb13))
      have GX_13 := Lib.hid ((Below.block hb13 X LX_12.out).trans GX_12.out)
      have LX_13 := Lib.hid (Nat.lt_of_lt_of_le LX_12.out (Below.size hb13))
      clear hb13
      go_wp2_with fail
      have NC : ∀ w', InB w13.heap.size w13 w' → Calls Tryd.prog 31 #[.agg (dV Z), .agg (dV Z)] w' fun e w'' => e = .returned (.agg (dV N)) ∧ InB w13.heap.size w13 w'' :=
        fun w' h => InB.call h (Nat.le_refl _) (NOD w' (RO.out.at_ (Below.trans B13.out (Below.mono h (Below.size B13.out)))))
      have MC : ∀ w', InB w13.heap.size w13 w' → Calls Tryd.prog 26 #[.agg (dV Z), .agg (dV Z)] w' fun e w'' => e = .returned (.agg (dV N)) ∧ InB w13.heap.size w13 w'' :=
        fun w' h => InB.call h (Nat.le_refl _) (MNO w')
      have HNC := Lib.hid NC
      have HMC := Lib.hid MC
      have hex := inB_ex w13.heap.size w13
      have RX := Lib.hid (range_of_row GX_13.out)
      have RY := Lib.hid (range_of_row GY_13.out)
      have RV := Lib.hid (range_of_row GV_13.out)
      have lX := LX_13.out
      have lY := LY_13.out
      have lV := LV_13.out
      clear NC MC
      refine wp_region_inB w13.heap.size (by kernel_rfl) (by kernel_rfl) ?_
      go_big_quiet_step ((intro _; rfl))
      go_big_quiet_step ((intro _; rfl))
      refine quiet_dig rfl (.tmp 16) rfl X 0 (by rfl) Z ZL.out (fun w' hw' => hw'.range lX RX.out) ?_
      simp only [Act.put, List.setIfInBounds_toArray, List.set_cons_zero, List.set_cons_succ]
      refine quiet_dig rfl (.tmp 15) rfl Y 0 (by rfl) Z ZL.out (fun w' hw' => hw'.range lY RY.out) ?_
      simp only [Act.put, List.setIfInBounds_toArray, List.set_cons_zero, List.set_cons_succ]
      refine quiet_dig_eq rfl (.tmp 83) (.tmp 84) _ rfl Z Z (by rfl) (by rfl) ZL.out ZL.out ?_
      rw [ERL.out]
      simp only [Act.put, List.setIfInBounds_toArray, List.set_cons_zero, List.set_cons_succ]
      go_big_quiet_step ((intro _; rfl))
      go_big_quiet_step ((intro _; rfl))
      refine quiet_dig rfl (.tmp 16) rfl X 0 (by rfl) Z ZL.out (fun w' hw' => hw'.range lX RX.out) ?_
      simp only [Act.put, List.setIfInBounds_toArray, List.set_cons_zero, List.set_cons_succ]
      refine quiet_dig rfl (.tmp 8) rfl V 0 (by rfl) Z ZL.out (fun w' hw' => hw'.range lV RV.out) ?_
      simp only [Act.put, List.setIfInBounds_toArray, List.set_cons_zero, List.set_cons_succ]
      go_big_quiet_step ((intro hw'; exact HNC.out _ hw'))
      refine quiet_dig rfl (.tmp 15) rfl Y 0 (by rfl) Z ZL.out (fun w' hw' => hw'.range lY RY.out) ?_
      simp only [Act.put, List.setIfInBounds_toArray, List.set_cons_zero, List.set_cons_succ]
      refine quiet_dig rfl (.tmp 8) rfl V 0 (by rfl) Z ZL.out (fun w' hw' => hw'.range lV RV.out) ?_
      simp only [Act.put, List.setIfInBounds_toArray, List.set_cons_zero, List.set_cons_succ]
      go_big_quiet_step ((intro hw'; exact HMC.out _ hw'))
      refine quiet_dig_eq rfl (.tmp 90) (.tmp 93) _ rfl N N (by rfl) (by rfl) NL.out NL.out ?_
      rw [ERN.out]
      simp only [Act.put, List.setIfInBounds_toArray, List.set_cons_zero, List.set_cons_succ]
      go_big_quiet_step ((intro _; rfl))
      go_big_quiet_step ((intro _; rfl))
      refine wpQuiet_nil ?_
      intro wZ hwZ
      have BZ := Lib.hid (Below.trans B13.out (Below.mono hwZ (Below.size B13.out)))
      clear hwZ HNC HMC
      go_wp2_with fail
      go_ret
      exact ⟨rfl, BZ.out⟩

set_option maxRecDepth 100000 in
theorem lifted (os : Os) (started : os.Started) (H : Type) (enc : TypeId × Value → H) :
    ReturnsInHanded {} Tryd.checked os 9 .any (fun w args => (Rows.trieRootsSpec.pre enc Tryd.prog Tryd.f9 Rows.trieRootsRow.domain false w args ∧ laidMetH Tryd.prog Laid.list w) ∧ sizedMet enc Tryd.prog Tryd.f9 (OpenSpec.ofChange Rows.trieRootsSpec) false w args) (Rows.trieRootsSpec.post enc Tryd.prog Tryd.f9 false true false false) := by
  refine returnsInHanded_of_change_and (C := Tryd.checked) (X := fun w _ => laidMetH Tryd.prog Laid.list w) (fun _ _ _ hh h => h.of_heap hh) Laid.own started (by kernel_rfl) Tryd.func9
    (ChangeSpec.witness_at (enc := enc) (C := Tryd.checked) (os := os) (X := fun w _ => laidMetH Tryd.prog Laid.list w) false (laidWorld os) #[.slice none 0 0, .int .i64 0, .agg #[.int .i64 0, .int .u8 0, .int .u8 0, .int .u8 0, .int .u8 0, .int .u8 0, .int .u8 0, .int .u8 0, .int .u8 0, .int .u8 0, .int .u8 0, .int .u8 0, .int .u8 0, .int .u8 0, .int .u8 0, .int .u8 0, .int .u8 0, .int .u8 0, .int .u8 0, .int .u8 0, .int .u8 0, .int .u8 0, .int .u8 0, .int .u8 0, .int .u8 0, .int .u8 0, .int .u8 0, .int .u8 0, .int .u8 0, .int .u8 0, .int .u8 0, .int .u8 0, .int .u8 0]] 8 rfl (by kernel_rfl) (by kernel_rfl) (by kernel_rfl) (by kernel_rfl) (by kernel_rfl) (laidWorld_met os _)) ?_
  intro W base args ds gs before hval0 hW _ hsz hL _
  have hro := rounds_of_laid hL
  have hg := handle_of_laid hL
  have hval : ∀ (j : Nat) t v, Tryd.f9.params[j]? = some t → args[j]? = some v → Value.okWide Tryd.prog W .any base t v := hval0
  have hW' := hW
  obtain ⟨p, q, hA0, hV, rfl, hfz, hnd⟩ := hW
  have hA : DataW.TrodAll enc Tryd.prog W 0 (fun _ => true) true Tryd.f9.params.toList args.toList ds p := hA0
  rw [Tryd.params9] at hA hval
  obtain ⟨v0, vs0, d0, ds0, p0, q0, hargs, rfl, rfl, h0, r0⟩ := trodAll_cons hA
  obtain ⟨v1, vs1, d1, ds1, p1, q1, rfl, rfl, rfl, h1, r1⟩ := trodAll_cons r0
  obtain ⟨v2, vs2, d2, ds2, p2, q2, rfl, rfl, rfl, h2, r2⟩ := trodAll_cons r1
  obtain ⟨rfl, rfl, rfl⟩ := trodAll_nil r2
  obtain rfl : args = #[v0, v1, v2] := by cases args; simp_all
  obtain ⟨rfl, rfl⟩ := trodVars_none hV
  have k0 := h0
  have lt0 : ∀ x ∈ p0, x.block < W.heap.size := by obtain ⟨m, hm⟩ := k0; exact DataW.trod_lt m _ _ _ hm
  obtain ⟨x0, a0, c0, e0, rfl, l0, m0, n0, r_0⟩ := open_ents Tryd.underlying40 Tryd.underlying35 Tryd.underlying3 Tryd.underlying23 Tryd.underlying5 (by kernel_rfl) (by kernel_rfl) (by kernel_rfl) (by kernel_rfl) rfl rfl (hval 0 40 v0 rfl rfl) h0
  have k1 := h1
  have lt1 : ∀ x ∈ p1, x.block < W.heap.size := by obtain ⟨m, hm⟩ := k1; exact DataW.trod_lt m _ _ _ hm
  obtain ⟨a1, rfl, _, _, w1⟩ := open_int Tryd.underlying3 (hval 1 3 v1 rfl rfl) h1
  have b1 := bounds_i64 w1
  have k2 := h2
  have lt2 : ∀ x ∈ p2, x.block < W.heap.size := by obtain ⟨m, hm⟩ := k2; exact DataW.trod_lt m _ _ _ hm
  obtain ⟨x2, n2, rfl⟩ := open_ent Tryd.underlying35 Tryd.underlying3 Tryd.underlying23 Tryd.underlying5 (by kernel_rfl) (by kernel_rfl) (by kernel_rfl) (by kernel_rfl) rfl rfl (hval 2 35 v2 rfl rfl) h2
  clear hA0 hval0
  refine (walk x0 a0 c0 e0 a1 x2 W l0 m0 n0 r_0 b1 n2 hro hg).mono fun e W' ⟨he, bel⟩ => ?_
  subst he
  exact ⟨_, rfl, _, _, _, [], _, [], hW', trodAll_mk1 (shut_bool Tryd.underlying4 _), (trodAll_cons_mk (Below.trod Laid.laidOut (by kernel_rfl) (of_decide_eq_true (by kernel_rfl)) k0 bel lt0) (trodAll_cons_mk (Below.trod Laid.laidOut (by kernel_rfl) (of_decide_eq_true (by kernel_rfl)) k1 bel lt1) (trodAll_cons_mk (Below.trod Laid.laidOut (by kernel_rfl) (of_decide_eq_true (by kernel_rfl)) k2 bel lt2) trodAll_mk0))), rfl, bel.frame _, fun h => by cases h⟩

theorem over : Rows.trieRootsRow.holds Tryd.pinned (OpenSpec.ofChange Rows.trieRootsSpec) :=
  OpenClaim.holds_of_wide 9 Tryd.f9 rfl rfl rfl rfl rfl rfl rfl ⟨rfl, rfl, rfl, rfl, rfl⟩ rfl rfl rfl rfl rfl (by kernel_rfl) Tryd.func9 (by kernel_rfl)
    (of_decide_eq_true (by kernel_rfl)) (by unfold Func.isWrapper; first | (rw [if_pos (by decide +kernel)]; kernel_rfl) | (rw [if_neg (by decide +kernel)]; exact ⟨rfl, rfl⟩))
    (fun os started H enc _ => lifted os started H enc)

theorem proved : Rows.TrieRootsCardSaid :=
  Claim7.holds_tied_plain_at .later [] [.data, .handle] true (true, "dc8737acee50ade5d9e6156f300c62d149993f3a6545deb441f0e2b50ff31829") true
    over (fun _ h => by cases h) (by kernel_rfl) (fun _ h => by cases h) trieRoots_row_tie rfl ⟨rfl, rfl⟩ (by kernel_rfl) rfl
    (fun f fn hf hfn => by
      obtain rfl : f = 9 := Option.some.inj ((show Tryd.prog.funcNamed "oathbook/oathbooklaw2.TrieRoots" = some 9 by kernel_rfl).symm.trans hf) |>.symm
      obtain rfl : fn = Tryd.f9 := (Option.some.inj (Tryd.func9.symm.trans hfn)).symm
      exact ⟨by kernel_rfl, stand_of_all (by kernel_rfl)⟩)
    (by kernel_rfl)
#print axioms proved
end trieRoots
end Go.Proofs.YtpeomfehdccmmaaDoor
