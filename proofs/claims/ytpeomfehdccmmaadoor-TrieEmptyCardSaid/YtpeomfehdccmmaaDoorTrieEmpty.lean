/- NOTHING IS NOTHING: oathbooklaw2.TrieEmpty answers true at every input. -/
import Derived.Test.YtpeomfehdccmmaaDoorRows
import Derived.Test.YtpeomfehdccmmaaDoorTrieRefs
import Derived.Test.YtpeomfehdccmmaaDoorTrieEnt2
import Derived.Test.YtpeomfehdccmmaaDoorLaidR
import Derived.WalkKit
import Derived.ProofKit
import Derived.OpenShut
import Derived.ShutString
import Derived.ChangeOld
import Derived.Below
namespace Go.Proofs.YtpeomfehdccmmaaDoor
open Go.ChangeShapes Go.WideShapes Go.ChangeAt Go.RowKit
open Go.ChangeMaps (open_string shut_string)
set_option linter.unusedVariables false
namespace trieEmpty

theorem Nothing_z {Z : List UInt8} (hZ : Z = nz) (w : World) : Calls Tryd.prog 19 #[] w fun e w' => e = .returned (.agg (dV Z)) ∧ Below w.heap.size w w' := by
  rw [hZ]; exact Nothing_calls w
theorem region_join {P : Program} {id : Nat} {ops : Array Oper} {b : Bool} {a : Act} {w : World} {Q : Exit → Act → World → Prop} {S : World → Prop} {A : Act} (h : (Code.region id ops b).wp P (fun e a' w' => e = .normal ∧ a' = A ∧ S w') a w) (hQ : ∀ w', S w' → Q .normal A w') : (Code.region id ops b).wp P Q a w :=
  Code.wp_mono (fun e a' w' ⟨h1, h2, h3⟩ => by rw [h1, h2]; exact hQ w' h3) h
theorem key_one (k : Nat) (v : List UInt8) (hk : k < 4294967296) : mapF [⟨(k : Int), v⟩] = 0 := by
  unfold mapF
  rw [if_neg (by simp), scanG_cons, if_pos (show KeyOk (k : Int) from ⟨by omega, by omega⟩), if_neg (by simp)]
  rfl
theorem pathD_nz (f : Nat → List UInt8) (k : Nat) (h : ∀ q, q ≠ k → f q = nz) : pathD f k = List.replicate 32 nz := by
  rw [pathD_congr f (fun _ => nz) k h]
  unfold pathD
  have : ∀ b ∈ List.range 32, sib (fun _ => nz) k b = nz := fun b _ => treeD_nz _ _
  rw [List.map_congr_left this, List.map_const', List.length_range]
theorem one_leaf (k : Nat) (v : List UInt8) (q : Nat) : leafF [⟨(k : Int), v⟩] q = if q = k then leafD k v else nz := by
  by_cases h : q = k
  · subst h; rw [if_pos rfl]; unfold leafF; simp
  · rw [if_neg h]; exact leafF_none _ _ (fun e he => by rw [List.mem_singleton.1 he]; intro h2; exact h (by have : (k : Int) = (q : Int) := h2; omega))
theorem root_of_one (k : Nat) (v : List UInt8) (hk : k < 2 ^ 32) : foldD k (leafD k v) (List.replicate 32 nz) = rootD [⟨(k : Int), v⟩] := by
  have h1 := foldD_path (leafF [⟨(k : Int), v⟩]) k hk
  rw [pathD_nz _ k (fun q hq => by rw [one_leaf, if_neg hq]), one_leaf, if_pos rfl] at h1
  exact h1
/-- so far up, beside nothing -/
def upD (k : Nat) (l : List UInt8) (j : Nat) : List UInt8 := foldD k l (List.replicate j nz)
theorem upD_succ (k : Nat) (l : List UInt8) (j : Nat) : upD k l (j + 1) = if k / 2 ^ j % 2 = 1 then nodeD nz (upD k l j) else nodeD (upD k l j) nz := by
  unfold upD
  rw [List.replicate_succ', foldD_snoc, List.length_replicate]
-- HOLE: the walk
set_option linter.unusedSimpArgs false in
set_option maxRecDepth 20000 in
set_option maxHeartbeats 16000000 in
theorem walk (a0 : Int) (x1 : List UInt8) (w : World) (h0 : -9223372036854775808 ≤ a0 ∧ a0 ≤ 9223372036854775807) (n1 : x1.length = 32) (hro : RoundsAt w) :
    Calls Tryd.prog 6 #[.int .i64 a0, .agg (dV x1)] w fun e w' => e = .returned (.bool true) ∧ Below w.heap.size w w' := by
  obtain ⟨Z, hZ⟩ : ∃ Z, Z = nz := ⟨_, rfl⟩
  have zl : Z.length = 32 := by rw [hZ]; rfl
  have zlit : (#[.int .u8 0, .int .u8 0, .int .u8 0, .int .u8 0, .int .u8 0, .int .u8 0, .int .u8 0, .int .u8 0, .int .u8 0, .int .u8 0, .int .u8 0, .int .u8 0, .int .u8 0, .int .u8 0, .int .u8 0, .int .u8 0, .int .u8 0, .int .u8 0, .int .u8 0, .int .u8 0, .int .u8 0, .int .u8 0, .int .u8 0, .int .u8 0, .int .u8 0, .int .u8 0, .int .u8 0, .int .u8 0, .int .u8 0, .int .u8 0, .int .u8 0, .int .u8 0] : Array Value) = dV Z := by rw [hZ]; exact zdig
  have ZL := Lib.hid zl
  have ZT := Lib.hid zlit
  have HZ := Lib.hid hZ
  clear zl zlit hZ
  obtain ⟨H, hH⟩ : ∃ H, H = w.heap.size := ⟨_, rfl⟩
  obtain ⟨w0, hw0⟩ : ∃ z, z = w.alloc (.cells (dV x1) 23) := ⟨_, rfl⟩
  have q0 : w0.heap.size = H + 1 := by rw [hw0, hH]; exact World.size_alloc _ _
  have s0 : Below (H) w w0 := by rw [hw0, hH]; exact (Below.refl _ _).alloc (Nat.le_refl _) _
  have t0 : Below (H + 1) w0 w0 := Below.refl _ _
  have bL : Below H w w0 := s0.trans (t0.mono (by omega))
  have g0 : w0.heap[H]? = some (.cells (dV x1) 23 (0, 0)) := by
    have g : w0.heap[H]? = some (.cells (dV x1) 23 (0, 0)) := by rw [hw0, hH]; exact heap_alloc_new _ _
    exact (t0.block _ (by omega)).trans g
  have bW : Below w.heap.size w w0 := by rw [← hH]; exact bL
  have hsz : H < w0.heap.size := by omega
  have HH := Lib.hid hH
  have HW0 := Lib.hid hw0
  have BL := Lib.hid bL
  have BW := Lib.hid bW
  have QL := Lib.hid q0
  have G0 := Lib.hid g0
  clear hH hw0 q0 s0 t0 g0 bL bW
  have B0 := BW
  have GH_0 := G0
  have LH_0 := Lib.hid hsz
  have RO := Lib.hid hro
  have N1 := Lib.hid n1
  have LE := Lib.hid (Leafed_calls w0 (hro.at_ BW.out))
  have ERZ := Lib.hid (show (Z == Z) = true by simp)
  have TR0 := fun w' ho => TRoot_ok [] (fun _ h => by cases h) none 0 0 (Nat.le_refl _) (by decide) w' (.inl rfl) rfl ho
  rw [rootD_nil, ← HZ.out] at TR0
  rw [show ([] : List En).length = 0 from rfl] at TR0
  clear hro n1 hsz
  by_cases hk : KeyOk a0
  · obtain ⟨k, rfl⟩ : ∃ k : Nat, a0 = (k : Int) := ⟨a0.toNat, by have := hk.1; omega⟩
    have hk2 : k < 4294967296 := by have := hk.2; omega
    have PO := fun w' ho => Path_ok [] (fun _ h => by cases h) none 0 0 (Nat.le_refl _) (by decide) k hk2 w' (.inl rfl) rfl ho
    rw [pathD_nz (leafF []) k (fun q _ => rfl)] at PO
    obtain ⟨P, hP⟩ : ∃ P, P = List.replicate 32 nz := ⟨_, rfl⟩
    rw [← hP, show ([] : List En).length = 0 from rfl] at PO
    have PN := Lib.hid (show P.length = 32 by rw [hP]; rfl)
    have PZ := Lib.hid (show ∀ p ∈ P, p = Z from fun p hp => by rw [hP] at hp; rw [List.eq_of_mem_replicate hp, HZ.out])
    have PD := Lib.hid (show ∀ p ∈ P, p.length = 32 from fun p hp => by rw [PZ.out p hp]; exact ZL.out)
    have TR1 := fun ad w' hr ho => TRoot_ok [⟨(k : Int), x1⟩] (enw _ _ N1.out (by omega)) (some ad) 1 35 (Nat.le_refl _) (by decide) w' hr (key_one k x1 hk2) ho
    have hrt := root_of_one k x1 (by omega)
    obtain ⟨R, hR⟩ : ∃ R, R = rootD [⟨(k : Int), x1⟩] := ⟨_, rfl⟩
    have RL := Lib.hid (show R.length = 32 by rw [hR]; exact rootD_length _)
    have EL := EntryLeaf_calls k hk2 x1 N1.out
    obtain ⟨LF, hLF⟩ : ∃ L, L = leafD k x1 := ⟨_, rfl⟩
    have LFL := Lib.hid (show LF.length = 32 by rw [hLF]; exact leafD_length _ _)
    rw [← hLF] at EL hrt
    rw [← hR] at hrt
    have HR := Lib.hid hR
    have HRT := Lib.hid (show upD k LF 32 = R from hrt)
    have ERR := Lib.hid (show (R == R) = true by simp)
    obtain ⟨b0, hb0⟩ : ∃ b, b = (LF == Z) := ⟨_, rfl⟩
    have HB0 := Lib.hid hb0.symm
    clear hP hrt hR hLF hb0 hk h0
    go_enter Tryd.func6, Tryd.ntmps6
    go_upto_region 1 with fail
    rw [← HH.out, ← HW0.out]
    go_wp2_with fail
    refine (LE.out).mono ?_
    rintro e w1 ⟨rfl, hb1⟩
    have B1 := Lib.hid (show Below w.heap.size w w1 from Below.trans B0.out (Below.mono hb1 (Below.size B0.out)))
    have GH_1 := Lib.hid ((Below.block hb1 H LH_0.out).trans GH_0.out)
    have LH_1 := Lib.hid (Nat.lt_of_lt_of_le LH_0.out (Below.size hb1))
    clear hb1
    go_wp2_with fail
    refine (TR0 w1 (RO.out.at_ B1.out)).mono ?_
    rintro e w2 ⟨rfl, hb2⟩
    have B2 := Lib.hid (show Below w.heap.size w w2 from Below.trans B1.out (Below.mono hb2 (Below.size B1.out)))
    have GH_2 := Lib.hid ((Below.block hb2 H LH_1.out).trans GH_1.out)
    have LH_2 := Lib.hid (Nat.lt_of_lt_of_le LH_1.out (Below.size hb2))
    clear hb2
    obtain ⟨U, hU⟩ : ∃ z, z = w2.heap.size := ⟨_, rfl⟩
    obtain ⟨w3, hw3⟩ : ∃ z, z = w2.alloc (.cells (dV Z) 23) := ⟨_, rfl⟩
    have st3 : Below w2.heap.size w2 w3 := by rw [hw3]; exact (Below.refl _ _).alloc (Nat.le_refl _) _
    have B3 := Lib.hid (show Below w.heap.size w w3 from Below.trans B2.out (Below.mono st3 (Below.size B2.out)))
    have GH_3 := Lib.hid ((Below.block st3 H LH_2.out).trans GH_2.out)
    have LH_3 := Lib.hid (Nat.lt_of_lt_of_le LH_2.out (Below.size st3))
    have GU_3 := Lib.hid (show w3.heap[U]? = some (.cells (dV Z) 23 (0, 0)) by rw [hw3, hU]; exact heap_alloc_new _ _)
    have LU_3 := Lib.hid (lt_of_heap GU_3.out)
    have HU := Lib.hid hU
    have Hw3 := Lib.hid hw3
    clear hU hw3 st3
    go_wp2_with (first
      | ((refine st_new rfl (.tmp 6) (.tmp 20) rfl Z ZL.out (by rfl) _ _ (by rfl) (by rfl) ?_); rw [← HU.out, ← Hw3.out]))
    refine (PO w3 (RO.out.at_ B3.out)).mono ?_
    rintro e w4 ⟨pa, pc, rfl, hown, hb4⟩
    have B4 := Lib.hid (show Below w.heap.size w w4 from Below.trans B3.out (Below.mono hb4 (Below.size B3.out)))
    have GH_4 := Lib.hid ((Below.block hb4 H LH_3.out).trans GH_3.out)
    have LH_4 := Lib.hid (Nat.lt_of_lt_of_le LH_3.out (Below.size hb4))
    have GU_4 := Lib.hid ((Below.block hb4 U LU_3.out).trans GU_3.out)
    have LU_4 := Lib.hid (Nat.lt_of_lt_of_le LU_3.out (Below.size hb4))
    have RP_4 := Lib.hid (Rd.of_own hown)
    clear hown
    clear hb4
    go_wp2_with fail
    have NC : ∀ w', InB w4.heap.size w4 w' → Calls Tryd.prog 19 #[] w' fun e w'' => e = .returned (.agg (dV Z)) ∧ InB w4.heap.size w4 w'' :=
      fun w' h => InB.call h (Nat.le_refl _) (Nothing_z HZ.out w')
    have HNC := Lib.hid NC
    have hex := inB_ex w4.heap.size w4
    have RU := Lib.hid (range_of_row GU_4.out)
    have lU := LU_4.out
    clear NC
    refine wp_region_inB w4.heap.size (by kernel_rfl) (by kernel_rfl) ?_
    go_big_quiet_step ((intro _; rfl))
    go_big_quiet_step ((intro _; rfl))
    go_big_quiet_step ((intro _; rfl))
    refine quiet_dig rfl (.tmp 6) rfl U 0 (by rfl) Z ZL.out (fun w' hw' => hw'.range lU RU.out) ?_
    simp only [Act.put, List.setIfInBounds_toArray, List.set_cons_zero, List.set_cons_succ]
    go_big_quiet_step ((intro hw'; exact HNC.out _ hw'))
    refine quiet_dig_neq rfl (.tmp 30) (.tmp 31) _ rfl Z Z (by rfl) (by rfl) ZL.out ZL.out ?_
    rw [ERZ.out]
    simp only [Act.put, List.setIfInBounds_toArray, List.set_cons_zero, List.set_cons_succ, Bool.not_true, Bool.not_false]
    go_big_quiet_step ((intro _; rfl))
    refine wpQuiet_nil ?_
    intro w5 hb5
    clear HNC hex RU lU
    have B5 := Lib.hid (show Below w.heap.size w w5 from Below.trans B4.out (Below.mono hb5 (Below.size B4.out)))
    have GH_5 := Lib.hid ((Below.block hb5 H LH_4.out).trans GH_4.out)
    have LH_5 := Lib.hid (Nat.lt_of_lt_of_le LH_4.out (Below.size hb5))
    have GU_5 := Lib.hid ((Below.block hb5 U LU_4.out).trans GU_4.out)
    have LU_5 := Lib.hid (Nat.lt_of_lt_of_le LU_4.out (Below.size hb5))
    have RP_5 := Lib.hid (RP_4.out.below hb5)
    clear hb5
    go_wp2_with fail
    go_loopw [10] (fun i wr => ∃ j : Nat, j ≤ 32 ∧ i = .int .i64 j ∧ Below w5.heap.size w5 wr) (fun i _ => 32 - (intOf i).toNat)
    case atStart => exact ⟨0, Nat.zero_le _, rfl, Below.refl _ _⟩
    case round =>
      obtain ⟨j, hj, rfl, hbl⟩ := hrel
      obtain ⟨wA, rfl⟩ : ∃ z, z = wr := ⟨_, rfl⟩
      by_cases hlt : j < 32
      · obtain ⟨b, o, hpb, hb, hrg⟩ := (RP_5.out.below hbl).range PD.out (k := j) (by rw [PN.out]; exact hlt)
        subst hpb
        have hpz : P[j]'(by rw [PN.out]; exact hlt) = Z := PZ.out _ (List.getElem_mem _)
        rw [hpz] at hrg
        have HRG := Lib.hid hrg
        have HBL := Lib.hid hbl
        have j0 : (0 : Int) ≤ (j : Int) := by omega
        have j1 : (j : Int) < 32 := by omega
        have e4 : IntKind.i64.wrap ((j : Int) + 1) = (j : Int) + 1 := IntWalk.i64_in _ (by omega)
        clear hrg hpz hbl
        go_wp2_with fail
        have NC : ∀ w', InB wA.heap.size wA w' → Calls Tryd.prog 19 #[] w' fun e w'' => e = .returned (.agg (dV Z)) ∧ InB wA.heap.size wA w'' :=
          fun w' h => InB.call h (Nat.le_refl _) (Nothing_z HZ.out w')
        have HNC := Lib.hid NC
        have hex := inB_ex wA.heap.size wA
        clear NC
        refine wp_region_inB wA.heap.size (by kernel_rfl) (by kernel_rfl) ?_
        go_big_quiet_step ((intro _; rfl))
        go_big_quiet_step ((intro _; rfl))
        go_big_quiet_step ((intro _; rfl))
        refine quiet_dig rfl (.tmp 50) rfl b (o + j * 32) (by rfl) Z ZL.out (fun w' hw' => hw'.range hb HRG.out) ?_
        simp only [Act.put, List.setIfInBounds_toArray, List.set_cons_zero, List.set_cons_succ]
        go_big_quiet_step ((intro hw'; exact HNC.out _ hw'))
        refine quiet_dig_neq rfl (.tmp 51) (.tmp 52) _ rfl Z Z (by rfl) (by rfl) ZL.out ZL.out ?_
        rw [ERZ.out]
        simp only [Act.put, List.setIfInBounds_toArray, List.set_cons_zero, List.set_cons_succ]
        refine wpQuiet_nil ?_
        intro wB hwB
        have HB2 := Lib.hid (HBL.out.trans (Below.mono hwB HBL.out.size))
        clear hwB HNC hex
        go_wp2_with fail
        go_roundw
        case rel => exact ⟨j + 1, by omega, by go_num, HB2.out⟩
        case measure => simp [intOf]; omega
      · obtain rfl : j = 32 := by omega
        have B20 := Lib.hid (B5.out.trans (hbl.mono B5.out.size))
        have GH_20 := Lib.hid ((hbl.block H LH_5.out).trans GH_5.out)
        have LH_20 := Lib.hid (Nat.lt_of_lt_of_le LH_5.out hbl.size)
        clear hbl hj
        obtain ⟨V, hV⟩ : ∃ z, z = wA.heap.size := ⟨_, rfl⟩
        obtain ⟨w21, hw21⟩ : ∃ z, z = wA.alloc (.cells (eV (k : Int) x1) 35) := ⟨_, rfl⟩
        have st21 : Below wA.heap.size wA w21 := by rw [hw21]; exact (Below.refl _ _).alloc (Nat.le_refl _) _
        have B21 := Lib.hid (show Below w.heap.size w w21 from Below.trans B20.out (Below.mono st21 (Below.size B20.out)))
        have GH_21 := Lib.hid ((Below.block st21 H LH_20.out).trans GH_20.out)
        have LH_21 := Lib.hid (Nat.lt_of_lt_of_le LH_20.out (Below.size st21))
        have GV_21 := Lib.hid (show w21.heap[V]? = some (.cells (eV (k : Int) x1) 35 (0, 0)) by rw [hw21, hV]; exact heap_alloc_new _ _)
        have LV_21 := Lib.hid (lt_of_heap GV_21.out)
        have HV := Lib.hid hV
        have Hw21 := Lib.hid hw21
        clear hV hw21 st21
        have ry := Rd.ent1 wA ⟨(k : Int), x1⟩
        have TRY := TR1 ⟨wA.heap.size, 0, none⟩ w21 (by rw [Hw21.out]; exact ry) (RO.out.at_ B21.out)
        rw [← HR.out] at TRY
        have HTRY := Lib.hid TRY
        clear TRY ry
        go_wp2_with (first
          | ((refine ld_digG rfl (.tmp 3) rfl (H) 0 (by rfl) x1 N1.out (range_of_row GH_20.out) ?_); simp only [Act.put, List.setIfInBounds_toArray, List.set_cons_zero, List.set_cons_succ])
          | ((refine wpl_entKV rfl (.tmp 55) (.tmp 56) rfl (k : Int) (by rfl) x1 N1.out (by rfl) ?_); simp only [Act.put, List.setIfInBounds_toArray, List.set_cons_zero, List.set_cons_succ])
          | ((refine wpl_build1 40 35 _ 33 40 Tryd.underlying40 info_entz (by omega) (by omega) rfl (.tmp 57) rfl (eV (k : Int) x1) (by rfl) (eV_size _ _ N1.out) ?_); rw [← Hw21.out]; simp only [Act.put, List.setIfInBounds_toArray, List.set_cons_zero, List.set_cons_succ]))
        refine (HTRY.out).mono ?_
        rintro e w22 ⟨rfl, hb22⟩
        have B22 := Lib.hid (show Below w.heap.size w w22 from Below.trans B21.out (Below.mono hb22 (Below.size B21.out)))
        have GH_22 := Lib.hid ((Below.block hb22 H LH_21.out).trans GH_21.out)
        have LH_22 := Lib.hid (Nat.lt_of_lt_of_le LH_21.out (Below.size hb22))
        have GV_22 := Lib.hid ((Below.block hb22 V LV_21.out).trans GV_21.out)
        have LV_22 := Lib.hid (Nat.lt_of_lt_of_le LV_21.out (Below.size hb22))
        clear hb22
        obtain ⟨C, hC⟩ : ∃ z, z = w22.heap.size := ⟨_, rfl⟩
        obtain ⟨w23, hw23⟩ : ∃ z, z = w22.alloc (.cells (dV R) 23) := ⟨_, rfl⟩
        have st23 : Below w22.heap.size w22 w23 := by rw [hw23]; exact (Below.refl _ _).alloc (Nat.le_refl _) _
        have B23 := Lib.hid (show Below w.heap.size w w23 from Below.trans B22.out (Below.mono st23 (Below.size B22.out)))
        have GH_23 := Lib.hid ((Below.block st23 H LH_22.out).trans GH_22.out)
        have LH_23 := Lib.hid (Nat.lt_of_lt_of_le LH_22.out (Below.size st23))
        have GV_23 := Lib.hid ((Below.block st23 V LV_22.out).trans GV_22.out)
        have LV_23 := Lib.hid (Nat.lt_of_lt_of_le LV_22.out (Below.size st23))
        have GC_23 := Lib.hid (show w23.heap[C]? = some (.cells (dV R) 23 (0, 0)) by rw [hw23, hC]; exact heap_alloc_new _ _)
        have LC_23 := Lib.hid (lt_of_heap GC_23.out)
        have HC := Lib.hid hC
        have Hw23 := Lib.hid hw23
        clear hC hw23 st23
        go_wp2_with (first
          | ((refine st_new rfl (.tmp 11) (.tmp 60) rfl R RL.out (by rfl) _ _ (by rfl) (by rfl) ?_); rw [← HC.out, ← Hw23.out])
          | ((refine ld_digG rfl (.tmp 3) rfl (H) 0 (by rfl) x1 N1.out (range_of_row GH_23.out) ?_); simp only [Act.put, List.setIfInBounds_toArray, List.set_cons_zero, List.set_cons_succ])
          | ((refine wpl_entKV rfl (.tmp 62) (.tmp 63) rfl (k : Int) (by rfl) x1 N1.out (by rfl) ?_); simp only [Act.put, List.setIfInBounds_toArray, List.set_cons_zero, List.set_cons_succ]))
        refine (EL w23).mono ?_
        rintro e w24 ⟨rfl, hb24⟩
        have B24 := Lib.hid (show Below w.heap.size w w24 from Below.trans B23.out (Below.mono hb24 (Below.size B23.out)))
        have GH_24 := Lib.hid ((Below.block hb24 H LH_23.out).trans GH_23.out)
        have LH_24 := Lib.hid (Nat.lt_of_lt_of_le LH_23.out (Below.size hb24))
        have GV_24 := Lib.hid ((Below.block hb24 V LV_23.out).trans GV_23.out)
        have LV_24 := Lib.hid (Nat.lt_of_lt_of_le LV_23.out (Below.size hb24))
        have GC_24 := Lib.hid ((Below.block hb24 C LC_23.out).trans GC_23.out)
        have LC_24 := Lib.hid (Nat.lt_of_lt_of_le LC_23.out (Below.size hb24))
        clear hb24
        obtain ⟨D, hD⟩ : ∃ z, z = w24.heap.size := ⟨_, rfl⟩
        obtain ⟨w25, hw25⟩ : ∃ z, z = w24.alloc (.cells (dV LF) 23) := ⟨_, rfl⟩
        have st25 : Below w24.heap.size w24 w25 := by rw [hw25]; exact (Below.refl _ _).alloc (Nat.le_refl _) _
        have B25 := Lib.hid (show Below w.heap.size w w25 from Below.trans B24.out (Below.mono st25 (Below.size B24.out)))
        have GH_25 := Lib.hid ((Below.block st25 H LH_24.out).trans GH_24.out)
        have LH_25 := Lib.hid (Nat.lt_of_lt_of_le LH_24.out (Below.size st25))
        have GV_25 := Lib.hid ((Below.block st25 V LV_24.out).trans GV_24.out)
        have LV_25 := Lib.hid (Nat.lt_of_lt_of_le LV_24.out (Below.size st25))
        have GC_25 := Lib.hid ((Below.block st25 C LC_24.out).trans GC_24.out)
        have LC_25 := Lib.hid (Nat.lt_of_lt_of_le LC_24.out (Below.size st25))
        have GD_25 := Lib.hid (show w25.heap[D]? = some (.cells (dV LF) 23 (0, 0)) by rw [hw25, hD]; exact heap_alloc_new _ _)
        have LD_25 := Lib.hid (lt_of_heap GD_25.out)
        have HD := Lib.hid hD
        have Hw25 := Lib.hid hw25
        clear hD hw25 st25
        go_wp2_with (first
          | ((refine st_new rfl (.tmp 12) (.tmp 65) rfl LF LFL.out (by rfl) _ _ (by rfl) (by rfl) ?_); rw [← HD.out, ← Hw25.out]))
        have NC : ∀ w', InB w25.heap.size w25 w' → Calls Tryd.prog 19 #[] w' fun e w'' => e = .returned (.agg (dV Z)) ∧ InB w25.heap.size w25 w'' :=
          fun w' h => InB.call h (Nat.le_refl _) (Nothing_z HZ.out w')
        have HNC := Lib.hid NC
        have hex := inB_ex w25.heap.size w25
        have RD := Lib.hid (range_of_row GD_25.out)
        have lD := LD_25.out
        clear NC
        refine wp_region_inB w25.heap.size (by kernel_rfl) (by kernel_rfl) ?_
        refine quiet_dig rfl (.tmp 12) rfl D 0 (by rfl) LF LFL.out (fun w' hw' => hw'.range lD RD.out) ?_
        simp only [Act.put, List.setIfInBounds_toArray, List.set_cons_zero, List.set_cons_succ]
        go_big_quiet_step ((intro hw'; exact HNC.out _ hw'))
        refine quiet_dig_eq rfl (.tmp 66) (.tmp 67) _ rfl LF Z (by rfl) (by rfl) LFL.out ZL.out ?_
        rw [HB0.out]
        simp only [Act.put, List.setIfInBounds_toArray, List.set_cons_zero, List.set_cons_succ]
        go_big_quiet_step ((intro _; rfl))
        refine wpQuiet_nil ?_
        intro w26 hb26
        clear HNC hex RD lD
        have B26 := Lib.hid (show Below w.heap.size w w26 from Below.trans B25.out (Below.mono hb26 (Below.size B25.out)))
        have GH_26 := Lib.hid ((Below.block hb26 H LH_25.out).trans GH_25.out)
        have LH_26 := Lib.hid (Nat.lt_of_lt_of_le LH_25.out (Below.size hb26))
        have GV_26 := Lib.hid ((Below.block hb26 V LV_25.out).trans GV_25.out)
        have LV_26 := Lib.hid (Nat.lt_of_lt_of_le LV_25.out (Below.size hb26))
        have GC_26 := Lib.hid ((Below.block hb26 C LC_25.out).trans GC_25.out)
        have LC_26 := Lib.hid (Nat.lt_of_lt_of_le LC_25.out (Below.size hb26))
        have GD_26 := Lib.hid ((Below.block hb26 D LD_25.out).trans GD_25.out)
        have LD_26 := Lib.hid (Nat.lt_of_lt_of_le LD_25.out (Below.size hb26))
        clear hb26
        go_wp2_with fail
        have HCD := Lib.hid (show C < D by rw [HD.out]; exact LC_24.out)
        go_loopw [0, 13, 14] (fun kv zv i wr => ∃ (j : Nat) (dd : List UInt8) (zb : Bool), j ≤ 32 ∧ i = .int .i64 j ∧ kv = .int .i64 ((k / 2 ^ j : Nat) : Int) ∧ zv = .bool zb ∧ dd = upD k LF j ∧ (dd = Z → zb = true) ∧ wr.heap[D]? = some (.cells (dV dd) 23 (0, 0)) ∧ Below D w26 wr) (fun _ _ i _ => 32 - (intOf i).toNat)
        case atStart => exact ⟨0, LF, b0, Nat.zero_le _, rfl, by rw [Nat.pow_zero, Nat.div_one], rfl, rfl, fun h => by rw [← HB0.out, h]; simp, GD_26.out, Below.refl _ _⟩
        case round =>
          obtain ⟨j, d, zb, hj, rfl, rfl, rfl, hd, hz, hgd, hbd⟩ := hrel
          by_cases hlt : j < 32
          · have dl : d.length = 32 := by rw [hd]; exact foldD_length k _ _ LFL.out
            have hs := upD_succ k LF j
            rw [← hd] at hs
            obtain ⟨d2, hd2⟩ : ∃ x, x = upD k LF (j + 1) := ⟨_, rfl⟩
            have d2l : d2.length = 32 := by rw [hd2]; exact foldD_length k _ _ LFL.out
            rw [← hd2] at hs
            obtain ⟨x, hx⟩ : ∃ x, x = k / 2 ^ j := ⟨_, rfl⟩
            have hx2 : k / 2 ^ (j + 1) = x / 2 := by rw [hx, Nat.pow_succ, Nat.div_div_eq_div_mul]
            rw [← hx] at hs ⊢
            have xl : x < 4294967296 := by rw [hx]; exact Nat.lt_of_le_of_lt (Nat.div_le_self _ _) hk2
            obtain ⟨x2, hx22⟩ : ∃ x2, x2 = x / 2 := ⟨_, rfl⟩
            rw [← hx22] at hx2
            have m1 : (x : Int) / 2 = (x2 : Int) := by omega
            have m1t : (x : Int).tdiv 2 = (x2 : Int) := by rw [Int.tdiv_eq_ediv_of_nonneg (by omega)]; exact m1
            have m1w : IntKind.i64.wrap (x2 : Int) = (x2 : Int) := IntWalk.i64_in _ (by omega)
            have j32 : (j : Int) < 32 := by omega
            have e4 : IntKind.i64.wrap ((j : Int) + 1) = (j : Int) + 1 := IntWalk.i64_in _ (by omega)
            have DL := Lib.hid dl
            have D2L := Lib.hid d2l
            have HX2 := Lib.hid hx2
            have HD2 := Lib.hid hd2
            have GD := Lib.hid hgd
            have BD := Lib.hid hbd
            have HSU := Lib.hid hs
            clear dl d2l hx2 hd2 hgd hbd hs hd hz hx hx22
            by_cases hb1 : x % 2 = 1
            · have m2 : (x : Int) % 2 = 1 := by omega
              have m2t : (x : Int).tmod 2 = 1 := by rw [Int.tmod_eq_emod_of_nonneg (by omega)]; exact m2
              have MNO := RMapNode_calls Z d ZL.out DL.out
              have hq := HSU.out
              rw [if_pos hb1, ← HZ.out] at hq
              rw [← hq] at MNO
              clear hq hb1
              go_wp2_with fail
              apply region_join (S := fun w' => w'.heap[D]? = some (.cells (dV d2) 23 (0, 0)) ∧ Below D w26 w')
              case h =>
                refine wp_region_any (by kernel_rfl) ?_
                change wpAny _ _ _ _ _ _ _ wr.drew
                have gwR := Lib.hid (show wr.drew.heap[D]? = some (.cells (dV d) 23 (0, 0)) from GD.out)
                have bwR := Lib.hid (show Below D w26 wr.drew from BD.out.drew)
                obtain ⟨wR, hwR⟩ : ∃ z, z = wr.drew := ⟨_, rfl⟩
                rw [← hwR] at gwR bwR ⊢
                clear hwR
                refine wpAny_ready (rs := [0, 1]) (by kernel_rfl) (by simp) ?_
                refine AllReady.cons (o := _) rfl (fun K hK => ?_) (AllReady.cons (o := _) rfl (fun K hK => ?_) AllReady.nil)
                · have HK := Lib.hid hK
                  clear hK
                  go_simp
                  go_at_call 19
                  refine (Nothing_z HZ.out _).mono ?_
                  rintro e wM ⟨rfl, hwM⟩
                  dsimp only
                  have gwM := Lib.hid (((show Below wR.heap.size wR wM from hwM).block D (lt_of_heap gwR.out)).trans gwR.out)
                  have bwM := Lib.hid (bwR.out.trans (Below.mono hwM (Nat.le_of_lt (lt_of_heap gwR.out))))
                  clear hwM
                  refine HK.out _ _ ?_
                  clear HK K
                  try simp only [Act.put, List.getElem_toArray, List.getElem_cons_zero, List.getElem_cons_succ, List.setIfInBounds_toArray, List.set_cons_zero, List.set_cons_succ]
                  refine wpAny_ready (rs := [1]) (by kernel_rfl) (by simp) ?_
                  refine AllReady.cons (o := _) rfl (fun K hK => ?_) AllReady.nil
                  have HK := Lib.hid hK
                  clear hK
                  rw [if_pos (by rfl)]
                  refine wp_load_mid _ _ rfl D 0 (by rfl) (d.map vB) _ (range_of_row gwM.out) Tryd.underlying23 rfl (by rw [List.length_map, DL.out]; exact dig_size) ?_
                  refine HK.out _ _ ?_
                  clear HK K
                  try simp only [Act.put, List.getElem_toArray, List.getElem_cons_zero, List.getElem_cons_succ, List.setIfInBounds_toArray, List.set_cons_zero, List.set_cons_succ]
                  refine wpAny_ready (rs := [2]) (by kernel_rfl) (by simp) ?_
                  refine AllReady.cons (o := _) rfl (fun K hK => ?_) AllReady.nil
                  have HK := Lib.hid hK
                  clear hK
                  go_simp
                  go_at_call 26
                  refine (MNO _).mono ?_
                  rintro e wN ⟨rfl, hwN⟩
                  dsimp only
                  have gwN := Lib.hid (((show Below wM.heap.size wM wN from hwN).block D (lt_of_heap gwM.out)).trans gwM.out)
                  have bwN := Lib.hid (bwM.out.trans (Below.mono hwN (Nat.le_of_lt (lt_of_heap gwM.out))))
                  clear hwN
                  refine HK.out _ _ ?_
                  clear HK K
                  try simp only [Act.put, List.getElem_toArray, List.getElem_cons_zero, List.getElem_cons_succ, List.setIfInBounds_toArray, List.set_cons_zero, List.set_cons_succ]
                  refine wpAny_ready (rs := [3]) (by kernel_rfl) (by simp) ?_
                  refine AllReady.cons (o := _) rfl (fun K hK => ?_) AllReady.nil
                  have HK := Lib.hid hK
                  clear hK
                  rw [if_pos (by rfl)]
                  refine wp_store_row _ _ _ rfl D (dV d2) (by rfl) (by rfl) _ (dV d) gwN.out (info_dV D2L.out) (by rw [dV_size D2L.out, dV_size DL.out]) (dV_one d2) ?_
                  refine HK.out _ _ ?_
                  clear HK K
                  try simp only [Act.put, List.getElem_toArray, List.getElem_cons_zero, List.getElem_cons_succ, List.setIfInBounds_toArray, List.set_cons_zero, List.set_cons_succ]
                  refine wpAny_done (by kernel_rfl) ?_ _
                  exact ⟨rfl, rfl, setRow_heap _ _ _ _ _ _ gwN.out, below_setRowW bwN.out (Nat.le_refl _) _⟩
                · have HK := Lib.hid hK
                  clear hK
                  rw [if_pos (by rfl)]
                  refine wp_load_mid _ _ rfl D 0 (by rfl) (d.map vB) _ (range_of_row gwR.out) Tryd.underlying23 rfl (by rw [List.length_map, DL.out]; exact dig_size) ?_
                  refine HK.out _ _ ?_
                  clear HK K
                  try simp only [Act.put, List.getElem_toArray, List.getElem_cons_zero, List.getElem_cons_succ, List.setIfInBounds_toArray, List.set_cons_zero, List.set_cons_succ]
                  refine wpAny_ready (rs := [0]) (by kernel_rfl) (by simp) ?_
                  refine AllReady.cons (o := _) rfl (fun K hK => ?_) AllReady.nil
                  have HK := Lib.hid hK
                  clear hK
                  go_simp
                  go_at_call 19
                  refine (Nothing_z HZ.out _).mono ?_
                  rintro e wM ⟨rfl, hwM⟩
                  dsimp only
                  have gwM := Lib.hid (((show Below wR.heap.size wR wM from hwM).block D (lt_of_heap gwR.out)).trans gwR.out)
                  have bwM := Lib.hid (bwR.out.trans (Below.mono hwM (Nat.le_of_lt (lt_of_heap gwR.out))))
                  clear hwM
                  refine HK.out _ _ ?_
                  clear HK K
                  try simp only [Act.put, List.getElem_toArray, List.getElem_cons_zero, List.getElem_cons_succ, List.setIfInBounds_toArray, List.set_cons_zero, List.set_cons_succ]
                  refine wpAny_ready (rs := [2]) (by kernel_rfl) (by simp) ?_
                  refine AllReady.cons (o := _) rfl (fun K hK => ?_) AllReady.nil
                  have HK := Lib.hid hK
                  clear hK
                  go_simp
                  go_at_call 26
                  refine (MNO _).mono ?_
                  rintro e wN ⟨rfl, hwN⟩
                  dsimp only
                  have gwN := Lib.hid (((show Below wM.heap.size wM wN from hwN).block D (lt_of_heap gwM.out)).trans gwM.out)
                  have bwN := Lib.hid (bwM.out.trans (Below.mono hwN (Nat.le_of_lt (lt_of_heap gwM.out))))
                  clear hwN
                  refine HK.out _ _ ?_
                  clear HK K
                  try simp only [Act.put, List.getElem_toArray, List.getElem_cons_zero, List.getElem_cons_succ, List.setIfInBounds_toArray, List.set_cons_zero, List.set_cons_succ]
                  refine wpAny_ready (rs := [3]) (by kernel_rfl) (by simp) ?_
                  refine AllReady.cons (o := _) rfl (fun K hK => ?_) AllReady.nil
                  have HK := Lib.hid hK
                  clear hK
                  rw [if_pos (by rfl)]
                  refine wp_store_row _ _ _ rfl D (dV d2) (by rfl) (by rfl) _ (dV d) gwN.out (info_dV D2L.out) (by rw [dV_size D2L.out, dV_size DL.out]) (dV_one d2) ?_
                  refine HK.out _ _ ?_
                  clear HK K
                  try simp only [Act.put, List.getElem_toArray, List.getElem_cons_zero, List.getElem_cons_succ, List.setIfInBounds_toArray, List.set_cons_zero, List.set_cons_succ]
                  refine wpAny_done (by kernel_rfl) ?_ _
                  exact ⟨rfl, rfl, setRow_heap _ _ _ _ _ _ gwN.out, below_setRowW bwN.out (Nat.le_refl _) _⟩
              case hQ =>
                intro wF hSF
                obtain ⟨hgF, hbF⟩ := hSF
                have GF := Lib.hid hgF
                have BF := Lib.hid hbF
                have lD := lt_of_heap GF.out
                clear hgF hbF
                go_wp2_with fail
                have NC : ∀ w', InB wF.heap.size wF w' → Calls Tryd.prog 19 #[] w' fun e w'' => e = .returned (.agg (dV Z)) ∧ InB wF.heap.size wF w'' :=
                  fun w' h => InB.call h (Nat.le_refl _) (Nothing_z HZ.out w')
                have HNC := Lib.hid NC
                have hex := inB_ex wF.heap.size wF
                have RD := Lib.hid (range_of_row GF.out)
                clear NC
                cases zb with
                | true =>
                  refine wp_region_inB wF.heap.size (by kernel_rfl) (by kernel_rfl) ?_
                  repeat go_big_quiet_step ((intro _; rfl))
                  refine wpQuiet_nil ?_
                  intro wG hwG
                  have GG := Lib.hid ((Below.block hwG D lD).trans GF.out)
                  have BG := Lib.hid (BF.out.trans (Below.mono hwG (Nat.le_of_lt lD)))
                  clear hwG HNC hex
                  go_wp2_with fail
                  go_roundw
                  case rel => exact ⟨j + 1, d2, true, by omega, by go_num, by rw [HX2.out], rfl, HD2.out, fun _ => rfl, GG.out, BG.out⟩
                  case measure => simp [intOf]; omega
                | false =>
                  refine wp_region_inB wF.heap.size (by kernel_rfl) (by kernel_rfl) ?_
                  go_big_quiet_step ((intro _; rfl))
                  go_big_quiet_step ((intro _; rfl))
                  refine quiet_dig rfl (.tmp 12) rfl D 0 (by rfl) d2 D2L.out (fun w' hw' => hw'.range lD RD.out) ?_
                  simp only [Act.put, List.setIfInBounds_toArray, List.set_cons_zero, List.set_cons_succ]
                  go_big_quiet_step ((intro hw'; exact HNC.out _ hw'))
                  obtain ⟨nb, hnb⟩ : ∃ b, b = (d2 == Z) := ⟨_, rfl⟩
                  refine quiet_dig_eq rfl (.tmp 84) (.tmp 85) _ rfl d2 Z (by rfl) (by rfl) D2L.out ZL.out ?_
                  rw [← hnb]
                  simp only [Act.put, List.setIfInBounds_toArray, List.set_cons_zero, List.set_cons_succ]
                  have HNB := Lib.hid hnb
                  clear hnb
                  go_big_quiet_step ((intro _; rfl))
                  go_big_quiet_step ((intro _; rfl))
                  refine wpQuiet_nil ?_
                  intro wG hwG
                  have GG := Lib.hid ((Below.block hwG D lD).trans GF.out)
                  have BG := Lib.hid (BF.out.trans (Below.mono hwG (Nat.le_of_lt lD)))
                  clear hwG HNC hex
                  go_wp2_with fail
                  go_roundw
                  case rel => exact ⟨j + 1, d2, nb, by omega, by go_num, by rw [HX2.out], rfl, HD2.out, fun h => by rw [HNB.out, h]; simp, GG.out, BG.out⟩
                  case measure => simp [intOf]; omega
            · have m2 : (x : Int) % 2 = 0 := by omega
              have m2t : (x : Int).tmod 2 = 0 := by rw [Int.tmod_eq_emod_of_nonneg (by omega)]; exact m2
              have MNO := RMapNode_calls d Z DL.out ZL.out
              have hq := HSU.out
              rw [if_neg hb1, ← HZ.out] at hq
              rw [← hq] at MNO
              clear hq hb1
              go_wp2_with fail
              apply region_join (S := fun w' => w'.heap[D]? = some (.cells (dV d2) 23 (0, 0)) ∧ Below D w26 w')
              case h =>
                refine wp_region_any (by kernel_rfl) ?_
                change wpAny _ _ _ _ _ _ _ wr.drew
                have gwR := Lib.hid (show wr.drew.heap[D]? = some (.cells (dV d) 23 (0, 0)) from GD.out)
                have bwR := Lib.hid (show Below D w26 wr.drew from BD.out.drew)
                obtain ⟨wR, hwR⟩ : ∃ z, z = wr.drew := ⟨_, rfl⟩
                rw [← hwR] at gwR bwR ⊢
                clear hwR
                refine wpAny_ready (rs := [0, 1]) (by kernel_rfl) (by simp) ?_
                refine AllReady.cons (o := _) rfl (fun K hK => ?_) (AllReady.cons (o := _) rfl (fun K hK => ?_) AllReady.nil)
                · have HK := Lib.hid hK
                  clear hK
                  rw [if_pos (by rfl)]
                  refine wp_load_mid _ _ rfl D 0 (by rfl) (d.map vB) _ (range_of_row gwR.out) Tryd.underlying23 rfl (by rw [List.length_map, DL.out]; exact dig_size) ?_
                  refine HK.out _ _ ?_
                  clear HK K
                  try simp only [Act.put, List.getElem_toArray, List.getElem_cons_zero, List.getElem_cons_succ, List.setIfInBounds_toArray, List.set_cons_zero, List.set_cons_succ]
                  refine wpAny_ready (rs := [1]) (by kernel_rfl) (by simp) ?_
                  refine AllReady.cons (o := _) rfl (fun K hK => ?_) AllReady.nil
                  have HK := Lib.hid hK
                  clear hK
                  go_simp
                  go_at_call 19
                  refine (Nothing_z HZ.out _).mono ?_
                  rintro e wM ⟨rfl, hwM⟩
                  dsimp only
                  have gwM := Lib.hid (((show Below wR.heap.size wR wM from hwM).block D (lt_of_heap gwR.out)).trans gwR.out)
                  have bwM := Lib.hid (bwR.out.trans (Below.mono hwM (Nat.le_of_lt (lt_of_heap gwR.out))))
                  clear hwM
                  refine HK.out _ _ ?_
                  clear HK K
                  try simp only [Act.put, List.getElem_toArray, List.getElem_cons_zero, List.getElem_cons_succ, List.setIfInBounds_toArray, List.set_cons_zero, List.set_cons_succ]
                  refine wpAny_ready (rs := [2]) (by kernel_rfl) (by simp) ?_
                  refine AllReady.cons (o := _) rfl (fun K hK => ?_) AllReady.nil
                  have HK := Lib.hid hK
                  clear hK
                  go_simp
                  go_at_call 26
                  refine (MNO _).mono ?_
                  rintro e wN ⟨rfl, hwN⟩
                  dsimp only
                  have gwN := Lib.hid (((show Below wM.heap.size wM wN from hwN).block D (lt_of_heap gwM.out)).trans gwM.out)
                  have bwN := Lib.hid (bwM.out.trans (Below.mono hwN (Nat.le_of_lt (lt_of_heap gwM.out))))
                  clear hwN
                  refine HK.out _ _ ?_
                  clear HK K
                  try simp only [Act.put, List.getElem_toArray, List.getElem_cons_zero, List.getElem_cons_succ, List.setIfInBounds_toArray, List.set_cons_zero, List.set_cons_succ]
                  refine wpAny_ready (rs := [3]) (by kernel_rfl) (by simp) ?_
                  refine AllReady.cons (o := _) rfl (fun K hK => ?_) AllReady.nil
                  have HK := Lib.hid hK
                  clear hK
                  rw [if_pos (by rfl)]
                  refine wp_store_row _ _ _ rfl D (dV d2) (by rfl) (by rfl) _ (dV d) gwN.out (info_dV D2L.out) (by rw [dV_size D2L.out, dV_size DL.out]) (dV_one d2) ?_
                  refine HK.out _ _ ?_
                  clear HK K
                  try simp only [Act.put, List.getElem_toArray, List.getElem_cons_zero, List.getElem_cons_succ, List.setIfInBounds_toArray, List.set_cons_zero, List.set_cons_succ]
                  refine wpAny_done (by kernel_rfl) ?_ _
                  exact ⟨rfl, rfl, setRow_heap _ _ _ _ _ _ gwN.out, below_setRowW bwN.out (Nat.le_refl _) _⟩
                · have HK := Lib.hid hK
                  clear hK
                  go_simp
                  go_at_call 19
                  refine (Nothing_z HZ.out _).mono ?_
                  rintro e wM ⟨rfl, hwM⟩
                  dsimp only
                  have gwM := Lib.hid (((show Below wR.heap.size wR wM from hwM).block D (lt_of_heap gwR.out)).trans gwR.out)
                  have bwM := Lib.hid (bwR.out.trans (Below.mono hwM (Nat.le_of_lt (lt_of_heap gwR.out))))
                  clear hwM
                  refine HK.out _ _ ?_
                  clear HK K
                  try simp only [Act.put, List.getElem_toArray, List.getElem_cons_zero, List.getElem_cons_succ, List.setIfInBounds_toArray, List.set_cons_zero, List.set_cons_succ]
                  refine wpAny_ready (rs := [0]) (by kernel_rfl) (by simp) ?_
                  refine AllReady.cons (o := _) rfl (fun K hK => ?_) AllReady.nil
                  have HK := Lib.hid hK
                  clear hK
                  rw [if_pos (by rfl)]
                  refine wp_load_mid _ _ rfl D 0 (by rfl) (d.map vB) _ (range_of_row gwM.out) Tryd.underlying23 rfl (by rw [List.length_map, DL.out]; exact dig_size) ?_
                  refine HK.out _ _ ?_
                  clear HK K
                  try simp only [Act.put, List.getElem_toArray, List.getElem_cons_zero, List.getElem_cons_succ, List.setIfInBounds_toArray, List.set_cons_zero, List.set_cons_succ]
                  refine wpAny_ready (rs := [2]) (by kernel_rfl) (by simp) ?_
                  refine AllReady.cons (o := _) rfl (fun K hK => ?_) AllReady.nil
                  have HK := Lib.hid hK
                  clear hK
                  go_simp
                  go_at_call 26
                  refine (MNO _).mono ?_
                  rintro e wN ⟨rfl, hwN⟩
                  dsimp only
                  have gwN := Lib.hid (((show Below wM.heap.size wM wN from hwN).block D (lt_of_heap gwM.out)).trans gwM.out)
                  have bwN := Lib.hid (bwM.out.trans (Below.mono hwN (Nat.le_of_lt (lt_of_heap gwM.out))))
                  clear hwN
                  refine HK.out _ _ ?_
                  clear HK K
                  try simp only [Act.put, List.getElem_toArray, List.getElem_cons_zero, List.getElem_cons_succ, List.setIfInBounds_toArray, List.set_cons_zero, List.set_cons_succ]
                  refine wpAny_ready (rs := [3]) (by kernel_rfl) (by simp) ?_
                  refine AllReady.cons (o := _) rfl (fun K hK => ?_) AllReady.nil
                  have HK := Lib.hid hK
                  clear hK
                  rw [if_pos (by rfl)]
                  refine wp_store_row _ _ _ rfl D (dV d2) (by rfl) (by rfl) _ (dV d) gwN.out (info_dV D2L.out) (by rw [dV_size D2L.out, dV_size DL.out]) (dV_one d2) ?_
                  refine HK.out _ _ ?_
                  clear HK K
                  try simp only [Act.put, List.getElem_toArray, List.getElem_cons_zero, List.getElem_cons_succ, List.setIfInBounds_toArray, List.set_cons_zero, List.set_cons_succ]
                  refine wpAny_done (by kernel_rfl) ?_ _
                  exact ⟨rfl, rfl, setRow_heap _ _ _ _ _ _ gwN.out, below_setRowW bwN.out (Nat.le_refl _) _⟩
              case hQ =>
                intro wF hSF
                obtain ⟨hgF, hbF⟩ := hSF
                have GF := Lib.hid hgF
                have BF := Lib.hid hbF
                have lD := lt_of_heap GF.out
                clear hgF hbF
                go_wp2_with fail
                have NC : ∀ w', InB wF.heap.size wF w' → Calls Tryd.prog 19 #[] w' fun e w'' => e = .returned (.agg (dV Z)) ∧ InB wF.heap.size wF w'' :=
                  fun w' h => InB.call h (Nat.le_refl _) (Nothing_z HZ.out w')
                have HNC := Lib.hid NC
                have hex := inB_ex wF.heap.size wF
                have RD := Lib.hid (range_of_row GF.out)
                clear NC
                cases zb with
                | true =>
                  refine wp_region_inB wF.heap.size (by kernel_rfl) (by kernel_rfl) ?_
                  repeat go_big_quiet_step ((intro _; rfl))
                  refine wpQuiet_nil ?_
                  intro wG hwG
                  have GG := Lib.hid ((Below.block hwG D lD).trans GF.out)
                  have BG := Lib.hid (BF.out.trans (Below.mono hwG (Nat.le_of_lt lD)))
                  clear hwG HNC hex
                  go_wp2_with fail
                  go_roundw
                  case rel => exact ⟨j + 1, d2, true, by omega, by go_num, by rw [HX2.out], rfl, HD2.out, fun _ => rfl, GG.out, BG.out⟩
                  case measure => simp [intOf]; omega
                | false =>
                  refine wp_region_inB wF.heap.size (by kernel_rfl) (by kernel_rfl) ?_
                  go_big_quiet_step ((intro _; rfl))
                  go_big_quiet_step ((intro _; rfl))
                  refine quiet_dig rfl (.tmp 12) rfl D 0 (by rfl) d2 D2L.out (fun w' hw' => hw'.range lD RD.out) ?_
                  simp only [Act.put, List.setIfInBounds_toArray, List.set_cons_zero, List.set_cons_succ]
                  go_big_quiet_step ((intro hw'; exact HNC.out _ hw'))
                  obtain ⟨nb, hnb⟩ : ∃ b, b = (d2 == Z) := ⟨_, rfl⟩
                  refine quiet_dig_eq rfl (.tmp 84) (.tmp 85) _ rfl d2 Z (by rfl) (by rfl) D2L.out ZL.out ?_
                  rw [← hnb]
                  simp only [Act.put, List.setIfInBounds_toArray, List.set_cons_zero, List.set_cons_succ]
                  have HNB := Lib.hid hnb
                  clear hnb
                  go_big_quiet_step ((intro _; rfl))
                  go_big_quiet_step ((intro _; rfl))
                  refine wpQuiet_nil ?_
                  intro wG hwG
                  have GG := Lib.hid ((Below.block hwG D lD).trans GF.out)
                  have BG := Lib.hid (BF.out.trans (Below.mono hwG (Nat.le_of_lt lD)))
                  clear hwG HNC hex
                  go_wp2_with fail
                  go_roundw
                  case rel => exact ⟨j + 1, d2, nb, by omega, by go_num, by rw [HX2.out], rfl, HD2.out, fun h => by rw [HNB.out, h]; simp, GG.out, BG.out⟩
                  case measure => simp [intOf]; omega
          · obtain rfl : j = 32 := by omega
            have hdr : d = R := by rw [hd]; exact HRT.out
            have GDR := Lib.hid (show wr.heap[D]? = some (.cells (dV R) 23 (0, 0)) by rw [← hdr]; exact hgd)
            have GCR := Lib.hid ((hbd.block C HCD.out).trans GC_26.out)
            have hzr : R = Z → zb = true := fun h => hz (by rw [hdr, h])
            have HZR := Lib.hid hzr
            have FIN := Lib.hid (B26.out.trans (Below.mono hbd (by rw [HD.out]; exact (B24.out).size)))
            have lD := lt_of_heap GDR.out
            have lC := lt_of_heap GCR.out
            have RD := Lib.hid (range_of_row GDR.out)
            have RC := Lib.hid (range_of_row GCR.out)
            clear hd hz hgd hbd hdr hzr hj hlt
            go_wp2_with fail
            have NC : ∀ w', InB wr.heap.size wr w' → Calls Tryd.prog 19 #[] w' fun e w'' => e = .returned (.agg (dV Z)) ∧ InB wr.heap.size wr w'' :=
              fun w' h => InB.call h (Nat.le_refl _) (Nothing_z HZ.out w')
            have HNC := Lib.hid NC
            have hex := inB_ex wr.heap.size wr
            clear NC
            by_cases hrz : R = Z
            · have hzb := HZR.out hrz
              subst hzb
              have HRZ := Lib.hid (show (R == Z) = true by rw [hrz]; simp)
              clear hrz
              refine wp_region_inB wr.heap.size (by kernel_rfl) (by kernel_rfl) ?_
              go_big_quiet_step ((intro _; rfl))
              go_big_quiet_step ((intro _; rfl))
              go_big_quiet_step ((intro _; rfl))
              go_big_quiet_step ((intro _; rfl))
              go_big_quiet_step ((intro _; rfl))
              go_big_quiet_step ((intro _; rfl))
              go_big_quiet_step ((intro _; rfl))
              go_big_quiet_step ((intro _; rfl))
              refine quiet_dig rfl (.tmp 11) rfl C 0 (by rfl) R RL.out (fun w' hw' => hw'.range lC RC.out) ?_
              simp only [Act.put, List.setIfInBounds_toArray, List.set_cons_zero, List.set_cons_succ]
              refine quiet_dig rfl (.tmp 12) rfl D 0 (by rfl) R RL.out (fun w' hw' => hw'.range lD RD.out) ?_
              simp only [Act.put, List.setIfInBounds_toArray, List.set_cons_zero, List.set_cons_succ]
              refine quiet_dig_eq rfl (.tmp 98) (.tmp 99) _ rfl R R (by rfl) (by rfl) RL.out RL.out ?_
              rw [ERR.out]
              simp only [Act.put, List.setIfInBounds_toArray, List.set_cons_zero, List.set_cons_succ]
              go_big_quiet_step ((intro _; rfl))
              go_big_quiet_step ((intro _; rfl))
              refine quiet_dig rfl (.tmp 11) rfl C 0 (by rfl) R RL.out (fun w' hw' => hw'.range lC RC.out) ?_
              simp only [Act.put, List.setIfInBounds_toArray, List.set_cons_zero, List.set_cons_succ]
              go_big_quiet_step ((intro hw'; exact HNC.out _ hw'))
              refine quiet_dig_neq rfl (.tmp 103) (.tmp 104) _ rfl R Z (by rfl) (by rfl) RL.out ZL.out ?_
              rw [HRZ.out]
              simp only [Act.put, List.setIfInBounds_toArray, List.set_cons_zero, List.set_cons_succ, Bool.not_true, Bool.not_false]
              repeat go_big_quiet_step ((intro _; rfl))
              refine wpQuiet_nil ?_
              intro wG hwG
              have BG := Lib.hid (FIN.out.trans (Below.mono hwG FIN.out.size))
              clear hwG HNC hex
              go_wp2_with fail
              go_ret
              exact ⟨rfl, BG.out⟩
            · have HRZ := Lib.hid (show (R == Z) = false by rw [beq_eq_false_iff_ne]; exact hrz)
              clear hrz
              refine wp_region_inB wr.heap.size (by kernel_rfl) (by kernel_rfl) ?_
              go_big_quiet_step ((intro _; rfl))
              go_big_quiet_step ((intro _; rfl))
              go_big_quiet_step ((intro _; rfl))
              go_big_quiet_step ((intro _; rfl))
              go_big_quiet_step ((intro _; rfl))
              go_big_quiet_step ((intro _; rfl))
              go_big_quiet_step ((intro _; rfl))
              go_big_quiet_step ((intro _; rfl))
              refine quiet_dig rfl (.tmp 11) rfl C 0 (by rfl) R RL.out (fun w' hw' => hw'.range lC RC.out) ?_
              simp only [Act.put, List.setIfInBounds_toArray, List.set_cons_zero, List.set_cons_succ]
              refine quiet_dig rfl (.tmp 12) rfl D 0 (by rfl) R RL.out (fun w' hw' => hw'.range lD RD.out) ?_
              simp only [Act.put, List.setIfInBounds_toArray, List.set_cons_zero, List.set_cons_succ]
              refine quiet_dig_eq rfl (.tmp 98) (.tmp 99) _ rfl R R (by rfl) (by rfl) RL.out RL.out ?_
              rw [ERR.out]
              simp only [Act.put, List.setIfInBounds_toArray, List.set_cons_zero, List.set_cons_succ]
              go_big_quiet_step ((intro _; rfl))
              go_big_quiet_step ((intro _; rfl))
              refine quiet_dig rfl (.tmp 11) rfl C 0 (by rfl) R RL.out (fun w' hw' => hw'.range lC RC.out) ?_
              simp only [Act.put, List.setIfInBounds_toArray, List.set_cons_zero, List.set_cons_succ]
              go_big_quiet_step ((intro hw'; exact HNC.out _ hw'))
              refine quiet_dig_neq rfl (.tmp 103) (.tmp 104) _ rfl R Z (by rfl) (by rfl) RL.out ZL.out ?_
              rw [HRZ.out]
              simp only [Act.put, List.setIfInBounds_toArray, List.set_cons_zero, List.set_cons_succ, Bool.not_true, Bool.not_false]
              repeat go_big_quiet_step ((intro _; rfl))
              refine wpQuiet_nil ?_
              intro wG hwG
              have BG := Lib.hid (FIN.out.trans (Below.mono hwG FIN.out.size))
              clear hwG HNC hex
              go_wp2_with fail
              go_ret
              exact ⟨rfl, BG.out⟩
  · have PK := fun w' => Path_key [] (fun _ h => by cases h) none 0 0 (Nat.le_refl _) (by decide) a0 hk w' (.inl rfl) rfl
    rw [show ([] : List En).length = 0 from rfl] at PK
    have hk := Lib.hid hk
    go_enter Tryd.func6, Tryd.ntmps6
    go_upto_region 1 with fail
    rw [← HH.out, ← HW0.out]
    go_wp2_with fail
    refine (LE.out).mono ?_
    rintro e w1 ⟨rfl, hb1⟩
    have B1 := Lib.hid (show Below w.heap.size w w1 from Below.trans B0.out (Below.mono hb1 (Below.size B0.out)))
    have GH_1 := Lib.hid ((Below.block hb1 H LH_0.out).trans GH_0.out)
    have LH_1 := Lib.hid (Nat.lt_of_lt_of_le LH_0.out (Below.size hb1))
    clear hb1
    go_wp2_with fail
    refine (TR0 w1 (RO.out.at_ B1.out)).mono ?_
    rintro e w2 ⟨rfl, hb2⟩
    have B2 := Lib.hid (show Below w.heap.size w w2 from Below.trans B1.out (Below.mono hb2 (Below.size B1.out)))
    have GH_2 := Lib.hid ((Below.block hb2 H LH_1.out).trans GH_1.out)
    have LH_2 := Lib.hid (Nat.lt_of_lt_of_le LH_1.out (Below.size hb2))
    clear hb2
    obtain ⟨U, hU⟩ : ∃ z, z = w2.heap.size := ⟨_, rfl⟩
    obtain ⟨w3, hw3⟩ : ∃ z, z = w2.alloc (.cells (dV Z) 23) := ⟨_, rfl⟩
    have st3 : Below w2.heap.size w2 w3 := by rw [hw3]; exact (Below.refl _ _).alloc (Nat.le_refl _) _
    have B3 := Lib.hid (show Below w.heap.size w w3 from Below.trans B2.out (Below.mono st3 (Below.size B2.out)))
    have GH_3 := Lib.hid ((Below.block st3 H LH_2.out).trans GH_2.out)
    have LH_3 := Lib.hid (Nat.lt_of_lt_of_le LH_2.out (Below.size st3))
    have GU_3 := Lib.hid (show w3.heap[U]? = some (.cells (dV Z) 23 (0, 0)) by rw [hw3, hU]; exact heap_alloc_new _ _)
    have LU_3 := Lib.hid (lt_of_heap GU_3.out)
    have HU := Lib.hid hU
    have Hw3 := Lib.hid hw3
    clear hU hw3 st3
    go_wp2_with (first
      | ((refine st_new rfl (.tmp 6) (.tmp 20) rfl Z ZL.out (by rfl) _ _ (by rfl) (by rfl) ?_); rw [← HU.out, ← Hw3.out]))
    refine (PK w3).mono ?_
    rintro e w4 ⟨rfl, hb4⟩
    have B4 := Lib.hid (show Below w.heap.size w w4 from Below.trans B3.out (Below.mono hb4 (Below.size B3.out)))
    have GH_4 := Lib.hid ((Below.block hb4 H LH_3.out).trans GH_3.out)
    have LH_4 := Lib.hid (Nat.lt_of_lt_of_le LH_3.out (Below.size hb4))
    have GU_4 := Lib.hid ((Below.block hb4 U LU_3.out).trans GU_3.out)
    have LU_4 := Lib.hid (Nat.lt_of_lt_of_le LU_3.out (Below.size hb4))
    clear hb4
    go_wp2_with fail
    have NC : ∀ w', InB w4.heap.size w4 w' → Calls Tryd.prog 19 #[] w' fun e w'' => e = .returned (.agg (dV Z)) ∧ InB w4.heap.size w4 w'' :=
      fun w' h => InB.call h (Nat.le_refl _) (Nothing_z HZ.out w')
    have HNC := Lib.hid NC
    have hex := inB_ex w4.heap.size w4
    have RU := Lib.hid (range_of_row GU_4.out)
    have lU := LU_4.out
    clear NC
    refine wp_region_inB w4.heap.size (by kernel_rfl) (by kernel_rfl) ?_
    go_big_quiet_step ((intro _; rfl))
    go_big_quiet_step ((intro _; rfl))
    go_big_quiet_step ((intro _; rfl))
    refine quiet_dig rfl (.tmp 6) rfl U 0 (by rfl) Z ZL.out (fun w' hw' => hw'.range lU RU.out) ?_
    simp only [Act.put, List.setIfInBounds_toArray, List.set_cons_zero, List.set_cons_succ]
    go_big_quiet_step ((intro hw'; exact HNC.out _ hw'))
    refine quiet_dig_neq rfl (.tmp 30) (.tmp 31) _ rfl Z Z (by rfl) (by rfl) ZL.out ZL.out ?_
    rw [ERZ.out]
    simp only [Act.put, List.setIfInBounds_toArray, List.set_cons_zero, List.set_cons_succ, Bool.not_true, Bool.not_false]
    go_big_quiet_step ((intro _; rfl))
    refine wpQuiet_nil ?_
    intro w5 hb5
    clear HNC hex RU lU
    have B5 := Lib.hid (show Below w.heap.size w w5 from Below.trans B4.out (Below.mono hb5 (Below.size B4.out)))
    have GH_5 := Lib.hid ((Below.block hb5 H LH_4.out).trans GH_4.out)
    have LH_5 := Lib.hid (Nat.lt_of_lt_of_le LH_4.out (Below.size hb5))
    have GU_5 := Lib.hid ((Below.block hb5 U LU_4.out).trans GU_4.out)
    have LU_5 := Lib.hid (Nat.lt_of_lt_of_le LU_4.out (Below.size hb5))
    clear hb5
    by_cases hneg : a0 < 0
    · have z1 : decide (a0 < 0) = true := decide_eq_true hneg
      clear hneg
      go_wp2_with fail
      go_ret
      exact ⟨rfl, B5.out⟩
    · have z1 : decide (a0 < 0) = false := decide_eq_false hneg
      have z2 : decide ((4294967295 : Int) < a0) = true := decide_eq_true (by have := hk.out; unfold KeyOk at this; omega)
      clear hneg
      go_wp2_with fail
      go_ret
      exact ⟨rfl, B5.out⟩

set_option maxRecDepth 100000 in
theorem lifted (os : Os) (started : os.Started) (H : Type) (enc : TypeId × Value → H) :
    ReturnsInHanded {} Tryd.checked os 6 .any (fun w args => (Rows.trieEmptySpec.pre enc Tryd.prog Tryd.f6 Rows.trieEmptyRow.domain false w args ∧ laidMetH Tryd.prog Laid.list w) ∧ sizedMet enc Tryd.prog Tryd.f6 (OpenSpec.ofChange Rows.trieEmptySpec) false w args) (Rows.trieEmptySpec.post enc Tryd.prog Tryd.f6 false true false false) := by
  refine returnsInHanded_of_change_and (C := Tryd.checked) (X := fun w _ => laidMetH Tryd.prog Laid.list w) (fun _ _ _ hh h => h.of_heap hh) Laid.own started (by kernel_rfl) Tryd.func6
    (ChangeSpec.witness_at (enc := enc) (C := Tryd.checked) (os := os) (X := fun w _ => laidMetH Tryd.prog Laid.list w) false (laidWorld os) #[.int .i64 0, .agg #[.int .u8 0, .int .u8 0, .int .u8 0, .int .u8 0, .int .u8 0, .int .u8 0, .int .u8 0, .int .u8 0, .int .u8 0, .int .u8 0, .int .u8 0, .int .u8 0, .int .u8 0, .int .u8 0, .int .u8 0, .int .u8 0, .int .u8 0, .int .u8 0, .int .u8 0, .int .u8 0, .int .u8 0, .int .u8 0, .int .u8 0, .int .u8 0, .int .u8 0, .int .u8 0, .int .u8 0, .int .u8 0, .int .u8 0, .int .u8 0, .int .u8 0, .int .u8 0]] 8 rfl (by kernel_rfl) (by kernel_rfl) (by kernel_rfl) (by kernel_rfl) (by kernel_rfl) (laidWorld_met os _)) ?_
  intro W base args ds gs before hval0 hW _ hsz hL _
  have hro := rounds_of_laid hL
  have hval : ∀ (j : Nat) t v, Tryd.f6.params[j]? = some t → args[j]? = some v → Value.okWide Tryd.prog W .any base t v := hval0
  have hW' := hW
  obtain ⟨p, q, hA0, hV, rfl, hfz, hnd⟩ := hW
  have hA : DataW.TrodAll enc Tryd.prog W 0 (fun _ => true) true Tryd.f6.params.toList args.toList ds p := hA0
  rw [Tryd.params6] at hA hval
  obtain ⟨v0, vs0, d0, ds0, p0, q0, hargs, rfl, rfl, h0, r0⟩ := trodAll_cons hA
  obtain ⟨v1, vs1, d1, ds1, p1, q1, rfl, rfl, rfl, h1, r1⟩ := trodAll_cons r0
  obtain ⟨rfl, rfl, rfl⟩ := trodAll_nil r1
  obtain rfl : args = #[v0, v1] := by cases args; simp_all
  obtain ⟨rfl, rfl⟩ := trodVars_none hV
  have k0 := h0
  have lt0 : ∀ x ∈ p0, x.block < W.heap.size := by obtain ⟨m, hm⟩ := k0; exact DataW.trod_lt m _ _ _ hm
  obtain ⟨a0, rfl, _, _, w0⟩ := open_int Tryd.underlying3 (hval 0 3 v0 rfl rfl) h0
  have b0 := bounds_i64 w0
  have k1 := h1
  have lt1 : ∀ x ∈ p1, x.block < W.heap.size := by obtain ⟨m, hm⟩ := k1; exact DataW.trod_lt m _ _ _ hm
  obtain ⟨x1, n1, rfl⟩ := open_digest Tryd.underlying23 Tryd.underlying5 (by kernel_rfl) (by kernel_rfl) (hval 1 23 v1 rfl rfl) h1
  clear hA0 hval0
  refine (walk a0 x1 W b0 n1 hro).mono fun e W' ⟨he, bel⟩ => ?_
  subst he
  exact ⟨_, rfl, _, _, _, [], _, [], hW', trodAll_mk1 (shut_bool Tryd.underlying4 _), (trodAll_cons_mk (Below.trod Laid.laidOut (by kernel_rfl) (of_decide_eq_true (by kernel_rfl)) k0 bel lt0) (trodAll_cons_mk (Below.trod Laid.laidOut (by kernel_rfl) (of_decide_eq_true (by kernel_rfl)) k1 bel lt1) trodAll_mk0)), rfl, bel.frame _, fun h => by cases h⟩

theorem over : Rows.trieEmptyRow.holds Tryd.pinned (OpenSpec.ofChange Rows.trieEmptySpec) :=
  OpenClaim.holds_of_wide 6 Tryd.f6 rfl rfl rfl rfl rfl rfl rfl ⟨rfl, rfl, rfl, rfl, rfl⟩ rfl rfl rfl rfl rfl (by kernel_rfl) Tryd.func6 (by kernel_rfl)
    (of_decide_eq_true (by kernel_rfl)) (by unfold Func.isWrapper; first | (rw [if_pos (by decide +kernel)]; kernel_rfl) | (rw [if_neg (by decide +kernel)]; exact ⟨rfl, rfl⟩))
    (fun os started H enc _ => lifted os started H enc)

theorem proved : Rows.TrieEmptyCardSaid :=
  Claim7.holds_tied_plain_at .later [] [.data] true (true, "dc8737acee50ade5d9e6156f300c62d149993f3a6545deb441f0e2b50ff31829") true
    over (fun _ h => by cases h) (by kernel_rfl) (fun _ h => by cases h) trieEmpty_row_tie rfl ⟨rfl, rfl⟩ (by kernel_rfl) rfl
    (fun f fn hf hfn => by
      obtain rfl : f = 6 := Option.some.inj ((show Tryd.prog.funcNamed "oathbook/oathbooklaw2.TrieEmpty" = some 6 by kernel_rfl).symm.trans hf) |>.symm
      obtain rfl : fn = Tryd.f6 := (Option.some.inj (Tryd.func6.symm.trans hfn)).symm
      exact ⟨by kernel_rfl, stand_of_all (by kernel_rfl)⟩)
    (by kernel_rfl)
#print axioms proved
end trieEmpty
end Go.Proofs.YtpeomfehdccmmaaDoor
