/- WHO KNOWS A PATH CAN GO ON: oathbooklaw2.TrieSets answers true at every input. -/
import Derived.Test.YtpeomfehdccmmaaDoorRows
import Derived.Test.YtpeomfehdccmmaaDoorTrieSetLaw
import Derived.Test.YtpeomfehdccmmaaDoorTrieEnt2
import Derived.Test.YtpeomfehdccmmaaDoorLaidRH
import Derived.WalkKit
import Derived.ProofKit
import Derived.OpenShut
import Derived.ShutString
import Derived.ChangeOld
import Derived.Below
namespace Go.Proofs.YtpeomfehdccmmaaDoor
open Go.ChangeShapes Go.WideShapes Go.ChangeAt Go.RowKit
open Go.ChangeMaps (open_string shut_string)
set_option linter.unusedVariables false
namespace trieSets

theorem Nothing_z {Z : List UInt8} (hZ : Z = nz) (w : World) : Calls Tryd.prog 19 #[] w fun e w' => e = .returned (.agg (dV Z)) ∧ Below w.heap.size w w' := by
  rw [hZ]; exact Nothing_calls w
theorem own_capS {w : World} {B : Nat} {e : TypeId} {z : Nat} {a : Option Addr} {n c : Nat} {xs : List Value} (h : w.ownsRow B e z (.slice a n c) n xs) : n ≤ c ∧ c ≤ 9223372036854775807 := by
  rcases h.2 with ⟨h1, _⟩ | ⟨g9, c9, cur9, h1, _, _, h5, h2, h3, h4⟩
  · simp only [Value.slice.injEq] at h1; omega
  · simp only [Value.slice.injEq] at h1; simp only [maxLen] at h2; omega
-- HOLE: the walk
set_option maxRecDepth 20000 in
set_option maxHeartbeats 16000000 in
theorem walk (x0 : List En) (a0 : Option Addr) (c0 e0 : Nat) (a1 : Int) (x2 : List UInt8) (a3 : Bool) (w : World) (l0 : x0.length ≤ c0) (m0 : c0 ≤ 9223372036854775807) (n0 : ∀ e ∈ x0, EnW e) (r0 : Rd w a0 e0 (cellsE x0)) (h1 : -9223372036854775808 ≤ a1 ∧ a1 ≤ 9223372036854775807) (n2 : x2.length = 32) (hro : RoundsAt w) (hg : ErrVar w) :
    Calls Tryd.prog 10 #[.slice a0 x0.length c0, .int .i64 a1, .agg (dV x2), .bool a3] w fun e w' => e = .returned (.bool true) ∧ Below w.heap.size w w' := by
  obtain ⟨Z, hZ⟩ : ∃ Z, Z = nz := ⟨_, rfl⟩
  have zl : Z.length = 32 := by rw [hZ]; rfl
  have zlit : (#[.int .u8 0, .int .u8 0, .int .u8 0, .int .u8 0, .int .u8 0, .int .u8 0, .int .u8 0, .int .u8 0, .int .u8 0, .int .u8 0, .int .u8 0, .int .u8 0, .int .u8 0, .int .u8 0, .int .u8 0, .int .u8 0, .int .u8 0, .int .u8 0, .int .u8 0, .int .u8 0, .int .u8 0, .int .u8 0, .int .u8 0, .int .u8 0, .int .u8 0, .int .u8 0, .int .u8 0, .int .u8 0, .int .u8 0, .int .u8 0, .int .u8 0, .int .u8 0] : Array Value) = dV Z := by rw [hZ]; exact zdig
  have ZL := Lib.hid zl
  have ZT := Lib.hid zlit
  have HZ := Lib.hid hZ
  clear zl zlit hZ
  obtain ⟨H, hH⟩ : ∃ H, H = w.heap.size := ⟨_, rfl⟩
  obtain ⟨w0, hw0⟩ : ∃ z, z = w.alloc (.cells (dV x2) 23) := ⟨_, rfl⟩
  have q0 : w0.heap.size = H + 1 := by rw [hw0, hH]; exact World.size_alloc _ _
  have s0 : Below (H) w w0 := by rw [hw0, hH]; exact (Below.refl _ _).alloc (Nat.le_refl _) _
  have t0 : Below (H + 1) w0 w0 := Below.refl _ _
  have bL : Below H w w0 := s0.trans (t0.mono (by omega))
  have g0 : w0.heap[H]? = some (.cells (dV x2) 23 (0, 0)) := by
    have g : w0.heap[H]? = some (.cells (dV x2) 23 (0, 0)) := by rw [hw0, hH]; exact heap_alloc_new _ _
    exact (t0.block _ (by omega)).trans g
  have bW : Below w.heap.size w w0 := by rw [← hH]; exact bL
  have hsz : H < w0.heap.size := by omega
  have HH := Lib.hid hH
  have HW0 := Lib.hid hw0
  have BL := Lib.hid bL
  have BW := Lib.hid bW
  have QL := Lib.hid q0
  have G0 := Lib.hid g0
  clear hH hw0 q0 s0 t0 g0 bL bW
  have B0 := BW
  have GH_0 := G0
  have LH_0 := Lib.hid hsz
  have LE := Lib.hid (Leafed_calls w0 (hro.at_ BW.out))
  have RO := Lib.hid hro
  have HG := Lib.hid hg
  have HL := Lib.hid (show ∀ e ∈ x0, e.val.length = 32 from fun e he => (n0 e he).1)
  have N2 := Lib.hid n2
  replace r0 := Lib.hid r0
  replace n0 := Lib.hid n0
  clear hro hg n2
  by_cases hf0 : mapF x0 = 0
  · by_cases hk : KeyOk a1
    · obtain ⟨k, rfl⟩ : ∃ k : Nat, a1 = (k : Int) := ⟨a1.toNat, by have := hk.1; omega⟩
      have hk2 : k < 4294967296 := by have := hk.2; omega
      have h64 := (apart_ok x0 hf0).1
      have TP := fun w' hr ho => Path_ok x0 n0.out a0 c0 e0 l0 m0 k hk2 w' hr hf0 ho
      obtain ⟨P, hP⟩ : ∃ P, P = pathD (leafF x0) k := ⟨_, rfl⟩
      have PN := Lib.hid (show P.length = 32 by rw [hP]; exact pathD_length _ _)
      have PD := Lib.hid (show ∀ p ∈ P, p.length = 32 by rw [hP, ← sibs_zero]; exact sibs_dig _ (leafF_length x0) k 0)
      rw [← hP] at TP
      have HP := Lib.hid hP
      have HF0 := Lib.hid hf0
      have HK := Lib.hid hk
      clear hP hf0 hk h1
      go_enter Tryd.func10, Tryd.ntmps10
      go_upto_region 1 with fail
      rw [← HH.out, ← HW0.out]
      go_wp2_with fail
      refine (LE.out).mono ?_
      rintro e w1 ⟨rfl, hb1⟩
      have B1 := Lib.hid (show Below w.heap.size w w1 from Below.trans B0.out (Below.mono hb1 (Below.size B0.out)))
      have GH_1 := Lib.hid ((Below.block hb1 H LH_0.out).trans GH_0.out)
      have LH_1 := Lib.hid (Nat.lt_of_lt_of_le LH_0.out (Below.size hb1))
      clear hb1
      go_wp2_with fail
      refine (TP w1 (r0.out.below B1.out) (RO.out.at_ B1.out)).mono ?_
      rintro e w2 ⟨pa, pc, rfl, hown0, hb2⟩
      have B2 := Lib.hid (show Below w.heap.size w w2 from Below.trans B1.out (Below.mono hb2 (Below.size B1.out)))
      have GH_2 := Lib.hid ((Below.block hb2 H LH_1.out).trans GH_1.out)
      have LH_2 := Lib.hid (Nat.lt_of_lt_of_le LH_1.out (Below.size hb2))
      have RP := Lib.hid (Rd.of_own hown0)
      clear hown0
      clear hb2
      go_wp2_with fail
      obtain ⟨B, hB⟩ : ∃ B, B = w2.heap.size := ⟨_, rfl⟩
      have HB := Lib.hid hB
      have RS := Lib.hid (r0.out.below B2.out)
      have hwB : w.heap.size ≤ B := by rw [hB]; exact B2.out.size
      have hHB : H < B := by rw [hB]; exact LH_2.out
      clear hB
      go_loopw [12, 13] (fun v i wr => ∃ (j m : Nat) (av : Option Addr) (cp : Nat), j ≤ x0.length ∧ m ≤ j ∧ i = .int .i64 j ∧ v = .slice av m cp ∧ m = (restE (x0.take j) (k : Int)).length ∧ wr.ownsRow B 35 33 (.slice av m cp) m (cellsE (restE (x0.take j) (k : Int))) ∧ Below B w2 wr) (fun _ i _ => x0.length - (intOf i).toNat)
      case atStart => exact ⟨0, 0, none, 0, Nat.zero_le _, Nat.zero_le _, rfl, rfl, rfl, World.ownsRow_nil _ _ _ _, Below.refl _ _⟩
      case round =>
        obtain ⟨j, m, av, cp, hj, hmj, rfl, rfl, hm, hown, hbl⟩ := hrel
        obtain ⟨wA, rfl⟩ : ∃ z, z = wr := ⟨_, rfl⟩
        have hsr : B ≤ wA.heap.size := by rw [HB.out]; exact hbl.size
        have hblw : Below w2.heap.size w2 wA := by rw [← HB.out]; exact hbl
        by_cases hlt : j < x0.length
        · obtain ⟨b, of_, hbb, hb, hrg⟩ := (RS.out.below hblw).ent HL.out hlt
          subst hbb
          have he32 := HL.out _ (List.getElem_mem hlt)
          have htk : x0.take (j + 1) = x0.take j ++ [x0[j]] := List.take_succ_eq_append_getElem hlt
          have j0 : (0 : Int) ≤ (j : Int) := by omega
          have j1 : (j : Int) < (x0.length : Int) := by omega
          have e4 : IntKind.i64.wrap ((j : Int) + 1) = (j : Int) + 1 := IntWalk.i64_in _ (by omega)
          obtain ⟨E, hE⟩ : ∃ E, E = x0[j] := ⟨_, rfl⟩
          rw [← hE] at hrg he32 htk
          have ck := range_ekey hrg
          have HRG := Lib.hid hrg
          have H32 := Lib.hid he32
          have HTK := Lib.hid htk
          have HO := Lib.hid hown
          have HM := Lib.hid hm
          have HBL := Lib.hid hbl
          clear htk hown hbl hrg he32 hE hb hm
          by_cases hkk : E.key = (k : Int)
          · have hkb : (E.key != (k : Int)) = false := by rw [bne_eq_false_iff_eq]; exact hkk
            have hre : restE (x0.take (j + 1)) (k : Int) = restE (x0.take j) (k : Int) := by rw [HTK.out]; unfold restE; rw [List.filter_append]; simp [hkk]
            have hO2 := HO.out
            rw [← hre] at hO2
            have O9 := Lib.hid hO2
            have M9 := Lib.hid (show m = (restE (x0.take (j + 1)) (k : Int)).length by rw [hre]; exact HM.out)
            clear hkk hO2 hre
            go_wp2_with fail
            go_roundw
            case rel => exact ⟨j + 1, m, av, cp, hlt, by omega, by go_num, rfl, M9.out, O9.out, HBL.out⟩
            case measure => simp [intOf]; omega
          · have hkb : (E.key != (k : Int)) = true := by rw [bne_iff_ne]; exact hkk
            have hre : restE (x0.take (j + 1)) (k : Int) = restE (x0.take j) (k : Int) ++ [E] := by rw [HTK.out]; unfold restE; rw [List.filter_append]; simp [hkk]
            have HPK := Lib.hid hre
            have M9 := Lib.hid (show m + 1 = (restE (x0.take (j + 1)) (k : Int)).length by rw [hre, List.length_append]; simp only [List.length_singleton]; rw [← HM.out])
            clear hkk hre
            go_wp2_with (first
              | ((refine ld_entG rfl (.tmp 49) rfl b (of_ + j * 33) (by rfl) E H32.out HRG.out ?_); simp only [Act.put, List.setIfInBounds_toArray, List.set_cons_zero, List.set_cons_succ])
              | ((refine wpl_build1 40 35 _ 33 40 Tryd.underlying40 info_entz (by omega) (by omega) rfl (.tmp 50) rfl (eV E.key E.val) (by rfl) (eVs H32.out) ?_); simp only [Act.put, List.setIfInBounds_toArray, List.set_cons_zero, List.set_cons_succ])
              | (at_builtin; refine appAllw 40 35 (.agg (eV 0 nz)) 33 40 Tryd.underlying40 info_entz (eV_size 0 nz rfl) (by omega) rfl (.tmp 46) (.tmp 51) (by rfl) B _ m _ (by rfl) (HO.out.alloc _) (some ⟨wA.heap.size, 0, none⟩) 1 1 (cellsE [E]) (by rfl) _ (Rd.ent1 wA E) (by rw [cellsE_one, eL_length H32.out]) (cellsE_one_all _) (by omega) (by omega) (by rw [World.size_alloc]; omega) ?_; intro av3 cp3 w9 hown9 hb9; rw [← cellsE_append, ← HPK.out] at hown9; have O9 := Lib.hid hown9; have B9 := Lib.hid (HBL.out.trans (Below.trans ((Below.refl _ wA).alloc hsr _) hb9)); clear hown9 hb9))
            go_roundw
            case rel => exact ⟨j + 1, m + 1, av3, cp3, hlt, by omega, by go_num, rfl, M9.out, O9.out, B9.out⟩
            case measure => simp [intOf]; omega
        · obtain rfl : j = x0.length := by omega
          rw [List.take_of_length_le (Nat.le_refl _)] at hown hm
          have D20 := Lib.hid hblw
          have HO := Lib.hid hown
          have HM := Lib.hid hm
          have GHB := GH_2
          have BC := B2
          have HBC := Lib.hid (show H < w2.heap.size by rw [← HB.out]; exact hHB)
          have SF := Lib.hid (set_fault x0 (k : Int) HF0.out HK.out x2)
          have HRW := Lib.hid (show ∀ e ∈ restE x0 (k : Int), EnW e from fun e he => n0.out e (List.mem_filter.1 he).1)
          clear hown hm hbl hblw
          have O_20 := HO
          go_wp2_with fail
          refine (Nothing_z HZ.out wA).mono ?_
          rintro e w21 ⟨rfl, hb21⟩
          have D21 := Lib.hid (show Below w2.heap.size w2 w21 from Below.trans D20.out (Below.mono hb21 (Below.size D20.out)))
          have O_21 := Lib.hid (own_below O_20.out hb21)
          clear hb21
          obtain ⟨Lb, hLb⟩ : ∃ z, z = w21.heap.size := ⟨_, rfl⟩
          obtain ⟨w22, hw22⟩ : ∃ z, z = w21.alloc (.cells (dV Z) 23) := ⟨_, rfl⟩
          have st22 : Below w21.heap.size w21 w22 := by rw [hw22]; exact (Below.refl _ _).alloc (Nat.le_refl _) _
          have D22 := Lib.hid (show Below w2.heap.size w2 w22 from Below.trans D21.out (Below.mono st22 (Below.size D21.out)))
          have O_22 := Lib.hid (own_below O_21.out st22)
          have GLb_22 := Lib.hid (show w22.heap[Lb]? = some (.cells (dV Z) 23 (0, 0)) by rw [hw22, hLb]; exact heap_alloc_new _ _)
          have LLb_22 := Lib.hid (lt_of_heap GLb_22.out)
          have HLb := Lib.hid hLb
          have Hw22 := Lib.hid hw22
          clear hLb hw22 st22
          cases a3 with
          | true =>
            have HYO := O_22.out
            obtain ⟨ys, hys⟩ : ∃ ys, ys = restE x0 (k : Int) := ⟨_, rfl⟩
            have hyl : ys.length = m := by rw [hys]; exact HM.out.symm
            have hyw : ∀ e ∈ ys, EnW e := by rw [hys]; exact HRW.out
            rw [← hys] at HYO
            have RY := Rd.of_own HYO
            have hcp := own_cappW HYO
            obtain ⟨R, hR⟩ : ∃ R, R = rootD ys := ⟨_, rfl⟩
            have RL := Lib.hid (show R.length = 32 by rw [hR]; exact rootD_length ys)
            have hfold : foldD k Z P = R := by rw [hR, HP.out]; refine set_root x0 ys k (by omega) Z fun q => ?_; rw [hys]; rw [HZ.out]; exact rest_leaf x0 k q
            have HFO := Lib.hid hfold
            have hfy : mapF ys = 0 := by rw [hys]; exact SF.out.1
            have TRY := TRoot_ok ys hyw av cp _ (by rw [hyl]; exact hcp.1) hcp.2 w22 RY hfy (RO.out.at_ (BC.out.trans (Below.mono D22.out BC.out.size)))
            rw [hyl, ← hR] at TRY
            have HTRY := Lib.hid TRY
            clear TRY hyw RY HYO hfy hyl hys hcp hR hfold
            go_wp2_with (first
              | ((refine st_new rfl (.tmp 14) (.tmp 53) rfl Z ZL.out (by rfl) _ _ (by rfl) (by rfl) ?_); rw [← HLb.out, ← Hw22.out]))
            refine (HTRY.out).mono ?_
            rintro e w23 ⟨rfl, hb23⟩
            have D23 := Lib.hid (show Below w2.heap.size w2 w23 from Below.trans D22.out (Below.mono hb23 (Below.size D22.out)))
            have GLb_23 := Lib.hid ((Below.block hb23 Lb LLb_22.out).trans GLb_22.out)
            have LLb_23 := Lib.hid (Nat.lt_of_lt_of_le LLb_22.out (Below.size hb23))
            have O_23 := Lib.hid (own_below O_22.out hb23)
            clear hb23
            obtain ⟨U, hU⟩ : ∃ z, z = w23.heap.size := ⟨_, rfl⟩
            obtain ⟨w24, hw24⟩ : ∃ z, z = w23.alloc (.cells (dV R) 23) := ⟨_, rfl⟩
            have st24 : Below w23.heap.size w23 w24 := by rw [hw24]; exact (Below.refl _ _).alloc (Nat.le_refl _) _
            have D24 := Lib.hid (show Below w2.heap.size w2 w24 from Below.trans D23.out (Below.mono st24 (Below.size D23.out)))
            have GLb_24 := Lib.hid ((Below.block st24 Lb LLb_23.out).trans GLb_23.out)
            have LLb_24 := Lib.hid (Nat.lt_of_lt_of_le LLb_23.out (Below.size st24))
            have O_24 := Lib.hid (own_below O_23.out st24)
            have GU_24 := Lib.hid (show w24.heap[U]? = some (.cells (dV R) 23 (0, 0)) by rw [hw24, hU]; exact heap_alloc_new _ _)
            have LU_24 := Lib.hid (lt_of_heap GU_24.out)
            have HU := Lib.hid hU
            have Hw24 := Lib.hid hw24
            clear hU hw24 st24
            have FC := Fold_calls k hk2 Z ZL.out P PN.out PD.out pa pc _ w24 (RP.out.below D24.out) (RO.out.at_ (BC.out.trans (Below.mono D24.out BC.out.size)))
            rw [HFO.out] at FC
            have HFC := Lib.hid FC
            clear FC
            go_wp2_with (first
              | ((refine st_new rfl (.tmp 17) (.tmp 75) rfl R RL.out (by rfl) _ _ (by rfl) (by rfl) ?_); rw [← HU.out, ← Hw24.out])
              | ((refine ld_digG rfl (.tmp 14) rfl (Lb) 0 (by rfl) Z ZL.out (range_of_row GLb_24.out) ?_); simp only [Act.put, List.setIfInBounds_toArray, List.set_cons_zero, List.set_cons_succ]))
            refine (HFC.out).mono ?_
            rintro e w25 ⟨rfl, hb25⟩
            have D25 := Lib.hid (show Below w2.heap.size w2 w25 from Below.trans D24.out (Below.mono hb25 (Below.size D24.out)))
            have GLb_25 := Lib.hid ((Below.block hb25 Lb LLb_24.out).trans GLb_24.out)
            have LLb_25 := Lib.hid (Nat.lt_of_lt_of_le LLb_24.out (Below.size hb25))
            have GU_25 := Lib.hid ((Below.block hb25 U LU_24.out).trans GU_24.out)
            have LU_25 := Lib.hid (Nat.lt_of_lt_of_le LU_24.out (Below.size hb25))
            have O_25 := Lib.hid (own_below O_24.out hb25)
            clear hb25
            obtain ⟨V, hV⟩ : ∃ z, z = w25.heap.size := ⟨_, rfl⟩
            obtain ⟨w26, hw26⟩ : ∃ z, z = w25.alloc (.cells (dV R) 23) := ⟨_, rfl⟩
            have st26 : Below w25.heap.size w25 w26 := by rw [hw26]; exact (Below.refl _ _).alloc (Nat.le_refl _) _
            have D26 := Lib.hid (show Below w2.heap.size w2 w26 from Below.trans D25.out (Below.mono st26 (Below.size D25.out)))
            have GLb_26 := Lib.hid ((Below.block st26 Lb LLb_25.out).trans GLb_25.out)
            have LLb_26 := Lib.hid (Nat.lt_of_lt_of_le LLb_25.out (Below.size st26))
            have GU_26 := Lib.hid ((Below.block st26 U LU_25.out).trans GU_25.out)
            have LU_26 := Lib.hid (Nat.lt_of_lt_of_le LU_25.out (Below.size st26))
            have O_26 := Lib.hid (own_below O_25.out st26)
            have GV_26 := Lib.hid (show w26.heap[V]? = some (.cells (dV R) 23 (0, 0)) by rw [hw26, hV]; exact heap_alloc_new _ _)
            have LV_26 := Lib.hid (lt_of_heap GV_26.out)
            have HV := Lib.hid hV
            have Hw26 := Lib.hid hw26
            clear hV hw26 st26
            have ERR := Lib.hid (show (R == R) = true by simp)
            go_wp2_with (first
              | ((refine st_new rfl (.tmp 19) (.tmp 82) rfl R RL.out (by rfl) _ _ (by rfl) (by rfl) ?_); rw [← HV.out, ← Hw26.out])
              | ((refine ld_digG rfl (.tmp 19) rfl (V) 0 (by rfl) R RL.out (range_of_row GV_26.out) ?_); simp only [Act.put, List.setIfInBounds_toArray, List.set_cons_zero, List.set_cons_succ])
              | ((refine ld_digG rfl (.tmp 17) rfl (U) 0 (by rfl) R RL.out (range_of_row GU_26.out) ?_); simp only [Act.put, List.setIfInBounds_toArray, List.set_cons_zero, List.set_cons_succ])
              | ((refine eq_digG rfl (.tmp 96) (.tmp 97) _ rfl R R (by rfl) (by rfl) RL.out RL.out ?_); rw [ERR.out]; simp only [Act.put, List.setIfInBounds_toArray, List.set_cons_zero, List.set_cons_succ]))
            go_ret
            exact ⟨rfl, (BC.out.trans (Below.mono D26.out BC.out.size))⟩
          | false =>
            have LC := Leaf_calls k hk2 x2 N2.out
            obtain ⟨LF, hLF⟩ : ∃ L, L = leafD k x2 := ⟨_, rfl⟩
            have LFL := Lib.hid (show LF.length = 32 by rw [hLF]; exact leafD_length _ _)
            rw [← hLF] at LC
            have HLF := Lib.hid hLF
            have hs22 : w2.heap.size ≤ w22.heap.size := D22.out.size
            have hBs : B ≤ w22.heap.size := by rw [HB.out]; exact hs22
            clear hLF
            go_wp2_with (first
              | ((refine st_new rfl (.tmp 14) (.tmp 53) rfl Z ZL.out (by rfl) _ _ (by rfl) (by rfl) ?_); rw [← HLb.out, ← Hw22.out])
              | ((refine ld_digG rfl (.tmp 6) rfl (H) 0 (by rfl) x2 N2.out (by first | exact (range_of_row ((Below.block D22.out H HBC.out).trans GHB.out)) | exact LD6.out) ?_); simp only [Act.put, List.setIfInBounds_toArray, List.set_cons_zero, List.set_cons_succ])
              | ((refine wpl_entKV rfl (.tmp 57) (.tmp 58) rfl (k : Int) (by rfl) x2 N2.out (by rfl) ?_); simp only [Act.put, List.setIfInBounds_toArray, List.set_cons_zero, List.set_cons_succ])
              | ((refine wpl_build1 40 35 _ 33 40 Tryd.underlying40 info_entz (by omega) (by omega) rfl (.tmp 59) rfl (eV (k : Int) x2) (by rfl) (eV_size _ _ N2.out) ?_); simp only [Act.put, List.setIfInBounds_toArray, List.set_cons_zero, List.set_cons_succ])
              | (at_builtin; refine appRdg 40 35 (.agg (eV 0 nz)) 33 40 Tryd.underlying40 info_entz (eV_size 0 nz rfl) (by omega) rfl (.tmp 56) (.tmp 60) (by rfl) B _ m _ (by rfl) (O_22.out.alloc _) ⟨w22.heap.size, 0, none⟩ 1 1 (cellsE [⟨(k : Int), x2⟩]) (by rfl) _ (Rd.ent1 w22 ⟨(k : Int), x2⟩) (by rw [cellsE_one, eL_length N2.out]) (cellsE_one_all _) (by omega) (by omega) (by omega) (by rw [World.size_alloc]; omega) ?_; intro av3 cp3 w23 hown9 hb9 hk9; rw [← cellsE_append] at hown9; have O9 := Lib.hid hown9; have B9 := Lib.hid hb9; have K9 := Lib.hid hk9; have LD6 := Lib.hid (range_of_row ((hb9.block H hHB).trans ((Below.heap_alloc w22 _ H (Nat.lt_of_lt_of_le HBC.out D22.out.size)).trans ((Below.block D22.out H HBC.out).trans GHB.out)))); clear hown9 hb9 hk9)
              | ((refine wpl_entKV rfl (.tmp 63) (.tmp 64) rfl (k : Int) (by rfl) x2 N2.out (by rfl) ?_); simp only [Act.put, List.setIfInBounds_toArray, List.set_cons_zero, List.set_cons_succ]))
            have st23 : Below w2.heap.size w22 w23 := by rw [← HB.out]; exact Below.trans ((Below.refl _ w22).alloc hBs _) B9.out
            have D23 := Lib.hid (D22.out.trans st23)
            have GLb_23 := Lib.hid (K9.out Lb _ _ _ ((Below.heap_alloc w22 _ Lb LLb_22.out).trans GLb_22.out) (by decide))
            have LLb_23 := Lib.hid (lt_of_heap GLb_23.out)
            have HYO := O9.out
            obtain ⟨ys, hys⟩ : ∃ ys, ys = restE x0 (k : Int) ++ [⟨(k : Int), x2⟩] := ⟨_, rfl⟩
            have hyl : ys.length = m + 1 := by rw [hys]; rw [List.length_append, ← HM.out]; rfl
            have hyw : ∀ e ∈ ys, EnW e := by rw [hys]; intro e he; rcases List.mem_append.1 he with h | h; exact HRW.out e h; exact enw _ _ N2.out (by omega) e h
            rw [← hys] at HYO
            have RY := Rd.of_own HYO
            have hcp := own_cappW HYO
            obtain ⟨R, hR⟩ : ∃ R, R = rootD ys := ⟨_, rfl⟩
            have RL := Lib.hid (show R.length = 32 by rw [hR]; exact rootD_length ys)
            have hfold : foldD k LF P = R := by rw [hR, HP.out]; refine set_root x0 ys k (by omega) LF fun q => ?_; rw [hys]; rw [HLF.out]; exact put_leaf x0 k x2 q
            have HFO := Lib.hid hfold
            have RY_23 := Lib.hid RY
            have HCP := Lib.hid hcp
            have HYL := Lib.hid hyl
            have HYS := Lib.hid hys
            have HYW := Lib.hid hyw
            have HR := Lib.hid hR
            clear st23 RY HYO hyl hys hyw hcp hR hfold
            refine (LC w23 (RO.out.at_ (BC.out.trans (Below.mono D23.out BC.out.size)))).mono ?_
            rintro e w24 ⟨rfl, hb24⟩
            have D24 := Lib.hid (show Below w2.heap.size w2 w24 from Below.trans D23.out (Below.mono hb24 (Below.size D23.out)))
            have GLb_24 := Lib.hid ((Below.block hb24 Lb LLb_23.out).trans GLb_23.out)
            have LLb_24 := Lib.hid (Nat.lt_of_lt_of_le LLb_23.out (Below.size hb24))
            have RY_24 := Lib.hid (RY_23.out.below hb24)
            clear hb24
            obtain ⟨Y, hY⟩ : ∃ z, z = w24.heap.size := ⟨_, rfl⟩
            obtain ⟨w25, hw25⟩ : ∃ z, z = w24.alloc (.cells (dV LF) 23) := ⟨_, rfl⟩
            have st25 : Below w24.heap.size w24 w25 := by rw [hw25]; exact (Below.refl _ _).alloc (Nat.le_refl _) _
            have D25 := Lib.hid (show Below w2.heap.size w2 w25 from Below.trans D24.out (Below.mono st25 (Below.size D24.out)))
            have GLb_25 := Lib.hid ((Below.block st25 Lb LLb_24.out).trans GLb_24.out)
            have LLb_25 := Lib.hid (Nat.lt_of_lt_of_le LLb_24.out (Below.size st25))
            have RY_25 := Lib.hid (RY_24.out.below st25)
            have GY_25 := Lib.hid (show w25.heap[Y]? = some (.cells (dV LF) 23 (0, 0)) by rw [hw25, hY]; exact heap_alloc_new _ _)
            have LY_25 := Lib.hid (lt_of_heap GY_25.out)
            have HY := Lib.hid hY
            have Hw25 := Lib.hid hw25
            clear hY hw25 st25
            obtain ⟨w26, hw26⟩ : ∃ z, z = w25.setRow Lb (dV LF) := ⟨_, rfl⟩
            have D26 := Lib.hid (show Below w2.heap.size w2 w26 by rw [hw26]; exact below_setRowW D25.out (by rw [HLb.out]; exact D21.out.size) _)
            have GLb_26 := Lib.hid (show w26.heap[Lb]? = some (.cells (dV LF) 23 (0, 0)) by rw [hw26]; exact setRow_heap _ _ _ _ _ _ GLb_25.out)
            have LLb_26 := Lib.hid (lt_of_heap GLb_26.out)
            have RY_26 := Lib.hid (show Rd w26 av3 35 (cellsE ys) by rw [hw26]; exact rd_setRow RY_25.out GLb_25.out (by decide) _)
            have Hw26 := Lib.hid hw26
            clear hw26
            by_cases hfy : mapF ys = 0
            · have TRY := TRoot_ok ys HYW.out av3 cp3 _ (by rw [HYL.out]; exact HCP.out.1) HCP.out.2 w26 RY_26.out hfy (RO.out.at_ (BC.out.trans (Below.mono D26.out BC.out.size)))
              rw [HYL.out, ← HR.out] at TRY
              have HTRY := Lib.hid TRY
              clear TRY hfy
              go_wp2_with (first
                | ((refine st_new rfl (.tmp 15) (.tmp 67) rfl LF LFL.out (by rfl) _ _ (by rfl) (by rfl) ?_); rw [← HY.out, ← Hw25.out])
                | ((refine ld_digG rfl (.tmp 15) rfl (Y) 0 (by rfl) LF LFL.out (range_of_row GY_25.out) ?_); simp only [Act.put, List.setIfInBounds_toArray, List.set_cons_zero, List.set_cons_succ])
                | ((refine st_row rfl (.tmp 14) (.tmp 71) rfl Lb LF LFL.out (by rfl) (by rfl) (dV Z) (dV_size ZL.out) _ GLb_25.out ?_); rw [← Hw26.out]))
              refine (HTRY.out).mono ?_
              rintro e w27 ⟨rfl, hb27⟩
              have D27 := Lib.hid (show Below w2.heap.size w2 w27 from Below.trans D26.out (Below.mono hb27 (Below.size D26.out)))
              have GLb_27 := Lib.hid ((Below.block hb27 Lb LLb_26.out).trans GLb_26.out)
              have LLb_27 := Lib.hid (Nat.lt_of_lt_of_le LLb_26.out (Below.size hb27))
              clear hb27
              obtain ⟨U, hU⟩ : ∃ z, z = w27.heap.size := ⟨_, rfl⟩
              obtain ⟨w28, hw28⟩ : ∃ z, z = w27.alloc (.cells (dV R) 23) := ⟨_, rfl⟩
              have st28 : Below w27.heap.size w27 w28 := by rw [hw28]; exact (Below.refl _ _).alloc (Nat.le_refl _) _
              have D28 := Lib.hid (show Below w2.heap.size w2 w28 from Below.trans D27.out (Below.mono st28 (Below.size D27.out)))
              have GLb_28 := Lib.hid ((Below.block st28 Lb LLb_27.out).trans GLb_27.out)
              have LLb_28 := Lib.hid (Nat.lt_of_lt_of_le LLb_27.out (Below.size st28))
              have GU_28 := Lib.hid (show w28.heap[U]? = some (.cells (dV R) 23 (0, 0)) by rw [hw28, hU]; exact heap_alloc_new _ _)
              have LU_28 := Lib.hid (lt_of_heap GU_28.out)
              have HU := Lib.hid hU
              have Hw28 := Lib.hid hw28
              clear hU hw28 st28
              have FC := Fold_calls k hk2 LF LFL.out P PN.out PD.out pa pc _ w28 (RP.out.below D28.out) (RO.out.at_ (BC.out.trans (Below.mono D28.out BC.out.size)))
              rw [HFO.out] at FC
              have HFC := Lib.hid FC
              clear FC
              go_wp2_with (first
                | ((refine st_new rfl (.tmp 17) (.tmp 75) rfl R RL.out (by rfl) _ _ (by rfl) (by rfl) ?_); rw [← HU.out, ← Hw28.out])
                | ((refine ld_digG rfl (.tmp 14) rfl (Lb) 0 (by rfl) LF LFL.out (range_of_row GLb_28.out) ?_); simp only [Act.put, List.setIfInBounds_toArray, List.set_cons_zero, List.set_cons_succ]))
              refine (HFC.out).mono ?_
              rintro e w29 ⟨rfl, hb29⟩
              have D29 := Lib.hid (show Below w2.heap.size w2 w29 from Below.trans D28.out (Below.mono hb29 (Below.size D28.out)))
              have GLb_29 := Lib.hid ((Below.block hb29 Lb LLb_28.out).trans GLb_28.out)
              have LLb_29 := Lib.hid (Nat.lt_of_lt_of_le LLb_28.out (Below.size hb29))
              have GU_29 := Lib.hid ((Below.block hb29 U LU_28.out).trans GU_28.out)
              have LU_29 := Lib.hid (Nat.lt_of_lt_of_le LU_28.out (Below.size hb29))
              clear hb29
              obtain ⟨V, hV⟩ : ∃ z, z = w29.heap.size := ⟨_, rfl⟩
              obtain ⟨w30, hw30⟩ : ∃ z, z = w29.alloc (.cells (dV R) 23) := ⟨_, rfl⟩
              have st30 : Below w29.heap.size w29 w30 := by rw [hw30]; exact (Below.refl _ _).alloc (Nat.le_refl _) _
              have D30 := Lib.hid (show Below w2.heap.size w2 w30 from Below.trans D29.out (Below.mono st30 (Below.size D29.out)))
              have GLb_30 := Lib.hid ((Below.block st30 Lb LLb_29.out).trans GLb_29.out)
              have LLb_30 := Lib.hid (Nat.lt_of_lt_of_le LLb_29.out (Below.size st30))
              have GU_30 := Lib.hid ((Below.block st30 U LU_29.out).trans GU_29.out)
              have LU_30 := Lib.hid (Nat.lt_of_lt_of_le LU_29.out (Below.size st30))
              have GV_30 := Lib.hid (show w30.heap[V]? = some (.cells (dV R) 23 (0, 0)) by rw [hw30, hV]; exact heap_alloc_new _ _)
              have LV_30 := Lib.hid (lt_of_heap GV_30.out)
              have HV := Lib.hid hV
              have Hw30 := Lib.hid hw30
              clear hV hw30 st30
              have ERR := Lib.hid (show (R == R) = true by simp)
              go_wp2_with (first
                | ((refine st_new rfl (.tmp 19) (.tmp 82) rfl R RL.out (by rfl) _ _ (by rfl) (by rfl) ?_); rw [← HV.out, ← Hw30.out])
                | ((refine ld_digG rfl (.tmp 19) rfl (V) 0 (by rfl) R RL.out (range_of_row GV_30.out) ?_); simp only [Act.put, List.setIfInBounds_toArray, List.set_cons_zero, List.set_cons_succ])
                | ((refine ld_digG rfl (.tmp 17) rfl (U) 0 (by rfl) R RL.out (range_of_row GU_30.out) ?_); simp only [Act.put, List.setIfInBounds_toArray, List.set_cons_zero, List.set_cons_succ])
                | ((refine eq_digG rfl (.tmp 96) (.tmp 97) _ rfl R R (by rfl) (by rfl) RL.out RL.out ?_); rw [ERR.out]; simp only [Act.put, List.setIfInBounds_toArray, List.set_cons_zero, List.set_cons_succ]))
              go_ret
              exact ⟨rfl, (BC.out.trans (Below.mono D30.out BC.out.size))⟩
            · have hf4 : mapF ys = 4 := by
                rw [HYS.out] at hfy ⊢
                exact SF.out.2.resolve_left hfy
              have TRY := TRoot_bad ys HYW.out av3 cp3 _ (by rw [HYL.out]; exact HCP.out.1) HCP.out.2 w26 RY_26.out 4 hf4 (by decide)
              rw [HYL.out, ← HZ.out] at TRY
              have HTRY := Lib.hid TRY
              clear TRY hfy hf4 R HR RL HFO
              go_wp2_with (first
                | ((refine st_new rfl (.tmp 15) (.tmp 67) rfl LF LFL.out (by rfl) _ _ (by rfl) (by rfl) ?_); rw [← HY.out, ← Hw25.out])
                | ((refine ld_digG rfl (.tmp 15) rfl (Y) 0 (by rfl) LF LFL.out (range_of_row GY_25.out) ?_); simp only [Act.put, List.setIfInBounds_toArray, List.set_cons_zero, List.set_cons_succ])
                | ((refine st_row rfl (.tmp 14) (.tmp 71) rfl Lb LF LFL.out (by rfl) (by rfl) (dV Z) (dV_size ZL.out) _ GLb_25.out ?_); rw [← Hw26.out]))
              refine (HTRY.out).mono ?_
              rintro e w27 ⟨rfl, hb27⟩
              have D27 := Lib.hid (show Below w2.heap.size w2 w27 from Below.trans D26.out (Below.mono hb27 (Below.size D26.out)))
              have GLb_27 := Lib.hid ((Below.block hb27 Lb LLb_26.out).trans GLb_26.out)
              have LLb_27 := Lib.hid (Nat.lt_of_lt_of_le LLb_26.out (Below.size hb27))
              clear hb27
              obtain ⟨U, hU⟩ : ∃ z, z = w27.heap.size := ⟨_, rfl⟩
              obtain ⟨w28, hw28⟩ : ∃ z, z = w27.alloc (.cells (dV Z) 23) := ⟨_, rfl⟩
              have st28 : Below w27.heap.size w27 w28 := by rw [hw28]; exact (Below.refl _ _).alloc (Nat.le_refl _) _
              have D28 := Lib.hid (show Below w2.heap.size w2 w28 from Below.trans D27.out (Below.mono st28 (Below.size D27.out)))
              have GLb_28 := Lib.hid ((Below.block st28 Lb LLb_27.out).trans GLb_27.out)
              have LLb_28 := Lib.hid (Nat.lt_of_lt_of_le LLb_27.out (Below.size st28))
              have GU_28 := Lib.hid (show w28.heap[U]? = some (.cells (dV Z) 23 (0, 0)) by rw [hw28, hU]; exact heap_alloc_new _ _)
              have LU_28 := Lib.hid (lt_of_heap GU_28.out)
              have HU := Lib.hid hU
              have Hw28 := Lib.hid hw28
              clear hU hw28 st28
              have FC := Fold_calls k hk2 LF LFL.out P PN.out PD.out pa pc _ w28 (RP.out.below D28.out) (RO.out.at_ (BC.out.trans (Below.mono D28.out BC.out.size)))
              obtain ⟨R, hR⟩ : ∃ R, R = foldD k LF P := ⟨_, rfl⟩
              have RL := Lib.hid (show R.length = 32 by rw [hR]; exact foldD_length k P LF LFL.out)
              rw [← hR] at FC
              have HFC := Lib.hid FC
              clear FC hR
              go_wp2_with (first
                | ((refine st_new rfl (.tmp 17) (.tmp 75) rfl Z ZL.out (by rfl) _ _ (by rfl) (by rfl) ?_); rw [← HU.out, ← Hw28.out])
                | ((refine ld_digG rfl (.tmp 14) rfl (Lb) 0 (by rfl) LF LFL.out (range_of_row GLb_28.out) ?_); simp only [Act.put, List.setIfInBounds_toArray, List.set_cons_zero, List.set_cons_succ]))
              refine (HFC.out).mono ?_
              rintro e w29 ⟨rfl, hb29⟩
              have D29 := Lib.hid (show Below w2.heap.size w2 w29 from Below.trans D28.out (Below.mono hb29 (Below.size D28.out)))
              have GLb_29 := Lib.hid ((Below.block hb29 Lb LLb_28.out).trans GLb_28.out)
              have LLb_29 := Lib.hid (Nat.lt_of_lt_of_le LLb_28.out (Below.size hb29))
              have GU_29 := Lib.hid ((Below.block hb29 U LU_28.out).trans GU_28.out)
              have LU_29 := Lib.hid (Nat.lt_of_lt_of_le LU_28.out (Below.size hb29))
              clear hb29
              obtain ⟨V, hV⟩ : ∃ z, z = w29.heap.size := ⟨_, rfl⟩
              obtain ⟨w30, hw30⟩ : ∃ z, z = w29.alloc (.cells (dV R) 23) := ⟨_, rfl⟩
              have st30 : Below w29.heap.size w29 w30 := by rw [hw30]; exact (Below.refl _ _).alloc (Nat.le_refl _) _
              have D30 := Lib.hid (show Below w2.heap.size w2 w30 from Below.trans D29.out (Below.mono st30 (Below.size D29.out)))
              have GLb_30 := Lib.hid ((Below.block st30 Lb LLb_29.out).trans GLb_29.out)
              have LLb_30 := Lib.hid (Nat.lt_of_lt_of_le LLb_29.out (Below.size st30))
              have GU_30 := Lib.hid ((Below.block st30 U LU_29.out).trans GU_29.out)
              have LU_30 := Lib.hid (Nat.lt_of_lt_of_le LU_29.out (Below.size st30))
              have GV_30 := Lib.hid (show w30.heap[V]? = some (.cells (dV R) 23 (0, 0)) by rw [hw30, hV]; exact heap_alloc_new _ _)
              have LV_30 := Lib.hid (lt_of_heap GV_30.out)
              have HV := Lib.hid hV
              have Hw30 := Lib.hid hw30
              clear hV hw30 st30
              go_wp2_with (first
                | ((refine st_new rfl (.tmp 19) (.tmp 82) rfl R RL.out (by rfl) _ _ (by rfl) (by rfl) ?_); rw [← HV.out, ← Hw30.out]))
              refine (Error_err 4 4 true (by decide) w30 (HG.out.at_ (BC.out.trans (Below.mono D30.out BC.out.size)))).mono ?_
              rintro e w31 ⟨rfl, hb31⟩
              have D31 := Lib.hid (show Below w2.heap.size w2 w31 from Below.trans D30.out (Below.mono hb31 (Below.size D30.out)))
              have GLb_31 := Lib.hid ((Below.block hb31 Lb LLb_30.out).trans GLb_30.out)
              have LLb_31 := Lib.hid (Nat.lt_of_lt_of_le LLb_30.out (Below.size hb31))
              have GU_31 := Lib.hid ((Below.block hb31 U LU_30.out).trans GU_30.out)
              have LU_31 := Lib.hid (Nat.lt_of_lt_of_le LU_30.out (Below.size hb31))
              have GV_31 := Lib.hid ((Below.block hb31 V LV_30.out).trans GV_30.out)
              have LV_31 := Lib.hid (Nat.lt_of_lt_of_le LV_30.out (Below.size hb31))
              clear hb31
              go_wp2_with fail
              go_ret
              exact ⟨rfl, (BC.out.trans (Below.mono D31.out BC.out.size))⟩
    · have HF0 := Lib.hid hf0
      have HK := Lib.hid hk
      clear hf0 hk h1
      go_enter Tryd.func10, Tryd.ntmps10
      go_upto_region 1 with fail
      rw [← HH.out, ← HW0.out]
      go_wp2_with fail
      refine (LE.out).mono ?_
      rintro e w1 ⟨rfl, hb1⟩
      have B1 := Lib.hid (show Below w.heap.size w w1 from Below.trans B0.out (Below.mono hb1 (Below.size B0.out)))
      have GH_1 := Lib.hid ((Below.block hb1 H LH_0.out).trans GH_0.out)
      have LH_1 := Lib.hid (Nat.lt_of_lt_of_le LH_0.out (Below.size hb1))
      clear hb1
      go_wp2_with fail
      refine (Path_key x0 n0.out a0 c0 e0 l0 m0 a1 HK.out w1 (r0.out.below B1.out) HF0.out).mono ?_
      rintro e w2 ⟨rfl, hb2⟩
      have B2 := Lib.hid (show Below w.heap.size w w2 from Below.trans B1.out (Below.mono hb2 (Below.size B1.out)))
      have GH_2 := Lib.hid ((Below.block hb2 H LH_1.out).trans GH_1.out)
      have LH_2 := Lib.hid (Nat.lt_of_lt_of_le LH_1.out (Below.size hb2))
      clear hb2
      go_wp2_with fail
      go_ret
      exact ⟨rfl, B2.out⟩
  · obtain ⟨f, hff⟩ : ∃ f, f = mapF x0 := ⟨_, rfl⟩
    have HFF := Lib.hid hff
    have HF9 := Lib.hid (show f ≠ 0 by rw [hff]; exact hf0)
    clear hff hf0 h1
    go_enter Tryd.func10, Tryd.ntmps10
    go_upto_region 1 with fail
    rw [← HH.out, ← HW0.out]
    go_wp2_with fail
    refine (LE.out).mono ?_
    rintro e w1 ⟨rfl, hb1⟩
    have B1 := Lib.hid (show Below w.heap.size w w1 from Below.trans B0.out (Below.mono hb1 (Below.size B0.out)))
    have GH_1 := Lib.hid ((Below.block hb1 H LH_0.out).trans GH_0.out)
    have LH_1 := Lib.hid (Nat.lt_of_lt_of_le LH_0.out (Below.size hb1))
    clear hb1
    go_wp2_with fail
    refine (Path_bad x0 n0.out a0 c0 e0 l0 m0 a1 w1 (r0.out.below B1.out) f HFF.out.symm HF9.out).mono ?_
    rintro e w2 ⟨rfl, hb2⟩
    have B2 := Lib.hid (show Below w.heap.size w w2 from Below.trans B1.out (Below.mono hb2 (Below.size B1.out)))
    have GH_2 := Lib.hid ((Below.block hb2 H LH_1.out).trans GH_1.out)
    have LH_2 := Lib.hid (Nat.lt_of_lt_of_le LH_1.out (Below.size hb2))
    clear hb2
    go_wp2_with fail
    go_ret
    exact ⟨rfl, B2.out⟩

set_option maxRecDepth 100000 in
theorem lifted (os : Os) (started : os.Started) (H : Type) (enc : TypeId × Value → H) :
    ReturnsInHanded {} Tryd.checked os 10 .any (fun w args => (Rows.trieSetsSpec.pre enc Tryd.prog Tryd.f10 Rows.trieSetsRow.domain false w args ∧ laidMetH Tryd.prog Laid.list w) ∧ sizedMet enc Tryd.prog Tryd.f10 (OpenSpec.ofChange Rows.trieSetsSpec) false w args) (Rows.trieSetsSpec.post enc Tryd.prog Tryd.f10 false true false false) := by
  refine returnsInHanded_of_change_and (C := Tryd.checked) (X := fun w _ => laidMetH Tryd.prog Laid.list w) (fun _ _ _ hh h => h.of_heap hh) Laid.own started (by kernel_rfl) Tryd.func10
    (ChangeSpec.witness_at (enc := enc) (C := Tryd.checked) (os := os) (X := fun w _ => laidMetH Tryd.prog Laid.list w) false (laidWorld os) #[.slice none 0 0, .int .i64 0, .agg #[.int .u8 0, .int .u8 0, .int .u8 0, .int .u8 0, .int .u8 0, .int .u8 0, .int .u8 0, .int .u8 0, .int .u8 0, .int .u8 0, .int .u8 0, .int .u8 0, .int .u8 0, .int .u8 0, .int .u8 0, .int .u8 0, .int .u8 0, .int .u8 0, .int .u8 0, .int .u8 0, .int .u8 0, .int .u8 0, .int .u8 0, .int .u8 0, .int .u8 0, .int .u8 0, .int .u8 0, .int .u8 0, .int .u8 0, .int .u8 0, .int .u8 0, .int .u8 0], .bool false] 8 rfl (by kernel_rfl) (by kernel_rfl) (by kernel_rfl) (by kernel_rfl) (by kernel_rfl) (laidWorld_met os _)) ?_
  intro W base args ds gs before hval0 hW _ hsz hL _
  have hro := rounds_of_laid hL
  have hg := handle_of_laid hL
  have hval : ∀ (j : Nat) t v, Tryd.f10.params[j]? = some t → args[j]? = some v → Value.okWide Tryd.prog W .any base t v := hval0
  have hW' := hW
  obtain ⟨p, q, hA0, hV, rfl, hfz, hnd⟩ := hW
  have hA : DataW.TrodAll enc Tryd.prog W 0 (fun _ => true) true Tryd.f10.params.toList args.toList ds p := hA0
  rw [Tryd.params10] at hA hval
  obtain ⟨v0, vs0, d0, ds0, p0, q0, hargs, rfl, rfl, h0, r0⟩ := trodAll_cons hA
  obtain ⟨v1, vs1, d1, ds1, p1, q1, rfl, rfl, rfl, h1, r1⟩ := trodAll_cons r0
  obtain ⟨v2, vs2, d2, ds2, p2, q2, rfl, rfl, rfl, h2, r2⟩ := trodAll_cons r1
  obtain ⟨v3, vs3, d3, ds3, p3, q3, rfl, rfl, rfl, h3, r3⟩ := trodAll_cons r2
  obtain ⟨rfl, rfl, rfl⟩ := trodAll_nil r3
  obtain rfl : args = #[v0, v1, v2, v3] := by cases args; simp_all
  obtain ⟨rfl, rfl⟩ := trodVars_none hV
  have k0 := h0
  have lt0 : ∀ x ∈ p0, x.block < W.heap.size := by obtain ⟨m, hm⟩ := k0; exact DataW.trod_lt m _ _ _ hm
  obtain ⟨x0, a0, c0, e0, rfl, l0, m0, n0, r_0⟩ := open_ents Tryd.underlying40 Tryd.underlying35 Tryd.underlying3 Tryd.underlying23 Tryd.underlying5 (by kernel_rfl) (by kernel_rfl) (by kernel_rfl) (by kernel_rfl) rfl rfl (hval 0 40 v0 rfl rfl) h0
  have k1 := h1
  have lt1 : ∀ x ∈ p1, x.block < W.heap.size := by obtain ⟨m, hm⟩ := k1; exact DataW.trod_lt m _ _ _ hm
  obtain ⟨a1, rfl, _, _, w1⟩ := open_int Tryd.underlying3 (hval 1 3 v1 rfl rfl) h1
  have b1 := bounds_i64 w1
  have k2 := h2
  have lt2 : ∀ x ∈ p2, x.block < W.heap.size := by obtain ⟨m, hm⟩ := k2; exact DataW.trod_lt m _ _ _ hm
  obtain ⟨x2, n2, rfl⟩ := open_digest Tryd.underlying23 Tryd.underlying5 (by kernel_rfl) (by kernel_rfl) (hval 2 23 v2 rfl rfl) h2
  have k3 := h3
  have lt3 : ∀ x ∈ p3, x.block < W.heap.size := by obtain ⟨m, hm⟩ := k3; exact DataW.trod_lt m _ _ _ hm
  obtain ⟨a3, rfl, _, _⟩ := open_bool Tryd.underlying4 (hval 3 4 v3 rfl rfl) h3
  clear hA0 hval0
  refine (walk x0 a0 c0 e0 a1 x2 a3 W l0 m0 n0 r_0 b1 n2 hro hg).mono fun e W' ⟨he, bel⟩ => ?_
  subst he
  exact ⟨_, rfl, _, _, _, [], _, [], hW', trodAll_mk1 (shut_bool Tryd.underlying4 _), (trodAll_cons_mk (Below.trod Laid.laidOut (by kernel_rfl) (of_decide_eq_true (by kernel_rfl)) k0 bel lt0) (trodAll_cons_mk (Below.trod Laid.laidOut (by kernel_rfl) (of_decide_eq_true (by kernel_rfl)) k1 bel lt1) (trodAll_cons_mk (Below.trod Laid.laidOut (by kernel_rfl) (of_decide_eq_true (by kernel_rfl)) k2 bel lt2) (trodAll_cons_mk (Below.trod Laid.laidOut (by kernel_rfl) (of_decide_eq_true (by kernel_rfl)) k3 bel lt3) trodAll_mk0)))), rfl, bel.frame _, fun h => by cases h⟩

theorem over : Rows.trieSetsRow.holds Tryd.pinned (OpenSpec.ofChange Rows.trieSetsSpec) :=
  OpenClaim.holds_of_wide 10 Tryd.f10 rfl rfl rfl rfl rfl rfl rfl ⟨rfl, rfl, rfl, rfl, rfl⟩ rfl rfl rfl rfl rfl (by kernel_rfl) Tryd.func10 (by kernel_rfl)
    (of_decide_eq_true (by kernel_rfl)) (by unfold Func.isWrapper; first | (rw [if_pos (by decide +kernel)]; kernel_rfl) | (rw [if_neg (by decide +kernel)]; exact ⟨rfl, rfl⟩))
    (fun os started H enc _ => lifted os started H enc)

theorem proved : Rows.TrieSetsCardSaid :=
  Claim7.holds_tied_plain_at .later [] [.data, .handle] true (true, "dc8737acee50ade5d9e6156f300c62d149993f3a6545deb441f0e2b50ff31829") true
    over (fun _ h => by cases h) (by kernel_rfl) (fun _ h => by cases h) trieSets_row_tie rfl ⟨rfl, rfl⟩ (by kernel_rfl) rfl
    (fun f fn hf hfn => by
      obtain rfl : f = 10 := Option.some.inj ((show Tryd.prog.funcNamed "oathbook/oathbooklaw2.TrieSets" = some 10 by kernel_rfl).symm.trans hf) |>.symm
      obtain rfl : fn = Tryd.f10 := (Option.some.inj (Tryd.func10.symm.trans hfn)).symm
      exact ⟨by kernel_rfl, stand_of_all (by kernel_rfl)⟩)
    (by kernel_rfl)
#print axioms proved
end trieSets
end Go.Proofs.YtpeomfehdccmmaaDoor
