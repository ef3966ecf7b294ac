/- THERE, OR NOT THERE: oathbooklaw2.TrieProves answers true at every input. -/
import Derived.Test.YtpeomfehdccmmaaDoorRows
import Derived.Test.YtpeomfehdccmmaaDoorTrieAt
import Derived.Test.YtpeomfehdccmmaaDoorLaidR
import Derived.WalkKit
import Derived.ProofKit
import Derived.OpenShut
import Derived.ShutString
import Derived.ChangeOld
import Derived.Below
namespace Go.Proofs.YtpeomfehdccmmaaDoor
open Go.ChangeShapes Go.WideShapes Go.ChangeAt Go.RowKit
open Go.ChangeMaps (open_string shut_string)
set_option linter.unusedVariables false
namespace trieProves

-- HOLE: the walk
set_option maxRecDepth 20000 in
set_option maxHeartbeats 4000000 in
theorem walk (x0 : List En) (a0 : Option Addr) (c0 e0 : Nat) (a1 : Int) (w : World) (l0 : x0.length ≤ c0) (m0 : c0 ≤ 9223372036854775807) (n0 : ∀ e ∈ x0, EnW e) (r0 : Rd w a0 e0 (cellsE x0)) (h1 : -9223372036854775808 ≤ a1 ∧ a1 ≤ 9223372036854775807) (hro : RoundsAt w) :
    Calls Tryd.prog 7 #[.slice a0 x0.length c0, .int .i64 a1] w fun e w' => e = .returned (.bool true) ∧ Below w.heap.size w w' := by
  obtain ⟨Z, hZ⟩ : ∃ Z, Z = nz := ⟨_, rfl⟩
  have zl : Z.length = 32 := by rw [hZ]; rfl
  have zlit : (#[.int .u8 0, .int .u8 0, .int .u8 0, .int .u8 0, .int .u8 0, .int .u8 0, .int .u8 0, .int .u8 0, .int .u8 0, .int .u8 0, .int .u8 0, .int .u8 0, .int .u8 0, .int .u8 0, .int .u8 0, .int .u8 0, .int .u8 0, .int .u8 0, .int .u8 0, .int .u8 0, .int .u8 0, .int .u8 0, .int .u8 0, .int .u8 0, .int .u8 0, .int .u8 0, .int .u8 0, .int .u8 0, .int .u8 0, .int .u8 0, .int .u8 0, .int .u8 0] : Array Value) = dV Z := by rw [hZ]; exact zdig
  have ZL := Lib.hid zl
  have ZT := Lib.hid zlit
  have HZ := Lib.hid hZ
  clear zl zlit hZ
  have LE := Lib.hid (Leafed_calls w hro)
  have RD := Lib.hid r0
  have RO := Lib.hid hro
  have NW := Lib.hid n0
  clear r0 hro n0
  by_cases hf : mapF x0 = 0
  · by_cases hk : KeyOk a1
    · obtain ⟨k, rfl⟩ : ∃ k : Nat, a1 = (k : Int) := ⟨a1.toNat, by have := hk.1; omega⟩
      have hk2 : k < 4294967296 := by have := hk.2; omega
      obtain ⟨R, hR⟩ : ∃ R, R = rootD x0 := ⟨_, rfl⟩
      have rl : R.length = 32 := by rw [hR]; exact rootD_length x0
      obtain ⟨L, hL⟩ : ∃ L, L = leafF x0 k := ⟨_, rfl⟩
      have ll : L.length = 32 := by rw [hL]; exact leafF_length x0 k
      obtain ⟨ps, hps⟩ : ∃ ps, ps = pathD (leafF x0) k := ⟨_, rfl⟩
      have pl : ps.length = 32 := by rw [hps]; exact pathD_length _ _
      have pd : ∀ p ∈ ps, p.length = 32 := by rw [hps, ← sibs_zero]; exact sibs_dig _ (leafF_length x0) k 0
      have hfold : foldD k L ps = R := by rw [hL, hps, hR]; exact foldD_path (leafF x0) k (by omega)
      have HR := Lib.hid hR
      have HL := Lib.hid hL
      have HPS := Lib.hid hps
      have RL := Lib.hid rl
      have LL := Lib.hid ll
      have PL := Lib.hid pl
      have PD := Lib.hid pd
      have HFO := Lib.hid hfold
      have HF := Lib.hid hf
      clear hR rl hL ll hps pl pd hfold hf hk h1
      go_enter Tryd.func7, Tryd.ntmps7
      go_wp2_with fail
      refine LE.out.mono ?_
      rintro e w1 ⟨rfl, hb1⟩
      have B1 := Lib.hid hb1
      have tr := TRoot_ok x0 NW.out a0 c0 e0 l0 m0 w1 (RD.out.below hb1) HF.out (RO.out.at_ hb1)
      rw [← HR.out] at tr
      have TR := Lib.hid tr
      clear tr
      clear hb1 LE
      go_wp2_with fail
      refine (TR.out).mono ?_
      rintro e w2 ⟨rfl, hb2⟩
      obtain ⟨X, hX⟩ : ∃ X, X = w2.heap.size := ⟨_, rfl⟩
      obtain ⟨w3, hw3⟩ : ∃ z, z = w2.alloc (.cells (dV R) 23) := ⟨_, rfl⟩
      have g3 : w3.heap[X]? = some (.cells (dV R) 23 (0, 0)) := by rw [hw3, hX]; exact heap_alloc_new _ _
      have b3 : Below w.heap.size w w3 := by rw [hw3]; exact (B1.out.trans (hb2.mono B1.out.size)).alloc (Nat.le_trans B1.out.size hb2.size) _
      have HX := Lib.hid hX
      have HW3 := Lib.hid hw3
      have G3 := Lib.hid g3
      have B3 := Lib.hid b3
      have R3 := Lib.hid (RD.out.below b3)
      have RO3 := Lib.hid (RO.out.at_ b3)
      have hX3 := lt_of_heap g3
      clear hX hw3 g3 b3 hb2
      go_wp2_with (first
        | ((refine st_new rfl (.tmp 6) (.tmp 20) rfl R RL.out (by rfl) _ _ (by rfl) (by rfl) ?_); rw [← HX.out, ← HW3.out]))
      have PO := Path_ok x0 NW.out a0 c0 e0 l0 m0 k hk2 w3 R3.out HF.out RO3.out
      rw [← HPS.out] at PO
      have HPO := Lib.hid PO
      clear PO TR
      refine HPO.out.mono ?_
      rintro e w4 ⟨ap, cp, rfl, hown4, hb4⟩
      have RP := Lib.hid (Rd.of_own hown4)
      have B4 := Lib.hid (B3.out.trans (hb4.mono B3.out.size))
      have G4 := Lib.hid ((hb4.block X hX3).trans G3.out)
      have R4 := Lib.hid (R3.out.below hb4)
      have RO4 := Lib.hid (RO3.out.at_ hb4)
      have hX4 := Nat.lt_of_lt_of_le hX3 hb4.size
      have AC := At_calls x0 NW.out a0 c0 e0 k hk2 w4 R4.out HF.out RO4.out
      rw [← HL.out] at AC
      have HAC := Lib.hid AC
      clear AC hown4 hb4 HPO
      go_wp2_with fail
      refine HAC.out.mono ?_
      rintro e w5 ⟨rfl, hb5⟩
      obtain ⟨Y, hY⟩ : ∃ Y, Y = w5.heap.size := ⟨_, rfl⟩
      obtain ⟨w6, hw6⟩ : ∃ z, z = w5.alloc (.cells (dV L) 23) := ⟨_, rfl⟩
      have g6 : w6.heap[Y]? = some (.cells (dV L) 23 (0, 0)) := by rw [hw6, hY]; exact heap_alloc_new _ _
      have b46 : Below w4.heap.size w4 w6 := by rw [hw6]; exact hb5.alloc hb5.size _
      have FC := Fold_calls k hk2 L LL.out ps PL.out PD.out ap cp _ w6 (RP.out.below b46) (RO4.out.at_ b46)
      rw [HFO.out] at FC
      have HFC := Lib.hid FC
      have HY := Lib.hid hY
      have HW6 := Lib.hid hw6
      have G6 := Lib.hid g6
      have X6 := Lib.hid ((b46.block X hX4).trans G4.out)
      have B6 := Lib.hid (B4.out.trans (b46.mono B4.out.size))
      have hX6 := Nat.lt_of_lt_of_le hX4 b46.size
      clear FC hY hw6 g6 b46 hb5 HAC
      go_wp2_with (first
        | ((refine st_new rfl (.tmp 10) (.tmp 40) rfl L LL.out (by rfl) _ _ (by rfl) (by rfl) ?_); rw [← HY.out, ← HW6.out])
        | ((refine ld_digG rfl (.tmp 10) rfl (Y) 0 (by rfl) L LL.out (range_of_row G6.out) ?_); simp only [Act.put, List.setIfInBounds_toArray, List.set_cons_zero, List.set_cons_succ]))
      refine HFC.out.mono ?_
      rintro e w7 ⟨rfl, hb7⟩
      obtain ⟨V, hV⟩ : ∃ V, V = w7.heap.size := ⟨_, rfl⟩
      obtain ⟨w8, hw8⟩ : ∃ z, z = w7.alloc (.cells (dV R) 23) := ⟨_, rfl⟩
      have g8 : w8.heap[V]? = some (.cells (dV R) 23 (0, 0)) := by rw [hw8, hV]; exact heap_alloc_new _ _
      have b68 : Below w6.heap.size w6 w8 := by rw [hw8]; exact hb7.alloc hb7.size _
      have HV := Lib.hid hV
      have HW8 := Lib.hid hw8
      have G8 := Lib.hid g8
      have X8 := Lib.hid ((b68.block X hX6).trans X6.out)
      have B8 := Lib.hid (B6.out.trans (b68.mono B6.out.size))
      have ERR := Lib.hid (show (R == R) = true by simp)
      clear hV hw8 g8 b68 hb7 HFC
      go_wp2_with (first
        | ((refine st_new rfl (.tmp 12) (.tmp 47) rfl R RL.out (by rfl) _ _ (by rfl) (by rfl) ?_); rw [← HV.out, ← HW8.out])
        | ((refine ld_digG rfl (.tmp 12) rfl (V) 0 (by rfl) R RL.out (range_of_row G8.out) ?_); simp only [Act.put, List.setIfInBounds_toArray, List.set_cons_zero, List.set_cons_succ])
        | ((refine ld_digG rfl (.tmp 6) rfl (X) 0 (by rfl) R RL.out (range_of_row X8.out) ?_); simp only [Act.put, List.setIfInBounds_toArray, List.set_cons_zero, List.set_cons_succ])
        | ((refine eq_digG rfl (.tmp 55) (.tmp 56) _ rfl R R (by rfl) (by rfl) RL.out RL.out ?_); rw [ERR.out]; simp only [Act.put, List.setIfInBounds_toArray, List.set_cons_zero, List.set_cons_succ]))
      go_ret
      exact ⟨rfl, B8.out⟩
    · obtain ⟨R, hR⟩ : ∃ R, R = rootD x0 := ⟨_, rfl⟩
      have RL := Lib.hid (show R.length = 32 by rw [hR]; exact rootD_length x0)
      have HR := Lib.hid hR
      have HF := Lib.hid hf
      have HK := Lib.hid hk
      clear hR hf hk h1
      go_enter Tryd.func7, Tryd.ntmps7
      go_wp2_with fail
      refine LE.out.mono ?_
      rintro e w1 ⟨rfl, hb1⟩
      have B1 := Lib.hid hb1
      have tr := TRoot_ok x0 NW.out a0 c0 e0 l0 m0 w1 (RD.out.below hb1) HF.out (RO.out.at_ hb1)
      rw [← HR.out] at tr
      have TR := Lib.hid tr
      clear tr
      clear hb1 LE
      go_wp2_with fail
      refine (TR.out).mono ?_
      rintro e w2 ⟨rfl, hb2⟩
      obtain ⟨X, hX⟩ : ∃ X, X = w2.heap.size := ⟨_, rfl⟩
      obtain ⟨w3, hw3⟩ : ∃ z, z = w2.alloc (.cells (dV R) 23) := ⟨_, rfl⟩
      have g3 : w3.heap[X]? = some (.cells (dV R) 23 (0, 0)) := by rw [hw3, hX]; exact heap_alloc_new _ _
      have b3 : Below w.heap.size w w3 := by rw [hw3]; exact (B1.out.trans (hb2.mono B1.out.size)).alloc (Nat.le_trans B1.out.size hb2.size) _
      have HX := Lib.hid hX
      have HW3 := Lib.hid hw3
      have G3 := Lib.hid g3
      have B3 := Lib.hid b3
      have R3 := Lib.hid (RD.out.below b3)
      have RO3 := Lib.hid (RO.out.at_ b3)
      have hX3 := lt_of_heap g3
      clear hX hw3 g3 b3 hb2
      go_wp2_with (first
        | ((refine st_new rfl (.tmp 6) (.tmp 20) rfl R RL.out (by rfl) _ _ (by rfl) (by rfl) ?_); rw [← HX.out, ← HW3.out]))
      refine (Path_key x0 NW.out a0 c0 e0 l0 m0 a1 HK.out w3 R3.out HF.out).mono ?_
      rintro e w4 ⟨rfl, hb4⟩
      have B4 := Lib.hid (B3.out.trans (hb4.mono B3.out.size))
      clear hb4 TR
      go_wp2_with fail
      go_ret
      exact ⟨rfl, B4.out⟩
  · have HF := Lib.hid hf
    obtain ⟨f, hff⟩ : ∃ f, f = mapF x0 := ⟨_, rfl⟩
    have HFF := Lib.hid hff
    clear hf h1 hff
    go_enter Tryd.func7, Tryd.ntmps7
    go_wp2_with fail
    refine LE.out.mono ?_
    rintro e w1 ⟨rfl, hb1⟩
    have B1 := Lib.hid hb1
    have TR := Lib.hid (TRoot_bad x0 NW.out a0 c0 e0 l0 m0 w1 (RD.out.below hb1) f HFF.out.symm (by rw [HFF.out]; exact HF.out))
    clear hb1 LE
    rw [← HZ.out] at TR
    go_wp2_with fail
    refine (TR.out).mono ?_
    rintro e w2 ⟨rfl, hb2⟩
    obtain ⟨X, hX⟩ : ∃ X, X = w2.heap.size := ⟨_, rfl⟩
    obtain ⟨w3, hw3⟩ : ∃ z, z = w2.alloc (.cells (dV Z) 23) := ⟨_, rfl⟩
    have g3 : w3.heap[X]? = some (.cells (dV Z) 23 (0, 0)) := by rw [hw3, hX]; exact heap_alloc_new _ _
    have b3 : Below w.heap.size w w3 := by rw [hw3]; exact (B1.out.trans (hb2.mono B1.out.size)).alloc (Nat.le_trans B1.out.size hb2.size) _
    have HX := Lib.hid hX
    have HW3 := Lib.hid hw3
    have G3 := Lib.hid g3
    have B3 := Lib.hid b3
    have R3 := Lib.hid (RD.out.below b3)
    have RO3 := Lib.hid (RO.out.at_ b3)
    have hX3 := lt_of_heap g3
    clear hX hw3 g3 b3 hb2
    go_wp2_with (first
      | ((refine st_new rfl (.tmp 6) (.tmp 20) rfl Z ZL.out (by rfl) _ _ (by rfl) (by rfl) ?_); rw [← HX.out, ← HW3.out]))
    refine (Path_bad x0 NW.out a0 c0 e0 l0 m0 a1 w3 R3.out f HFF.out.symm (by rw [HFF.out]; exact HF.out)).mono ?_
    rintro e w4 ⟨rfl, hb4⟩
    have B4 := Lib.hid (B3.out.trans (hb4.mono B3.out.size))
    clear hb4 TR
    go_wp2_with fail
    go_ret
    exact ⟨rfl, B4.out⟩

set_option maxRecDepth 100000 in
theorem lifted (os : Os) (started : os.Started) (H : Type) (enc : TypeId × Value → H) :
    ReturnsInHanded {} Tryd.checked os 7 .any (fun w args => (Rows.trieProvesSpec.pre enc Tryd.prog Tryd.f7 Rows.trieProvesRow.domain false w args ∧ laidMetH Tryd.prog Laid.list w) ∧ sizedMet enc Tryd.prog Tryd.f7 (OpenSpec.ofChange Rows.trieProvesSpec) false w args) (Rows.trieProvesSpec.post enc Tryd.prog Tryd.f7 false true false false) := by
  refine returnsInHanded_of_change_and (C := Tryd.checked) (X := fun w _ => laidMetH Tryd.prog Laid.list w) (fun _ _ _ hh h => h.of_heap hh) Laid.own started (by kernel_rfl) Tryd.func7
    (ChangeSpec.witness_at (enc := enc) (C := Tryd.checked) (os := os) (X := fun w _ => laidMetH Tryd.prog Laid.list w) false (laidWorld os) #[.slice none 0 0, .int .i64 0] 8 rfl (by kernel_rfl) (by kernel_rfl) (by kernel_rfl) (by kernel_rfl) (by kernel_rfl) (laidWorld_met os _)) ?_
  intro W base args ds gs before hval0 hW _ hsz hL _
  have hro := rounds_of_laid hL
  have hval : ∀ (j : Nat) t v, Tryd.f7.params[j]? = some t → args[j]? = some v → Value.okWide Tryd.prog W .any base t v := hval0
  have hW' := hW
  obtain ⟨p, q, hA0, hV, rfl, hfz, hnd⟩ := hW
  have hA : DataW.TrodAll enc Tryd.prog W 0 (fun _ => true) true Tryd.f7.params.toList args.toList ds p := hA0
  rw [Tryd.params7] at hA hval
  obtain ⟨v0, vs0, d0, ds0, p0, q0, hargs, rfl, rfl, h0, r0⟩ := trodAll_cons hA
  obtain ⟨v1, vs1, d1, ds1, p1, q1, rfl, rfl, rfl, h1, r1⟩ := trodAll_cons r0
  obtain ⟨rfl, rfl, rfl⟩ := trodAll_nil r1
  obtain rfl : args = #[v0, v1] := by cases args; simp_all
  obtain ⟨rfl, rfl⟩ := trodVars_none hV
  have k0 := h0
  have lt0 : ∀ x ∈ p0, x.block < W.heap.size := by obtain ⟨m, hm⟩ := k0; exact DataW.trod_lt m _ _ _ hm
  obtain ⟨x0, a0, c0, e0, rfl, l0, m0, n0, r_0⟩ := open_ents Tryd.underlying40 Tryd.underlying35 Tryd.underlying3 Tryd.underlying23 Tryd.underlying5 (by kernel_rfl) (by kernel_rfl) (by kernel_rfl) (by kernel_rfl) rfl rfl (hval 0 40 v0 rfl rfl) h0
  have k1 := h1
  have lt1 : ∀ x ∈ p1, x.block < W.heap.size := by obtain ⟨m, hm⟩ := k1; exact DataW.trod_lt m _ _ _ hm
  obtain ⟨a1, rfl, _, _, w1⟩ := open_int Tryd.underlying3 (hval 1 3 v1 rfl rfl) h1
  have b1 := bounds_i64 w1
  clear hA0 hval0
  refine (walk x0 a0 c0 e0 a1 W l0 m0 n0 r_0 b1 hro).mono fun e W' ⟨he, bel⟩ => ?_
  subst he
  exact ⟨_, rfl, _, _, _, [], _, [], hW', trodAll_mk1 (shut_bool Tryd.underlying4 _), (trodAll_cons_mk (Below.trod Laid.laidOut (by kernel_rfl) (of_decide_eq_true (by kernel_rfl)) k0 bel lt0) (trodAll_cons_mk (Below.trod Laid.laidOut (by kernel_rfl) (of_decide_eq_true (by kernel_rfl)) k1 bel lt1) trodAll_mk0)), rfl, bel.frame _, fun h => by cases h⟩

theorem over : Rows.trieProvesRow.holds Tryd.pinned (OpenSpec.ofChange Rows.trieProvesSpec) :=
  OpenClaim.holds_of_wide 7 Tryd.f7 rfl rfl rfl rfl rfl rfl rfl ⟨rfl, rfl, rfl, rfl, rfl⟩ rfl rfl rfl rfl rfl (by kernel_rfl) Tryd.func7 (by kernel_rfl)
    (of_decide_eq_true (by kernel_rfl)) (by unfold Func.isWrapper; first | (rw [if_pos (by decide +kernel)]; kernel_rfl) | (rw [if_neg (by decide +kernel)]; exact ⟨rfl, rfl⟩))
    (fun os started H enc _ => lifted os started H enc)

theorem proved : Rows.TrieProvesCardSaid :=
  Claim7.holds_tied_plain_at .later [] [.data] true (true, "dc8737acee50ade5d9e6156f300c62d149993f3a6545deb441f0e2b50ff31829") true
    over (fun _ h => by cases h) (by kernel_rfl) (fun _ h => by cases h) trieProves_row_tie rfl ⟨rfl, rfl⟩ (by kernel_rfl) rfl
    (fun f fn hf hfn => by
      obtain rfl : f = 7 := Option.some.inj ((show Tryd.prog.funcNamed "oathbook/oathbooklaw2.TrieProves" = some 7 by kernel_rfl).symm.trans hf) |>.symm
      obtain rfl : fn = Tryd.f7 := (Option.some.inj (Tryd.func7.symm.trans hfn)).symm
      exact ⟨by kernel_rfl, stand_of_all (by kernel_rfl)⟩)
    (by kernel_rfl)
#print axioms proved
end trieProves
end Go.Proofs.YtpeomfehdccmmaaDoor
