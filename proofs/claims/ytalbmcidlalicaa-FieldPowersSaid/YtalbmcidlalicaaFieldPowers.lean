/- Fermat in the field: what is not 0 taken 255 times is 1; powers add and multiply. -/
import Derived.Test.YtalbmcidlalicaaRows
import Derived.Test.YtalbmcidlalicaaField
import Derived.WalkKit
import Derived.ProofKit
import Derived.OpenShut
import Derived.ShutString
namespace Go.Proofs.Ytalbmcidlalicaa.fieldPowers
open Go.ChangeShapes Go.WideShapes Go.ChangeAt Go.RowKit
open Go.ChangeMaps (open_string shut_string)
set_option linter.unusedVariables false      -- a walk need not use every 'w<i>' (that an integer argument fits its kind)

theorem own : ownKnob Try.prog.godebug = none := by kernel_rfl

theorem fact_calls (w : World) : Calls Try.prog 10 #[.int .u8 2, .int .i64 8] w fun e w' => e = .returned (.tuple #[.int .u8 27, .nilIface]) ∧ w = w' := by
  have h := Pow_calls 2 8 (by omega) w
  have e : Gf.pow 2 8 = 27 := by decide +kernel
  rw [e] at h
  exact h
theorem pow_at (a : UInt8) (n : Nat) (x y : Int) (hx : x = a.toNat) (hy : y = n) (hn : n ≤ 9223372036854775807) (w : World) :
    Calls Try.prog 10 #[.int .u8 x, .int .i64 y] w fun e w' => e = .returned (.tuple #[.int .u8 (Gf.pow a n).toNat, .nilIface]) ∧ w = w' := by
  subst hx hy; exact Pow_calls a n hn w

/-! ### STEP 1: THE WALK -/
set_option maxHeartbeats 1000000 in
theorem walk (a0 : Int) (a1 : Int) (a2 : Int) (w0 : (Lit.int .u8 a0).wf = true) (w1 : (Lit.int .i64 a1).wf = true) (w2 : (Lit.int .i64 a2).wf = true) (w : World) :
    Calls Try.prog 3 #[.int .u8 a0, .int .i64 a1, .int .i64 a2] w fun e w' => e = .returned (.bool true) ∧ Grown w w' := by
  have b0 := bounds_u8 w0
  obtain ⟨a, rfl⟩ : ∃ a : UInt8, a0 = (a.toNat : Int) := ⟨UInt8.ofNat a0.toNat, by simp; omega⟩
  obtain ⟨b255, h255⟩ : ∃ b, b = Gf.pow a 255 := ⟨_, rfl⟩
  have hz : a = 0 ∨ ((a.toNat : Int) != 0) = true ∧ ((b255.toNat : Int) != 1) = false := by
    by_cases h : a = 0
    · exact .inl h
    · right
      rw [h255, Gf.pow255 a h]
      refine ⟨?_, rfl⟩
      rw [bne_iff_ne]; intro g; apply h; apply UInt8.toNat_inj.1; simp; omega
  have P255 := fun w => pow_at a 255 a.toNat 255 rfl rfl (by omega) w
  rw [← h255] at P255
  clear h255
  have big : ∀ w, (¬ (0 ≤ a1 ∧ 0 ≤ a2 ∧ a1 ≤ 100000 ∧ a2 ≤ 100000)) → Calls Try.prog 3 #[.int .u8 a.toNat, .int .i64 a1, .int .i64 a2] w fun e w' => e = .returned (.bool true) ∧ Grown w w' := by
    intro w hb
    rcases hz with rfl | ⟨h1, h2⟩
    all_goals
      go_enter Try.func3, Try.ntmps3
      go_wp2_with fail
      refine (fact_calls _).mono ?_; rintro e w' ⟨rfl, rfl⟩
      go_wp2_with fail
      refine (P255 _).mono ?_; rintro e w' ⟨rfl, rfl⟩
      clear P255
      go_wp2_with fail
      all_goals first | (exfalso; omega) | (go_ret; exact ⟨rfl, Grown.refl _⟩)
  by_cases hb : 0 ≤ a1 ∧ 0 ≤ a2 ∧ a1 ≤ 100000 ∧ a2 ≤ 100000
  · clear big
    obtain ⟨h1, h2, h3, h4⟩ := hb
    obtain ⟨m, rfl⟩ := Int.eq_ofNat_of_zero_le h1
    obtain ⟨n, rfl⟩ := Int.eq_ofNat_of_zero_le h2
    obtain ⟨x, hx⟩ : ∃ b, b = Gf.pow a m := ⟨_, rfl⟩
    obtain ⟨y, hy⟩ : ∃ b, b = Gf.pow a n := ⟨_, rfl⟩
    obtain ⟨z, hz'⟩ : ∃ b, b = Gf.pow a (m + n) := ⟨_, rfl⟩
    obtain ⟨u, hu⟩ : ∃ b, b = Gf.pow x n := ⟨_, rfl⟩
    have hv : u = Gf.pow y m := by rw [hu, hx, hy, ← Gf.pow_mul, ← Gf.pow_mul, Nat.mul_comm]
    have hxy : z = Gf.mul x y := by rw [hz', hx, hy, Gf.pow_add]
    have Px := fun w => pow_at a m a.toNat m rfl rfl (by omega) w
    have Py := fun w => pow_at a n a.toNat n rfl rfl (by omega) w
    have Pz := fun w => pow_at a (m + n) a.toNat (m + n) rfl (by omega) (by omega) w
    have Pu := fun w => pow_at x n x.toNat n rfl rfl (by omega) w
    have Pv := fun w => pow_at y m y.toNat m rfl rfl (by omega) w
    have Pm := fun w => Mul_calls x y w
    rw [← hx] at Px
    rw [← hy] at Py
    rw [← hz'] at Pz
    rw [← hu] at Pu
    rw [← hv] at Pv
    rw [← hxy] at Pm
    clear hx hy hz' hu hv hxy
    rcases hz with rfl | ⟨g1, g2⟩
    all_goals
      go_enter Try.func3, Try.ntmps3
      go_wp2_with fail
      refine (fact_calls _).mono ?_; rintro e w' ⟨rfl, rfl⟩
      go_wp2_with fail
      refine (P255 _).mono ?_; rintro e w' ⟨rfl, rfl⟩
      clear P255
      go_wp2_with fail
      refine (Px _).mono ?_; rintro e w' ⟨rfl, rfl⟩
      clear Px
      go_wp2_with fail
      refine (Py _).mono ?_; rintro e w' ⟨rfl, rfl⟩
      clear Py
      go_wp2_with fail
      refine (Pz _).mono ?_; rintro e w' ⟨rfl, rfl⟩
      clear Pz
      go_wp2_with fail
      refine (Pu _).mono ?_; rintro e w' ⟨rfl, rfl⟩
      clear Pu
      go_wp2_with fail
      refine (Pv _).mono ?_; rintro e w' ⟨rfl, rfl⟩
      clear Pv
      go_wp2_with fail
      refine (Pm _).mono ?_; rintro e w' ⟨rfl, rfl⟩
      clear Pm
      go_wp2_with fail
      go_ret
      exact ⟨by simp, Grown.refl _⟩
  · exact big w hb

/-! ### THE ROW's STEP: WRITTEN OUT: LEAVE IT -/
set_option maxRecDepth 100000 in
theorem lifted (os : Os) (started : os.Started) (H : Type) (enc : TypeId × Value → H) :
    ReturnsInHanded {} Try.checked os 3 .any (Rows.fieldPowersSpec.pre6 enc Try.prog Try.f3 Rows.fieldPowersRow.domain false) (Rows.fieldPowersSpec.post enc Try.prog Try.f3 false true false false) := by
  refine returnsInHanded_of_change (C := Try.checked) own started (by kernel_rfl) Try.func3
    (ChangeSpec.witness6 (enc := enc) (C := Try.checked) false ⟨#[], #[.int .u8 0, .int .i64 0, .int .i64 0], []⟩ 8 (by kernel_rfl) (by kernel_rfl) (by kernel_rfl) (by kernel_rfl)) ?_
  intro W base args ds gs before hval0 hW hcnd _
  have hval : ∀ (j : Nat) t v, Try.f3.params[j]? = some t → args[j]? = some v → Value.okWide Try.prog W .any base t v := hval0
  have hW' := hW
  obtain ⟨p, q, hA0, hV, rfl, hfz, hnd⟩ := hW
  have hA : DataW.TrodAll enc Try.prog W 0 (fun _ => true) true Try.f3.params.toList args.toList ds p := hA0
  rw [Try.params3] at hA hval
  obtain ⟨v0, vs0, d0, ds0, p0, q0, hargs, rfl, rfl, h0, r0⟩ := trodAll_cons hA
  obtain ⟨v1, vs1, d1, ds1, p1, q1, rfl, rfl, rfl, h1, r1⟩ := trodAll_cons r0
  obtain ⟨v2, vs2, d2, ds2, p2, q2, rfl, rfl, rfl, h2, r2⟩ := trodAll_cons r1
  obtain ⟨rfl, rfl, rfl⟩ := trodAll_nil r2
  obtain rfl : args = #[v0, v1, v2] := by cases args; simp_all
  obtain ⟨rfl, rfl⟩ := trodVars_none hV
  obtain ⟨a0, rfl, rfl, rfl, w0⟩ := open_int Try.underlying5 (hval 0 5 v0 rfl rfl) h0
  obtain ⟨a1, rfl, rfl, rfl, w1⟩ := open_int Try.underlying3 (hval 1 3 v1 rfl rfl) h1
  obtain ⟨a2, rfl, rfl, rfl, w2⟩ := open_int Try.underlying3 (hval 2 3 v2 rfl rfl) h2
  clear hA0 hval0
  simp only [List.append_nil] at hW'
  refine (walk a0 a1 a2 w0 w1 w2 W).mono fun e W' ⟨he, hg⟩ => ?_
  subst he
  exact ⟨_, rfl, post_of_same (pa := []) (pv := []) hW' (fun _ _ _ => (trodAll_cons_mk (shut_bool Try.underlying4 _) trodAll_mk0)) (fun sp _ => (trodAll_cons_mk (shut_int Try.underlying5 w0) (trodAll_cons_mk (shut_int Try.underlying3 w1) (trodAll_cons_mk (shut_int Try.underlying3 w2) trodAll_mk0)))) (fun _ _ => rfl) rfl
    (hg.frame _) hg.2.1 (ok_one (by kernel_rfl) rfl (okWide_bool_mk Try.underlying4 _))⟩

theorem over : Rows.fieldPowersRow.holds Try.pinned (OpenSpec.ofChange Rows.fieldPowersSpec) :=
  OpenClaim.holds_of_wide 3 Try.f3 rfl rfl rfl rfl rfl rfl rfl ⟨rfl, rfl, rfl, rfl, rfl⟩ rfl rfl rfl rfl rfl (by kernel_rfl) Try.func3 (by kernel_rfl)
    (of_decide_eq_true (by kernel_rfl)) (by unfold Func.isWrapper; first | (rw [if_pos (by decide +kernel)]; kernel_rfl) | (rw [if_neg (by decide +kernel)]; exact ⟨rfl, rfl⟩))
    (fun os started H enc _ => lifted os started H enc)

/-- ████ THE STATEMENT ████ -/
theorem proved : Rows.FieldPowersSaid :=
  over
#print axioms proved
end Go.Proofs.Ytalbmcidlalicaa.fieldPowers
