/- The field is one: sums, products, distribution, inverses. -/
import Derived.Test.YtalbmcidlalicaaRows
import Derived.Test.YtalbmcidlalicaaField
import Derived.WalkKit
import Derived.ProofKit
import Derived.OpenShut
import Derived.ShutString
namespace Go.Proofs.Ytalbmcidlalicaa.fieldLaws
open Go.ChangeShapes Go.WideShapes Go.ChangeAt Go.RowKit
open Go.ChangeMaps (open_string shut_string)
set_option linter.unusedVariables false      -- a walk need not use every 'w<i>' (that an integer argument fits its kind)

theorem own : ownKnob Try.prog.godebug = none := by kernel_rfl

theorem add_at (a b : UInt8) (x y : Int) (hx : x = a.toNat) (hy : y = b.toNat) (r : UInt8) (hr : Hid (a ^^^ b = r)) (w : World) :
    Calls Try.prog 12 #[.int .u8 x, .int .u8 y] w fun e w' => e = .returned (.int .u8 r.toNat) ∧ w = w' := by
  have := hr.out; subst hx hy this; exact Add_calls a b w
theorem mul_at (a b : UInt8) (x y : Int) (hx : x = a.toNat) (hy : y = b.toNat) (r : UInt8) (hr : Hid (Gf.mul a b = r)) (w : World) :
    Calls Try.prog 11 #[.int .u8 x, .int .u8 y] w fun e w' => e = .returned (.int .u8 r.toNat) ∧ w = w' := by
  have := hr.out; subst hx hy this; exact Mul_calls a b w

/-! ### STEP 1: THE WALK -/
set_option maxHeartbeats 2000000 in
theorem walk (a0 : Int) (a1 : Int) (a2 : Int) (w0 : (Lit.int .u8 a0).wf = true) (w1 : (Lit.int .u8 a1).wf = true) (w2 : (Lit.int .u8 a2).wf = true) (w : World) :
    Calls Try.prog 4 #[.int .u8 a0, .int .u8 a1, .int .u8 a2] w fun e w' => e = .returned (.bool true) ∧ Grown w w' := by
  have b0 := bounds_u8 w0
  have b1 := bounds_u8 w1
  have b2 := bounds_u8 w2
  obtain ⟨a, rfl⟩ : ∃ a : UInt8, a0 = (a.toNat : Int) := ⟨UInt8.ofNat a0.toNat, by simp; omega⟩
  obtain ⟨b, rfl⟩ : ∃ a : UInt8, a1 = (a.toNat : Int) := ⟨UInt8.ofNat a1.toNat, by simp; omega⟩
  obtain ⟨c, rfl⟩ : ∃ a : UInt8, a2 = (a.toNat : Int) := ⟨UInt8.ofNat a2.toNat, by simp; omega⟩
  clear b0 b1 b2 w0 w1 w2
  have f37 : Hid (Gf.mul 3 7 = 9) := Lib.hid (by decide +kernel)
  obtain ⟨s1, hs1⟩ : ∃ x, Hid (a ^^^ b = x) := ⟨_, Lib.hid rfl⟩
  have hs1' : Hid (b ^^^ a = s1) := Lib.hid (by rw [UInt8.xor_comm]; exact hs1.out)
  obtain ⟨s2, hs2⟩ : ∃ x, Hid (s1 ^^^ c = x) := ⟨_, Lib.hid rfl⟩
  obtain ⟨t, ht⟩ : ∃ x, Hid (b ^^^ c = x) := ⟨_, Lib.hid rfl⟩
  have hs2' : Hid (a ^^^ t = s2) := Lib.hid (by rw [← ht.out, ← hs2.out, ← hs1.out, UInt8.xor_assoc])
  have ha0 : Hid (a ^^^ 0 = a) := Lib.hid UInt8.xor_zero
  have haa : Hid (a ^^^ a = 0) := Lib.hid UInt8.xor_self
  obtain ⟨m1, hm1⟩ : ∃ x, Hid (Gf.mul a b = x) := ⟨_, Lib.hid rfl⟩
  have hm1' : Hid (Gf.mul b a = m1) := Lib.hid (by rw [Gf.mul_comm]; exact hm1.out)
  obtain ⟨m2, hm2⟩ : ∃ x, Hid (Gf.mul m1 c = x) := ⟨_, Lib.hid rfl⟩
  obtain ⟨n1, hn1⟩ : ∃ x, Hid (Gf.mul b c = x) := ⟨_, Lib.hid rfl⟩
  have hm2' : Hid (Gf.mul a n1 = m2) := Lib.hid (by rw [← hn1.out, ← hm2.out, ← hm1.out, Gf.mul_assoc])
  have ha1 : Hid (Gf.mul a 1 = a) := Lib.hid (Gf.mul_one a)
  have hz0 : Hid (Gf.mul a 0 = 0) := Lib.hid (Gf.mul_zero a)
  obtain ⟨q, hq⟩ : ∃ x, Hid (Gf.mul a t = x) := ⟨_, Lib.hid rfl⟩
  obtain ⟨r, hr⟩ : ∃ x, Hid (Gf.mul a c = x) := ⟨_, Lib.hid rfl⟩
  have hq' : Hid (m1 ^^^ r = q) := Lib.hid (by rw [← hm1.out, ← hr.out, ← hq.out, ← ht.out, Gf.mul_xor])
  obtain ⟨i, hi⟩ : ∃ x, Hid (Gf.inv a = x) := ⟨_, Lib.hid rfl⟩
  by_cases hz : a = 0
  · have g : ((a.toNat : Int) == 0) = true := by rw [hz]; rfl
    clear hi hz
    go_enter Try.func4, Try.ntmps4
    go_wp2_with fail
    refine (mul_at 3 7 _ _ rfl rfl 9 f37 _).mono ?_; rintro e w' ⟨rfl, rfl⟩
    go_wp2_with fail
    refine (add_at a b _ _ rfl rfl s1 hs1 _).mono ?_; rintro e w' ⟨rfl, rfl⟩
    go_wp2_with fail
    refine (add_at b a _ _ rfl rfl s1 hs1' _).mono ?_; rintro e w' ⟨rfl, rfl⟩
    go_wp2_with fail
    refine (add_at a b _ _ rfl rfl s1 hs1 _).mono ?_; rintro e w' ⟨rfl, rfl⟩
    go_wp2_with fail
    refine (add_at s1 c _ _ rfl rfl s2 hs2 _).mono ?_; rintro e w' ⟨rfl, rfl⟩
    go_wp2_with fail
    refine (add_at b c _ _ rfl rfl t ht _).mono ?_; rintro e w' ⟨rfl, rfl⟩
    go_wp2_with fail
    refine (add_at a t _ _ rfl rfl s2 hs2' _).mono ?_; rintro e w' ⟨rfl, rfl⟩
    go_wp2_with fail
    refine (add_at a 0 _ _ rfl rfl a ha0 _).mono ?_; rintro e w' ⟨rfl, rfl⟩
    go_wp2_with fail
    refine (add_at a a _ _ rfl rfl 0 haa _).mono ?_; rintro e w' ⟨rfl, rfl⟩
    go_wp2_with fail
    refine (mul_at a b _ _ rfl rfl m1 hm1 _).mono ?_; rintro e w' ⟨rfl, rfl⟩
    go_wp2_with fail
    refine (mul_at b a _ _ rfl rfl m1 hm1' _).mono ?_; rintro e w' ⟨rfl, rfl⟩
    go_wp2_with fail
    refine (mul_at a b _ _ rfl rfl m1 hm1 _).mono ?_; rintro e w' ⟨rfl, rfl⟩
    go_wp2_with fail
    refine (mul_at m1 c _ _ rfl rfl m2 hm2 _).mono ?_; rintro e w' ⟨rfl, rfl⟩
    go_wp2_with fail
    refine (mul_at b c _ _ rfl rfl n1 hn1 _).mono ?_; rintro e w' ⟨rfl, rfl⟩
    go_wp2_with fail
    refine (mul_at a n1 _ _ rfl rfl m2 hm2' _).mono ?_; rintro e w' ⟨rfl, rfl⟩
    go_wp2_with fail
    refine (mul_at a 1 _ _ rfl rfl a ha1 _).mono ?_; rintro e w' ⟨rfl, rfl⟩
    go_wp2_with fail
    refine (mul_at a 0 _ _ rfl rfl 0 hz0 _).mono ?_; rintro e w' ⟨rfl, rfl⟩
    go_wp2_with fail
    refine (add_at b c _ _ rfl rfl t ht _).mono ?_; rintro e w' ⟨rfl, rfl⟩
    go_wp2_with fail
    refine (mul_at a t _ _ rfl rfl q hq _).mono ?_; rintro e w' ⟨rfl, rfl⟩
    go_wp2_with fail
    refine (mul_at a b _ _ rfl rfl m1 hm1 _).mono ?_; rintro e w' ⟨rfl, rfl⟩
    go_wp2_with fail
    refine (mul_at a c _ _ rfl rfl r hr _).mono ?_; rintro e w' ⟨rfl, rfl⟩
    go_wp2_with fail
    refine (add_at m1 r _ _ rfl rfl q hq' _).mono ?_; rintro e w' ⟨rfl, rfl⟩
    go_wp2_with fail
    go_ret
    exact ⟨rfl, Grown.refl _⟩
  · have g : ((a.toNat : Int) == 0) = false := by
      rw [beq_eq_false_iff_ne]; intro h; apply hz; apply UInt8.toNat_inj.1; simp; omega
    have hai : Hid (Gf.mul a i = 1) := Lib.hid (by rw [← hi.out]; exact Gf.mul_inv a hz)
    have I : ∀ w, Calls Try.prog 13 #[.int .u8 a.toNat] w fun e w' => e = .returned (.tuple #[.int .u8 i.toNat, .nilIface]) ∧ w = w' := by
      intro w; have := Inv_calls a hz w; rwa [hi.out] at this
    have hmb : ((m1.toNat : Int) == 0) = ((b.toNat : Int) == 0) := by
      rw [← hm1.out, Bool.eq_iff_iff, beq_iff_eq, beq_iff_eq]
      have e0 : ∀ x : UInt8, ((x.toNat : Int) = 0) ↔ x = 0 := fun x => ⟨fun h => by apply UInt8.toNat_inj.1; simp; omega, fun h => by rw [h]; rfl⟩
      rw [e0, e0, Gf.mul_eq_zero]
      exact ⟨fun h => h.resolve_left hz, .inr⟩
    have Hb := Lib.hid hmb
    clear hmb hi hz
    go_enter Try.func4, Try.ntmps4
    go_wp2_with fail
    refine (mul_at 3 7 _ _ rfl rfl 9 f37 _).mono ?_; rintro e w' ⟨rfl, rfl⟩
    go_wp2_with fail
    refine (add_at a b _ _ rfl rfl s1 hs1 _).mono ?_; rintro e w' ⟨rfl, rfl⟩
    go_wp2_with fail
    refine (add_at b a _ _ rfl rfl s1 hs1' _).mono ?_; rintro e w' ⟨rfl, rfl⟩
    go_wp2_with fail
    refine (add_at a b _ _ rfl rfl s1 hs1 _).mono ?_; rintro e w' ⟨rfl, rfl⟩
    go_wp2_with fail
    refine (add_at s1 c _ _ rfl rfl s2 hs2 _).mono ?_; rintro e w' ⟨rfl, rfl⟩
    go_wp2_with fail
    refine (add_at b c _ _ rfl rfl t ht _).mono ?_; rintro e w' ⟨rfl, rfl⟩
    go_wp2_with fail
    refine (add_at a t _ _ rfl rfl s2 hs2' _).mono ?_; rintro e w' ⟨rfl, rfl⟩
    go_wp2_with fail
    refine (add_at a 0 _ _ rfl rfl a ha0 _).mono ?_; rintro e w' ⟨rfl, rfl⟩
    go_wp2_with fail
    refine (add_at a a _ _ rfl rfl 0 haa _).mono ?_; rintro e w' ⟨rfl, rfl⟩
    go_wp2_with fail
    refine (mul_at a b _ _ rfl rfl m1 hm1 _).mono ?_; rintro e w' ⟨rfl, rfl⟩
    go_wp2_with fail
    refine (mul_at b a _ _ rfl rfl m1 hm1' _).mono ?_; rintro e w' ⟨rfl, rfl⟩
    go_wp2_with fail
    refine (mul_at a b _ _ rfl rfl m1 hm1 _).mono ?_; rintro e w' ⟨rfl, rfl⟩
    go_wp2_with fail
    refine (mul_at m1 c _ _ rfl rfl m2 hm2 _).mono ?_; rintro e w' ⟨rfl, rfl⟩
    go_wp2_with fail
    refine (mul_at b c _ _ rfl rfl n1 hn1 _).mono ?_; rintro e w' ⟨rfl, rfl⟩
    go_wp2_with fail
    refine (mul_at a n1 _ _ rfl rfl m2 hm2' _).mono ?_; rintro e w' ⟨rfl, rfl⟩
    go_wp2_with fail
    refine (mul_at a 1 _ _ rfl rfl a ha1 _).mono ?_; rintro e w' ⟨rfl, rfl⟩
    go_wp2_with fail
    refine (mul_at a 0 _ _ rfl rfl 0 hz0 _).mono ?_; rintro e w' ⟨rfl, rfl⟩
    go_wp2_with fail
    refine (add_at b c _ _ rfl rfl t ht _).mono ?_; rintro e w' ⟨rfl, rfl⟩
    go_wp2_with fail
    refine (mul_at a t _ _ rfl rfl q hq _).mono ?_; rintro e w' ⟨rfl, rfl⟩
    go_wp2_with fail
    refine (mul_at a b _ _ rfl rfl m1 hm1 _).mono ?_; rintro e w' ⟨rfl, rfl⟩
    go_wp2_with fail
    refine (mul_at a c _ _ rfl rfl r hr _).mono ?_; rintro e w' ⟨rfl, rfl⟩
    go_wp2_with fail
    refine (add_at m1 r _ _ rfl rfl q hq' _).mono ?_; rintro e w' ⟨rfl, rfl⟩
    go_wp2_with fail
    refine (I _).mono ?_; rintro e w' ⟨rfl, rfl⟩
    go_wp2_with fail
    refine (mul_at a b _ _ rfl rfl m1 hm1 _).mono ?_; rintro e w' ⟨rfl, rfl⟩
    go_wp2_with fail
    refine (mul_at a i _ _ rfl rfl 1 hai _).mono ?_; rintro e w' ⟨rfl, rfl⟩
    go_wp2_with fail
    go_ret
    exact ⟨by simp [Hb.out], Grown.refl _⟩

/-! ### THE ROW's STEP: WRITTEN OUT: LEAVE IT -/
set_option maxRecDepth 100000 in
theorem lifted (os : Os) (started : os.Started) (H : Type) (enc : TypeId × Value → H) :
    ReturnsInHanded {} Try.checked os 4 .any (Rows.fieldLawsSpec.pre6 enc Try.prog Try.f4 Rows.fieldLawsRow.domain false) (Rows.fieldLawsSpec.post enc Try.prog Try.f4 false true false false) := by
  refine returnsInHanded_of_change (C := Try.checked) own started (by kernel_rfl) Try.func4
    (ChangeSpec.witness6 (enc := enc) (C := Try.checked) false ⟨#[], #[.int .u8 0, .int .u8 0, .int .u8 0], []⟩ 8 (by kernel_rfl) (by kernel_rfl) (by kernel_rfl) (by kernel_rfl)) ?_
  intro W base args ds gs before hval0 hW hcnd _
  have hval : ∀ (j : Nat) t v, Try.f4.params[j]? = some t → args[j]? = some v → Value.okWide Try.prog W .any base t v := hval0
  have hW' := hW
  obtain ⟨p, q, hA0, hV, rfl, hfz, hnd⟩ := hW
  have hA : DataW.TrodAll enc Try.prog W 0 (fun _ => true) true Try.f4.params.toList args.toList ds p := hA0
  rw [Try.params4] at hA hval
  obtain ⟨v0, vs0, d0, ds0, p0, q0, hargs, rfl, rfl, h0, r0⟩ := trodAll_cons hA
  obtain ⟨v1, vs1, d1, ds1, p1, q1, rfl, rfl, rfl, h1, r1⟩ := trodAll_cons r0
  obtain ⟨v2, vs2, d2, ds2, p2, q2, rfl, rfl, rfl, h2, r2⟩ := trodAll_cons r1
  obtain ⟨rfl, rfl, rfl⟩ := trodAll_nil r2
  obtain rfl : args = #[v0, v1, v2] := by cases args; simp_all
  obtain ⟨rfl, rfl⟩ := trodVars_none hV
  obtain ⟨a0, rfl, rfl, rfl, w0⟩ := open_int Try.underlying5 (hval 0 5 v0 rfl rfl) h0
  obtain ⟨a1, rfl, rfl, rfl, w1⟩ := open_int Try.underlying5 (hval 1 5 v1 rfl rfl) h1
  obtain ⟨a2, rfl, rfl, rfl, w2⟩ := open_int Try.underlying5 (hval 2 5 v2 rfl rfl) h2
  clear hA0 hval0
  simp only [List.append_nil] at hW'
  refine (walk a0 a1 a2 w0 w1 w2 W).mono fun e W' ⟨he, hg⟩ => ?_
  subst he
  exact ⟨_, rfl, post_of_same (pa := []) (pv := []) hW' (fun _ _ _ => (trodAll_cons_mk (shut_bool Try.underlying4 _) trodAll_mk0)) (fun sp _ => (trodAll_cons_mk (shut_int Try.underlying5 w0) (trodAll_cons_mk (shut_int Try.underlying5 w1) (trodAll_cons_mk (shut_int Try.underlying5 w2) trodAll_mk0)))) (fun _ _ => rfl) rfl
    (hg.frame _) hg.2.1 (ok_one (by kernel_rfl) rfl (okWide_bool_mk Try.underlying4 _))⟩

theorem over : Rows.fieldLawsRow.holds Try.pinned (OpenSpec.ofChange Rows.fieldLawsSpec) :=
  OpenClaim.holds_of_wide 4 Try.f4 rfl rfl rfl rfl rfl rfl rfl ⟨rfl, rfl, rfl, rfl, rfl⟩ rfl rfl rfl rfl rfl (by kernel_rfl) Try.func4 (by kernel_rfl)
    (of_decide_eq_true (by kernel_rfl)) (by unfold Func.isWrapper; first | (rw [if_pos (by decide +kernel)]; kernel_rfl) | (rw [if_neg (by decide +kernel)]; exact ⟨rfl, rfl⟩))
    (fun os started H enc _ => lifted os started H enc)

/-- ████ THE STATEMENT ████ -/
theorem proved : Rows.FieldLawsSaid :=
  over
#print axioms proved
end Go.Proofs.Ytalbmcidlalicaa.fieldLaws
