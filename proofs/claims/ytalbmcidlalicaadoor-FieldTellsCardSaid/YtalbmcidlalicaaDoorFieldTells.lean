/- Sums, products, inverses and powers are as the document has them, errors too; no conditions but that the listed package variable holds what the program text lays. -/
import Derived.Test.YtalbmcidlalicaaDoorRows
import Derived.Test.YtalbmcidlalicaaDoorLaid
import Derived.Test.YtalbmcidlalicaaDoorRefPow
import Derived.WalkKit
import Derived.ProofKit
import Derived.OpenShut
import Derived.ShutString
import Derived.ChangeOld
import Derived.Below
namespace Go.Proofs.YtalbmcidlalicaaDoor
open Go.ChangeShapes Go.WideShapes Go.ChangeAt Go.RowKit
open Go.ChangeMaps (open_string shut_string)
set_option linter.unusedVariables false
namespace fieldTells

-- HOLE: the walk
theorem M27 (w : World) : Calls Tryd.prog 9 #[.int .u8 2, .int .u8 128] w fun e w' => e = .returned (.int .u8 27) ∧ w = w' := by
  have h := Mul_calls 2 128 w
  have e : (Gf.mul 2 128).toNat = 27 := by decide +kernel
  rw [e] at h; exact h
theorem Inv_no (a : UInt8) (ha : a = 0) (w : World) : Calls Tryd.prog 12 #[.int .u8 a.toNat] w fun e w' => e = .returned (.tuple #[.int .u8 0, .iface 23 (.int .i64 2)]) ∧ w = w' := by
  subst ha; exact Inv_calls_no w
set_option maxRecDepth 20000 in
set_option maxHeartbeats 4000000 in
theorem walk (a0 : UInt8) (a1 : UInt8) (a2 : Int) (w : World) (h2 : -9223372036854775808 ≤ a2 ∧ a2 ≤ 9223372036854775807) (hg : ErrVar w) :
    Calls Tryd.prog 3 #[.int .u8 a0.toNat, .int .u8 a1.toNat, .int .i64 a2] w fun e w' => e = .returned (.bool true) ∧ Below w.heap.size w w' := by
  have t1 : (((Gf.add a0 a1).toNat : Int) != ((Gf.add a0 a1).toNat : Int)) = false := by simp
  have t2 : (((Gf.mul a0 a1).toNat : Int) != ((Gf.mul a0 a1).toNat : Int)) = false := by simp
  by_cases ha : a0 = 0
  · have t0 : ((a0.toNat : Int) == 0) = true := by rw [ha]; rfl
    have HA := Lib.hid ha
    clear ha
    by_cases hn : a2 < 0
    · go_enter Tryd.func3, Tryd.ntmps3
      go_wp2_with (first | (go_at_call 9; first | ((with_reducible refine (M27 _).mono ?_); rintro e w' ⟨rfl, rfl⟩) | ((with_reducible refine (Mul_calls _ _ _).mono ?_); rintro e w' ⟨rfl, rfl⟩)) | (go_at_call 8; (with_reducible refine (Add_calls _ _ _).mono ?_); rintro e w' ⟨rfl, rfl⟩) | (go_at_call 10; (with_reducible refine (RefMul_calls _ _ _).mono ?_); rintro e w' ⟨rfl, rfl⟩) | (go_at_call 12; (with_reducible refine (Inv_no a0 HA.out _).mono ?_); rintro e w' ⟨rfl, rfl⟩) | (go_at_call 15; (with_reducible refine (Pow_calls_no _ _ hn _).mono ?_); rintro e w' ⟨rfl, rfl⟩))
      refine (Error_err 2 2 true rfl _ hg).mono ?_; rintro e w1 ⟨rfl, hb1⟩
      go_wp2_with (first | (go_at_call 9; first | ((with_reducible refine (M27 _).mono ?_); rintro e w' ⟨rfl, rfl⟩) | ((with_reducible refine (Mul_calls _ _ _).mono ?_); rintro e w' ⟨rfl, rfl⟩)) | (go_at_call 8; (with_reducible refine (Add_calls _ _ _).mono ?_); rintro e w' ⟨rfl, rfl⟩) | (go_at_call 10; (with_reducible refine (RefMul_calls _ _ _).mono ?_); rintro e w' ⟨rfl, rfl⟩) | (go_at_call 12; (with_reducible refine (Inv_no a0 HA.out _).mono ?_); rintro e w' ⟨rfl, rfl⟩) | (go_at_call 15; (with_reducible refine (Pow_calls_no _ _ hn _).mono ?_); rintro e w' ⟨rfl, rfl⟩))
      refine (Error_err 2 2 true rfl _ (hg.at_ hb1)).mono ?_; rintro e w2 ⟨rfl, hb2⟩
      go_wp2_with fail
      go_ret
      exact ⟨rfl, hb1.trans (hb2.mono hb1.size)⟩
    · obtain ⟨n, rfl⟩ : ∃ n : Nat, a2 = n := ⟨a2.toNat, by omega⟩
      have hN : n ≤ 9223372036854775807 := by omega
      have t5 : decide ((n : Int) < 0) = false := by rw [decide_eq_false]; omega
      have t4 : (((Gf.pow a0 n).toNat : Int) == ((Gf.pow a0 n).toNat : Int)) = true := by simp
      go_enter Tryd.func3, Tryd.ntmps3
      go_wp2_with (first | (go_at_call 9; first | ((with_reducible refine (M27 _).mono ?_); rintro e w' ⟨rfl, rfl⟩) | ((with_reducible refine (Mul_calls _ _ _).mono ?_); rintro e w' ⟨rfl, rfl⟩)) | (go_at_call 8; (with_reducible refine (Add_calls _ _ _).mono ?_); rintro e w' ⟨rfl, rfl⟩) | (go_at_call 10; (with_reducible refine (RefMul_calls _ _ _).mono ?_); rintro e w' ⟨rfl, rfl⟩) | (go_at_call 12; (with_reducible refine (Inv_no a0 HA.out _).mono ?_); rintro e w' ⟨rfl, rfl⟩) | (go_at_call 15; (with_reducible refine (Pow_calls _ _ hN _).mono ?_); rintro e w' ⟨rfl, rfl⟩) | (go_at_call 14; (with_reducible refine (RefPow_calls _ _ hN _).mono ?_); rintro e w' ⟨rfl, rfl⟩))
      refine (Error_err 2 2 true rfl _ hg).mono ?_; rintro e w1 ⟨rfl, hb1⟩
      go_wp2_with (first | (go_at_call 9; first | ((with_reducible refine (M27 _).mono ?_); rintro e w' ⟨rfl, rfl⟩) | ((with_reducible refine (Mul_calls _ _ _).mono ?_); rintro e w' ⟨rfl, rfl⟩)) | (go_at_call 8; (with_reducible refine (Add_calls _ _ _).mono ?_); rintro e w' ⟨rfl, rfl⟩) | (go_at_call 10; (with_reducible refine (RefMul_calls _ _ _).mono ?_); rintro e w' ⟨rfl, rfl⟩) | (go_at_call 12; (with_reducible refine (Inv_no a0 HA.out _).mono ?_); rintro e w' ⟨rfl, rfl⟩) | (go_at_call 15; (with_reducible refine (Pow_calls _ _ hN _).mono ?_); rintro e w' ⟨rfl, rfl⟩) | (go_at_call 14; (with_reducible refine (RefPow_calls _ _ hN _).mono ?_); rintro e w' ⟨rfl, rfl⟩) | (go_at_call 13; (with_reducible refine (Error_nil 0 true rfl _).mono ?_); rintro e w' ⟨rfl, rfl⟩))
      go_ret
      exact ⟨rfl, hb1⟩
  · have t0 : ((a0.toNat : Int) == 0) = false := by
      rw [beq_eq_false_iff_ne]; intro h; exact ha (UInt8.toNat_inj.1 (by have h1 : a0.toNat = 0 := by omega
                                                                         rw [h1]; rfl))
    have HA := Lib.hid ha
    clear ha
    have t3 : (((Gf.inv a0).toNat : Int) != ((Gf.inv a0).toNat : Int)) = false := by simp
    by_cases hn : a2 < 0
    · go_enter Tryd.func3, Tryd.ntmps3
      go_wp2_with (first | (go_at_call 9; first | ((with_reducible refine (M27 _).mono ?_); rintro e w' ⟨rfl, rfl⟩) | ((with_reducible refine (Mul_calls _ _ _).mono ?_); rintro e w' ⟨rfl, rfl⟩)) | (go_at_call 8; (with_reducible refine (Add_calls _ _ _).mono ?_); rintro e w' ⟨rfl, rfl⟩) | (go_at_call 10; (with_reducible refine (RefMul_calls _ _ _).mono ?_); rintro e w' ⟨rfl, rfl⟩) | (go_at_call 12; (with_reducible refine (Inv_calls a0 HA.out _).mono ?_); rintro e w' ⟨rfl, rfl⟩) | (go_at_call 11; (with_reducible refine (RefInv_calls _ _).mono ?_); rintro e w' ⟨rfl, rfl⟩) | (go_at_call 13; (with_reducible refine (Error_nil 0 true rfl _).mono ?_); rintro e w' ⟨rfl, rfl⟩) | (go_at_call 15; (with_reducible refine (Pow_calls_no _ _ hn _).mono ?_); rintro e w' ⟨rfl, rfl⟩))
      refine (Error_err 2 2 true rfl _ hg).mono ?_; rintro e w1 ⟨rfl, hb1⟩
      go_wp2_with fail
      go_ret
      exact ⟨rfl, hb1⟩
    · obtain ⟨n, rfl⟩ : ∃ n : Nat, a2 = n := ⟨a2.toNat, by omega⟩
      have hN : n ≤ 9223372036854775807 := by omega
      have t5 : decide ((n : Int) < 0) = false := by rw [decide_eq_false]; omega
      have t4 : (((Gf.pow a0 n).toNat : Int) == ((Gf.pow a0 n).toNat : Int)) = true := by simp
      go_enter Tryd.func3, Tryd.ntmps3
      go_wp2_with (first | (go_at_call 9; first | ((with_reducible refine (M27 _).mono ?_); rintro e w' ⟨rfl, rfl⟩) | ((with_reducible refine (Mul_calls _ _ _).mono ?_); rintro e w' ⟨rfl, rfl⟩)) | (go_at_call 8; (with_reducible refine (Add_calls _ _ _).mono ?_); rintro e w' ⟨rfl, rfl⟩) | (go_at_call 10; (with_reducible refine (RefMul_calls _ _ _).mono ?_); rintro e w' ⟨rfl, rfl⟩) | (go_at_call 12; (with_reducible refine (Inv_calls a0 HA.out _).mono ?_); rintro e w' ⟨rfl, rfl⟩) | (go_at_call 11; (with_reducible refine (RefInv_calls _ _).mono ?_); rintro e w' ⟨rfl, rfl⟩) | (go_at_call 13; (with_reducible refine (Error_nil 0 true rfl _).mono ?_); rintro e w' ⟨rfl, rfl⟩) | (go_at_call 15; (with_reducible refine (Pow_calls _ _ hN _).mono ?_); rintro e w' ⟨rfl, rfl⟩) | (go_at_call 14; (with_reducible refine (RefPow_calls _ _ hN _).mono ?_); rintro e w' ⟨rfl, rfl⟩))
      go_ret
      exact ⟨rfl, Below.refl _ _⟩

set_option maxRecDepth 100000 in
theorem lifted (os : Os) (started : os.Started) (H : Type) (enc : TypeId × Value → H) :
    ReturnsInHanded {} Tryd.checked os 3 .any (fun w args => (Rows.fieldTellsSpec.pre enc Tryd.prog Tryd.f3 Rows.fieldTellsRow.domain false w args ∧ laidMetH Tryd.prog Laid.list w) ∧ sizedMet enc Tryd.prog Tryd.f3 (OpenSpec.ofChange Rows.fieldTellsSpec) false w args) (Rows.fieldTellsSpec.post enc Tryd.prog Tryd.f3 false true false false) := by
  refine returnsInHanded_of_change_and (C := Tryd.checked) (X := fun w _ => laidMetH Tryd.prog Laid.list w) (fun _ _ _ hh h => h.of_heap hh) Laid.own started (by kernel_rfl) Tryd.func3
    (ChangeSpec.witness_at (enc := enc) (C := Tryd.checked) (os := os) (X := fun w _ => laidMetH Tryd.prog Laid.list w) false (laidWorld os) #[.int .u8 0, .int .u8 0, .int .i64 0] 8 rfl (by kernel_rfl) (by kernel_rfl) (by kernel_rfl) (by kernel_rfl) (by kernel_rfl) (laidWorld_met os _)) ?_
  intro W base args ds gs before hval0 hW _ _ hL _
  have hg := handle_of_laid hL
  have hval : ∀ (j : Nat) t v, Tryd.f3.params[j]? = some t → args[j]? = some v → Value.okWide Tryd.prog W .any base t v := hval0
  have hW' := hW
  obtain ⟨p, q, hA0, hV, rfl, hfz, hnd⟩ := hW
  have hA : DataW.TrodAll enc Tryd.prog W 0 (fun _ => true) true Tryd.f3.params.toList args.toList ds p := hA0
  rw [Tryd.params3] at hA hval
  obtain ⟨v0, vs0, d0, ds0, p0, q0, hargs, rfl, rfl, h0, r0⟩ := trodAll_cons hA
  obtain ⟨v1, vs1, d1, ds1, p1, q1, rfl, rfl, rfl, h1, r1⟩ := trodAll_cons r0
  obtain ⟨v2, vs2, d2, ds2, p2, q2, rfl, rfl, rfl, h2, r2⟩ := trodAll_cons r1
  obtain ⟨rfl, rfl, rfl⟩ := trodAll_nil r2
  obtain rfl : args = #[v0, v1, v2] := by cases args; simp_all
  obtain ⟨rfl, rfl⟩ := trodVars_none hV
  have k0 := h0
  have lt0 : ∀ x ∈ p0, x.block < W.heap.size := by obtain ⟨m, hm⟩ := k0; exact DataW.trod_lt m _ _ _ hm
  obtain ⟨z0, rfl, _, _, w0⟩ := open_int Tryd.underlying5 (hval 0 5 v0 rfl rfl) h0
  have b0 := bounds_u8 w0
  obtain ⟨a0, rfl⟩ : ∃ a : UInt8, z0 = (a.toNat : Int) := ⟨UInt8.ofNat z0.toNat, by simp; omega⟩
  have k1 := h1
  have lt1 : ∀ x ∈ p1, x.block < W.heap.size := by obtain ⟨m, hm⟩ := k1; exact DataW.trod_lt m _ _ _ hm
  obtain ⟨z1, rfl, _, _, w1⟩ := open_int Tryd.underlying5 (hval 1 5 v1 rfl rfl) h1
  have b1 := bounds_u8 w1
  obtain ⟨a1, rfl⟩ : ∃ a : UInt8, z1 = (a.toNat : Int) := ⟨UInt8.ofNat z1.toNat, by simp; omega⟩
  have k2 := h2
  have lt2 : ∀ x ∈ p2, x.block < W.heap.size := by obtain ⟨m, hm⟩ := k2; exact DataW.trod_lt m _ _ _ hm
  obtain ⟨a2, rfl, _, _, w2⟩ := open_int Tryd.underlying3 (hval 2 3 v2 rfl rfl) h2
  have b2 := bounds_i64 w2
  clear hA0 hval0
  refine (walk a0 a1 a2 W b2 hg).mono fun e W' ⟨he, bel⟩ => ?_
  subst he
  exact ⟨_, rfl, _, _, _, [], _, [], hW', trodAll_mk1 (shut_bool Tryd.underlying4 _), (trodAll_cons_mk (Below.trod Laid.laidOut (by kernel_rfl) (of_decide_eq_true (by kernel_rfl)) k0 bel lt0) (trodAll_cons_mk (Below.trod Laid.laidOut (by kernel_rfl) (of_decide_eq_true (by kernel_rfl)) k1 bel lt1) (trodAll_cons_mk (Below.trod Laid.laidOut (by kernel_rfl) (of_decide_eq_true (by kernel_rfl)) k2 bel lt2) trodAll_mk0))), rfl, bel.frame _, fun h => by cases h⟩

theorem over : Rows.fieldTellsRow.holds Tryd.pinned (OpenSpec.ofChange Rows.fieldTellsSpec) :=
  OpenClaim.holds_of_wide 3 Tryd.f3 rfl rfl rfl rfl rfl rfl rfl ⟨rfl, rfl, rfl, rfl, rfl⟩ rfl rfl rfl rfl rfl (by kernel_rfl) Tryd.func3 (by kernel_rfl)
    (of_decide_eq_true (by kernel_rfl)) (by unfold Func.isWrapper; first | (rw [if_pos (by decide +kernel)]; kernel_rfl) | (rw [if_neg (by decide +kernel)]; exact ⟨rfl, rfl⟩))
    (fun os started H enc _ => lifted os started H enc)

theorem proved : Rows.FieldTellsCardSaid :=
  Claim7.holds_tied_plain_at .later [] [.handle] true (true, "bf1fbc32c3425ab6ada0ace87329c2efbd99e0e7f004f60d603e2408cd6a4aa3") true
    over (fun _ h => by cases h) (by kernel_rfl) (fun _ h => by cases h) fieldTells_row_tie rfl ⟨rfl, rfl⟩ (by kernel_rfl) rfl
    (fun f fn hf hfn => by
      obtain rfl : f = 3 := Option.some.inj ((show Tryd.prog.funcNamed "oathbook/oathbooklaw2.FieldTells" = some 3 by kernel_rfl).symm.trans hf) |>.symm
      obtain rfl : fn = Tryd.f3 := (Option.some.inj (Tryd.func3.symm.trans hfn)).symm
      exact ⟨by kernel_rfl, stand_of_all (by kernel_rfl)⟩)
    (by kernel_rfl)
#print axioms proved
end fieldTells
end Go.Proofs.YtalbmcidlalicaaDoor
