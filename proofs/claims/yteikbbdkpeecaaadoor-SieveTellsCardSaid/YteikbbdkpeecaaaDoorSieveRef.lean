/- Walks: the reference's SieveFault and BitOf. -/
import Derived.Test.YteikbbdkpeecaaaDoorSieveBoth
namespace Go.Proofs.YteikbbdkpeecaaaDoor
open Go.RowKit Go.Shelf
set_option linter.unusedVariables false
set_option linter.unusedSimpArgs false
instance (L : Nat) (K : Int) : Decidable (SvOk L K) := by unfold SvOk; infer_instance
set_option maxRecDepth 100000 in
set_option maxHeartbeats 4000000 in
theorem SieveFault_calls (L : Nat) (K : Int) (hL : L ≤ 140737488351232) (a : Option Addr) (c : Nat) (w : World) : Calls Tryd.prog 11 #[.agg #[.slice a L c, .int .i64 K]] w fun e w' => e = .returned (.int .i64 (if SvOk L K then 0 else 2)) ∧ Below w.heap.size w w' := by
  have fin : Below w.heap.size w (w.alloc (.cells #[.slice a L c, .int .i64 K] 24)) := (Below.refl _ w).alloc (Nat.le_refl _) _
  have HF := Lib.hid fin
  have e8 : IntKind.i64.wrap ((L : Int) * 8) = (L : Int) * 8 := IntWalk.i64_in _ (by omega)
  have HL := Lib.hid hL
  clear fin
  by_cases h1 : L = 0
  · rw [if_neg (by unfold SvOk; omega)]
    subst h1
    clear e8 hL
    go_enter Tryd.func11, Tryd.ntmps11
    go_wp2_with fail
    go_ret
    exact ⟨rfl, HF.out⟩
  · have z1 : ((L : Int) == 0) = false := by rw [beq_eq_false_iff_ne]; omega
    have z1b : (L == 0) = false := by rw [beq_eq_false_iff_ne]; exact h1
    by_cases h2 : 1024 < L
    · have z2 : decide (8192 < (L : Int) * 8) = true := decide_eq_true (by omega)
      rw [if_neg (by unfold SvOk; omega)]
      clear h1 h2 hL
      go_enter Tryd.func11, Tryd.ntmps11
      go_wp2_with fail
      go_ret
      exact ⟨rfl, HF.out⟩
    · have z2 : decide (8192 < (L : Int) * 8) = false := decide_eq_false (by omega)
      by_cases h3 : K < 1
      · have z3 : decide (K < 1) = true := decide_eq_true h3
        rw [if_neg (by unfold SvOk; omega)]
        clear h1 h2 h3 hL
        go_enter Tryd.func11, Tryd.ntmps11
        go_wp2_with fail
        go_ret
        exact ⟨rfl, HF.out⟩
      · have z3 : decide (K < 1) = false := decide_eq_false h3
        by_cases h4 : 8 < K
        · have z4 : decide (8 < K) = true := decide_eq_true h4
          rw [if_neg (by unfold SvOk; omega)]
          clear h1 h2 h3 h4 hL
          go_enter Tryd.func11, Tryd.ntmps11
          go_wp2_with fail
          go_ret
          exact ⟨rfl, HF.out⟩
        · have z4 : decide (8 < K) = false := decide_eq_false h4
          rw [if_pos (by unfold SvOk; omega)]
          clear h1 h2 h3 h4 hL
          go_enter Tryd.func11, Tryd.ntmps11
          go_wp2_with fail
          go_ret
          exact ⟨rfl, HF.out⟩
set_option maxRecDepth 100000 in
set_option maxHeartbeats 4000000 in
theorem BitOf_calls (bits : List UInt8) (hL : bits.length ≤ 1024) (p : Nat) (hp : p < 8 * bits.length) (K : Int) (a : Option Addr) (c e : Nat) (w : World) (hr : Rd w a e (bits.map vB)) : Calls Tryd.prog 15 #[.agg #[.slice a bits.length c, .int .i64 K], .int .i64 (p : Int)] w fun e w' => e = .returned (.bool (bitB bits p)) ∧ Below w.heap.size w w' := by
  have fin : Below w.heap.size w (w.alloc (.cells #[.slice a bits.length c, .int .i64 K] 24)) := (Below.refl _ w).alloc (Nat.le_refl _) _
  have hq9 : p / 8 < bits.length := by omega
  obtain ⟨b9, o9, hb9, hbl9, hc9⟩ := (hr.below fin).bytes hq9
  subst hb9
  have c9 := hc9 (p / 8) hq9
  have hbit : bitB bits p = (bits[p / 8]'hq9).toNat.testBit (p % 8) := by
    unfold bitB
    rw [List.getD_eq_getElem?_getD, List.getElem?_eq_getElem hq9]; rfl
  rw [Nat.testBit_eq_decide_div_mod_eq] at hbit
  obtain ⟨X, hX⟩ : ∃ X, X = bits[p / 8]'hq9 := ⟨_, rfl⟩
  rw [← hX] at c9 hbit
  obtain ⟨q, hq⟩ : ∃ q, q = p / 8 := ⟨_, rfl⟩
  obtain ⟨r, hr9⟩ : ∃ r, r = p % 8 := ⟨_, rfl⟩
  rw [← hq] at c9
  rw [← hr9] at hbit
  have hqb : q < bits.length := by omega
  have e1 : (p : Int) / 8 = (q : Int) := by omega
  have e1t : (p : Int).tdiv 8 = (q : Int) := by rw [Int.tdiv_eq_ediv_of_nonneg (by omega)]; omega
  have e2 : (p : Int) % 8 = (r : Int) := by omega
  have e2t : (p : Int).tmod 8 = (r : Int) := by rw [Int.tmod_eq_emod_of_nonneg (by omega)]; omega
  have q0 : (0 : Int) ≤ (q : Int) := by omega
  have q1 : (q : Int) < (bits.length : Int) := by omega
  have ew1 : IntKind.i64.wrap (q : Int) = (q : Int) := IntWalk.i64_in _ (by omega)
  have ew2 : IntKind.i64.wrap (r : Int) = (r : Int) := IntWalk.i64_in _ (by omega)
  have hx256 := X.toNat_lt
  have ewX : IntKind.i64.wrap (X.toNat : Int) = (X.toNat : Int) := IntWalk.i64_in _ (by omega)
  have HF := Lib.hid fin
  have HBIT := Lib.hid hbit
  have hr7 : r < 8 := by omega
  clear fin hc9 hX hq hr9 hbit hq9 hr
  go_enter Tryd.func15, Tryd.ntmps15
  go_wp2_with fail
  go_loopw [5, 6] (fun y i wr => ∃ k : Nat, k ≤ r ∧ i = .int .i64 k ∧ y = .int .i64 ((X.toNat / 2 ^ k : Nat) : Int) ∧ wr = w.alloc (.cells #[.slice (some ⟨b9, o9, none⟩) bits.length c, .int .i64 K] 24)) (fun _ i _ => r - (intOf i).toNat)
  case atStart => exact ⟨0, Nat.zero_le _, rfl, by simp, rfl⟩
  case round =>
    obtain ⟨k, hk, rfl, rfl, hwr⟩ := hrel
    have HWR := Lib.hid hwr
    clear hwr
    obtain ⟨T, hT⟩ : ∃ T, T = X.toNat / 2 ^ k := ⟨_, rfl⟩
    have hT2 : T / 2 = X.toNat / 2 ^ (k + 1) := by rw [hT, Nat.pow_succ, Nat.div_div_eq_div_mul]
    have hTl : T < 256 := by rw [hT]; exact Nat.lt_of_le_of_lt (Nat.div_le_self _ _) hx256
    rw [← hT]
    by_cases hlt : k < r
    · have hz : (k : Int) < (r : Int) := by omega
      have e5 : (T : Int) / 2 = ((T / 2 : Nat) : Int) := by omega
      have e5t : (T : Int).tdiv 2 = ((T / 2 : Nat) : Int) := by rw [Int.tdiv_eq_ediv_of_nonneg (by omega)]; omega
      have e6 : IntKind.i64.wrap ((T / 2 : Nat) : Int) = ((T / 2 : Nat) : Int) := IntWalk.i64_in _ (by omega)
      have e4 : IntKind.i64.wrap ((k : Int) + 1) = (k : Int) + 1 := IntWalk.i64_in _ (by omega)
      obtain ⟨T2, hT3⟩ : ∃ T2, T2 = T / 2 := ⟨_, rfl⟩
      rw [← hT3] at e5 e5t e6 hT2
      have HT2 := Lib.hid hT2
      clear hT hT2 hT3
      go_wp2_with fail
      go_roundw
      case rel => exact ⟨k + 1, by omega, by go_num, by rw [HT2.out], HWR.out⟩
      case measure => simp [intOf]; omega
    · obtain rfl : k = r := by omega
      have e7 : (T : Int) % 2 = ((T % 2 : Nat) : Int) := by omega
      have e7t : (T : Int).tmod 2 = ((T % 2 : Nat) : Int) := by rw [Int.tmod_eq_emod_of_nonneg (by omega)]; omega
      have e6 : IntKind.i64.wrap ((T % 2 : Nat) : Int) = ((T % 2 : Nat) : Int) := IntWalk.i64_in _ (by omega)
      have hb := HBIT.out
      rw [← hT] at hb
      obtain ⟨T2, hT3⟩ : ∃ T2, T2 = T % 2 := ⟨_, rfl⟩
      rw [← hT3] at e7 e7t e6 hb
      have HB := Lib.hid hb
      clear hT hT2 hT3 hb HBIT
      go_wp2_with fail
      go_ret
      refine ⟨?_, by rw [HWR.out]; exact HF.out⟩
      rw [HB.out]
      have hd : ((T2 : Int) == 1) = decide (T2 = 1) := by
        rw [Bool.eq_iff_iff, beq_iff_eq, decide_eq_true_iff]
        omega
      rw [← hd]
      rfl
end Go.Proofs.YteikbbdkpeecaaaDoor
