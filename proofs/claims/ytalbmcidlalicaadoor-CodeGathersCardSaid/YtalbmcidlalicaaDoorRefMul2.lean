/- Walks of the document's Mul and Inv: they are the field's. -/
import Derived.Test.YtalbmcidlalicaaDoorRefMul
namespace Go.Proofs.YtalbmcidlalicaaDoor
open Go.RowKit
set_option linter.unusedVariables false

theorem clj_succ (a b i j p : Nat) : Gf.clj a b i (j + 1) p = if Gf.tb a i && Gf.tb b j then Gf.clj a b i j p ^^^ 2 ^ (i + j) else Gf.clj a b i j p := rfl
theorem Gf.ofNat_toNat (q : Nat) : (q : Int) % 256 = ((UInt8.ofNat (Gf.red 0 q)).toNat : Int) := by
  show (q : Int) % 256 = ((UInt8.ofNat q).toNat : Int)
  simp
theorem bI_eq (b : Bool) : (bI b == 1) = b := by cases b <;> rfl

set_option maxHeartbeats 2000000 in
theorem RefMul_calls (a b : UInt8) (w : World) : Calls Tryd.prog 10 #[.int .u8 a.toNat, .int .u8 b.toNat] w fun e w' => e = .returned (.int .u8 (Gf.mul a b).toNat) ∧ w = w' := by
  rw [← Gf.refMul_eq]
  unfold Gf.refMul
  have ha := a.toNat_lt
  have hb := b.toNat_lt
  obtain ⟨x, hx⟩ : ∃ x, a.toNat = x := ⟨_, rfl⟩
  obtain ⟨y, hy⟩ : ∃ y, b.toNat = y := ⟨_, rfl⟩
  rw [hx, hy]
  rw [hx] at ha
  rw [hy] at hb
  clear hx hy a b
  go_enter Tryd.func10, Tryd.ntmps10
  go_wp2
  go_loop [5, 6, 7] (fun p i j => ∃ k : Nat, k ≤ 8 ∧ i = .int .i64 k ∧ p = .int .i64 (Gf.cli x y k)) (fun _ i _ => 8 - (intOf i).toNat)
  case atStart => exact ⟨0, by omega, rfl, rfl⟩
  case round =>
    obtain ⟨k, hk, rfl, rfl⟩ := hrel
    have hp := Gf.cli_lt x y k hk
    by_cases h0 : k < 8
    · have hs : Gf.cli x y (k + 1) = Gf.clj x y k 8 (Gf.cli x y k) := rfl
      have HS := Lib.hid hs
      clear hs
      generalize Gf.cli x y k = p at *
      go_wp2_with fail
      go_loop [5, 7] (fun q j => ∃ m : Nat, m ≤ 8 ∧ j = .int .i64 m ∧ q = .int .i64 (Gf.clj x y k m p)) (fun _ j => 8 - (intOf j).toNat)
      case atStart => exact ⟨0, by omega, rfl, rfl⟩
      case round =>
        obtain ⟨m, hm, rfl, rfl⟩ := hrel
        have hq := Gf.clj_lt x y k (by omega) m hm p hp
        have hc := clj_succ x y k m p
        by_cases h1 : m < 8
        · generalize Gf.clj x y k m p = q at *
          have F := flip_calls q (k + m) (by omega) (by omega)
          rw [show ((k + m : Nat) : Int) = (k : Int) + (m : Int) by omega] at F
          cases t1 : Gf.tb x k with
          | false =>
            have t1' : (bI (Gf.tb x k) == 1) = false := by rw [t1]; rfl
            rw [t1] at hc
            simp only [Bool.false_and, Bool.false_eq_true, if_false] at hc
            have HC := Lib.hid hc
            clear hc t1 F
            go_wp2_with (go_at_call 31; refine (bit_calls _ _ (by omega) (by omega) _).mono ?_; rintro e w' ⟨rfl, rfl⟩)
            go_round
            case rel => exact ⟨m + 1, by omega, by go_num, by rw [HC.out]⟩
            case measure => simp [intOf]; omega
          | true =>
            have t1' : (bI (Gf.tb x k) == 1) = true := by rw [t1]; rfl
            rw [t1] at hc
            cases t2 : Gf.tb y m with
            | false =>
              have t2' : (bI (Gf.tb y m) == 1) = false := by rw [t2]; rfl
              rw [t2] at hc
              simp only [Bool.true_and, Bool.false_eq_true, if_false] at hc
              have HC := Lib.hid hc
              clear hc t1 t2 F
              go_wp2_with (go_at_call 31; refine (bit_calls _ _ (by omega) (by omega) _).mono ?_; rintro e w' ⟨rfl, rfl⟩)
              go_round
              case rel => exact ⟨m + 1, by omega, by go_num, by rw [HC.out]⟩
              case measure => simp [intOf]; omega
            | true =>
              have t2' : (bI (Gf.tb y m) == 1) = true := by rw [t2]; rfl
              rw [t2] at hc
              simp only [Bool.and_self, if_true] at hc
              have HC := Lib.hid hc
              clear hc t1 t2
              go_wp2_with (first | (go_at_call 31; refine (bit_calls _ _ (by omega) (by omega) _).mono ?_; rintro e w' ⟨rfl, rfl⟩) | (go_at_call 32; refine (F _).mono ?_; rintro e w' ⟨rfl, rfl⟩))
              go_round
              case rel => exact ⟨m + 1, by omega, by go_num, by rw [HC.out]⟩
              case measure => simp [intOf]; omega
        · obtain rfl : m = 8 := by omega
          clear hc
          go_wp2_with fail
          go_round
          case rel => exact ⟨k + 1, by omega, by go_num, by rw [HS.out]⟩
          case measure => simp [intOf]; omega
    · obtain rfl : k = 8 := by omega
      generalize hp0 : Gf.cli x y 8 = p0 at *
      have HP0 := Lib.hid hp0
      clear hp0
      go_wp2_with fail
      go_loop [5, 8] (fun q i => ∃ (n q' : Nat), n ≤ 7 ∧ q' < 2 ^ 15 ∧ i = .int .i64 ((n : Int) + 7) ∧ q = .int .i64 q' ∧ Gf.red n q' = Gf.red 7 p0) (fun _ i => (intOf i - 7).toNat)
      case atStart => exact ⟨7, p0, by omega, hp, rfl, rfl, rfl⟩
      case round =>
        obtain ⟨n, q, hn, hq, rfl, rfl, hr⟩ := hrel
        cases n with
        | zero =>
          have HR := Lib.hid hr
          clear hr
          go_wp2_with fail
          have hu := Gf.ofNat_toNat q
          go_ret
          exact ⟨ret_u8 (b := UInt8.ofNat (Gf.red 7 (Gf.cli x y 8))) (by rw [HP0.out, ← HR.out]; exact hu), rfl⟩
        | succ n =>
          have hs : Gf.red (n + 1) q = Gf.red n (if Gf.tb q (n + 8) then q ^^^ (283 * 2 ^ n) else q) := rfl
          have h5 := Gf.five q n
          rw [hs] at hr
          have B := bit_calls q (n + 8) (by omega) (by omega)
          rw [show ((n + 1 : Nat) : Int) + 7 = (n : Int) + 8 by omega]
          rw [show ((n + 8 : Nat) : Int) = (n : Int) + 8 by omega] at B
          clear hs
          cases t1 : Gf.tb q (n + 8) with
          | false =>
            rw [t1] at hr B
            simp only [Bool.false_eq_true, if_false] at hr
            simp only [show bI false = 0 from rfl] at B
            have HR := Lib.hid hr
            clear hr t1 h5
            go_wp2_with (go_at_call 31; refine (B _).mono ?_; rintro e w' ⟨rfl, rfl⟩)
            go_round
            case rel => exact ⟨n, q, by omega, hq, by go_num, rfl, HR.out⟩
            case measure => simp [intOf] <;> omega
          | true =>
            rw [t1] at hr B
            simp only [if_true] at hr
            simp only [show bI true = 1 from rfl] at B
            rw [← h5] at hr
            have l8 : q ^^^ 2 ^ (n + 8) < 2 ^ 15 := Nat.xor_lt_two_pow hq (Gf.pow_lt _ _ (by omega))
            have l4 := Nat.xor_lt_two_pow l8 (Gf.pow_lt (n + 4) 15 (by omega))
            have l3 := Nat.xor_lt_two_pow l4 (Gf.pow_lt (n + 3) 15 (by omega))
            have l1 := Nat.xor_lt_two_pow l3 (Gf.pow_lt (n + 1) 15 (by omega))
            have l0 := Nat.xor_lt_two_pow l1 (Gf.pow_lt n 15 (by omega))
            have F8 := flip_calls q (n + 8) (by omega) (by omega)
            have F4 := flip_calls _ (n + 4) (Nat.le_trans (Nat.le_of_lt l8) (by decide)) (by omega)
            have F3 := flip_calls _ (n + 3) (Nat.le_trans (Nat.le_of_lt l4) (by decide)) (by omega)
            have F1 := flip_calls _ (n + 1) (Nat.le_trans (Nat.le_of_lt l3) (by decide)) (by omega)
            have F0 := flip_calls _ n (Nat.le_trans (Nat.le_of_lt l1) (by decide)) (by omega)
            rw [show ((n + 8 : Nat) : Int) = (n : Int) + 8 by omega] at F8
            rw [show ((n + 4 : Nat) : Int) = (n : Int) + 8 - 4 by omega] at F4
            rw [show ((n + 3 : Nat) : Int) = (n : Int) + 8 - 5 by omega] at F3
            rw [show ((n + 1 : Nat) : Int) = (n : Int) + 8 - 7 by omega] at F1
            generalize q ^^^ 2 ^ (n + 8) = q8 at *
            generalize q8 ^^^ 2 ^ (n + 4) = q4 at *
            generalize q4 ^^^ 2 ^ (n + 3) = q3 at *
            generalize q3 ^^^ 2 ^ (n + 1) = q1 at *
            generalize q1 ^^^ 2 ^ n = q0 at *
            have HR := Lib.hid hr
            have L0 := Lib.hid l0
            clear hr t1 h5 l8 l4 l3 l1 l0
            go_wp2_with (first | (go_at_call 31; refine (B _).mono ?_; rintro e w' ⟨rfl, rfl⟩) | (go_at_call 32; first | ((with_reducible refine (F8 _).mono ?_); rintro e w' ⟨rfl, rfl⟩) | ((with_reducible refine (F4 _).mono ?_); rintro e w' ⟨rfl, rfl⟩) | ((with_reducible refine (F3 _).mono ?_); rintro e w' ⟨rfl, rfl⟩) | ((with_reducible refine (F1 _).mono ?_); rintro e w' ⟨rfl, rfl⟩) | ((with_reducible refine (F0 _).mono ?_); rintro e w' ⟨rfl, rfl⟩)))
            go_round
            case rel => exact ⟨n, q0, by omega, L0.out, by go_num, rfl, HR.out⟩
            case measure => simp [intOf] <;> omega

/-- the least byte that a is 1 with, from n on -/
theorem inv_ne (a : UInt8) (m : Nat) (hm : m < 256) (h : (Gf.mul a (UInt8.ofNat m) == 1) = true) : UInt8.ofNat m = Gf.inv a := by
  have h' := eq_of_beq h
  have ha : a ≠ 0 := by rintro rfl; rw [Gf.zero_mul] at h'; exact absurd h' (by decide)
  exact Gf.mul_cancel ha (h'.trans (Gf.mul_inv a ha).symm)
set_option maxRecDepth 20000 in
theorem RefInv_calls (a : UInt8) (w : World) : Calls Tryd.prog 11 #[.int .u8 a.toNat] w fun e w' => e = .returned (.int .u8 (Gf.inv a).toNat) ∧ w = w' := by
  go_enter Tryd.func11, Tryd.ntmps11
  go_wp2
  go_loop [3] (fun i => ∃ k : Nat, 1 ≤ k ∧ k ≤ 256 ∧ i = .int .i64 k ∧ ∀ j, 1 ≤ j → j < k → Gf.mul a (UInt8.ofNat j) ≠ 1) (fun i => 256 - (intOf i).toNat)
  case atStart => exact ⟨1, by omega, by omega, rfl, fun j h1 h2 => by omega⟩
  case round =>
    obtain ⟨k, hk1, hk, rfl, hno⟩ := hrel
    have HN := Lib.hid hno
    clear hno
    by_cases h0 : k < 256
    · obtain ⟨b, hb⟩ : ∃ b, b = UInt8.ofNat k := ⟨_, rfl⟩
      have hbn : (k : Int) % 256 = (b.toNat : Int) := by rw [hb]; simp
      have hkb : IntKind.u8.wrap (k : Int) = (b.toNat : Int) := by rw [IntKind.wrap_u8]; exact hbn
      have M : ∀ w, Calls Tryd.prog 10 #[.int .u8 a.toNat, .int .u8 k] w fun e w' => e = .returned (.int .u8 (Gf.mul a b).toNat) ∧ w = w' := by
        have : (k : Int) = (b.toNat : Int) := by omega
        intro w; rw [this]; exact RefMul_calls a b w
      have HB := Lib.hid hb
      have HBn := Lib.hid hbn
      clear hb hbn hkb
      cases t : (Gf.mul a b == 1) with
      | true =>
        have t' : (((Gf.mul a b).toNat : Int) == 1) = true := by rw [eq_of_beq t]; rfl
        have hi : (k : Int) = ((Gf.inv a).toNat : Int) := by
          have h1 := HB.out
          rw [h1] at t
          have h2 := HBn.out
          rw [← inv_ne a k h0 t, ← h1]; omega
        have HI := Lib.hid hi
        clear hi t
        go_wp2_with (go_at_call 10; (with_reducible refine (M _).mono ?_); rintro e w' ⟨rfl, rfl⟩)
        go_ret
        exact ⟨ret_u8 HI.out, rfl⟩
      | false =>
        have t' : (((Gf.mul a b).toNat : Int) == 1) = false := by
          rw [beq_eq_false_iff_ne] at t ⊢
          intro h
          exact t (UInt8.toNat_inj.1 (by have h1 : (Gf.mul a b).toNat = 1 := by omega
                                         rw [h1]; rfl))
        have T := Lib.hid t
        clear t
        go_wp2_with (go_at_call 10; (with_reducible refine (M _).mono ?_); rintro e w' ⟨rfl, rfl⟩)
        go_round
        case rel =>
          refine ⟨k + 1, by omega, by omega, by go_num, fun j h1 h2 => ?_⟩
          by_cases hj : j < k
          · exact HN.out j h1 hj
          · obtain rfl : j = k := by omega
            rw [← HB.out]
            exact ne_of_beq_false T.out
        case measure => simp [intOf]; omega
    · obtain rfl : k = 256 := by omega
      have h0 : a = 0 := by
        by_cases ha : a = 0
        · exact ha
        · exfalso
          have h1 := Gf.mul_inv a ha
          refine HN.out (Gf.inv a).toNat ?_ (UInt8.toNat_lt _) (by simpa using h1)
          rcases Nat.eq_zero_or_pos (Gf.inv a).toNat with h | h
          · have : Gf.inv a = 0 := UInt8.toNat_inj.1 h
            rw [this, Gf.mul_zero] at h1
            exact absurd h1 (by decide)
          · exact h
      have hz : (0 : Int) = ((Gf.inv a).toNat : Int) := by rw [h0]; rfl
      have HZ := Lib.hid hz
      clear h0 hz
      go_wp2_with fail
      go_ret
      exact ⟨ret_u8 HZ.out, rfl⟩
end Go.Proofs.YtalbmcidlalicaaDoor
