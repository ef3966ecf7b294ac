/- Walks of the document's Value of a polynomial and of what is wrong with what is to be split. -/
import Derived.Test.YtalbmcidlalicaaDoorRefMul2
import Derived.Test.YtalbmcidlalicaaDoorPoly
import Derived.Test.YtalbmcidlalicaaDoorSplitLaw
namespace Go.Proofs.YtalbmcidlalicaaDoor
open Go.RowKit
set_option linter.unusedVariables false

theorem val_take (xs : List UInt8) (x : UInt8) (k : Nat) (h : k < xs.length) : Gf.val (xs.take (k + 1)) x = Gf.add (Gf.val (xs.take k) x) (Gf.mul xs[k] (Gf.pow x k)) := by
  rw [List.take_succ_eq_append_getElem h, Gf.val_append]
  have hl : (xs.take k).length = k := by rw [List.length_take]; omega
  rw [hl]; simp [Gf.val, Gf.zero_mul, Gf.add]

theorem RefValue_calls (xs : List UInt8) (x : UInt8) (a : Option Addr) (cap e : Nat) (w : World) (hr : Rd w a e (xs.map vB)) (hx : xs.length ≤ 9223372036854775807) :
    Calls Tryd.prog 17 #[.slice a xs.length cap, .int .u8 x.toNat] w fun e w' => e = .returned (.int .u8 (Gf.val xs x).toNat) ∧ w = w' := by
  go_enter Tryd.func17, Tryd.ntmps17
  go_wp2
  go_loop [5, 6, 7] (fun v p i => ∃ k : Nat, k ≤ xs.length ∧ i = .int .i64 k ∧ v = .int .u8 (Gf.val (xs.take k) x).toNat ∧ p = .int .u8 (Gf.pow x k).toNat) (fun _ _ i => xs.length - (intOf i).toNat)
  case atStart => exact ⟨0, Nat.zero_le _, rfl, rfl, rfl⟩
  case round =>
    obtain ⟨k, hk, rfl, rfl, rfl⟩ := hrel
    by_cases hlt : k < xs.length
    · obtain ⟨b, o, rfl, _, hc⟩ := hr.bytes hlt
      have hck := hc k hlt
      have hs := val_take xs x k hlt
      have hp : Gf.pow x (k + 1) = Gf.mul (Gf.pow x k) x := rfl
      have HS := Lib.hid hs
      have HP := Lib.hid hp
      have k0 : (0 : Int) ≤ (k : Int) := by omega
      have k1 : (k : Int) < (xs.length : Int) := by omega
      clear hc hs hp
      generalize Gf.val (xs.take k) x = v at *
      generalize xs[k] = y at *
      generalize Gf.pow x k = p at *
      go_wp2_with (go_at_call 10; (with_reducible refine (RefMul_calls _ _ _).mono ?_); rintro e w' ⟨rfl, rfl⟩)
      go_round
      case rel => exact ⟨k + 1, by omega, by go_num, by rw [HS.out], by rw [HP.out]⟩
      case measure => simp [intOf] <;> omega
    · obtain rfl : k = xs.length := by omega
      rw [List.take_length]
      go_wp2
      go_ret
      exact ⟨rfl, rfl⟩

set_option maxHeartbeats 2000000 in
theorem SplitFault_calls (secret : List UInt8) (n : Int) (more : List (List UInt8)) (a : Option Addr) (ca ea : Nat) (b : Option Addr) (cb eb : Nat) (vs : List Value) (w : World) (ha : Rd w a ea (secret.map vB)) (hb : Rd w b eb vs) (hv : AreB (fun _ _ => True) w more vs) (hl : secret.length ≤ 9223372036854775807) (hm : more.length ≤ 9223372036854775807) :
    Calls Tryd.prog 18 #[.slice a secret.length ca, .int .i64 n, .slice b more.length cb] w fun e w' => e = .returned (.int .i64 (splitF secret n more)) ∧ w = w' := by
  have Hv := Lib.hid hv
  have hvl : vs.length = more.length := hv.1
  have Hvl := Lib.hid hvl
  clear hvl
  by_cases h1 : n < 1 ∨ 20 < n
  · have hf : splitF secret n more = 2 := by unfold splitF; rw [if_pos h1]
    have Hf := Lib.hid hf
    clear hf
    by_cases h2 : n < 1
    · go_enter Tryd.func18, Tryd.ntmps18
      go_wp2
      go_ret
      exact ⟨ret_i64 Hf.out.symm, rfl⟩
    · have h3 : 20 < n := by omega
      go_enter Tryd.func18, Tryd.ntmps18
      go_wp2
      go_ret
      exact ⟨ret_i64 Hf.out.symm, rfl⟩
  · have q1 : decide (n < 1) = false := by rw [decide_eq_false]; omega
    have q2 : decide ((20 : Int) < n) = false := by rw [decide_eq_false]; omega
    by_cases h2 : 100 < secret.length ∨ 20 < more.length
    · have hf : splitF secret n more = 4 := by unfold splitF; rw [if_neg h1, if_pos h2]
      have Hf := Lib.hid hf
      clear hf
      by_cases h3 : 100 < secret.length
      · have q3 : decide ((100 : Int) < (secret.length : Int)) = true := by rw [decide_eq_true_eq]; omega
        clear h1 h2
        go_enter Tryd.func18, Tryd.ntmps18
        go_wp2
        go_ret
        exact ⟨ret_i64 Hf.out.symm, rfl⟩
      · have q3 : decide ((100 : Int) < (secret.length : Int)) = false := by rw [decide_eq_false]; omega
        have q4 : decide ((20 : Int) < (more.length : Int)) = true := by rw [decide_eq_true_eq]; omega
        clear h1 h2
        go_enter Tryd.func18, Tryd.ntmps18
        go_wp2
        go_ret
        exact ⟨ret_i64 Hf.out.symm, rfl⟩
    · have q3 : decide ((100 : Int) < (secret.length : Int)) = false := by rw [decide_eq_false]; omega
      have q4 : decide ((20 : Int) < (more.length : Int)) = false := by rw [decide_eq_false]; omega
      have hyes : (∀ r ∈ more, r.length = secret.length) → splitF secret n more = 0 := by
        intro h
        unfold splitF
        rw [if_neg h1, if_neg h2, if_neg]
        rintro ⟨r, hr1, hr2⟩
        exact hr2 (h r hr1)
      have hno : (∃ r ∈ more, r.length ≠ secret.length) → splitF secret n more = 3 := by
        intro h
        unfold splitF
        rw [if_neg h1, if_neg h2, if_pos h]
      have Hyes := Lib.hid hyes
      have Hno := Lib.hid hno
      clear hyes hno h1 h2
      go_enter Tryd.func18, Tryd.ntmps18
      go_wp2
      go_loop [7] (fun i => ∃ k : Nat, k ≤ more.length ∧ i = .int .i64 k ∧ ∀ r ∈ more.take k, r.length = secret.length) (fun i => more.length - (intOf i).toNat)
      case atStart => exact ⟨0, Nat.zero_le _, rfl, by simp⟩
      case round =>
        obtain ⟨k, hk, rfl, hlen⟩ := hrel
        have Hlen := Lib.hid hlen
        clear hlen
        by_cases hlt : k < more.length
        · obtain ⟨bb, ob, rfl, hbb, hcb⟩ := hb.cell (k := k) (by rw [Hvl.out]; exact hlt)
          obtain ⟨ak, ck, ek, hvk, hrk, _⟩ := Hv.out.2 k hlt (by rw [Hvl.out]; exact hlt)
          have hck : w.cell? ⟨bb, ob + k, none⟩ = some (.slice ak more[k].length ck) := by rw [← hvk]; exact hcb k (by rw [Hvl.out]; exact hlt)
          clear hcb hvk hrk
          have k0 : (0 : Int) ≤ (k : Int) := by omega
          have k1 : (k : Int) < (more.length : Int) := by omega
          by_cases hkl : more[k].length = secret.length
          · have hnew : ∀ r ∈ more.take (k + 1), r.length = secret.length := by
              rw [List.take_succ_eq_append_getElem hlt]
              intro r hr
              rcases List.mem_append.1 hr with hr | hr
              · exact Hlen.out r hr
              · rw [List.mem_singleton.1 hr]; exact hkl
            rw [hkl] at hck
            have t : ((secret.length : Int) != (secret.length : Int)) = false := by simp
            have Hnew := Lib.hid hnew
            clear hkl hnew
            go_wp2
            go_round
            case rel => exact ⟨k + 1, by omega, by go_num, Hnew.out⟩
            case measure => simp [intOf] <;> omega
          · have hx : ∃ r ∈ more, r.length ≠ secret.length := ⟨more[k], List.getElem_mem _, hkl⟩
            have hx3 := Hno.out hx
            have Hx := Lib.hid hx3
            have t : ((more[k].length : Int) != (secret.length : Int)) = true := by rw [bne_iff_ne]; omega
            clear hkl hx hx3
            go_wp2
            go_ret
            exact ⟨ret_i64 Hx.out.symm, rfl⟩
        · obtain rfl : k = more.length := by omega
          have hall : ∀ r ∈ more, r.length = secret.length := by have := Hlen.out; rwa [List.take_of_length_le (Nat.le_refl _)] at this
          have hx0 := Hyes.out hall
          have Hx := Lib.hid hx0
          clear hall hx0
          go_wp2
          go_ret
          exact ⟨ret_i64 Hx.out.symm, rfl⟩
end Go.Proofs.YtalbmcidlalicaaDoor
