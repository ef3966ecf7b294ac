/- Walk: the document's SharesFault tells what is wrong with shares. -/
import Derived.Test.YtalbmcidlalicaaDoorGather
import Derived.Test.YtalbmcidlalicaaDoorRefMul2
namespace Go.Proofs.YtalbmcidlalicaaDoor
open Go.RowKit
set_option linter.unusedVariables false

theorem faultAt_place {lo hi : Nat} {ss : List Sh} {k : Nat} (hk : k < ss.length) (h : ss[k].at_.toNat < lo ∨ hi < ss[k].at_.toNat) : faultAt lo hi ss k = 2 := by
  have e : ss.getD k default = ss[k] := by rw [List.getD_eq_getElem?_getD, List.getElem?_eq_getElem hk]; rfl
  unfold faultAt
  rw [e, if_pos h]
theorem faultAt_twice {lo hi : Nat} {ss : List Sh} {k : Nat} (hk : k < ss.length) (h1 : ¬ ss[k].at_.toNat < lo) (h2 : ¬ hi < ss[k].at_.toNat) {j : Nat} (hj : j < k) (h : ss[j].at_ = ss[k].at_) : faultAt lo hi ss k = 7 := by
  have e : ss.getD k default = ss[k] := by rw [List.getD_eq_getElem?_getD, List.getElem?_eq_getElem hk]; rfl
  unfold faultAt
  rw [e, if_neg (by omega), if_pos]
  rw [← h]
  refine List.mem_map.2 ⟨ss[j], ?_, rfl⟩
  rw [List.mem_take_iff_getElem]
  exact ⟨j, by omega, rfl⟩
theorem faultAt_last {lo hi : Nat} {ss : List Sh} {k : Nat} (hk : k < ss.length) (h1 : ¬ ss[k].at_.toNat < lo) (h2 : ¬ hi < ss[k].at_.toNat) (h : ∀ j, (hj : j < k) → ss[j].at_ ≠ ss[k].at_) : faultAt lo hi ss k = if ss[k].data.length ≠ (ss[0]'(by omega)).data.length then 3 else 0 := by
  have e : ss.getD k default = ss[k] := by rw [List.getD_eq_getElem?_getD, List.getElem?_eq_getElem hk]; rfl
  have e0 : ss.headD default = ss[0]'(by omega) := by
    cases ss with
    | nil => simp at hk
    | cons s ss => rfl
  unfold faultAt
  rw [e, e0, if_neg (by omega), if_neg]
  intro hm
  obtain ⟨s, hs, hx⟩ := List.mem_map.1 hm
  rw [List.mem_take_iff_getElem] at hs
  obtain ⟨j, hj, rfl⟩ := hs
  exact h j (by omega) hx
theorem sharesF_at {lo hi : Nat} {ss : List Sh} {k n : Nat} (h0 : sharesF lo hi ss k = 0) (hk : k < n) {c : Int} (hc : c ≠ 0) (h : faultAt lo hi ss k = c) : sharesF lo hi ss n = c := by
  have e1 : sharesF lo hi ss (k + 1) = c := by simp only [sharesF]; rw [if_neg (by simpa using h0), h]
  rw [sharesF_stop (n := k + 1) (by rw [e1]; exact hc) (by omega), e1]
theorem sharesF_next {lo hi : Nat} {ss : List Sh} {k : Nat} (h0 : sharesF lo hi ss k = 0) (h : faultAt lo hi ss k = 0) : sharesF lo hi ss (k + 1) = 0 := by
  simp only [sharesF]; rw [if_neg (by simpa using h0), h]

set_option maxHeartbeats 1000000 in
theorem RefFault_calls (ss : List Sh) (lo hi : Nat) (L H : Int) (hL : L = lo) (hH : H = hi) (a : Option Addr) (ca ea : Nat) (vs : List Value) (w : World) (hr : Rd w a ea vs) (hs : AreS (fun _ _ => True) w ss vs) (hl : ss.length ≤ 9223372036854775807) :
    Calls Tryd.prog 22 #[.slice a ss.length ca, .int .i64 L, .int .i64 H] w fun e w' => e = .returned (.int .i64 (sharesF lo hi ss ss.length)) ∧ ∃ n, w' = w.drewN n := by
  subst hL hH
  have Hs := Lib.hid hs
  clear hs
  go_enter Tryd.func22, Tryd.ntmps22
  go_wp2
  go_loopw [7] (fun i wr => ∃ k n : Nat, k ≤ ss.length ∧ i = .int .i64 k ∧ sharesF lo hi ss k = 0 ∧ wr = w.drewN n) (fun i _ => ss.length - (intOf i).toNat)
  case atStart => exact ⟨0, 0, Nat.zero_le _, rfl, rfl, rfl⟩
  case round =>
    obtain ⟨k, n, hk, rfl, hz, rfl⟩ := hrel
    have HZ := Lib.hid hz
    clear hz
    by_cases hlt : k < ss.length
    · obtain ⟨b, o, a', c', e', rfl, hb, c0, c1, hrd, _, hdl⟩ := AreS.cells hr Hs.out hlt
      obtain ⟨b0, o0, a0, c0', e0', he0, _, _, d1, _, _, hdl0⟩ := AreS.cells hr Hs.out (k := 0) (by omega)
      obtain ⟨rfl, rfl⟩ : b = b0 ∧ o = o0 := by simpa using he0
      clear he0
      rw [show o + 2 * k = o + k * 2 by omega] at c0
      rw [show o + (2 * k + 1) = o + k * 2 + 1 by omega] at c1
      rw [show o + (2 * 0 + 1) = o + 1 by omega] at d1
      have i0 : (0 : Int) ≤ (k : Int) := by omega
      have i1 : (k : Int) < (ss.length : Int) := by omega
      have i2 : 0 < ss.length := by omega
      obtain ⟨X, hX⟩ : ∃ X, X = ss[k].at_ := ⟨_, rfl⟩
      rw [← hX] at c0
      have HX := Lib.hid hX
      clear hX
      have hX256 : X.toNat < 256 := X.toNat_lt
      by_cases h1 : X.toNat < lo
      · have t : decide (X.toNat < lo) = true := decide_eq_true h1
        have hf := sharesF_at HZ.out hlt (by decide) (faultAt_place hlt (.inl (by rw [← HX.out]; exact h1)))
        have HF := Lib.hid hf
        clear hf
        go_wp2_with fail
        go_ret
        exact ⟨ret_i64 (HF.out.symm), n, rfl⟩
      · have t : decide (X.toNat < lo) = false := decide_eq_false h1
        by_cases h2 : hi < X.toNat
        · have t2 : decide (hi < X.toNat) = true := decide_eq_true h2
          have hf := sharesF_at HZ.out hlt (by decide) (faultAt_place hlt (.inr (by rw [← HX.out]; exact h2)))
          have HF := Lib.hid hf
          clear hf
          go_wp2_with fail
          go_ret
          exact ⟨ret_i64 (HF.out.symm), n, rfl⟩
        · have t2 : decide (hi < X.toNat) = false := decide_eq_false h2
          go_wp2_with fail
          go_loopw [8] (fun i wr => ∃ j m : Nat, j ≤ k ∧ i = .int .i64 j ∧ (∀ q, (hq : q < j) → (hq' : q < ss.length) → ss[q].at_ ≠ X) ∧ wr = w.drewN m) (fun i _ => k - (intOf i).toNat)
          case atStart => exact ⟨0, n, Nat.zero_le _, rfl, fun q hq => by omega, rfl⟩
          case round =>
            obtain ⟨j, m, hj, rfl, hno, rfl⟩ := hrel
            have HN := Lib.hid hno
            clear hno
            by_cases hjk : j < k
            · obtain ⟨bj, oj, aj, cj, ej, hej, _, g0, _, _, _, _⟩ := AreS.cells hr Hs.out (k := j) (by omega)
              obtain ⟨rfl, rfl⟩ : b = bj ∧ o = oj := by simpa using hej
              clear hej
              rw [show o + 2 * j = o + j * 2 by omega] at g0
              have k0 : (0 : Int) ≤ (j : Int) := by omega
              have k1 : (j : Int) < (ss.length : Int) := by omega
              obtain ⟨Y, hY⟩ : ∃ Y, Y = ss[j].at_ := ⟨_, rfl⟩
              rw [← hY] at g0
              have HY := Lib.hid hY
              clear hY
              by_cases hxy : Y = X
              · have t3 : ((Y.toNat : Int) == (X.toNat : Int)) = true := by rw [hxy]; simp
                have hf := sharesF_at HZ.out hlt (by decide) (faultAt_twice hlt (by rw [← HX.out]; exact h1) (by rw [← HX.out]; exact h2) hjk (by rw [← HX.out, ← HY.out]; exact hxy))
                have HF := Lib.hid hf
                clear hf hxy
                go_wp2_with fail
                go_quiet (fail)
                go_wp2
                go_ret
                exact ⟨ret_i64 (HF.out.symm), m + nq, World.drewN_drewN _ _ _⟩
              · have t3 : ((Y.toNat : Int) == (X.toNat : Int)) = false := by rw [beq_eq_false_iff_ne]; intro h; exact hxy ((byte_eq _ _).1 h)
                have HXY := Lib.hid hxy
                clear hxy
                go_wp2_with fail
                go_quiet (fail)
                go_wp2
                go_roundw
                case rel =>
                  refine ⟨j + 1, m + nq, by omega, by go_num, fun q hq hq' => ?_, rfl⟩
                  by_cases hqj : q < j
                  · exact HN.out q hqj hq'
                  · obtain rfl : q = j := by omega
                    rw [← HY.out]; exact HXY.out
                case measure => simp [intOf] <;> omega
            · obtain rfl : j = k := by omega
              have hf := faultAt_last (lo := lo) (hi := hi) hlt (by rw [← HX.out]; exact h1) (by rw [← HX.out]; exact h2) (fun q hq => by rw [← HX.out]; exact HN.out q hq (by omega))
              by_cases hlen : ss[j].data.length = (ss[0]'(by omega)).data.length
              · rw [if_neg (by simpa using hlen)] at hf
                have hn := sharesF_next HZ.out hf
                have HF := Lib.hid hn
                have t4 : ((ss[j].data.length : Int) != ((ss[0]'(by omega)).data.length : Int)) = false := by rw [bne_eq_false_iff_eq, hlen]
                clear hf hn hlen
                go_wp2_with fail
                go_quiet (fail)
                go_wp2
                go_roundw
                case rel => exact ⟨j + 1, m + nq, by omega, by go_num, HF.out, rfl⟩
                case measure => simp [intOf] <;> omega
              · rw [if_pos (by simpa using hlen)] at hf
                have hn := sharesF_at HZ.out hlt (by decide) hf
                have HF := Lib.hid hn
                have t4 : ((ss[j].data.length : Int) != ((ss[0]'(by omega)).data.length : Int)) = true := by rw [bne_iff_ne]; omega
                clear hf hn hlen
                go_wp2_with fail
                go_quiet (fail)
                go_wp2
                go_ret
                exact ⟨ret_i64 (HF.out.symm), m + nq, World.drewN_drewN _ _ _⟩
    · obtain rfl : k = ss.length := by omega
      go_wp2_with fail
      go_ret
      exact ⟨ret_i64 (HZ.out.symm), n, rfl⟩
end Go.Proofs.YtalbmcidlalicaaDoor
