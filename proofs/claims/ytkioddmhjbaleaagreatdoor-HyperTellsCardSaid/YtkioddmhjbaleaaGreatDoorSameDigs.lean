/- Walk: are two rows of digests the same? -/
import Derived.Test.YtkioddmhjbaleaaGreatDoorTreeFolded
namespace Go.Proofs.YtkioddmhjbaleaaGreatDoor
open Go.RowKit
set_option linter.unusedVariables false
set_option linter.unusedSimpArgs false
theorem Digests_calls (xs ys : List (List UInt8)) (hx : ∀ c ∈ xs, c.length = 32) (hy : ∀ c ∈ ys, c.length = 32) (a b : Option Addr) (ca cb ea eb : Nat) (w : World) (ha : Rd w a ea (xs.flatten.map vB)) (hb : Rd w b eb (ys.flatten.map vB)) (hl : xs.length ≤ 9223372036854775807) :
    Calls Tryz.prog 35 #[.slice a xs.length ca, .slice b ys.length cb] w fun e w' => e = .returned (.bool (decide (xs = ys))) ∧ ∃ n, w' = w.drewN n := by
  have Hx := Lib.hid hx
  have Hy := Lib.hid hy
  clear hx hy
  by_cases hlen : xs.length = ys.length
  · have hl1 : xs.length ≤ ys.length := by omega
    have hl2 : ys.length ≤ xs.length := by omega
    clear hlen
    go_enter Tryz.func35, Tryz.ntmps35
    go_wp2
    go_loopw [5] (fun i wr => ∃ k n : Nat, k ≤ xs.length ∧ i = .int .i64 k ∧ xs.take k = ys.take k ∧ wr = w.drewN n) (fun i _ => xs.length - (intOf i).toNat)
    case atStart => exact ⟨0, 0, Nat.zero_le _, rfl, rfl, rfl⟩
    case round =>
      obtain ⟨k, n, hk, rfl, ht, rfl⟩ := hrel
      have Ht := Lib.hid ht
      clear ht
      by_cases hlt : k < xs.length
      · have hlt2 : k < ys.length := by omega
        obtain ⟨ba, oa, rfl, _, hca⟩ := ha.range Hx.out hlt
        obtain ⟨bb, ob, rfl, _, hcb⟩ := hb.range Hy.out hlt2
        have hcw := Hx.out _ (List.getElem_mem hlt)
        have hdw := Hy.out _ (List.getElem_mem hlt2)
        obtain ⟨c, hc⟩ : ∃ c, c = xs[k] := ⟨_, rfl⟩
        obtain ⟨d, hd⟩ : ∃ d, d = ys[k] := ⟨_, rfl⟩
        rw [← hc] at hca hcw
        rw [← hd] at hcb hdw
        have HCA := Lib.hid hca
        have HCB := Lib.hid hcb
        have HCW := Lib.hid hcw
        have HDW := Lib.hid hdw
        have HC := Lib.hid hc
        have HD := Lib.hid hd
        have i1 : (k : Int) < (xs.length : Int) := by omega
        have i2 : (k : Int) < (ys.length : Int) := by omega
        have i0 : (0 : Int) ≤ (k : Int) := by omega
        obtain ⟨q, hq⟩ : ∃ q, (!(c == d)) = !q := ⟨_, rfl⟩
        have HQ := Lib.hid hq
        clear hca hcb ha hb hcw hdw hc hd hq
        go_wp2_with fail
        refine wp_region_quiet_lit (by kernel_rfl) (by kernel_rfl) ?_
        repeat (first
          | (refine quiet_dig rfl (.tmp 19) rfl ba (oa + k * 32) (by rfl) c HCW.out (fun w' hw' => by obtain ⟨n, rfl⟩ := hw'; exact HCA.out) ?_; simp only [Act.put, List.setIfInBounds_toArray, List.set_cons_zero, List.set_cons_succ])
          | (refine quiet_dig rfl (.tmp 23) rfl bb (ob + k * 32) (by rfl) d HDW.out (fun w' hw' => by obtain ⟨n, rfl⟩ := hw'; exact HCB.out) ?_; simp only [Act.put, List.setIfInBounds_toArray, List.set_cons_zero, List.set_cons_succ])
          | (refine quiet_dig_neq rfl (.tmp 20) (.tmp 24) _ rfl c d (by rfl) (by rfl) HCW.out HDW.out ?_; rw [HQ.out]; simp only [Act.put, List.setIfInBounds_toArray, List.set_cons_zero, List.set_cons_succ])
          | go_big_quiet_step (fail))
        refine wpQuiet_nil ?_
        rintro _ ⟨nq, rfl⟩
        cases q with
        | true =>
          have hcd : c = d := by have := HQ.out; simpa using this
          have Hcd := Lib.hid hcd
          clear hcd
          go_wp2_with fail
          go_roundw
          case rel => exact ⟨k + 1, n + nq, by omega, by go_num, by rw [List.take_succ_eq_append_getElem hlt, List.take_succ_eq_append_getElem hlt2, Ht.out, ← HC.out, ← HD.out, Hcd.out], rfl⟩
          case measure => simp [intOf] <;> omega
        | false =>
          have hcd : ¬ c = d := by have := HQ.out; simpa using this
          have Hcd := Lib.hid hcd
          clear hcd
          go_wp2_with fail
          go_ret
          have hne : ¬ xs = ys := fun h => Hcd.out (by rw [HC.out, HD.out]; simp [h])
          exact ⟨by rw [decide_eq_false hne]; try rfl, n + nq, by rw [World.drewN_drewN]⟩
      · obtain rfl : k = xs.length := by omega
        go_wp2
        go_ret
        have := Ht.out
        rw [List.take_of_length_le (Nat.le_refl _), List.take_of_length_le hl2] at this
        exact ⟨by rw [decide_eq_true this]; try rfl, n, rfl⟩
  · have hne : ((xs.length : Int) != (ys.length : Int)) = true := by rw [bne_iff_ne]; omega
    go_enter Tryz.func35, Tryz.ntmps35
    go_wp2
    go_ret
    have hn : ¬ xs = ys := fun h => hlen (by rw [h])
    exact ⟨by rw [decide_eq_false hn]; try rfl, 0, rfl⟩
end Go.Proofs.YtkioddmhjbaleaaGreatDoor
