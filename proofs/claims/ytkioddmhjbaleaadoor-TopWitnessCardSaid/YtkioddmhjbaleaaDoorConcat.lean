/- Walks: slices.Grow of nothing, and slices.Concat of rows of bytes. -/
import Derived.Test.YtkioddmhjbaleaaDoorLibs
import Derived.Test.YtkioddmhjbaleaaDoorMemA
import Derived.Test.YtkioddmhjbaleaaDoorOpenA
import Derived.Lib.AppendZeros
import Derived.WalkKit
import Derived.ProofKit
import Derived.Lib.Hide
namespace Go.Proofs.YtkioddmhjbaleaaDoor
open Go.RowKit
set_option linter.unusedVariables false

def RetNone (w : World) (e : Ending) (w' : World) : Prop :=
  ∃ a cap, e = .returned (.slice a 0 cap) ∧ w'.ownsRow w.heap.size 5 1 (.slice a 0 cap) 0 [] ∧ Below w.heap.size w w'
theorem Grow_calls (n : Nat) (hn : n ≤ 140737488355328) (w : World) :
    Calls Tryd.prog 109 #[.slice none 0 0, .int .i64 n] w (RetNone w) := by
  by_cases h0 : n = 0
  · subst h0
    go_enter Tryd.func109, Tryd.ntmps109
    go_wp2
    go_ret
    exact ⟨none, 0, rfl, World.ownsRow_nil _ _ _ _, Below.refl _ _⟩
  · obtain ⟨i0, hi0, hz0, hs0, hb0⟩ := info_parts info_u8
    have hr := fun ty => Lib.run_append_nil_zeros (P := Tryd.prog) w 67 3 ty 5 i0 (.int .u8 0) .i64 .i64 Tryd.underlying67 Tryd.underlying3 hi0 hz0 n (by omega) (by rw [hs0]; omega) (by omega) (by rw [hb0]; omega)
    obtain ⟨c, hc⟩ : ∃ c, c = grownCap w n 0 5 := ⟨_, rfl⟩
    have hc1 : n ≤ c := by rw [hc]; exact grownCap_ge _ _ _ _
    have hc2 : c ≤ maxLen := by rw [hc]; exact grownCap_le_maxLen _ _ _ _ (by simp only [maxLen]; omega)
    rw [← hc] at hr
    obtain ⟨Z, hZ⟩ : ∃ Z, Z = Builtin.zeroCells (Value.int .u8 0).cells n ++ Builtin.zeroCells (Value.int .u8 0).cells (c - n) := ⟨_, rfl⟩
    have hZs : Z.size = c := by
      rw [hZ, Array.size_append, size_zeroCells, size_zeroCells]
      show n * 1 + (c - n) * 1 = c
      omega
    rw [← hZ] at hr
    have HZs := Lib.hid hZs
    have q1 : decide ((n : Int) < 0) = false := by rw [decide_eq_false]; omega
    have q2 : decide ((0 : Int) < (n : Int)) = true := by rw [decide_eq_true_eq]; omega
    have q2' : decide (0 < n) = true := by rw [decide_eq_true_eq]; omega
    have hcp : (0 : Int) ≤ (c : Int) := by omega
    have Hc2 := Lib.hid hc2
    clear hc hZ hZs h0 hc2
    go_enter Tryd.func109, Tryd.ntmps109
    go_wp2_with (at_builtin; refine Lib.wpList_append_run _ rfl _ _ _ _ rfl _ _ rfl rfl _ _ (hr _) ?_)
    go_ret
    refine ⟨some ⟨w.heap.size, 0, none⟩, c, by simp, ⟨by simp, .inr ⟨w.heap.size, c, Z, rfl, Nat.le_refl _, ?_, Nat.zero_le _, Hc2.out, by rw [HZs.out]; omega, by simp⟩⟩, ?_⟩
    · exact heap_alloc_new w.drew _
    · exact (Below.refl _ w).drew.alloc (Nat.le_refl _) _

def catLen (rows : List (List UInt8)) : Nat := rows.flatten.length
theorem flat_len (rows : List (List UInt8)) : ∀ k, k ≤ rows.length → (rows.take k).flatten.length ≤ rows.flatten.length := by
  intro k _
  conv => rhs; rw [← List.take_append_drop k rows, List.flatten_append, List.length_append]
  omega
theorem flat_snocC (rows : List (List UInt8)) (k : Nat) (h : k < rows.length) : (rows.take (k + 1)).flatten = (rows.take k).flatten ++ rows[k] := by
  rw [List.take_succ_eq_append_getElem h, List.flatten_append]
  simp
set_option maxHeartbeats 1000000 in
theorem Concat_calls (rows : List (List UInt8)) (b : Option Addr) (cb eb : Nat) (vs : List Value) (w : World) (hb : Rd w b eb vs) (hv : AreB (fun _ _ => True) w rows vs) (hl : rows.length ≤ 1000) (hne : ∀ r ∈ rows, r ≠ []) (hf0 : rows.flatten.length ≤ 140737488355328) :
    Calls Tryd.prog 67 #[.slice b rows.length cb] w (RetB w rows.flatten) := by
  have hvl : vs.length = rows.length := hv.1
  have Hvl := Lib.hid hvl
  have Hv := Lib.hid hv
  have Hne := Lib.hid hne
  have hf : catLen rows ≤ 140737488355328 := hf0
  clear hvl hv hne hf0
  go_enter Tryd.func67, Tryd.ntmps67
  go_wp2
  go_loop [3, 11] (fun s i => ∃ k : Nat, k ≤ rows.length ∧ i = .int .i64 k ∧ s = .int .i64 (catLen (rows.take k) : Int)) (fun _ i => rows.length - (intOf i).toNat)
  case atStart => exact ⟨0, Nat.zero_le _, rfl, rfl⟩
  case round =>
    obtain ⟨k, hk, rfl, rfl⟩ := hrel
    have hfk : catLen (rows.take k) ≤ catLen rows := flat_len rows k hk
    by_cases hlt : k < rows.length
    · obtain ⟨bb, ob, rfl, hbb, hcb⟩ := hb.cell (k := k) (by rw [Hvl.out]; exact hlt)
      obtain ⟨ak, ck, ek, hvk, hrk, _⟩ := Hv.out.2 k hlt (by rw [Hvl.out]; exact hlt)
      have hck : w.cell? ⟨bb, ob + k, none⟩ = some (.slice ak rows[k].length ck) := by rw [← hvk]; exact hcb k (by rw [Hvl.out]; exact hlt)
      have hs : catLen (rows.take (k + 1)) = catLen (rows.take k) + rows[k].length := by
        unfold catLen
        rw [flat_snocC rows k hlt, List.length_append]
      have hf1 : catLen (rows.take (k + 1)) ≤ catLen rows := flat_len rows (k + 1) (by omega)
      have HS := Lib.hid hs
      have k0 : (0 : Int) ≤ (k : Int) := by omega
      have k1 : (k : Int) < (rows.length : Int) := by omega
      clear hcb hvk hrk hs
      have hSR : catLen (rows.take k) + rows[k].length ≤ 140737488355328 := by have := HS.out; omega
      obtain ⟨S, hS⟩ : ∃ S, S = catLen (rows.take k) := ⟨_, rfl⟩
      obtain ⟨R, hR⟩ : ∃ R, R = rows[k].length := ⟨_, rfl⟩
      rw [← hS, ← hR] at hSR HS
      rw [← hR] at hck
      rw [← hS]
      have q3 : decide ((S : Int) + (R : Int) < 0) = false := by rw [decide_eq_false]; omega
      clear hS hR hf1 hfk
      go_wp2
      go_round
      case rel => exact ⟨k + 1, by omega, by go_num, by rw [HS.out]; go_num⟩
      case measure => simp [intOf] <;> omega
    · obtain rfl : k = rows.length := by omega
      rw [List.take_of_length_le (Nat.le_refl _)]
      have GC := Grow_calls (catLen rows) hf w
      go_wp2_with fail
      refine GC.mono ?_; rintro e w1 ⟨aG, cG, rfl, hownG, hb1⟩
      clear GC
      go_wp2_with fail
      go_loopw [6, 27] (fun v i wr => ∃ k : Nat, k ≤ rows.length ∧ i = .int .i64 k ∧ wr.ownsRow w.heap.size 5 1 v (catLen (rows.take k)) ((rows.take k).flatten.map vB) ∧ Below w.heap.size w wr) (fun _ i _ => rows.length - (intOf i).toNat)
      case atStart => exact ⟨0, Nat.zero_le _, rfl, hownG, hb1⟩
      case round =>
        clear hownG hb1
        obtain ⟨k, hk, rfl, hown, hbl⟩ := hrel
        have hsz := hbl.size
        have hfk : catLen (rows.take k) ≤ catLen rows := flat_len rows k hk
        by_cases hlt : k < rows.length
        · obtain ⟨bb, ob, rfl, hbb, hcb⟩ := hb.cell (k := k) (by rw [Hvl.out]; exact hlt)
          obtain ⟨ak, ck, ek, hvk, hrk, _⟩ := Hv.out.2 k hlt (by rw [Hvl.out]; exact hlt)
          have hck : wr.cell? ⟨bb, ob + k, none⟩ = some (.slice ak rows[k].length ck) := by
            rw [← hvk]
            exact (hbl.cell (p := ⟨bb, ob + k, none⟩) hbb).trans (hcb k (by rw [Hvl.out]; exact hlt))
          have hrr : Rd wr ak ek (rows[k].map vB) := hrk.below hbl
          have hs := flat_snocC rows k hlt
          have hsl : catLen (rows.take (k + 1)) = catLen (rows.take k) + rows[k].length := by
            unfold catLen
            rw [hs, List.length_append]
          have hf1 : catLen (rows.take (k + 1)) ≤ catLen rows := flat_len rows (k + 1) (by omega)
          have hr0 : rows[k] ≠ [] := Hne.out _ (List.getElem_mem _)
          have hSR : catLen (rows.take k) + rows[k].length ≤ 140737488355328 := by omega
          have HS := Lib.hid hs
          have HSl := Lib.hid hsl
          have k0 : (0 : Int) ≤ (k : Int) := by omega
          have k1 : (k : Int) < (rows.length : Int) := by omega
          clear hcb hvk hrk hs hsl hf1 hfk
          obtain ⟨r, hr⟩ : ∃ r, r = rows[k] := ⟨_, rfl⟩
          rw [← hr] at hck hrr HS HSl hr0 hSR
          have hr1 : 0 < r.length := by cases r with | nil => exact absurd rfl hr0 | cons _ _ => simp
          obtain ⟨S, hS⟩ : ∃ S, S = (rows.take k).flatten := ⟨_, rfl⟩
          obtain ⟨M, hM⟩ : ∃ M, M = catLen (rows.take k) := ⟨_, rfl⟩
          rw [← hS, ← hM] at hown
          rw [← hS] at HS
          rw [← hM] at HSl hSR
          obtain ⟨aO, cO, rfl⟩ := own_slice hown
          obtain ⟨b3, o3, rfl, _, _⟩ := hrr.bytes hr1
          clear hr hr0 hS hM
          go_wp2_with (at_builtin; refine appRdw 67 5 (.int .u8 0) 1 1 Tryd.underlying67 info_u8 rfl (by omega) rfl (.tmp 31) (.tmp 32) rfl w.heap.size _ M _ rfl hown ⟨b3, o3, none⟩ r.length _ (r.map vB) rfl ek hrr (by simp) (one_bytes r) hr1 hSR (by omega) hsz _ rfl ?_; intro g cap w2 hown2 hgrow hat hlt2)
          have hb2 : Below w.heap.size w w2 := hbl.grown hgrow hsz (fun q hq => (hown.lt q hq).1)
          clear hgrow hat hlt2
          go_wp2_with fail
          go_roundw
          case rel => exact ⟨k + 1, by omega, by go_num, by rw [HSl.out, HS.out, List.map_append]; exact hown2, hb2⟩
          case measure => simp [intOf] <;> omega
        · obtain rfl : k = rows.length := by omega
          rw [List.take_of_length_le (Nat.le_refl _)] at hown
          obtain ⟨aO, cO, rfl⟩ := own_slice hown
          obtain ⟨F, hF⟩ : ∃ F, F = rows.flatten := ⟨_, rfl⟩
          have hM : catLen rows = F.length := by rw [hF]; rfl
          rw [hM, ← hF] at hown
          rw [hM]
          have HF := Lib.hid hF
          clear hF hM
          go_wp2_with fail
          go_ret
          exact ⟨aO, cO, by rw [← HF.out]; rfl, by rw [← HF.out]; exact hown, hbl⟩
end Go.Proofs.YtkioddmhjbaleaaDoor
