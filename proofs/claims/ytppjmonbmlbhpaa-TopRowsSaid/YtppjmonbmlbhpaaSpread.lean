/- Walk: code.Spread at whatever rows and whatever number. -/
import Derived.Test.YtppjmonbmlbhpaaCodeLaw
namespace Go.Proofs.Ytppjmonbmlbhpaa
open Go.RowKit
set_option linter.unusedVariables false

/-- what is wrong with what is to be spread -/
def spreadF (rows : List (List UInt8)) (n : Int) : Int :=
  if (rows.length : Int) < 1 ∨ n < rows.length ∨ 20 < n then 2 else if 100 < (rows.headD []).length then 4 else if ∃ r ∈ rows, r.length ≠ (rows.headD []).length then 3 else 0

theorem spreadF_zero {rows : List (List UInt8)} {n : Int} (h : spreadF rows n = 0) : 0 < rows.length ∧ (rows.length : Int) ≤ n ∧ n ≤ 20 ∧ (rows.headD []).length ≤ 100 ∧ ∀ r ∈ rows, r.length = (rows.headD []).length := by
  unfold spreadF at h
  split at h
  · cases h
  · split at h
    · cases h
    · split at h
      · cases h
      · rename_i h1 h2 h3
        refine ⟨by omega, by omega, by omega, by omega, fun r hr => ?_⟩
        by_cases e : r.length = (rows.headD []).length
        · exact e
        · exact absurd ⟨r, hr, e⟩ h3

def SpreadAny (w : World) (rows : List (List UInt8)) (n : Int) (e : Ending) (w' : World) : Prop :=
  Below w.heap.size w w' ∧ ((spreadF rows n = 0 ∧ ∃ a cap vs, e = .returned (.tuple #[.slice a n.toNat cap, .nilIface]) ∧ Rd w' a 29 vs ∧ AreB (fun b e => e = 5 ∧ w.heap.size ≤ b) w' (spreadOf rows n.toNat) vs) ∨
    (spreadF rows n ≠ 0 ∧ e = .returned (.tuple #[.slice none 0 0, .iface 43 (.int .i64 (spreadF rows n))])))

set_option maxHeartbeats 2000000 in
theorem Spread_any (rows : List (List UInt8)) (n : Int) (b : Option Addr) (cb eb : Nat) (vs : List Value) (w : World) (hb : Rd w b eb vs) (hv : AreB (fun _ _ => True) w rows vs) (hl : rows.length ≤ 9223372036854775807) :
    Calls Try.prog 4 #[.slice b rows.length cb, .int .i64 n] w (SpreadAny w rows n) := by
  by_cases hr : (rows.length : Int) < 1 ∨ n < rows.length ∨ 20 < n
  · have hf : spreadF rows n = 2 := by unfold spreadF; rw [if_pos hr]
    have Hf := Lib.hid hf
    clear hf
    by_cases h1 : (rows.length : Int) < 1
    · go_enter Try.func4, Try.ntmps4
      go_wp2
      go_ret2
      exact ⟨Below.refl _ _, .inr ⟨by rw [Hf.out]; decide, by rw [Hf.out]; rfl⟩⟩
    · by_cases h2 : n < rows.length
      · go_enter Try.func4, Try.ntmps4
        go_wp2
        go_ret2
        exact ⟨Below.refl _ _, .inr ⟨by rw [Hf.out]; decide, by rw [Hf.out]; rfl⟩⟩
      · have h3 : 20 < n := by omega
        go_enter Try.func4, Try.ntmps4
        go_wp2
        go_ret2
        exact ⟨Below.refl _ _, .inr ⟨by rw [Hf.out]; decide, by rw [Hf.out]; rfl⟩⟩
  · obtain ⟨m, rfl⟩ : ∃ m : Nat, n = m := ⟨n.toNat, by omega⟩
    obtain ⟨L, hL⟩ : ∃ L, L = (rows.headD []).length := ⟨_, rfl⟩
    by_cases hf : 100 < L
    · have hf4 : spreadF rows m = 4 := by unfold spreadF; rw [if_neg hr, if_pos (by omega)]
      have Hf := Lib.hid hf4
      clear hf4
      have v1 : 0 < vs.length := by rw [hv.1]; omega
      obtain ⟨bb, ob, rfl, hbb, hcb⟩ := hb.cell (k := 0) v1
      obtain ⟨a0, c0, e0, h0, hx⟩ := hv.2 0 (by omega) v1
      clear hx
      have h0L : (rows[0]'(by omega)).length = L := by rw [hL]; cases rows with | nil => simp at hr | cons r rs => rfl
      rw [h0L] at h0
      have hc0 : w.cell? ⟨bb, ob, none⟩ = some (.slice a0 L c0) := by have := hcb 0 v1; rw [h0] at this; exact this
      have i1 : (0 : Int) < (rows.length : Int) := by omega
      have i2 : ¬ (rows.length : Int) < 1 := by omega
      have i3 : ¬ (m : Int) < (rows.length : Int) := by omega
      have i4 : ¬ (20 : Int) < (m : Int) := by omega
      clear h0 h0L hL hcb hr
      go_enter Try.func4, Try.ntmps4
      go_wp2
      go_ret2
      exact ⟨Below.refl _ _, .inr ⟨by rw [Hf.out]; decide, by rw [Hf.out]; rfl⟩⟩
    · refine (Spread_calls rows m L b cb eb vs w hb hv (by omega) (by omega) (by omega) hL.symm (by omega)).mono ?_
      rintro e w' ⟨hbl, h⟩
      refine ⟨hbl, ?_⟩
      rcases h with ⟨hall, a, cap, us, he, h1, h2⟩ | ⟨hex, he⟩
      · left
        refine ⟨?_, a, cap, us, he, h1, h2⟩
        unfold spreadF
        rw [if_neg hr, if_neg (by omega), if_neg]
        rintro ⟨r, hr1, hr2⟩
        exact hr2 (by rw [hall r hr1, hL])
      · right
        have h3 : spreadF rows m = 3 := by
          unfold spreadF
          rw [if_neg hr, if_neg (by omega), if_pos]
          obtain ⟨r, hr1, hr2⟩ := hex
          exact ⟨r, hr1, by rw [← hL]; exact hr2⟩
        rw [h3]
        exact ⟨by decide, he⟩

/-- .. where nothing is wrong -/
theorem Spread_ok {rows : List (List UInt8)} {n : Int} (hf : spreadF rows n = 0) (b : Option Addr) (cb eb : Nat) (vs : List Value) (w : World) (hb : Rd w b eb vs) (hv : AreB (fun _ _ => True) w rows vs) (hl : rows.length ≤ 9223372036854775807) :
    Calls Try.prog 4 #[.slice b rows.length cb, .int .i64 n] w fun e w' => ∃ a cap vs, e = .returned (.tuple #[.slice a n.toNat cap, .nilIface]) ∧ Below w.heap.size w w' ∧ Rd w' a 29 vs ∧ AreB (fun b e => e = 5 ∧ w.heap.size ≤ b) w' (spreadOf rows n.toNat) vs := by
  refine (Spread_any rows n b cb eb vs w hb hv hl).mono ?_
  rintro e w' ⟨hbl, ⟨_, a, cap, us, he, h1, h2⟩ | ⟨h, _⟩⟩
  · exact ⟨a, cap, us, he, hbl, h1, h2⟩
  · exact absurd hf h
/-- .. where something is -/
theorem Spread_no {rows : List (List UInt8)} {n : Int} (hf : spreadF rows n ≠ 0) (b : Option Addr) (cb eb : Nat) (vs : List Value) (w : World) (hb : Rd w b eb vs) (hv : AreB (fun _ _ => True) w rows vs) (hl : rows.length ≤ 9223372036854775807) :
    Calls Try.prog 4 #[.slice b rows.length cb, .int .i64 n] w fun e w' => e = .returned (.tuple #[.slice none 0 0, .iface 43 (.int .i64 (spreadF rows n))]) ∧ Below w.heap.size w w' := by
  refine (Spread_any rows n b cb eb vs w hb hv hl).mono ?_
  rintro e w' ⟨hbl, ⟨h, _⟩ | ⟨_, he⟩⟩
  · exact absurd h hf
  · exact ⟨he, hbl⟩
theorem spreadF_fact : spreadF [[7]] 2 = 0 := by
  unfold spreadF
  rw [if_neg (by decide), if_neg (by decide), if_neg]
  rintro ⟨r, hr, h⟩
  rw [List.mem_singleton.1 hr] at h
  exact h rfl
theorem spreadOf_fact : spreadOf [[7]] 2 = [[7], [7]] := by decide +kernel
/-- the row of one byte 7, spread to two -/
theorem Spread_fact (w : World) : Calls Try.prog 4 #[.slice (some ⟨w.heap.size + 1, 0, none⟩) 1 1, .int .i64 2] ((w.alloc (.cells #[.int .u8 7] 5)).alloc (.cells #[.slice (some ⟨w.heap.size, 0, none⟩) 1 1] 29)) fun e w' =>
    ∃ a cap vs, e = .returned (.tuple #[.slice a 2 cap, .nilIface]) ∧ Below w.heap.size w w' ∧ Rd w' a 29 vs ∧ AreB (fun b e => e = 5 ∧ w.heap.size ≤ b) w' [[7], [7]] vs := by
  have r1 := Rd.new (w.alloc (.cells #[.int .u8 7] 5)) #[.slice (some ⟨w.heap.size, 0, none⟩) 1 1] 29
  rw [World.size_alloc] at r1
  have r2 := (Rd.new w #[.int .u8 7] 5).alloc (.cells #[.slice (some ⟨w.heap.size, 0, none⟩) 1 1] 29)
  have hA : AreB (fun _ _ => True) ((w.alloc (.cells #[.int .u8 7] 5)).alloc (.cells #[.slice (some ⟨w.heap.size, 0, none⟩) 1 1] 29)) [[7]] [.slice (some ⟨w.heap.size, 0, none⟩) 1 1] :=
    ⟨rfl, fun i h h' => by
      obtain rfl : i = 0 := by simpa using h
      exact ⟨_, 1, _, rfl, r2, fun _ _ _ => trivial, by simp⟩⟩
  refine (Spread_ok spreadF_fact _ 1 _ _ _ r1 hA (by simp)).mono ?_
  rintro e w' ⟨a, cap, vs, he, hb, h1, h2⟩
  have e2 : (2 : Int).toNat = 2 := rfl
  rw [e2] at he h2
  rw [spreadOf_fact] at h2
  exact ⟨a, cap, vs, he, (((Below.refl _ w).alloc (Nat.le_refl _) _).alloc (by simp) _).trans (hb.mono (by simp; omega)), h1, h2.mono fun b e _ h => ⟨h.1, by have := h.2; simp at this; omega⟩⟩
end Go.Proofs.Ytppjmonbmlbhpaa
