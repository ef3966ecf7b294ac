/- Walks: slices.Index, slices.Contains and slices.Clone at lists of bytes. -/
import Derived.Test.YtpfpcklonkgkeaaSame
import Derived.WalkSpells
namespace Go.Proofs.Ytpfpcklonkgkeaa
open Go.RowKit
set_option linter.unusedVariables false

theorem info_u8 : (Try.prog.info? 5).map (fun i => (i.zero, i.size, i.bytes)) = some (some (.int .u8 0), 1, 1) := by kernel_rfl

/-- a list of bytes of the call's own comes back -/
def RetB (w : World) (xs : List UInt8) (e : Ending) (w' : World) : Prop :=
  ∃ a cap, e = .returned (.slice a xs.length cap) ∧ w'.ownsRow w.heap.size 5 1 (.slice a xs.length cap) xs.length (xs.map vB) ∧ Below w.heap.size w w'

theorem Index_calls (xs : List UInt8) (v : UInt8) (a : Option Addr) (ca ea : Nat) (w : World) (ha : Rd w a ea (xs.map vB)) (hx : xs.length ≤ 9223372036854775806) :
    Calls Try.prog 38 #[.slice a xs.length ca, .int .u8 v.toNat] w fun e w' => ∃ n : Int, decide (0 ≤ n) = decide (v ∈ xs) ∧ e = .returned (.int .i64 n) ∧ w = w' := by
  go_enter Try.func38, Try.ntmps38
  go_wp2
  go_loop [8] (fun i => ∃ k : Nat, k ≤ xs.length ∧ i = .int .i64 k ∧ v ∉ xs.take k) (fun i => xs.length - (intOf i).toNat)
  case atStart => exact ⟨0, Nat.zero_le _, rfl, by simp⟩
  case round =>
    obtain ⟨k, hk, rfl, ht⟩ := hrel
    have Ht := Lib.hid ht
    clear ht
    by_cases hlt : k < xs.length
    · obtain ⟨ba, oa, rfl, _, hca⟩ := ha.bytes hlt
      have c1 := hca k hlt
      clear hca ha
      by_cases hxy : v = xs[k]
      · have t : ((v.toNat : Int) == ((xs[k]).toNat : Int)) = true := by rw [hxy]; simp
        have Hxy := Lib.hid hxy
        clear hxy
        go_wp2
        go_ret
        refine ⟨k, ?_, rfl, rfl⟩
        have h1 : v ∈ xs := by have := Hxy.out; rw [this]; exact List.getElem_mem _
        simp [h1]
      · have t : ((v.toNat : Int) == ((xs[k]).toNat : Int)) = false := by rw [beq_eq_false_iff_ne]; intro h; exact hxy ((byte_eq _ _).1 h)
        have Hxy := Lib.hid hxy
        clear hxy
        go_wp2
        go_round
        case rel => exact ⟨k + 1, by omega, by go_num, by rw [List.take_succ_eq_append_getElem hlt]; intro h; rcases List.mem_append.1 h with h | h; exact Ht.out h; exact Hxy.out (by simpa using h)⟩
        case measure => simp [intOf] <;> omega
    · obtain rfl : k = xs.length := by omega
      go_wp2
      go_ret
      refine ⟨-1, ?_, rfl, rfl⟩
      have := Ht.out
      rw [List.take_of_length_le (Nat.le_refl _)] at this
      simp [this]

theorem Contains_calls (xs : List UInt8) (v : UInt8) (a : Option Addr) (ca ea : Nat) (w : World) (ha : Rd w a ea (xs.map vB)) (hx : xs.length ≤ 9223372036854775806) :
    Calls Try.prog 30 #[.slice a xs.length ca, .int .u8 v.toNat] w fun e w' => e = .returned (.bool (decide (v ∈ xs))) ∧ w = w' := by
  go_enter Try.func30, Try.ntmps30
  go_wp2_with fail
  refine (Index_calls xs v a ca ea _ ha hx).mono ?_; rintro e w' ⟨n, hn, rfl, rfl⟩
  have Hn := Lib.hid hn
  clear hn
  go_wp2_with fail
  go_ret
  rw [← Hn.out]
  exact ⟨rfl, rfl⟩

theorem Clone_calls (xs : List UInt8) (a : Option Addr) (ca ea : Nat) (w : World) (ha : Rd w a ea (xs.map vB)) (hx : xs.length ≤ 2000000000000) :
    Calls Try.prog 28 #[.slice a xs.length ca] w (RetB w xs) := by
  have hnil := fun (w : World) (a : Option Addr) (n c : Nat) => Lib.run_eql_slice_nil (P := Try.prog) w 44 5 a n c 0 0 Try.underlying44
  cases a with
  | none =>
    have h0 : xs = [] := by
      rcases ha with h | ⟨b, o, cur, fr, h, _⟩
      · simpa using h
      · cases h
    subst h0
    go_enter Try.func28, Try.ntmps28
    go_wp2
    go_ret
    exact ⟨none, 0, rfl, World.ownsRow_nil _ _ _ _, Below.refl _ _⟩
  | some ad =>
    by_cases h0 : xs = []
    · subst h0
      go_enter Try.func28, Try.ntmps28
      go_wp2
      go_ret
      exact ⟨_, 0, rfl, World.ownsRow_made w #[] 0 (Nat.le_refl _) (Nat.zero_le _) rfl, (Below.refl _ w).alloc (Nat.le_refl _) _⟩
    · have hl : 0 < xs.length := by cases xs with | nil => exact absurd rfl h0 | cons _ _ => simp
      obtain ⟨b, o, he, _, hc⟩ := ha.bytes hl
      simp only [Option.some.injEq] at he
      subst he
      have H0 := Lib.hid h0
      clear h0
      go_enter Try.func28, Try.ntmps28
      go_wp2_with (at_builtin; refine appRd 44 5 (.int .u8 0) 1 1 Try.underlying44 info_u8 rfl (by omega) (by omega) rfl _ _ rfl w.heap.size _ 0 [] rfl (World.ownsRow_made w #[] 0 (Nat.le_refl _) (Nat.zero_le _) rfl) ⟨b, o, none⟩ xs.length _ (xs.map vB) rfl ea (ha.alloc _) (by simp) (one_bytes xs) hl (by omega) (by simp) _ rfl ?_; intro g cap w1 hown hgrow _ _)
      have hb1 : Below w.heap.size w w1 := ((Below.refl _ w).alloc (Nat.le_refl _) _).grown hgrow (by simp) (fun k hk => by have : w.heap.size = k := Option.some.inj hk; omega)
      clear hgrow
      go_wp2
      go_ret
      exact ⟨_, cap, rfl, by simpa using hown, hb1⟩
end Go.Proofs.Ytpfpcklonkgkeaa
