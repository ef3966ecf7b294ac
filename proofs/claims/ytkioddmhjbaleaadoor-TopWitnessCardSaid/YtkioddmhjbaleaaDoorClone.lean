/- Walk: slices.Clone at lists of bytes. -/
import Derived.Test.YtkioddmhjbaleaaDoorRet
import Derived.WalkSmall
namespace Go.Proofs.YtkioddmhjbaleaaDoor
open Go.RowKit
set_option linter.unusedVariables false

theorem Clone_calls (xs : List UInt8) (a : Option Addr) (ca ea : Nat) (w : World) (ha : Rd w a ea (xs.map vB)) (hx : xs.length ≤ 2000000000000) :
    Calls Tryd.prog 99 #[.slice a xs.length ca] w (RetB w xs) := by
  have hnil := fun (w : World) (a : Option Addr) (n c : Nat) => Lib.run_eql_slice_nil (P := Tryd.prog) w 67 5 a n c 0 0 Tryd.underlying67
  cases a with
  | none =>
    have h0 : xs = [] := by
      rcases ha with h | ⟨b, o, cur, fr, h, _⟩
      · simpa using h
      · cases h
    subst h0
    go_enter Tryd.func99, Tryd.ntmps99
    go_wp2
    go_ret
    exact ⟨none, 0, rfl, World.ownsRow_nil _ _ _ _, Below.refl _ _⟩
  | some ad =>
    by_cases h0 : xs = []
    · subst h0
      go_enter Tryd.func99, Tryd.ntmps99
      go_wp2
      go_ret
      exact ⟨_, 0, rfl, World.ownsRow_made w #[] 0 (Nat.le_refl _) (Nat.zero_le _) rfl, (Below.refl _ w).alloc (Nat.le_refl _) _⟩
    · have hl : 0 < xs.length := by cases xs with | nil => exact absurd rfl h0 | cons _ _ => simp
      obtain ⟨b, o, he, _, hc⟩ := ha.bytes hl
      simp only [Option.some.injEq] at he
      subst he
      have H0 := Lib.hid h0
      clear h0
      go_enter Tryd.func99, Tryd.ntmps99
      go_wp2_with (at_builtin; refine appRd 67 5 (.int .u8 0) 1 1 Tryd.underlying67 info_u8 rfl (by omega) (by omega) rfl _ _ rfl w.heap.size _ 0 [] rfl (World.ownsRow_made w #[] 0 (Nat.le_refl _) (Nat.zero_le _) rfl) ⟨b, o, none⟩ xs.length _ (xs.map vB) rfl ea (ha.alloc _) (by simp) (one_bytes xs) hl (by omega) (by simp) _ rfl ?_; intro g cap w1 hown hgrow _ _)
      have hb1 : Below w.heap.size w w1 := ((Below.refl _ w).alloc (Nat.le_refl _) _).grown hgrow (by simp) (fun k hk => by have : w.heap.size = k := Option.some.inj hk; omega)
      clear hgrow
      go_wp2
      go_ret
      exact ⟨_, cap, rfl, by simpa using hown, hb1⟩
end Go.Proofs.YtkioddmhjbaleaaDoor
