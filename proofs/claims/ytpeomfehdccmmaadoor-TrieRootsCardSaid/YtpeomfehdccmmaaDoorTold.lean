/- Walks: plain.Told tells the number of an error; Error of the statements. -/
import Derived.Test.YtpeomfehdccmmaaDoorAs
import Derived.Below
namespace Go.Proofs.YtpeomfehdccmmaaDoor
open Go.RowKit
set_option linter.unusedVariables false

theorem ErrVar.below {w w' : World} {B : Nat} (h : ErrVar w) (hb : Below B w w') (hB : 0 < B) : ErrVar w' := (hb.cell (p := ⟨0, 0, none⟩) hB).trans h
theorem ErrVar.lt {w : World} (h : ErrVar w) : 0 < w.heap.size := by
  rcases Nat.lt_or_ge 0 w.heap.size with h1 | h1
  · exact h1
  · have h2 : w.cell? ⟨0, 0, none⟩ = none := World.cell?_of_ge w _ h1
    unfold ErrVar at h
    rw [h2] at h; cases h
theorem ErrVar.at_ {w w' : World} (h : ErrVar w) (hb : Below w.heap.size w w') : ErrVar w' := h.below hb h.lt
theorem as_errno (n : Int) (t : Addr) (old : Value) (w : World) (hg : ErrVar w) (ht : w.cell? t = some old) (hf : w.frozen? t = false) :
    Calls Tryd.prog 70 #[.iface 25 (.int .i64 n), .iface 102 (.pointer (some t))] w fun e w' => e = .returned (.bool true) ∧ w'.cell? t = some (.int .i64 n) ∧ Below t.block w w' := by
  have htl : t.block < w.heap.size := by
    rcases Nat.lt_or_ge t.block w.heap.size with h | h
    · exact h
    · rw [World.cell?_of_ge w _ h] at ht; cases ht
  refine (as_hit n t old w hg ht hf).mono ?_
  rintro e w' ⟨rfl, rfl⟩
  refine ⟨rfl, ?_, ?_⟩
  · refine World.cell?_setCell_same (u := old) _ _ _ ?_
    rw [World.cell?_alloc_lt _ _ t (by simp; omega), World.cell?_alloc_lt _ _ t (by simp; omega), World.cell?_alloc_lt _ _ t (by simp; omega), World.cell?_alloc_lt _ _ t htl]; exact ht
  · exact (((((Below.refl _ w).alloc (by omega) _).alloc (by simp; omega) _).alloc (by simp; omega) _).alloc (by simp; omega) _).setCell (p := t) (Nat.le_refl _) _

theorem Told_nil (w : World) : Calls Tryd.prog 48 #[.nilIface] w fun e w' => e = .returned (.int .i64 0) ∧ w = w' := by
  go_enter Tryd.func48, Tryd.ntmps48
  go_wp2_with fail
  go_ret
  exact ⟨rfl, rfl⟩
theorem Told_err (n : Int) (w : World) (hg : ErrVar w) : Calls Tryd.prog 48 #[.iface 25 (.int .i64 n)] w fun e w' => e = .returned (.int .i64 n) ∧ Below w.heap.size w w' := by
  have AE := as_errno n ⟨w.heap.size, 0, none⟩ (.int .i64 0) (w.alloc (.cells #[.int .i64 0] 25)) (hg.at_ ((Below.refl _ _).alloc (Nat.le_refl _) _)) (by simp) (by simp)
  go_enter Tryd.func48, Tryd.ntmps48
  go_wp2_with fail
  refine AE.mono ?_; rintro e w1 ⟨rfl, hc, hb⟩
  clear AE
  go_wp2_with fail
  go_ret
  exact ⟨rfl, ((Below.refl _ w).alloc (Nat.le_refl _) _).trans hb⟩

theorem Error_nil (e : Int) (b : Bool) (h : ((0 : Int) == e) = b) (w : World) : Calls Tryd.prog 17 #[.nilIface, .int .i64 e] w fun r w' => r = .returned (.bool b) ∧ w = w' := by
  go_enter Tryd.func17, Tryd.ntmps17
  go_wp2_with (go_at_call 48; (with_reducible refine (Told_nil _).mono ?_); rintro e w' ⟨rfl, rfl⟩)
  go_ret
  exact ⟨rfl, rfl⟩
theorem Error_err (n e : Int) (b : Bool) (h : (n == e) = b) (w : World) (hg : ErrVar w) : Calls Tryd.prog 17 #[.iface 25 (.int .i64 n), .int .i64 e] w fun r w' => r = .returned (.bool b) ∧ Below w.heap.size w w' := by
  go_enter Tryd.func17, Tryd.ntmps17
  go_wp2_with fail
  refine (Told_err n w hg).mono ?_; rintro r w1 ⟨rfl, hb⟩
  go_wp2_with fail
  go_ret
  exact ⟨rfl, hb⟩
end Go.Proofs.YtpeomfehdccmmaaDoor
