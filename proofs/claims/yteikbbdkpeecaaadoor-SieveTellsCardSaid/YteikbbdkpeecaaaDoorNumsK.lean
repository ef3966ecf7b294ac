/- Words for walks over rows of numbers. They say nothing of the program. -/
import Derived.Test.YteikbbdkpeecaaaDoorVow
namespace Go.Proofs.YteikbbdkpeecaaaDoor
open Go.RowKit
set_option linter.unusedVariables false
/-- a number as a value -/
def vK (x : Nat) : Value := .int .i64 (x : Int)
theorem one_nums (l : List Nat) : ∀ u ∈ l.map vK, u.oneCell' = true := by
  intro u hu
  obtain ⟨b, _, rfl⟩ := List.mem_map.1 hu
  rfl
theorem ownK {w : World} {base : Nat} {e : TypeId} {V n cap : Nat} {l : List Nat} (h : w.ownsRow base e 1 (.slice (some ⟨V, 0, none⟩) n cap) n (l.map vK)) {k : Nat} (hk : k < l.length) : w.cell? ⟨V, k, none⟩ = some (.int .i64 (l.getD k 0 : Nat)) ∧ w.frozen? ⟨V, k, none⟩ = false := by
  have := own_cell h (k := k) (by simpa using hk)
  rw [List.getD_eq_getElem?_getD, List.getElem?_eq_getElem hk]
  simpa [vK] using this
theorem ownK_set {w : World} {base : Nat} {e : TypeId} {V n cap : Nat} {l : List Nat} (h : w.ownsRow base e 1 (.slice (some ⟨V, 0, none⟩) n cap) n (l.map vK)) (k : Nat) (x : Nat) : (w.setCell ⟨V, k, none⟩ (.int .i64 (x : Int))).ownsRow base e 1 (.slice (some ⟨V, 0, none⟩) n cap) n ((l.set k x).map vK) := by
  have := own_set h k (.int .i64 (x : Int))
  rw [List.map_set]; exact this
theorem Rd.numsK {w : World} {a : Option Addr} {e : TypeId} {xs : List Nat} (h : Rd w a e (xs.map vK)) {k : Nat} (hk : k < xs.length) :
    ∃ b o, a = some ⟨b, o, none⟩ ∧ b < w.heap.size ∧ ∀ i, (h : i < xs.length) → w.cell? ⟨b, o + i, none⟩ = some (.int .i64 (xs[i] : Nat)) := by
  obtain ⟨b, o, ha, hb, hc⟩ := h.cell (k := k) (by simpa using hk)
  exact ⟨b, o, ha, hb, fun i h => by have := hc i (by simpa using h); simpa [vK] using this⟩
theorem info_intO : (Tryd.prog.info? 3).map (fun i => (i.zero, i.size, i.bytes)) = some (some (.int .i64 0), 1, 8) := by kernel_rfl
/-- a row of numbers of the call's own -/
def RetKs (w : World) (l : List Nat) (e : Ending) (w' : World) : Prop :=
  ∃ a cap, e = .returned (.slice a l.length cap) ∧ w'.ownsRow w.heap.size 3 1 (.slice a l.length cap) l.length (l.map vK) ∧ Below w.heap.size w w'
end Go.Proofs.YteikbbdkpeecaaaDoor
