/- Rows of words of 32 bits in memory. It says nothing of the program. -/
import Derived.Test.YtpeomfehdccmmaaDoorShaLaw
import Derived.Below
import Derived.Deep.MidRow
import Derived.Laws.Tables
namespace Go.Proofs.YtpeomfehdccmmaaDoor
open Go.RowKit
set_option linter.unusedVariables false
/-- words as cells -/
def rW (l : List UInt32) : Array Value := (l.map vW).toArray
theorem rW_size (l : List UInt32) : (rW l).size = l.length := by simp [rW]
theorem rW_get (l : List UInt32) (k : Nat) (h : k < l.length) : (rW l)[k]? = some (.int .u32 (g l k).toNat) := by
  unfold rW g
  simp [h, vW]
theorem rW_set (l : List UInt32) (k : Nat) (x : UInt32) : (rW l).setIfInBounds k (.int .u32 x.toNat) = rW (l.set k x) := by
  unfold rW
  rw [List.setIfInBounds_toArray, List.map_set]
  rfl
theorem rW_one (l : List UInt32) : (rW l).all (·.oneCell') = true := by
  unfold rW
  simp [vW, Value.oneCell']
theorem cellW {w : World} {B : Nat} {l : List UInt32} {t : TypeId} {fr : Nat × Nat} (h : w.heap[B]? = some (.cells (rW l) t fr)) (k : Nat) (hk : k < l.length) : w.cell? ⟨B, k, none⟩ = some (.int .u32 (g l k).toNat) := by
  rw [cell_of_row w B k _ t fr h, rW_get l k hk]
theorem frozenW {w : World} {B : Nat} {c : Array Value} {t : TypeId} (h : w.heap[B]? = some (.cells c t (0, 0))) (k : Nat) : w.frozen? ⟨B, k, none⟩ = false := by
  simp [World.frozen?, h]
theorem setW {w : World} {B : Nat} {l : List UInt32} {t : TypeId} {fr : Nat × Nat} (h : w.heap[B]? = some (.cells (rW l) t fr)) (k : Nat) (x : UInt32) : (w.setCell ⟨B, k, none⟩ (.int .u32 x.toNat)).heap[B]? = some (.cells (rW (l.set k x)) t fr) := by
  simp only [World.setCell, Array.getElem?_modify, if_pos, h]
  simp [rW_set]
theorem g_set (l : List UInt32) (k : Nat) (x : UInt32) (i : Nat) (hk : k < l.length) : g (l.set k x) i = if i = k then x else g l i := by
  unfold g
  rw [List.getD_eq_getElem?_getD, List.getD_eq_getElem?_getD, List.getElem?_set]
  by_cases h : i = k
  · subst h; simp [hk]
  · simp [h, Ne.symm h]
theorem list8 (l l' : List UInt32) (h : l.length = 8) (h' : l'.length = 8) (he : ∀ i, i < 8 → g l i = g l' i) : l = l' := by
  apply List.ext_getElem (by omega)
  intro i h1 h2
  have := he i (by omega)
  unfold g at this
  simpa [List.getD_eq_getElem?_getD, h1, h2] using this
theorem results_cellW {fn : Func} {k : Nat} {t : TypeId} (h : fn.results = #[.cell k t]) (tmps : Array Value) (P : Program) (w : World) (p : Addr) (v : Value) (hp : tmps.getD k undef = .pointer (some p)) (hl : (loadVar t p).run P w = .ok v w) : (results fn tmps).run P w = .ok v w := by
  have hp2 : tmps[k]?.getD undef = .pointer (some p) := by simpa using hp
  simp [results, h, hp2, asAddr, hl]
theorem below_setRowW {B : Nat} {w w' : World} (h : Below B w w') {g : Nat} (hg : B ≤ g) (cs : Array Value) : Below B w (w'.setRow g cs) :=
  h.trans ⟨rfl, rfl, rfl, by rw [setRow_size]; exact Nat.le_refl _, fun k hk => setRow_other _ _ _ _ (by omega)⟩
end Go.Proofs.YtpeomfehdccmmaaDoor
