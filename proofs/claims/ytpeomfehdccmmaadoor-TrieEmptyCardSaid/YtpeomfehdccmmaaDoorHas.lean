/- What a Hasher in memory holds. Words for the walks. -/
import Derived.Test.YtpeomfehdccmmaaDoorHasher
import Derived.Test.YtpeomfehdccmmaaDoorMem3
import Derived.Laws.IdiomCopy
namespace Go.Proofs.YtpeomfehdccmmaaDoor
open Go.RowKit
set_option linter.unusedVariables false
structure Has (w : World) (G : Nat) (s : List UInt32) (rv : Value) (n : Int) : Prop where
  lt : G < w.heap.size
  st : w.rangeAt G 0 (s.map vW)
  re : w.cell? ⟨G, 8, none⟩ = some rv
  nn : w.cell? ⟨G, 9, none⟩ = some (.int .i64 n)
  fz : ∀ j, w.frozen? ⟨G, j, none⟩ = false
theorem hW_get (s : List UInt32) (hs : s.length = 8) (rv : Value) (n : Int) : (hW s rv n)[8]? = some rv ∧ (hW s rv n)[9]? = some (.int .i64 n) ∧ ∀ j, j < 8 → (hW s rv n)[j]? = (s.map vW)[j]? := by
  unfold hW hL
  refine ⟨?_, ?_, fun j hj => ?_⟩
  · rw [List.getElem?_toArray, List.getElem?_append_right (by simp [hs])]; simp [hs]
  · rw [List.getElem?_toArray, List.getElem?_append_right (by simp [hs])]; simp [hs]
  · rw [List.getElem?_toArray, List.getElem?_append_left (by simp [hs]; omega)]
theorem Has.of_block {w : World} {G : Nat} {s : List UInt32} {rv : Value} {n : Int} {t : TypeId} (hs : s.length = 8) (h : w.heap[G]? = some (.cells (hW s rv n) t (0, 0))) : Has w G s rv n := by
  obtain ⟨h1, h2, h3⟩ := hW_get s hs rv n
  refine ⟨lt_of_heap h, fun j v hj => ?_, ?_, ?_, fun j => frozenW h j⟩
  · have hj8 : j < 8 := by have := (List.getElem?_eq_some_iff.1 hj).1; simpa [hs] using this
    rw [Nat.zero_add, cell_of_row w G j _ t _ h, h3 j hj8, hj]
  · rw [cell_of_row w G 8 _ t _ h, h1]
  · rw [cell_of_row w G 9 _ t _ h, h2]
theorem Has.below {w w' : World} {D G : Nat} {s : List UInt32} {rv : Value} {n : Int} (h : Has w G s rv n) (hb : Below D w w') (hG : G < D) : Has w' G s rv n :=
  ⟨Nat.lt_of_lt_of_le h.lt hb.size, fun j v hj => (hb.cell (p := ⟨G, 0 + j, none⟩) hG).trans (h.st j v hj), (hb.cell (p := ⟨G, 8, none⟩) hG).trans h.re, (hb.cell (p := ⟨G, 9, none⟩) hG).trans h.nn, fun j => (hb.frozen (p := ⟨G, j, none⟩) hG).trans (h.fz j)⟩
theorem Has.drew {w : World} {G : Nat} {s : List UInt32} {rv : Value} {n : Int} (h : Has w G s rv n) : Has w.drew G s rv n := ⟨h.lt, h.st, h.re, h.nn, h.fz⟩
theorem Has.setRest {w : World} {G : Nat} {s : List UInt32} {rv : Value} {n : Int} (hs : s.length = 8) (h : Has w G s rv n) (rv' : Value) : Has (w.setCell ⟨G, 8, none⟩ rv') G s rv' n := by
  refine ⟨by simpa [World.setCell] using h.lt, fun j v hj => ?_, World.cell?_setCell_same w _ _ h.re, ?_, fun j => by simp [h.fz]⟩
  · have hj8 : j < 8 := by have := (List.getElem?_eq_some_iff.1 hj).1; simpa [hs] using this
    rw [World.cell?_setCell_other w _ _ _ (by intro e; have h1 : 0 + j = _ := (congrArg Addr.off e).symm; simp only at h1; omega)]; exact h.st j v hj
  · rw [World.cell?_setCell_other w _ _ _ (by simp)]; exact h.nn
theorem Has.setN {w : World} {G : Nat} {s : List UInt32} {rv : Value} {n : Int} (hs : s.length = 8) (h : Has w G s rv n) (m : Int) : Has (w.setCell ⟨G, 9, none⟩ (.int .i64 m)) G s rv m := by
  refine ⟨by simpa [World.setCell] using h.lt, fun j v hj => ?_, ?_, World.cell?_setCell_same w _ _ h.nn, fun j => by simp [h.fz]⟩
  · have hj8 : j < 8 := by have := (List.getElem?_eq_some_iff.1 hj).1; simpa [hs] using this
    rw [World.cell?_setCell_other w _ _ _ (by intro e; have h1 : 0 + j = _ := (congrArg Addr.off e).symm; simp only at h1; omega)]; exact h.st j v hj
  · rw [World.cell?_setCell_other w _ _ _ (by simp)]; exact h.re
theorem Has.there {w : World} {G : Nat} {s : List UInt32} {rv : Value} {n : Int} (hs : s.length = 8) (h : Has w G s rv n) : w.there G 0 8 := fun j hj => by
  have hx : (s.map vW)[j]? = some ((s.map vW)[j]'(by simp [hs]; omega)) := List.getElem?_eq_getElem _
  exact ⟨by rw [h.st j _ hx]; rfl, h.fz _⟩
theorem setCells_lt (G : Nat) : ∀ (vs : List Value) (w : World) (o : Nat), (w.setCells G o vs).heap.size = w.heap.size
  | [], w, o => rfl
  | v :: vs, w, o => by rw [World.setCells, setCells_lt G vs]; simp [World.setCell]
theorem Has.setState {w : World} {G : Nat} {s s' : List UInt32} {rv : Value} {n : Int} (hs : s.length = 8) (hs' : s'.length = 8) (h : Has w G s rv n) : Has (w.setCells G 0 (s'.map vW)) G s' rv n := by
  refine ⟨by rw [setCells_lt]; exact h.lt, World.rangeAt_setCells_same w G 0 _ (by rw [List.length_map, hs']; exact h.there hs), ?_, ?_, fun j => by rw [World.frozen?_setCells]; exact h.fz j⟩
  · rw [World.cell?_setCells_out _ _ _ _ _ (fun _ _ => .inr (by simp [hs']))]; exact h.re
  · rw [World.cell?_setCells_out _ _ _ _ _ (fun _ _ => .inr (by simp [hs']))]; exact h.nn
theorem below_setCellsH {B G : Nat} : ∀ (vs : List Value) {w w' : World} (o : Nat), Below B w w' → B ≤ G → Below B w (w'.setCells G o vs)
  | [], _, _, _, h, _ => h
  | v :: vs, _, _, o, h, hg => below_setCellsH vs (o + 1) (h.setCell hg v) hg
theorem heap_setCells_otherH {g k : Nat} (h : k ≠ g) : ∀ (vs : List Value) (w : World) (o : Nat), (w.setCells g o vs).heap[k]? = w.heap[k]?
  | [], w, o => rfl
  | v :: vs, w, o => (heap_setCells_otherH h vs _ (o + 1)).trans (Below.heap_setCell w ⟨g, o, none⟩ v k h)
end Go.Proofs.YtpeomfehdccmmaaDoor
