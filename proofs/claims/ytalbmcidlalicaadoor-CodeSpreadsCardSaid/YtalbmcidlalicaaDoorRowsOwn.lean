/- Rows of bytes that the call owns, each in a block of its own. It says nothing of the program. -/
import Derived.Test.YtalbmcidlalicaaDoorMem2
import Derived.Test.YtalbmcidlalicaaDoorSplitLaw
namespace Go.Proofs.YtalbmcidlalicaaDoor
open Go.RowKit
set_option linter.unusedVariables false
/-- the values vs are rows that hold these bytes, each of its own block, none below base -/
def RowsOwn (base : Nat) (e : TypeId) (w : World) (rows : List (List UInt8)) (vs : List Value) : Prop :=
  vs.length = rows.length ∧ (∀ i, (h : i < rows.length) → (h' : i < vs.length) → w.ownsRow base e 1 vs[i] rows[i].length (rows[i].map vB)) ∧
    ∀ i j, (h : i < vs.length) → (h' : j < vs.length) → i ≠ j → ∀ g, vs[i].ownBlock = some g → vs[j].ownBlock ≠ some g
theorem RowsOwn.nils (base : Nat) (e : TypeId) (w : World) (n : Nat) : RowsOwn base e w (List.replicate n []) (List.replicate n (.slice none 0 0)) := by
  refine ⟨by simp, fun i h h' => ?_, fun i j h h' _ g hg => ?_⟩
  · simp only [List.getElem_replicate]; exact World.ownsRow_nil _ _ _ _
  · simp [Value.ownBlock] at hg
theorem RowsOwn.below {base : Nat} {e : TypeId} {w w' : World} {rows : List (List UInt8)} {vs : List Value} (h : RowsOwn base e w rows vs) (hb : Below w.heap.size w w') : RowsOwn base e w' rows vs :=
  ⟨h.1, fun i hi hi' => own_below (h.2.1 i hi hi') hb, h.2.2⟩
theorem RowsOwn.setOther {base : Nat} {e : TypeId} {w : World} {rows : List (List UInt8)} {vs : List Value} (h : RowsOwn base e w rows vs) (p : Addr) (u : Value) (hp : p.block < base) : RowsOwn base e (w.setCell p u) rows vs :=
  ⟨h.1, fun i hi hi' => own_setOther (h.2.1 i hi hi') p u (own_ne (h.2.1 i hi hi') hp), h.2.2⟩
/-- row i has grown -/
theorem RowsOwn.grown {base : Nat} {e : TypeId} {w w' : World} {rows : List (List UInt8)} {vs : List Value} (h : RowsOwn base e w rows vs) {i : Nat} (hi : i < rows.length) (hi' : i < vs.length) {v : Value} {r : List UInt8} {H g : Nat}
    (hv : w'.ownsRow base e 1 v r.length (r.map vB)) (hg : w.grownBy w' vs[i].ownBlock) (hvb : v.ownBlock = some g) (hat : vs[i].ownBlock = some g ∨ g = H) (hH : w.heap.size ≤ H) : RowsOwn base e w' (rows.set i r) (vs.set i v) := by
  refine ⟨by simp [h.1], fun j hj hj' => ?_, fun j k hj hk hjk q hq => ?_⟩
  · simp only [List.length_set] at hj hj'
    rw [List.getElem_set, List.getElem_set]
    by_cases e1 : i = j
    · subst e1; simpa using hv
    · rw [if_neg e1, if_neg e1]
      have ho := h.2.1 j hj hj'
      refine ⟨ho.1, ?_⟩
      rcases ho.2 with h2 | ⟨g', cap, cur, hv', hb', hh, rest⟩
      · exact .inl h2
      · refine .inr ⟨g', cap, cur, hv', hb', (hg.block g' (lt_of_heap hh) ?_).trans hh, rest⟩
        intro e2
        refine h.2.2 j i hj' hi' (Ne.symm e1) g' ?_ e2.symm
        rw [hv']; rfl
  · simp only [List.length_set] at hj hk
    rw [List.getElem_set] at hq
    rw [List.getElem_set]
    have lt : ∀ x, (hx : x < vs.length) → ∀ q, vs[x].ownBlock = some q → q < w.heap.size := fun x hx q hq => ((h.2.1 x (by rw [← h.1]; exact hx) hx).lt q hq).2
    have key : ∀ x, (hx : x < vs.length) → i ≠ x → vs[x].ownBlock ≠ some g := by
      intro x hx hix hxg
      rcases hat with ha | ha
      · exact h.2.2 i x hi' hx hix g ha hxg
      · have := lt x hx g hxg; omega
    by_cases e1 : i = j
    · subst e1
      rw [if_pos rfl, hvb] at hq
      cases hq
      rw [if_neg hjk]
      exact key k hk hjk
    · rw [if_neg e1] at hq
      by_cases e2 : i = k
      · subst e2
        rw [if_pos rfl, hvb]
        intro e3
        cases e3
        exact key j hj e1 hq
      · rw [if_neg e2]
        exact h.2.2 j k hj hk hjk q hq
theorem RowsOwn.areB {base : Nat} {e : TypeId} {w : World} {rows : List (List UInt8)} {vs : List Value} (h : RowsOwn base e w rows vs) : AreB (fun _ _ => True) w rows vs := by
  refine ⟨h.1, fun i hi hi' => ?_⟩
  have ho := h.2.1 i hi hi'
  obtain ⟨a, cap, hv⟩ := own_slice ho
  rw [hv] at ho ⊢
  exact (IsB.of_own ho).mono fun _ _ _ _ => trivial
theorem own_some {w : World} {base : Nat} {e : TypeId} {size : Nat} {v : Value} {n : Nat} {xs : List Value} (h : w.ownsRow base e size v n xs) : ∀ g, v.ownBlock = some g → base ≤ g ∧ g < w.heap.size := fun g hg => h.lt g hg
theorem own_of_block {w w' : World} {base : Nat} {e : TypeId} {size : Nat} {v : Value} {n : Nat} {xs : List Value} (h : w.ownsRow base e size v n xs) (hb : ∀ g, v.ownBlock = some g → w'.heap[g]? = w.heap[g]?) : w'.ownsRow base e size v n xs := by
  refine ⟨h.1, ?_⟩
  rcases h.2 with h2 | ⟨g, cap, cur, hv, hg, hh, r⟩
  · exact .inl h2
  · exact .inr ⟨g, cap, cur, hv, hg, (hb g (by rw [hv]; rfl)).trans hh, r⟩
/-- one more row, made behind the others -/
theorem RowsOwn.snoc {base base' : Nat} {e : TypeId} {w w' : World} {rows : List (List UInt8)} {vs : List Value} (h : RowsOwn base e w rows vs) (hb : Below w.heap.size w w') {v : Value} {r : List UInt8}
    (hv : w'.ownsRow base' e 1 v r.length (r.map vB)) (hs : w.heap.size ≤ base') (hbb : base ≤ base') : RowsOwn base e w' (rows ++ [r]) (vs ++ [v]) := by
  refine ⟨by simp [h.1], fun i hi hi' => ?_, fun i j hi hj hij g hg => ?_⟩
  · by_cases e1 : i < rows.length
    · rw [List.getElem_append_left e1, List.getElem_append_left (by rw [h.1]; exact e1)]
      exact own_below (h.2.1 i e1 _) hb
    · obtain rfl : i = rows.length := by simp at hi; omega
      have e2 : (vs ++ [v])[rows.length] = v := by simp [← h.1]
      rw [e2]
      simpa using own_base hv hbb
  · have lt : ∀ x, (hx : x < vs.length) → ∀ q, vs[x].ownBlock = some q → q < w.heap.size := fun x hx q hq => ((h.2.1 x (by rw [← h.1]; exact hx) hx).lt q hq).2
    have ge : ∀ q, v.ownBlock = some q → w.heap.size ≤ q := fun q hq => by have := (hv.lt q hq).1; omega
    simp only [List.length_append, List.length_cons, List.length_nil, Nat.zero_add] at hi hj
    by_cases e1 : i < vs.length
    · rw [List.getElem_append_left e1] at hg
      by_cases e2 : j < vs.length
      · rw [List.getElem_append_left e2]; exact h.2.2 i j e1 e2 hij g hg
      · obtain rfl : j = vs.length := by omega
        have e3 : (vs ++ [v])[vs.length] = v := by simp
        rw [e3]
        intro h4
        have := lt i e1 g hg
        have := ge g h4
        omega
    · obtain rfl : i = vs.length := by omega
      have e3 : (vs ++ [v])[vs.length] = v := by simp
      rw [e3] at hg
      have e2 : j < vs.length := by omega
      rw [List.getElem_append_left e2]
      intro h4
      have := lt j e2 g h4
      have := ge g hg
      omega
theorem RowsOwn.init {base : Nat} {e : TypeId} {w : World} {rows : List (List UInt8)} {vs : List Value} {r : List UInt8} {v : Value} (h : RowsOwn base e w (rows ++ [r]) (vs ++ [v])) : RowsOwn base e w rows vs := by
  have hl : vs.length = rows.length := by have := h.1; simpa using this
  refine ⟨hl, fun i hi hi' => ?_, fun i j hi hj hij g hg => ?_⟩
  · have := h.2.1 i (by simp; omega) (by simp; omega)
    rwa [List.getElem_append_left hi, List.getElem_append_left hi'] at this
  · have := h.2.2 i j (by simp; omega) (by simp; omega) hij g (by rwa [List.getElem_append_left hi])
    rwa [List.getElem_append_left hj] at this
theorem RowsOwn.last {base : Nat} {e : TypeId} {w : World} {rows : List (List UInt8)} {vs : List Value} {r : List UInt8} {v : Value} (h : RowsOwn base e w (rows ++ [r]) (vs ++ [v])) : w.ownsRow base e 1 v r.length (r.map vB) := by
  have hl : vs.length = rows.length := by have := h.1; simpa using this
  have := h.2.1 rows.length (by simp) (by simp; omega)
  have e3 : (vs ++ [v])[rows.length]'(by simp; omega) = v := by simp [← hl]
  rw [e3] at this
  simpa using this
/-! two rows -/
theorem pair0 {base : Nat} {e : TypeId} {w : World} {r0 r1 : List UInt8} {va vv : Value} {n : Nat} (h : RowsOwn base e w [r0, r1] [va, vv]) (hn : r0.length = n) : w.ownsRow base e 1 va n (r0.map vB) := by
  subst hn; exact h.2.1 0 (by simp) (by simp)
theorem pair1 {base : Nat} {e : TypeId} {w : World} {r0 r1 : List UInt8} {va vv : Value} {n : Nat} (h : RowsOwn base e w [r0, r1] [va, vv]) (hn : r1.length = n) : w.ownsRow base e 1 vv n (r1.map vB) := by
  subst hn; exact h.2.1 1 (by simp) (by simp)
theorem pair_first {base : Nat} {e : TypeId} {w w' : World} {r0 r1 : List UInt8} {va vv : Value} {n g cap : Nat} {x : UInt8} (h : RowsOwn base e w [r0, r1] [va, vv]) (o : Obj) (hn : r0.length = n)
    (hown : w'.ownsRow base e 1 (.slice (some ⟨g, 0, none⟩) (n + 1) cap) (n + 1) (r0.map vB ++ [.int .u8 x.toNat])) (hg : (w.alloc o).grownBy w' va.ownBlock) (hat : va.ownBlock = some g ∨ g = (w.alloc o).heap.size) :
    RowsOwn base e w' [r0 ++ [x], r1] [.slice (some ⟨g, 0, none⟩) (n + 1) cap, vv] := by
  subst hn
  exact (h.below ((Below.refl _ w).alloc (Nat.le_refl _) o)).grown (i := 0) (r := r0 ++ [x]) (v := .slice (some ⟨g, 0, none⟩) (r0.length + 1) cap) (H := (w.alloc o).heap.size) (by simp) (by simp) (by rw [List.length_append, List.map_append]; exact hown) hg rfl hat (Nat.le_refl _)
theorem pair_second {base : Nat} {e : TypeId} {w w' : World} {r0 r1 : List UInt8} {va vv : Value} {n g cap : Nat} {x : UInt8} (h : RowsOwn base e w [r0, r1] [va, vv]) (o : Obj) (hn : r1.length = n)
    (hown : w'.ownsRow base e 1 (.slice (some ⟨g, 0, none⟩) (n + 1) cap) (n + 1) (r1.map vB ++ [.int .u8 x.toNat])) (hg : (w.alloc o).grownBy w' vv.ownBlock) (hat : vv.ownBlock = some g ∨ g = (w.alloc o).heap.size) :
    RowsOwn base e w' [r0, r1 ++ [x]] [va, .slice (some ⟨g, 0, none⟩) (n + 1) cap] := by
  subst hn
  exact (h.below ((Below.refl _ w).alloc (Nat.le_refl _) o)).grown (i := 1) (r := r1 ++ [x]) (v := .slice (some ⟨g, 0, none⟩) (r1.length + 1) cap) (H := (w.alloc o).heap.size) (by simp) (by simp) (by rw [List.length_append, List.map_append]; exact hown) hg rfl hat (Nat.le_refl _)
end Go.Proofs.YtalbmcidlalicaaDoor
