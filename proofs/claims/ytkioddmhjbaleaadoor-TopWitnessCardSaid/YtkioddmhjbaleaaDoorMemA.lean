/- What a list in memory reads as; how it stays; one element appended. Words and lemmas for the walks of this seat; they say nothing of the program. -/
import Derived.WalkKit
import Derived.ProofKit
import Derived.Lib.Hide
import Derived.Maps.AppendAt
import Derived.Deep.AppendLies
import Derived.Deep.RegionHeld3
import Derived.Deep.Draws
namespace Go.Proofs.YtkioddmhjbaleaaDoor
open Go.RowKit

/-- a byte as a value -/
def vB (b : UInt8) : Value := .int .u8 b.toNat
def vI (n : Int) : Value := .int .i64 n

/-- the values vs lie one behind the other where a leads, in a row of elements of type e -/
def Rd (w : World) (a : Option Addr) (e : TypeId) (vs : List Value) : Prop :=
  vs = [] ∨ ∃ b o cur fr, a = some ⟨b, o, none⟩ ∧ w.heap[b]? = some (.cells cur e fr) ∧ ∀ i, (h : i < vs.length) → cur[o + i]? = some vs[i]

theorem lt_of_heap {w : World} {b : Nat} {x : Obj} (h : w.heap[b]? = some x) : b < w.heap.size := (Array.getElem?_eq_some_iff.1 h).1

theorem Rd.nil {w : World} {a : Option Addr} {e : TypeId} : Rd w a e [] := .inl rfl
theorem Rd.cell {w : World} {a : Option Addr} {e : TypeId} {vs : List Value} (h : Rd w a e vs) {k : Nat} (hk : k < vs.length) :
    ∃ b o, a = some ⟨b, o, none⟩ ∧ b < w.heap.size ∧ ∀ i, (h : i < vs.length) → w.cell? ⟨b, o + i, none⟩ = some vs[i] := by
  rcases h with rfl | ⟨b, o, cur, fr, rfl, hc, hi⟩
  · simp at hk
  · refine ⟨b, o, rfl, lt_of_heap hc, fun i h => ?_⟩
    rw [cell_of_row w b (o + i) cur e fr hc]
    exact hi i h
theorem Rd.bytes {w : World} {a : Option Addr} {e : TypeId} {xs : List UInt8} (h : Rd w a e (xs.map vB)) {k : Nat} (hk : k < xs.length) :
    ∃ b o, a = some ⟨b, o, none⟩ ∧ b < w.heap.size ∧ ∀ i, (h : i < xs.length) → w.cell? ⟨b, o + i, none⟩ = some (.int .u8 (xs[i].toNat : Int)) := by
  obtain ⟨b, o, ha, hb, hc⟩ := h.cell (k := k) (by simpa using hk)
  exact ⟨b, o, ha, hb, fun i h => by have := hc i (by simpa using h); simpa [vB] using this⟩
theorem Rd.ints {w : World} {a : Option Addr} {e : TypeId} {xs : List Int} (h : Rd w a e (xs.map vI)) {k : Nat} (hk : k < xs.length) :
    ∃ b o, a = some ⟨b, o, none⟩ ∧ b < w.heap.size ∧ ∀ i, (h : i < xs.length) → w.cell? ⟨b, o + i, none⟩ = some (.int .i64 xs[i]) := by
  obtain ⟨b, o, ha, hb, hc⟩ := h.cell (k := k) (by simpa using hk)
  exact ⟨b, o, ha, hb, fun i h => by have := hc i (by simpa using h); simpa [vI] using this⟩
theorem Rd.of_block {w w' : World} {a : Option Addr} {e : TypeId} {vs : List Value} (h : Rd w a e vs) (hb : ∀ x, a = some x → x.block < w.heap.size → w'.heap[x.block]? = w.heap[x.block]?) : Rd w' a e vs := by
  rcases h with h | ⟨b, o, cur, fr, rfl, hc, hi⟩
  · exact .inl h
  · exact .inr ⟨b, o, cur, fr, rfl, (hb _ rfl (lt_of_heap hc)).trans hc, hi⟩
/-- nothing that was there has turned: it reads as it did -/
theorem Rd.below {w w' : World} {a : Option Addr} {e : TypeId} {vs : List Value} (h : Rd w a e vs) (hb : Below w.heap.size w w') : Rd w' a e vs :=
  h.of_block fun _ _ hx => hb.block _ hx
theorem Rd.alloc {w : World} {a : Option Addr} {e : TypeId} {vs : List Value} (h : Rd w a e vs) (o : Obj) : Rd (w.alloc o) a e vs :=
  h.below ((Below.refl _ w).alloc (Nat.le_refl _) o)
theorem Rd.drew {w : World} {a : Option Addr} {e : TypeId} {vs : List Value} (h : Rd w a e vs) : Rd w.drew a e vs := h
/-- a row of another element type was written -/
theorem Rd.grown {w w' : World} {a : Option Addr} {e : TypeId} {vs : List Value} (h : Rd w a e vs) {row : Option Nat} (hg : w.grownBy w' row)
    (hr : ∀ g, row = some g → ∃ cur e' fr, w.heap[g]? = some (.cells cur e' fr) ∧ e' ≠ e) : Rd w' a e vs := by
  rcases h with h | ⟨b, o, cur, fr, rfl, hc, hi⟩
  · exact .inl h
  · refine .inr ⟨b, o, cur, fr, rfl, (hg.block b (lt_of_heap hc) ?_).trans hc, hi⟩
    intro e1
    obtain ⟨cur', e', fr', h1, h2⟩ := hr b e1.symm
    rw [hc] at h1
    simp only [Option.some.injEq, Obj.cells.injEq] at h1
    exact h2 h1.2.1.symm
theorem Rd.setCell {w : World} {a : Option Addr} {e : TypeId} {vs : List Value} (h : Rd w a e vs) (p : Addr) (u : Value) (hp : ∀ x, a = some x → x.block ≠ p.block) : Rd (w.setCell p u) a e vs :=
  h.of_block fun x hx _ => Below.heap_setCell _ _ _ _ (hp x hx)
/-- what the call owns reads so -/
theorem Rd.of_own {w : World} {base : Nat} {e : TypeId} {size : Nat} {a : Option Addr} {n cap : Nat} {xs : List Value} (h : w.ownsRow base e size (.slice a n cap) n xs) : Rd w a e xs := by
  obtain ⟨hl, h⟩ := h
  rcases h with ⟨_, rfl⟩ | ⟨g, cap', cur, hv, _, hg, _, _, _, ht⟩
  · left; exact List.eq_nil_of_length_eq_zero (by simpa using hl)
  · right
    simp only [Value.slice.injEq] at hv
    refine ⟨g, 0, cur, (0, 0), hv.1, hg, fun i hi => ?_⟩
    have hx : xs[i]? = some xs[i] := List.getElem?_eq_getElem hi
    conv at hx => lhs; rw [← ht]
    rw [List.getElem?_take] at hx
    split at hx
    · simpa using hx
    · cases hx
theorem Rd.take {w : World} {a : Option Addr} {e : TypeId} {vs : List Value} (h : Rd w a e vs) (n : Nat) : Rd w a e (vs.take n) := by
  rcases h with rfl | ⟨b, o, cur, fr, rfl, hc, hi⟩
  · left; simp
  · right
    refine ⟨b, o, cur, fr, rfl, hc, fun i h => ?_⟩
    rw [List.getElem_take]
    exact hi i (by simp at h; omega)
theorem Rd.drop {w : World} {b o : Nat} {e : TypeId} {vs : List Value} (h : Rd w (some ⟨b, o, none⟩) e vs) (n : Nat) : Rd w (some ⟨b, o + n, none⟩) e (vs.drop n) := by
  rcases h with rfl | ⟨b', o', cur, fr, ha, hc, hi⟩
  · left; simp
  · right
    simp only [Option.some.injEq, Addr.mk.injEq] at ha
    obtain ⟨rfl, rfl, _⟩ := ha
    refine ⟨b, o + n, cur, fr, rfl, hc, fun i h => ?_⟩
    rw [List.getElem_drop, Nat.add_assoc]
    exact hi (n + i) (by simp at h; omega)

theorem Rd.new (w : World) (cs : Array Value) (e : TypeId) : Rd (w.alloc (.cells cs e)) (some ⟨w.heap.size, 0, none⟩) e cs.toList := by
  refine .inr ⟨w.heap.size, 0, cs, (0, 0), rfl, heap_alloc_new w _, fun i hi => ?_⟩
  have : i < cs.size := by simpa using hi
  simp [this]

/-! values that are lists of bytes -/
/-- the value v is a list of the bytes xs; its block and its row's element type fit E -/
def IsB (E : Nat → TypeId → Prop) (w : World) (xs : List UInt8) (v : Value) : Prop := ∃ a cap e, v = .slice a xs.length cap ∧ Rd w a e (xs.map vB) ∧ (∀ x, a = some x → xs ≠ [] → E x.block e) ∧ xs.length ≤ 9223372036854775807
theorem Rd.block_lt {w : World} {x : Addr} {e : TypeId} {vs : List Value} (h : Rd w (some x) e vs) (hne : vs ≠ []) : x.block < w.heap.size := by
  rcases h with h | ⟨b, o, cur, fr, h, hc, _⟩
  · exact absurd h hne
  · cases h; exact lt_of_heap hc
theorem IsB.below {E : Nat → TypeId → Prop} {w w' : World} {xs : List UInt8} {v : Value} (h : IsB E w xs v) (hb : Below w.heap.size w w') : IsB E w' xs v := by
  obtain ⟨a, cap, e, hv, hr, hE⟩ := h; exact ⟨a, cap, e, hv, hr.below hb, hE⟩
theorem IsB.mono {E E' : Nat → TypeId → Prop} {w : World} {xs : List UInt8} {v : Value} (h : IsB E w xs v) (hE : ∀ b e, b < w.heap.size → E b e → E' b e) : IsB E' w xs v := by
  obtain ⟨a, cap, e, hv, hr, he⟩ := h
  refine ⟨a, cap, e, hv, hr, fun x hx hne => hE _ _ ?_ (he.1 x hx hne), he.2⟩
  subst hx
  exact hr.block_lt (by simpa using hne)
/-- one row was written, which is none of E's -/
theorem IsB.grown {E : Nat → TypeId → Prop} {w w' : World} {xs : List UInt8} {v : Value} (h : IsB E w xs v) {row : Option Nat} (hg : w.grownBy w' row)
    (hr : ∀ g, row = some g → ∃ cur e' fr, w.heap[g]? = some (.cells cur e' fr) ∧ ∀ e, E g e → e ≠ e') : IsB E w' xs v := by
  obtain ⟨a, cap, e, hv, h, hE⟩ := h
  refine ⟨a, cap, e, hv, ?_, hE⟩
  by_cases hne : xs = []
  · left; simp [hne]
  · refine h.of_block fun x hx hlt => hg.block _ hlt fun e1 => ?_
    obtain ⟨cur, e', fr, h1, h2⟩ := hr x.block e1.symm
    rcases h with h | ⟨b, o, cur', fr', h, hc, _⟩
    · exact hne (by simpa using h)
    · subst hx; cases h
      rw [hc] at h1
      simp only [Option.some.injEq, Obj.cells.injEq] at h1
      exact h2 e (hE.1 _ rfl hne) h1.2.1

/-- the elements of a list of lists of bytes -/
def AreB (E : Nat → TypeId → Prop) (w : World) (rows : List (List UInt8)) (vs : List Value) : Prop :=
  vs.length = rows.length ∧ ∀ i, (h : i < rows.length) → (h' : i < vs.length) → IsB E w rows[i] vs[i]
theorem AreB.nil {E : Nat → TypeId → Prop} {w : World} : AreB E w [] [] := ⟨rfl, fun i h => by simp at h⟩
theorem AreB.below {E : Nat → TypeId → Prop} {w w' : World} {rows : List (List UInt8)} {vs : List Value} (h : AreB E w rows vs) (hb : Below w.heap.size w w') : AreB E w' rows vs :=
  ⟨h.1, fun i hi hj => (h.2 i hi hj).below hb⟩
theorem AreB.mono {E E' : Nat → TypeId → Prop} {w : World} {rows : List (List UInt8)} {vs : List Value} (h : AreB E w rows vs) (hE : ∀ b e, b < w.heap.size → E b e → E' b e) : AreB E' w rows vs :=
  ⟨h.1, fun i hi hj => (h.2 i hi hj).mono hE⟩
theorem AreB.grown {E : Nat → TypeId → Prop} {w w' : World} {rows : List (List UInt8)} {vs : List Value} (h : AreB E w rows vs) {row : Option Nat} (hg : w.grownBy w' row)
    (hr : ∀ g, row = some g → ∃ cur e' fr, w.heap[g]? = some (.cells cur e' fr) ∧ ∀ e, E g e → e ≠ e') : AreB E w' rows vs :=
  ⟨h.1, fun i hi hj => (h.2 i hi hj).grown hg hr⟩
theorem AreB.snoc {E : Nat → TypeId → Prop} {w : World} {rows : List (List UInt8)} {vs : List Value} (h : AreB E w rows vs) {xs : List UInt8} {v : Value} (hv : IsB E w xs v) : AreB E w (rows ++ [xs]) (vs ++ [v]) := by
  refine ⟨by simp [h.1], fun i hi hj => ?_⟩
  by_cases e : i < rows.length
  · rw [List.getElem_append_left e, List.getElem_append_left (by rw [h.1]; exact e)]
    exact h.2 i e _
  · have : i = rows.length := by simp at hi; omega
    subst this
    simp [← h.1] at hj ⊢
    simpa [h.1] using hv
theorem AreB.take {E : Nat → TypeId → Prop} {w : World} {rows : List (List UInt8)} {vs : List Value} (h : AreB E w rows vs) (n : Nat) : AreB E w (rows.take n) (vs.take n) := by
  refine ⟨by simp [h.1], fun i hi hj => ?_⟩
  rw [List.getElem_take, List.getElem_take]
  exact h.2 i (by simp at hi; omega) _
theorem AreB.alloc {E : Nat → TypeId → Prop} {w : World} {rows : List (List UInt8)} {vs : List Value} (h : AreB E w rows vs) (o : Obj) : AreB E (w.alloc o) rows vs :=
  h.below ((Below.refl _ w).alloc (Nat.le_refl _) o)

/-- the row that is owned, as a block -/
theorem own_block {w : World} {base : Nat} {e : TypeId} {size : Nat} {v : Value} {n : Nat} {xs : List Value} (h : w.ownsRow base e size v n xs) :
    ∀ g, v.ownBlock = some g → ∃ cur e' fr, w.heap[g]? = some (.cells cur e' fr) ∧ e' = e := by
  intro g hg
  rcases h.2 with ⟨rfl, _⟩ | ⟨g', cap, cur, rfl, _, hc, _⟩
  · simp [Value.ownBlock] at hg
  · simp only [Value.ownBlock, Option.some.injEq] at hg
    subst hg
    exact ⟨cur, e, (0, 0), hc, rfl⟩
/-- what is read in rows of other types, or in other blocks, is as it was behind an append -/
theorem own_other {w : World} {base : Nat} {e : TypeId} {size : Nat} {v : Value} {n : Nat} {xs : List Value} (h : w.ownsRow base e size v n xs) {E : Nat → TypeId → Prop} (hE : ∀ g e', v.ownBlock = some g → E g e' → e' ≠ e) :
    ∀ g, v.ownBlock = some g → ∃ cur e' fr, w.heap[g]? = some (.cells cur e' fr) ∧ ∀ e, E g e → e ≠ e' := by
  intro g hg
  obtain ⟨cur, e', fr, h1, rfl⟩ := own_block h g hg
  exact ⟨cur, e', fr, h1, fun e2 h2 => hE g e2 hg h2⟩
theorem own_slice {w : World} {base : Nat} {e : TypeId} {size : Nat} {v : Value} {n : Nat} {xs : List Value} (h : w.ownsRow base e size v n xs) : ∃ a cap, v = .slice a n cap := by
  rcases h.2 with ⟨rfl, rfl⟩ | ⟨g, cap, cur, rfl, _⟩
  · exact ⟨_, _, rfl⟩
  · exact ⟨_, _, rfl⟩
theorem own_below {w w' : World} {base : Nat} {e : TypeId} {size : Nat} {v : Value} {n : Nat} {xs : List Value} (h : w.ownsRow base e size v n xs) (hb : Below w.heap.size w w') : w'.ownsRow base e size v n xs := by
  refine ⟨h.1, ?_⟩
  rcases h.2 with h2 | ⟨g, cap, cur, hv, hg, hh, r⟩
  · exact .inl h2
  · exact .inr ⟨g, cap, cur, hv, hg, (hb.block g (lt_of_heap hh)).trans hh, r⟩
theorem own_base {w : World} {base base' : Nat} {e : TypeId} {size : Nat} {v : Value} {n : Nat} {xs : List Value} (h : w.ownsRow base e size v n xs) (hb : base' ≤ base) : w.ownsRow base' e size v n xs := by
  refine ⟨h.1, ?_⟩
  rcases h.2 with h2 | ⟨g, cap, cur, hv, hg, r⟩
  · exact .inl h2
  · exact .inr ⟨g, cap, cur, hv, by omega, r⟩
theorem IsB.of_own {w : World} {base e : Nat} {n cap : Nat} {a : Option Addr} {xs : List UInt8} (h : w.ownsRow base e 1 (.slice a n cap) n (xs.map vB)) : IsB (fun b e' => e' = e ∧ base ≤ b) w xs (.slice a n cap) := by
  have hn : n = xs.length := by have := h.1; simp at this; omega
  subst hn
  refine ⟨a, cap, e, rfl, Rd.of_own h, fun x hx hne => ⟨rfl, ?_⟩, ?_⟩
  · subst hx
    rcases h.2 with ⟨h2, _⟩ | ⟨g, cap', cur, hv, hb, _⟩
    · simp at h2
    · simp only [Value.slice.injEq, Option.some.injEq] at hv
      rw [hv.1]; exact hb
  · rcases h.2 with ⟨_, h2⟩ | ⟨g, cap', cur, _, _, _, h1, h2, _⟩
    · omega
    · simp only [maxLen] at h2; omega

/-- a list of lists that the call owns, one list more -/
theorem AreB.push {E : Nat → TypeId → Prop} {wA w2 : World} {rows : List (List UInt8)} {vs : List Value} {r : List UInt8} {val : Value} (hA : AreB E wA rows vs) (hnew : IsB E wA r val)
    {base : Nat} {eo : TypeId} {size : Nat} {v : Value} {n : Nat} {xs : List Value} (hown : wA.ownsRow base eo size v n xs) (hgrow : wA.grownBy w2 v.ownBlock) (hE : ∀ g e', v.ownBlock = some g → E g e' → e' ≠ eo) : AreB E w2 (rows ++ [r]) (vs ++ [val]) :=
  (hA.snoc hnew).grown hgrow (own_other hown hE)
/-- another list was appended to, which none of these lies in -/
theorem AreB.other_app {E : Nat → TypeId → Prop} {wA w2 : World} {rows : List (List UInt8)} {vs : List Value} {base : Nat} {eo : TypeId} {size : Nat} {v : Value} {n : Nat} {xs : List Value} {g H : Nat}
    (hA : AreB (fun b e => E b e ∧ some b ≠ v.ownBlock) wA rows vs) (hown : wA.ownsRow base eo size v n xs) (hgrow : wA.grownBy w2 v.ownBlock) (hat : v.ownBlock = some g ∨ g = H) (hH : wA.heap.size ≤ H) : AreB (fun b e => E b e ∧ some b ≠ some g) w2 rows vs := by
  have h1 : AreB (fun b e => (E b e ∧ some b ≠ v.ownBlock) ∧ some b ≠ some g) wA rows vs := hA.mono fun b e hb h => ⟨h, fun e1 => by
    rcases hat with hat | hat
    · exact h.2 (e1.trans hat.symm)
    · simp only [Option.some.injEq] at e1; omega⟩
  exact (h1.grown hgrow (own_other hown (fun g' e' hg h => absurd hg.symm h.1.2))).mono fun b e _ h => ⟨h.1.1, h.2⟩
theorem Rd.other_app {wA w2 : World} {a : Option Addr} {e eo : TypeId} {vs : List Value} (h : Rd wA a e vs) {base : Nat} {size : Nat} {v : Value} {n : Nat} {xs : List Value} (hown : wA.ownsRow base eo size v n xs) (hgrow : wA.grownBy w2 v.ownBlock) (hne : eo ≠ e) : Rd w2 a e vs :=
  h.grown hgrow fun g hg => by obtain ⟨cur, e', fr, h1, rfl⟩ := own_block hown g hg; exact ⟨cur, e', fr, h1, hne⟩

/-- another row, of another type, was appended to -/
theorem own_kept_other {w w' : World} {b b' : Nat} {e e' : TypeId} {s s' n n' : Nat} {v v' : Value} {xs xs' : List Value} (h : w.ownsRow b e s v n xs) (h' : w.ownsRow b' e' s' v' n' xs') (hne : e ≠ e') (hg : w.grownBy w' v'.ownBlock) : w'.ownsRow b e s v n xs := by
  refine h.kept hg ?_
  cases hv : v.ownBlock with
  | none => exact .inl rfl
  | some g =>
    right
    intro e1
    obtain ⟨c1, t1, f1, h1, rfl⟩ := own_block h g hv
    obtain ⟨c2, t2, f2, h2, rfl⟩ := own_block h' g e1.symm
    rw [h1] at h2
    simp only [Option.some.injEq, Obj.cells.injEq] at h2
    exact hne h2.2.1
theorem IsB.alloc {E : Nat → TypeId → Prop} {w : World} {xs : List UInt8} {v : Value} (h : IsB E w xs v) (o : Obj) : IsB E (w.alloc o) xs v :=
  h.below ((Below.refl _ w).alloc (Nat.le_refl _) o)

/-- a store into what the call owns -/
theorem own_set {w : World} {base : Nat} {e : TypeId} {g n cap : Nat} {xs : List Value} (h : w.ownsRow base e 1 (.slice (some ⟨g, 0, none⟩) n cap) n xs) (k : Nat) (u : Value) :
    (w.setCell ⟨g, k, none⟩ u).ownsRow base e 1 (.slice (some ⟨g, 0, none⟩) n cap) n (xs.set k u) := by
  obtain ⟨hl, h⟩ := h
  refine ⟨by simpa using hl, ?_⟩
  rcases h with ⟨h, _⟩ | ⟨g', cap', cur, hv, hb, hg, hn, hm, hs, ht⟩
  · simp at h
  · simp only [Value.slice.injEq, Option.some.injEq, Addr.mk.injEq, true_and] at hv
    obtain ⟨⟨rfl, _⟩, rfl⟩ := hv
    refine .inr ⟨g, cap, cur.setIfInBounds k u, rfl, hb, ?_, hn, hm, by simpa using hs, ?_⟩
    · simp only [World.setCell, Array.getElem?_modify, if_pos, hg]
      simp
    · rw [← ht, Array.toList_setIfInBounds, List.take_set]
theorem own_cell {w : World} {base : Nat} {e : TypeId} {g n cap : Nat} {xs : List Value} (h : w.ownsRow base e 1 (.slice (some ⟨g, 0, none⟩) n cap) n xs) {k : Nat} (hk : k < xs.length) :
    w.cell? ⟨g, k, none⟩ = some xs[k] ∧ w.frozen? ⟨g, k, none⟩ = false := by
  obtain ⟨hl, h⟩ := h
  rcases h with ⟨h, _⟩ | ⟨g', cap', cur, hv, hb, hg, hn, hm, hs, ht⟩
  · simp at h
  · simp only [Value.slice.injEq, Option.some.injEq, Addr.mk.injEq, true_and] at hv
    obtain ⟨⟨rfl, _⟩, rfl⟩ := hv
    constructor
    · rw [cell_of_row w g k cur e (0, 0) hg]
      have hx : xs[k]? = some xs[k] := List.getElem?_eq_getElem hk
      conv at hx => lhs; rw [← ht]
      rw [List.getElem?_take] at hx
      split at hx
      · simpa using hx
      · cases hx
    · simp [World.frozen?, hg]
theorem made_one (n : Nat) (z : Value) : (madeCells #[z] n).toList = List.replicate n z := by
  apply List.ext_getElem
  · simp [madeCells]
  · intro i h1 h2
    simp [madeCells, Nat.mod_one]

/-! one element of one cell appended to what the call owns -/
section
variable {P : Program} {w : World} {ops : Array Oper} {rest : List Oper} {o : Oper} {a : Act} {Q : Exit → Act → World → Prop}
theorem app1 (T e : TypeId) (z : Value) (bytes : Nat) (ht : P.underlying T = some (.slice e)) (hinfo : (P.info? e).map (fun i => (i.zero, i.size, i.bytes)) = some (some z, 1, bytes)) (hzs : z.cells.size = 1) (hby : bytes ≤ 64)
    (hgd : o.guard = none) (s x : Operand) (ho : o.op = .call { callee := .builtin .append, args := #[s, x], argTypes := #[T, T] })
    (base : Nat) (v : Value) (n : Nat) (xs : List Value) (hs : a.eval s = v) (hown : w.ownsRow base e 1 v n xs) (ad : Addr) (c : Nat) (u : Value) (hx : a.eval x = .slice (some ad) 1 c)
    (hu : w.cell? ad = some u) (h1 : u.oneCell' = true) (hn : n ≤ 2000000000000) (hbase : base ≤ w.heap.size) (H : Nat) (hH : w.heap.size = H)
    (h : ∀ g cap w', w'.ownsRow base e 1 (.slice (some ⟨g, 0, none⟩) (n + 1) cap) (n + 1) (xs ++ [u]) → w.grownBy w' v.ownBlock → (v.ownBlock = some g ∨ g = H) → g < w'.heap.size → wpList P ops Q rest (a.put o.dst (.slice (some ⟨g, 0, none⟩) (n + 1) cap)) w') : wpList P ops Q (o :: rest) a w := by
  obtain ⟨i, hi, hz, hsz, hb⟩ := info_parts hinfo
  refine wpList_append_lies w hgd s x T ho base e i z 1 bytes ht hi hz hsz hb hzs (by omega) v n xs hs hown ad 1 c [u] hx rfl ?_ ?_ (by omega) (by simp only [maxLen]; omega) ?_ hbase H hH h
  · intro j y hj
    match j, hj with
    | 0, hj =>
      obtain rfl : u = y := by simpa using hj
      obtain ⟨b, off, sp⟩ := ad
      have := World.cell?_spot hu
      simp only at this
      subst this
      simpa [Addr.add] using hu
  · intro y hy
    obtain rfl : y = u := by simpa using hy
    exact h1
  · have : (n + 1) * bytes ≤ (n + 1) * 64 := Nat.mul_le_mul_left _ hby
    omega

theorem Rd.news {w : World} {ad : Addr} {e : TypeId} {vs : List Value} (h : Rd w (some ad) e vs) : ∀ j u, vs[j]? = some u → w.cell? (ad.add j) = some u := by
  intro j u hj
  have hlt : j < vs.length := (List.getElem?_eq_some_iff.1 hj).1
  obtain ⟨b, o, he, _, hc⟩ := h.cell hlt
  simp only [Option.some.injEq] at he
  subst he
  rw [Addr.add_lit, hc j hlt]
  rw [List.getElem?_eq_getElem hlt] at hj
  exact hj
theorem one_bytes (xs : List UInt8) : ∀ u ∈ xs.map vB, u.oneCell' = true := by
  intro u hu
  obtain ⟨b, _, rfl⟩ := List.mem_map.1 hu
  rfl

/-- all of a list that is read, appended to what the call owns -/
theorem appRd (T e : TypeId) (z : Value) (size bytes : Nat) (ht : P.underlying T = some (.slice e)) (hinfo : (P.info? e).map (fun i => (i.zero, i.size, i.bytes)) = some (some z, size, bytes)) (hzs : z.cells.size = size) (hsz : 0 < size) (hby : bytes ≤ 64)
    (hgd : o.guard = none) (s x : Operand) (ho : o.op = .call { callee := .builtin .append, args := #[s, x], argTypes := #[T, T] })
    (base : Nat) (v : Value) (n : Nat) (xs : List Value) (hs : a.eval s = v) (hown : w.ownsRow base e size v n xs) (ad : Addr) (m c : Nat) (news : List Value) (hx : a.eval x = .slice (some ad) m c) (es : TypeId)
    (hu : Rd w (some ad) es news) (hl : news.length = m * size) (h1 : ∀ u ∈ news, u.oneCell' = true) (hm : 0 < m) (hn : n + m ≤ 2000000000000) (hbase : base ≤ w.heap.size) (H : Nat) (hH : w.heap.size = H)
    (h : ∀ g cap w', w'.ownsRow base e size (.slice (some ⟨g, 0, none⟩) (n + m) cap) (n + m) (xs ++ news) → w.grownBy w' v.ownBlock → (v.ownBlock = some g ∨ g = H) → g < w'.heap.size → wpList P ops Q rest (a.put o.dst (.slice (some ⟨g, 0, none⟩) (n + m) cap)) w') : wpList P ops Q (o :: rest) a w := by
  obtain ⟨i, hi, hz, hsz', hb⟩ := info_parts hinfo
  refine wpList_append_lies w hgd s x T ho base e i z size bytes ht hi hz hsz' hb hzs hsz v n xs hs hown ad m c news hx hl hu.news h1 hm (by simp only [maxLen]; omega) ?_ hbase H hH h
  have : (n + m) * bytes ≤ (n + m) * 64 := Nat.mul_le_mul_left _ hby
  omega
end
end Go.Proofs.YtkioddmhjbaleaaDoor
/- One element appended, as a step of a region that draws its order. It says nothing of the program. -/
namespace Go.Proofs.YtkioddmhjbaleaaDoor
open Go.RowKit
section
variable {P : Program} {w : World} {ops : Array Oper} {o : Oper} {a : Act} {K : Act → World → Prop} {Q : Exit → Act → World → Prop} {E : Prop}
theorem stepApp1 (T e : TypeId) (z : Value) (bytes : Nat) (ht : P.underlying T = some (.slice e)) (hinfo : (P.info? e).map (fun i => (i.zero, i.size, i.bytes)) = some (some z, 1, bytes)) (hzs : z.cells.size = 1) (hby : bytes ≤ 64)
    (hgd : o.guard = none) (s x : Operand) (ho : o.op = .call { callee := .builtin .append, args := #[s, x], argTypes := #[T, T] })
    (base : Nat) (v : Value) (n : Nat) (xs : List Value) (hs : a.eval s = v) (hown : w.ownsRow base e 1 v n xs) (ad : Addr) (c : Nat) (u : Value) (hx : a.eval x = .slice (some ad) 1 c)
    (hu : w.cell? ad = some u) (h1 : u.oneCell' = true) (hn : n ≤ 2000000000000) (hbase : base ≤ w.heap.size) (H : Nat) (hH : w.heap.size = H)
    (h : ∀ g cap w', w'.ownsRow base e 1 (.slice (some ⟨g, 0, none⟩) (n + 1) cap) (n + 1) (xs ++ [u]) → w.grownBy w' v.ownBlock → (v.ownBlock = some g ∨ g = H) → g < w'.heap.size → K (a.put o.dst (.slice (some ⟨g, 0, none⟩) (n + 1) cap)) w') :
    if Region.wanted o (yielded ops a.tmps) = true then Oper.wp P o a w K Q else E := by
  obtain ⟨i, hi, hz, hsz, hb⟩ := info_parts hinfo
  refine step_append_lies w hgd s x T ho base e i z 1 bytes ht hi hz hsz hb hzs (by omega) v n xs hs hown ad 1 c [u] hx rfl ?_ ?_ (by omega) (by simp only [maxLen]; omega) ?_ hbase H hH h
  · intro j y hj
    match j, hj with
    | 0, hj =>
      obtain rfl : u = y := by simpa using hj
      obtain ⟨b, off, sp⟩ := ad
      have := World.cell?_spot hu
      simp only at this
      subst this
      simpa [Addr.add] using hu
  · intro y hy
    obtain rfl : y = u := by simpa using hy
    exact h1
  · have : (n + 1) * bytes ≤ (n + 1) * 64 := Nat.mul_le_mul_left _ hby
    omega
end
theorem below_grow {D : Nat} {w W W' : World} {e : TypeId} {size : Nat} {v : Value} {n : Nat} {xs : List Value} (h : Below D w W) (hown : W.ownsRow D e size v n xs) (hg : W.grownBy W' v.ownBlock) (hD : D ≤ W.heap.size) : Below D w W' :=
  h.grown hg hD (fun j hj => (hown.lt j hj).1)
theorem own_drew {w : World} {base : Nat} {e : TypeId} {size : Nat} {v : Value} {n : Nat} {xs : List Value} (h : w.ownsRow base e size v n xs) : w.drew.ownsRow base e size v n xs := h
theorem own_drewN {w : World} {base : Nat} {e : TypeId} {size : Nat} {v : Value} {n : Nat} {xs : List Value} (h : w.ownsRow base e size v n xs) (k : Nat) : (w.drewN k).ownsRow base e size v n xs := h
end Go.Proofs.YtkioddmhjbaleaaDoor
/- An element of several cells appended, at a plain region and at a step of one that draws its order. It says nothing of the program. -/
namespace Go.Proofs.YtkioddmhjbaleaaDoor
open Go.RowKit
section
variable {P : Program} {w : World} {ops : Array Oper} {rest : List Oper} {o : Oper} {a : Act} {K : Act → World → Prop} {Q : Exit → Act → World → Prop} {E : Prop}
theorem stepAppN (T e : TypeId) (z : Value) (size bytes : Nat) (ht : P.underlying T = some (.slice e)) (hinfo : (P.info? e).map (fun i => (i.zero, i.size, i.bytes)) = some (some z, size, bytes)) (hzs : z.cells.size = size) (hsz : 0 < size) (hby : bytes ≤ 64)
    (hgd : o.guard = none) (s x : Operand) (ho : o.op = .call { callee := .builtin .append, args := #[s, x], argTypes := #[T, T] })
    (base : Nat) (v : Value) (n : Nat) (xs : List Value) (hs : a.eval s = v) (hown : w.ownsRow base e size v n xs) (B : Nat) (c : Nat) (news : List Value) (hx : a.eval x = .slice (some ⟨B, 0, none⟩) 1 c) (hl : news.length = size)
    (hu : ∀ j, (h : j < news.length) → w.cell? ⟨B, j, none⟩ = some news[j]) (h1 : ∀ u ∈ news, u.oneCell' = true) (hn : n ≤ 2000000000000) (hbase : base ≤ w.heap.size) (H : Nat) (hH : w.heap.size = H)
    (h : ∀ g cap w', w'.ownsRow base e size (.slice (some ⟨g, 0, none⟩) (n + 1) cap) (n + 1) (xs ++ news) → w.grownBy w' v.ownBlock → (v.ownBlock = some g ∨ g = H) → g < w'.heap.size → K (a.put o.dst (.slice (some ⟨g, 0, none⟩) (n + 1) cap)) w') :
    if Region.wanted o (yielded ops a.tmps) = true then Oper.wp P o a w K Q else E := by
  obtain ⟨i, hi, hz, hsz', hb⟩ := info_parts hinfo
  refine step_append_lies w hgd s x T ho base e i z size bytes ht hi hz hsz' hb hzs hsz v n xs hs hown ⟨B, 0, none⟩ 1 c news hx (by omega) ?_ h1 (by omega) (by simp only [maxLen]; omega) ?_ hbase H hH h
  · intro j y hj
    have hlt : j < news.length := (List.getElem?_eq_some_iff.1 hj).1
    rw [Addr.add_lit, Nat.zero_add, hu j hlt, ← hj, List.getElem?_eq_getElem hlt]
  · have : (n + 1) * bytes ≤ (n + 1) * 64 := Nat.mul_le_mul_left _ hby
    omega
theorem appN (T e : TypeId) (z : Value) (size bytes : Nat) (ht : P.underlying T = some (.slice e)) (hinfo : (P.info? e).map (fun i => (i.zero, i.size, i.bytes)) = some (some z, size, bytes)) (hzs : z.cells.size = size) (hsz : 0 < size) (hby : bytes ≤ 64)
    (hgd : o.guard = none) (s x : Operand) (ho : o.op = .call { callee := .builtin .append, args := #[s, x], argTypes := #[T, T] })
    (base : Nat) (v : Value) (n : Nat) (xs : List Value) (hs : a.eval s = v) (hown : w.ownsRow base e size v n xs) (B : Nat) (c : Nat) (news : List Value) (hx : a.eval x = .slice (some ⟨B, 0, none⟩) 1 c) (hl : news.length = size)
    (hu : ∀ j, (h : j < news.length) → w.cell? ⟨B, j, none⟩ = some news[j]) (h1 : ∀ u ∈ news, u.oneCell' = true) (hn : n ≤ 2000000000000) (hbase : base ≤ w.heap.size) (H : Nat) (hH : w.heap.size = H)
    (h : ∀ g cap w', w'.ownsRow base e size (.slice (some ⟨g, 0, none⟩) (n + 1) cap) (n + 1) (xs ++ news) → w.grownBy w' v.ownBlock → (v.ownBlock = some g ∨ g = H) → g < w'.heap.size → wpList P ops Q rest (a.put o.dst (.slice (some ⟨g, 0, none⟩) (n + 1) cap)) w') : wpList P ops Q (o :: rest) a w := by
  obtain ⟨i, hi, hz, hsz', hb⟩ := info_parts hinfo
  refine wpList_append_lies w hgd s x T ho base e i z size bytes ht hi hz hsz' hb hzs hsz v n xs hs hown ⟨B, 0, none⟩ 1 c news hx (by omega) ?_ h1 (by omega) (by simp only [maxLen]; omega) ?_ hbase H hH h
  · intro j y hj
    have hlt : j < news.length := (List.getElem?_eq_some_iff.1 hj).1
    rw [Addr.add_lit, Nat.zero_add, hu j hlt, ← hj, List.getElem?_eq_getElem hlt]
  · have : (n + 1) * bytes ≤ (n + 1) * 64 := Nat.mul_le_mul_left _ hby
    omega
end
theorem two_cells {w : World} {B : Nat} {u v : Value} (h0 : w.cell? ⟨B, 0, none⟩ = some u) (h1 : w.cell? ⟨B, 1, none⟩ = some v) : ∀ j, (h : j < [u, v].length) → w.cell? ⟨B, j, none⟩ = some [u, v][j] := by
  intro j h
  match j, h with
  | 0, _ => exact h0
  | 1, _ => exact h1
end Go.Proofs.YtkioddmhjbaleaaDoor
