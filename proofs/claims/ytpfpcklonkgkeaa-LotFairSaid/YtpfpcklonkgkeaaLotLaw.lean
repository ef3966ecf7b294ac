/- One who is honest is enough: the plain law of digests as one. No walk here. -/
import Derived.Test.YtpfpcklonkgkeaaMix
namespace Go.Proofs.Ytpfpcklonkgkeaa
set_option linter.unusedVariables false

theorem fold_add (q : Nat) : ∀ (ds : List (List UInt8)) (x c : UInt8), ds.foldl (fun x d => Gf.add x (d.getD q 0)) (Gf.add x c) = Gf.add (ds.foldl (fun x d => Gf.add x (d.getD q 0)) x) c := by
  intro ds
  induction ds with
  | nil => intro x c; rfl
  | cons d ds ih =>
    intro x c
    simp only [List.foldl_cons]
    rw [← ih]
    congr 1
    simp only [Gf.add]
    ac_rfl
theorem fold_set (q : Nat) (z : List UInt8) (hz : z.getD q 0 = 0) : ∀ (ds : List (List UInt8)) (k : Nat), k < ds.length → ∀ (d : List UInt8) (x : UInt8), (ds.set k d).foldl (fun x d => Gf.add x (d.getD q 0)) x = Gf.add ((ds.set k z).foldl (fun x d => Gf.add x (d.getD q 0)) x) (d.getD q 0) := by
  intro ds
  induction ds with
  | nil => intro k hk; simp at hk
  | cons e ds ih =>
    intro k hk d x
    cases k with
    | zero =>
      simp only [List.set_cons_zero, List.foldl_cons]
      rw [hz, fold_add q ds x (d.getD q 0)]
      congr 2
      simp [Gf.add]
    | succ k =>
      simp only [List.set_cons_succ, List.foldl_cons]
      exact ih k (by simpa using hk) d _
def zeros : List UInt8 := List.replicate 32 0
theorem zeros_get (q : Nat) : zeros.getD q 0 = 0 := by
  unfold zeros
  rw [List.getD_eq_getElem?_getD, List.getElem?_replicate]
  split <;> rfl
theorem mixAt_set (ds : List (List UInt8)) (k : Nat) (hk : k < ds.length) (d : List UInt8) (q : Nat) : mixAt (ds.set k d) q = Gf.add (mixAt (ds.set k zeros) q) (d.getD q 0) := fold_set q zeros (zeros_get q) ds k hk d 0
/-- what the honest one's digest would have to be, the first i bytes of it -/
def ownM (r want : List UInt8) (i : Nat) : List UInt8 := (List.range 32).map fun q => if q < i then Gf.add (r.getD q 0) (want.getD q 0) else 0
theorem ownM_length (r want : List UInt8) (i : Nat) : (ownM r want i).length = 32 := by simp [ownM]
theorem ownM_zero (r want : List UInt8) : ownM r want 0 = zeros := by
  unfold ownM zeros
  rw [List.map_congr_left (g := fun _ => (0 : UInt8)) (fun q _ => if_neg (Nat.not_lt_zero q)), List.map_const']
  simp
theorem ownM_get (r want : List UInt8) (i q : Nat) (h : q < (ownM r want i).length) : (ownM r want i)[q] = if q < i then Gf.add (r.getD q 0) (want.getD q 0) else 0 := by simp [ownM]
theorem ownM_set (r want : List UInt8) (i : Nat) (hi : i < 32) : (ownM r want i).set i (Gf.add (r.getD i 0) (want.getD i 0)) = ownM r want (i + 1) := by
  apply List.ext_getElem
  · simp [ownM]
  · intro q h1 h2
    rw [List.getElem_set, ownM_get, ownM_get]
    by_cases e : i = q
    · subst e; rw [if_pos rfl, if_pos (by omega)]
    · rw [if_neg e]
      by_cases g : q < i
      · rw [if_pos g, if_pos (by omega)]
      · rw [if_neg g, if_neg (by omega)]
def ownOf (ds : List (List UInt8)) (k : Nat) (want : List UInt8) : List UInt8 := ownM (mixOf (ds.set k zeros)) want 32
theorem mixOf_get (ds : List (List UInt8)) (q : Nat) (hq : q < 32) : (mixOf ds).getD q 0 = mixAt ds q := by
  rw [List.getD_eq_getElem?_getD, List.getElem?_eq_getElem (by rw [mixOf_length]; exact hq)]
  simp [mixOf]
theorem ownOf_get (ds : List (List UInt8)) (k : Nat) (want : List UInt8) (q : Nat) (hq : q < 32) : (ownOf ds k want).getD q 0 = Gf.add (mixAt (ds.set k zeros) q) (want.getD q 0) := by
  unfold ownOf
  rw [List.getD_eq_getElem?_getD, List.getElem?_eq_getElem (by rw [ownM_length]; exact hq), Option.getD_some, ownM_get, if_pos hq, mixOf_get _ _ hq]
theorem ext32 {a b : List UInt8} (ha : a.length = 32) (hb : b.length = 32) (h : ∀ q, q < 32 → a.getD q 0 = b.getD q 0) : a = b := by
  apply List.ext_getElem (by omega)
  intro i h1 h2
  have := h i (by omega)
  rw [List.getD_eq_getElem?_getD, List.getD_eq_getElem?_getD, List.getElem?_eq_getElem h1, List.getElem?_eq_getElem h2] at this
  exact this
theorem add_self (a b : UInt8) : Gf.add a (Gf.add a b) = b := by
  unfold Gf.add
  rw [← UInt8.xor_assoc, UInt8.xor_self, UInt8.zero_xor]
theorem lot_own (ds : List (List UInt8)) (k : Nat) (hk : k < ds.length) (want : List UInt8) (hw : want.length = 32) : mixOf (ds.set k (ownOf ds k want)) = want := by
  refine ext32 (mixOf_length _) hw fun q hq => ?_
  rw [mixOf_get _ _ hq, mixAt_set ds k hk, ownOf_get _ _ _ _ hq, add_self]
theorem lot_other (ds : List (List UInt8)) (k : Nat) (hk : k < ds.length) (want other : List UInt8) (hw : want.length = 32) (ho : other.length = 32) : ((mixOf (ds.set k other) == want) == (other == ownOf ds k want)) = true := by
  have key : mixOf (ds.set k other) = want ↔ other = ownOf ds k want := by
    constructor
    · intro h
      refine ext32 ho (ownM_length _ _ _) fun q hq => ?_
      rw [ownOf_get _ _ _ _ hq, ← h, mixOf_get _ _ hq, mixAt_set ds k hk other, add_self]
    · rintro rfl
      exact lot_own ds k hk want hw
  by_cases h : mixOf (ds.set k other) = want
  · have h2 := key.1 h
    rw [beq_iff_eq.2 h, beq_iff_eq.2 h2]; rfl
  · have h2 : ¬ other = ownOf ds k want := fun e => h (key.2 e)
    rw [beq_eq_false_iff_ne.2 h, beq_eq_false_iff_ne.2 h2]; rfl
theorem own_of_block5 {w w' : World} {base : Nat} {e : TypeId} {size : Nat} {v : Value} {n : Nat} {xs : List Value} (h : w.ownsRow base e size v n xs) (hb : ∀ g, v.ownBlock = some g → w'.heap[g]? = w.heap[g]?) : w'.ownsRow base e size v n xs := by
  refine ⟨h.1, ?_⟩
  rcases h.2 with h2 | ⟨g, cap, cur, hv, hg, hh, r⟩
  · exact .inl h2
  · exact .inr ⟨g, cap, cur, hv, hg, (hb g (by rw [hv]; rfl)).trans hh, r⟩
def five : List UInt8 := 5 :: List.replicate 31 0
def three : List UInt8 := 3 :: List.replicate 31 0
def six : List UInt8 := 6 :: List.replicate 31 0
theorem lot_fact : mixOf [five, three] = six := by decide +kernel
end Go.Proofs.Ytpfpcklonkgkeaa
