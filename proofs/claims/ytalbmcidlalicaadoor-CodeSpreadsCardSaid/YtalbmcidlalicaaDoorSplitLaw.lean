/- What shares of a secret are, and rows that a walk owns. No walk here. -/
import Derived.Test.YtalbmcidlalicaaDoorAnyLaw
import Derived.Test.YtalbmcidlalicaaDoorCodeCells
import Derived.Test.YtalbmcidlalicaaDoorMem3
namespace Go.Proofs.YtalbmcidlalicaaDoor
open Go.RowKit
/-- the polynomial of a place of the secret -/
def coefs (secret : List UInt8) (more : List (List UInt8)) (i : Nat) : List UInt8 := secret.getD i 0 :: more.map (·.getD i 0)
def shareOf (secret : List UInt8) (more : List (List UInt8)) (x : UInt8) : Sh := ⟨x, (List.range secret.length).map fun i => Gf.val (coefs secret more i) x⟩
def splitOf (secret : List UInt8) (n : Nat) (more : List (List UInt8)) : List Sh := (List.range n).map fun k => shareOf secret more (UInt8.ofNat (k + 1))
theorem splitOf_length (secret : List UInt8) (n : Nat) (more : List (List UInt8)) : (splitOf secret n more).length = n := by simp [splitOf]
theorem splitOf_take (secret : List UInt8) (n : Nat) (more : List (List UInt8)) (k : Nat) (h : k < n) : (splitOf secret n more).take (k + 1) = (splitOf secret n more).take k ++ [shareOf secret more (UInt8.ofNat (k + 1))] := by
  rw [List.take_succ_eq_append_getElem (by rw [splitOf_length]; exact h)]
  simp [splitOf]
/-- what is wrong with what is to be split -/
def splitF (secret : List UInt8) (n : Int) (more : List (List UInt8)) : Int :=
  if n < 1 ∨ 20 < n then 2 else if 100 < secret.length ∨ 20 < more.length then 4 else if ∃ r ∈ more, r.length ≠ secret.length then 3 else 0
theorem splitF_zero {secret : List UInt8} {n : Int} {more : List (List UInt8)} (h : splitF secret n more = 0) : 1 ≤ n ∧ n ≤ 20 ∧ secret.length ≤ 100 ∧ more.length ≤ 20 ∧ ∀ r ∈ more, r.length = secret.length := by
  unfold splitF at h
  split at h
  · cases h
  · split at h
    · cases h
    · split at h
      · cases h
      · rename_i h1 h2 h3
        refine ⟨by omega, by omega, by omega, by omega, fun r hr => ?_⟩
        by_cases e : r.length = secret.length
        · exact e
        · exact absurd ⟨r, hr, e⟩ h3

/-- a row that is made with all of its elements -/
theorem own_new1 (w : World) (base : Nat) (e : TypeId) (v : Value) (hb : base ≤ w.heap.size) : (w.alloc (.cells #[v] e)).ownsRow base e 1 (.slice (some ⟨w.heap.size, 0, none⟩) 1 1) 1 [v] :=
  ⟨by simp, .inr ⟨w.heap.size, 1, #[v], rfl, hb, heap_alloc_new w _, Nat.le_refl _, by simp [maxLen], by simp, by simp⟩⟩
/-- a store elsewhere -/
theorem own_setOther {w : World} {base : Nat} {e : TypeId} {size : Nat} {v : Value} {n : Nat} {xs : List Value} (h : w.ownsRow base e size v n xs) (p : Addr) (u : Value) (hp : ∀ g, v.ownBlock = some g → g ≠ p.block) : (w.setCell p u).ownsRow base e size v n xs := by
  refine ⟨h.1, ?_⟩
  rcases h.2 with h2 | ⟨g, cap, cur, hv, hb, hg, r⟩
  · exact .inl h2
  · refine .inr ⟨g, cap, cur, hv, hb, ?_, r⟩
    rw [Below.heap_setCell _ _ _ _ (hp g (by rw [hv]; rfl))]
    exact hg
theorem own_ne {w : World} {base : Nat} {e : TypeId} {size : Nat} {v : Value} {n : Nat} {xs : List Value} (h : w.ownsRow base e size v n xs) {b : Nat} (hb : b < base) : ∀ g, v.ownBlock = some g → g ≠ b := by
  intro g hg; have := (h.lt g hg).1; omega
end Go.Proofs.YtalbmcidlalicaaDoor
