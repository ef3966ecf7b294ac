/- The cells of shares that are picked. No walk here. -/
import Derived.Test.YtppjmonbmlbhpaaAnyLaw
namespace Go.Proofs.Ytppjmonbmlbhpaa
theorem info_share : (Try.prog.info? 38).map (fun i => (i.zero, i.size, i.bytes)) = some (some (.agg #[.int .u8 0, .slice none 0 0]), 2, 32) := by kernel_rfl

/-- the cells of the shares that are picked -/
def cellsOf (xvs : List Value) (which : List Int) (k : Nat) : List Value := (List.range k).flatMap fun i => [.int .u8 (which.getD i 0), xvs.getD (which.getD i 0).toNat undef]
theorem cellsOf_succ (xvs : List Value) (which : List Int) (k : Nat) : cellsOf xvs which (k + 1) = cellsOf xvs which k ++ [.int .u8 (which.getD k 0), xvs.getD (which.getD k 0).toNat undef] := by
  simp [cellsOf, List.range_succ]
theorem AreB.isB {E : Nat → TypeId → Prop} {w : World} {rows : List (List UInt8)} {vs : List Value} (h : AreB E w rows vs) {i : Nat} (hi : i < rows.length) : IsB E w (rows.getD i []) (vs.getD i undef) := by
  have hv : i < vs.length := by rw [h.1]; exact hi
  have := h.2 i hi hv
  rw [List.getD_eq_getElem?_getD, List.getElem?_eq_getElem hi, List.getD_eq_getElem?_getD, List.getElem?_eq_getElem hv]
  exact this
theorem picked_snoc (all : List (List UInt8)) (js : List Nat) (j : Nat) : picked all (js ++ [j]) = picked all js ++ [⟨UInt8.ofNat j, all.getD j []⟩] := by
  simp only [picked, List.map_append, List.map_cons, List.map_nil]
theorem cellsOf_are {w : World} {all : List (List UInt8)} {xvs : List Value} {which : List Int} {n : Nat} (hA : AreB (fun _ _ => True) w all xvs) (hn : all.length = n) (hn2 : n ≤ 256) : ∀ k, (∀ i, i < k → 0 ≤ which.getD i 0 ∧ which.getD i 0 < n) → k ≤ which.length →
    AreS (fun _ _ => True) w (picked all ((which.take k).map Int.toNat)) (cellsOf xvs which k) := by
  intro k
  induction k with
  | zero => intro _ _; exact AreS.nil
  | succ k ih =>
    intro h hk
    have h1 := h k (by omega)
    have e1 : which.getD k 0 = which[k]'(by omega) := by rw [List.getD_eq_getElem?_getD, List.getElem?_eq_getElem (by omega)]; rfl
    have e2 : picked all ((which.take (k + 1)).map Int.toNat) = picked all ((which.take k).map Int.toNat) ++ [⟨UInt8.ofNat (which.getD k 0).toNat, all.getD (which.getD k 0).toNat []⟩] := by
      rw [List.take_succ_eq_append_getElem (by omega), e1, List.map_append]
      exact picked_snoc _ _ _
    rw [e2, cellsOf_succ]
    have hz : (which.getD k 0).toNat < all.length := by omega
    have := (ih (fun i hi => h i (by omega)) (by omega)).snoc (s := ⟨UInt8.ofNat (which.getD k 0).toNat, all.getD (which.getD k 0).toNat []⟩) (v := xvs.getD (which.getD k 0).toNat undef) (hA.isB hz)
    have e3 : vB (UInt8.ofNat (which.getD k 0).toNat) = .int .u8 (which.getD k 0) := by
      obtain ⟨z, hz⟩ : ∃ z : Nat, which.getD k 0 = z := ⟨(which.getD k 0).toNat, by omega⟩
      rw [hz] at h1 ⊢
      have h2 : z < 256 := by omega
      unfold vB
      simp [Nat.mod_eq_of_lt h2]
    rw [e3] at this
    exact this
theorem toNat_nodup {l : List Int} (h : l.Nodup) (hl : ∀ i ∈ l, 0 ≤ i) : (l.map Int.toNat).Nodup := by
  induction l with
  | nil => simp
  | cons a l ih =>
    rw [List.nodup_cons] at h
    rw [List.map_cons, List.nodup_cons]
    refine ⟨fun hm => ?_, ih h.2 (fun i hi => hl i (List.mem_cons_of_mem _ hi))⟩
    obtain ⟨b, hb, he⟩ := List.mem_map.1 hm
    have h1 := hl b (List.mem_cons_of_mem _ hb)
    have h2 := hl a (List.mem_cons_self ..)
    have : b = a := by omega
    exact h.1 (this ▸ hb)
theorem take_mem {l : List Int} {k : Nat} {P : Int → Prop} (h : ∀ i, i < k → P (l.getD i 0)) : ∀ i ∈ l.take k, P i := by
  intro i hi
  obtain ⟨j, hj, rfl⟩ := List.mem_iff_getElem.1 hi
  have hj' : j < k ∧ j < l.length := by simp at hj; omega
  have := h j hj'.1
  rw [List.getD_eq_getElem?_getD, List.getElem?_eq_getElem hj'.2] at this
  rw [List.getElem_take]
  exact this
theorem own_cap {w : World} {base : Nat} {e : TypeId} {size : Nat} {a : Option Addr} {n cap : Nat} {xs : List Value} (h : w.ownsRow base e size (.slice a n cap) n xs) : n ≤ cap ∧ cap ≤ 9223372036854775807 := by
  rcases h.2 with ⟨h1, h2⟩ | ⟨g, cap', cur, hv, _, _, h1, h2, _⟩
  · simp only [Value.slice.injEq] at h1
    omega
  · simp only [Value.slice.injEq] at hv
    simp only [maxLen] at h2
    omega
end Go.Proofs.Ytppjmonbmlbhpaa
