/- Law: a map with another value at a key, or with none. No walk is in it. -/
import Derived.Test.YtpeomfehdccmmaaDoorTriePath
namespace Go.Proofs.YtpeomfehdccmmaaDoor
open Go.RowKit
set_option linter.unusedVariables false
def restE (es : List En) (k : Int) : List En := es.filter fun e => decide (e.key ≠ k)
theorem scan_zero : ∀ (es : List En) (pre : List Int), (∀ e ∈ es, KeyOk e.key) → Apart es → (∀ e ∈ es, e.key ∉ pre) → scanG pre es = 0
  | [], _, _, _, _ => rfl
  | e :: r, pre, h, ha, hn => by
    obtain ⟨h1, h2⟩ := List.pairwise_cons.1 ha
    rw [scanG_cons, if_pos (h e (List.mem_cons_self ..)), if_neg (hn e (List.mem_cons_self ..))]
    refine scan_zero r _ (fun x hx => h x (List.mem_cons_of_mem _ hx)) h2 fun x hx hm => ?_
    rcases List.mem_append.1 hm with hm | hm
    · exact hn x (List.mem_cons_of_mem _ hx) hm
    · exact h1 x hx (List.mem_singleton.1 hm).symm
theorem restE_ok (es : List En) (k : Int) (hk : ∀ e ∈ es, KeyOk e.key) (ha : Apart es) : (∀ e ∈ restE es k, KeyOk e.key) ∧ Apart (restE es k) ∧ ∀ e ∈ restE es k, e.key ≠ k :=
  ⟨fun e he => hk e (List.mem_filter.1 he).1, ha.filter _, fun e he => of_decide_eq_true (List.mem_filter.1 he).2⟩
theorem rest_leaf (es : List En) (k q : Nat) : leafF (restE es (k : Int)) q = if q = k then nz else leafF es q := by
  by_cases h : q = k
  · rw [if_pos h, h]
    exact leafF_none _ _ fun e he => of_decide_eq_true (List.mem_filter.1 he).2
  · rw [if_neg h]
    exact leafF_filter es _ q fun e _ he => decide_eq_true (by rw [he]; omega)
theorem leafF_snoc (es : List En) (e : En) (q : Nat) : leafF (es ++ [e]) q = match es.find? (fun x => x.key == (q : Int)) with
    | some x => leafD q x.val
    | none => if e.key = (q : Int) then leafD q e.val else nz := by
  unfold leafF
  rw [List.find?_append]
  cases es.find? (fun x => x.key == (q : Int)) with
  | some x => rfl
  | none =>
    by_cases h : e.key = (q : Int)
    · simp [h]
    · simp [h]
theorem put_leaf (es : List En) (k : Nat) (v : List UInt8) (q : Nat) : leafF (restE es (k : Int) ++ [⟨(k : Int), v⟩]) q = if q = k then leafD k v else leafF es q := by
  rw [leafF_snoc]
  have h1 := rest_leaf es k q
  unfold leafF at h1
  by_cases h : q = k
  · subst h
    rw [if_pos rfl]
    have hn : (restE es (q : Int)).find? (fun x => x.key == (q : Int)) = none := List.find?_eq_none.2 fun e he => by simpa using of_decide_eq_true (List.mem_filter.1 he).2
    rw [hn]
    simp
  · rw [if_neg h] at h1 ⊢
    have hk : ¬ ((k : Int) = (q : Int)) := by omega
    simp only [hk, if_false]
    exact h1
/-- with another value the root is what the old path tells -/
theorem set_root (es other : List En) (k : Nat) (hk : k < 2 ^ 32) (l : List UInt8) (h : ∀ q, leafF other q = if q = k then l else leafF es q) : foldD k l (pathD (leafF es) k) = rootD other := by
  have e1 : leafF other k = l := by rw [h, if_pos rfl]
  rw [pathD_congr (leafF es) (leafF other) k (fun q hq => by rw [h, if_neg hq]), ← e1]
  exact foldD_path (leafF other) k hk
theorem set_fault (es : List En) (k : Int) (hf : mapF es = 0) (hk : KeyOk k) (v : List UInt8) : (mapF (restE es k) = 0) ∧ (mapF (restE es k ++ [⟨k, v⟩]) = 0 ∨ mapF (restE es k ++ [⟨k, v⟩]) = 4) := by
  obtain ⟨h1, h2, h3⟩ := apart_ok es hf
  obtain ⟨r1, r2, r3⟩ := restE_ok es k h2 h3
  have hl : (restE es k).length ≤ es.length := List.length_filter_le _ _
  refine ⟨by unfold mapF; rw [if_neg (by omega)]; exact scan_zero _ _ r1 r2 (fun _ _ => by simp), ?_⟩
  unfold mapF
  split
  · exact .inr rfl
  · refine .inl (scan_zero _ _ (fun e he => ?_) ?_ (fun _ _ => by simp))
    · rcases List.mem_append.1 he with h | h
      · exact r1 e h
      · rw [List.mem_singleton.1 h]; exact hk
    · refine List.pairwise_append.2 ⟨r2, List.pairwise_singleton _ _, fun a ha b hb => ?_⟩
      rw [List.mem_singleton.1 hb]
      exact r3 a ha
end Go.Proofs.YtpeomfehdccmmaaDoor
