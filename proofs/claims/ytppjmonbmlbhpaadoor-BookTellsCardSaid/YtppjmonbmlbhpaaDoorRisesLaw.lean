/- Law: whom a book trusts it goes on to trust, whatever is joined to it. Plain: no program is in sight. -/
import Derived.Test.YtppjmonbmlbhpaaDoorBookLaw
namespace Go.Proofs.YtppjmonbmlbhpaaDoor
set_option linter.unusedVariables false
def zeroCt : Ct := ⟨⟨#[]⟩, noKey, 0⟩
theorem lk_mem {b : List Ct} {c : Ct} (hs : SortedC b) (hc : c ∈ b) : lk b c.name = some c := by
  induction b with
  | nil => cases hc
  | cons x r ih =>
    obtain ⟨h1, h2⟩ := List.pairwise_cons.1 hs
    rcases List.mem_cons.1 hc with rfl | hc
    · exact lk_cons_pos rfl
    · rw [lk_cons_neg (fun e => bl_ne (h1 c hc) (by rw [e]))]
      exact ih h2 hc
/-- what is known behind a join of one that was known ahead of it -/
theorem rises {a b : List Ct} (ha : GoodB a) (hb : GoodB b) {c : Ct} (hc : c ∈ a) :
    ∃ x, lk (mergeC a b) c.name = some x ∧ c.lvl ≤ x.lvl ∧ (c.lvl = 3 → x.lvl = 3 → x.key = c.key) ∧ (c.lvl = 3 → x.lvl = 4 → ∃ y, lk b c.name = some y ∧ 3 ≤ y.lvl) := by
  have hl := lk_merge' ha.2.1 hb.2.1 c.name
  rw [lk_mem ha.2.1 hc] at hl
  have hcg := ha.2.2 c hc
  cases hk : lk b c.name with
  | none =>
    rw [hk] at hl
    exact ⟨c, hl, Int.le_refl _, fun _ _ => rfl, fun h1 h2 => by omega⟩
  | some y =>
    rw [hk] at hl
    have hyg := hb.2.2 y (lk_some hk).1
    refine ⟨bothC c y, hl, ?_, ?_, ?_⟩
    · rcases Int.lt_trichotomy (rk c) (rk y) with h | h | h
      · rw [both_lt h]; have := hcg.2.1; have := hyg.2.1; unfold rk at h; omega
      · by_cases e : c = y
        · subst e; rw [both_same]; exact Int.le_refl _
        · rw [both_eq h e]
          show c.lvl ≤ 2 * rk c
          unfold rk; omega
      · rw [both_gt h]; exact Int.le_refl _
    · intro h1 h2
      rcases Int.lt_trichotomy (rk c) (rk y) with h | h | h
      · have := hyg.2.2.1; unfold rk at h; omega
      · by_cases e : c = y
        · subst e; rw [both_same]
        · rw [both_eq h e] at h2
          have : 2 * rk c = 3 := h2
          omega
      · rw [both_gt h]
    · intro h1 h2
      refine ⟨y, rfl, ?_⟩
      rcases Int.lt_trichotomy (rk c) (rk y) with h | h | h
      · have := hyg.2.2.1; unfold rk at h; omega
      · unfold rk at h; omega
      · rw [both_gt h] at h2; omega
/-- who is trusted is known behind it -/
theorem trusted {a : List Ct} {c : Ct} (ha : GoodB a) (hc : GoodB [c]) (h3 : c.lvl = 3) :
    ∃ x, lk (mergeC a [c]) c.name = some x ∧ 3 ≤ x.lvl ∧ (x.lvl = 4 ∨ x.key = c.key) := by
  have hl := lk_merge' ha.2.1 hc.2.1 c.name
  rw [lk_cons_pos (b := []) rfl] at hl
  cases hk : lk a c.name with
  | none =>
    rw [hk] at hl
    exact ⟨c, hl, by omega, .inr rfl⟩
  | some y =>
    rw [hk] at hl
    have hyg := ha.2.2 y (lk_some hk).1
    refine ⟨bothC y c, hl, ?_⟩
    rcases Int.lt_trichotomy (rk y) (rk c) with h | h | h
    · rw [both_lt h]; exact ⟨by omega, .inr rfl⟩
    · by_cases e : y = c
      · subst e; rw [both_same]; exact ⟨by omega, .inr rfl⟩
      · rw [both_eq h e]
        have : rk y = 2 := by rw [h]; unfold rk; omega
        exact ⟨by show 3 ≤ 2 * rk y; omega, .inl (by show 2 * rk y = 4; omega)⟩
    · have := hyg.2.2.1
      unfold rk at h; omega
end Go.Proofs.YtppjmonbmlbhpaaDoor
