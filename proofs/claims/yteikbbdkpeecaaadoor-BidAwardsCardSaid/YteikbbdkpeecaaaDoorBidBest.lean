/- Law: to whom it is sold, as the document's loops find it. No walk is in it. -/
import Derived.Test.YteikbbdkpeecaaaDoorBidCount
namespace Go.Proofs.YteikbbdkpeecaaaDoor
set_option linter.unusedVariables false
section
variable {v : Bd → Bool} {bs : List Bd} {l : Int}
/-- the best of the first k places so far; -1: there is none -/
def BestI (v : Bd → Bool) (bs : List Bd) (l : Int) (k : Nat) (b : Int) : Prop :=
  (b = -1 ∧ ∀ j, j < k → (c : CntAt v bs j) → (bs[j]'c.1).amount < l) ∨
  ∃ m : Nat, b = (m : Int) ∧ m < k ∧ ∃ c : CntAt v bs m, l ≤ (bs[m]'c.1).amount ∧ ∀ j, j < k → (d : CntAt v bs j) → j = m ∨ (bs[j]'d.1).amount < (bs[m]'c.1).amount ∨ ((bs[j]'d.1).amount = (bs[m]'c.1).amount ∧ (bs[m]'c.1).who < (bs[j]'d.1).who)
theorem BestI.zero : BestI v bs l 0 (-1) := .inl ⟨rfl, fun j h => absurd h (Nat.not_lt_zero _)⟩
theorem BestI.skip {k : Nat} {b : Int} (h : BestI v bs l k b) (hs : ∀ c : CntAt v bs k, (bs[k]'c.1).amount < l) : BestI v bs l (k + 1) b := by
  rcases h with ⟨rfl, h⟩ | ⟨m, rfl, hm, c, h1, h2⟩
  · exact .inl ⟨rfl, fun j hj c => (Nat.lt_or_ge j k).elim (fun g => h j g c) (fun g => by
      obtain rfl : j = k := by omega
      exact hs c)⟩
  · exact .inr ⟨m, rfl, by omega, c, h1, fun j hj d => (Nat.lt_or_ge j k).elim (fun g => h2 j g d) (fun g => by
      obtain rfl : j = k := by omega
      exact .inr (.inl (Int.lt_of_lt_of_le (hs d) h1)))⟩
theorem BestI.first {k : Nat} (h : BestI v bs l k (-1)) (c : CntAt v bs k) (hl : l ≤ (bs[k]'c.1).amount) : BestI v bs l (k + 1) (k : Int) := by
  rcases h with ⟨_, h⟩ | ⟨m, h0, _⟩
  · exact .inr ⟨k, rfl, by omega, c, hl, fun j hj d => (Nat.lt_or_ge j k).elim (fun g => .inr (.inl (Int.lt_of_lt_of_le (h j g d) hl))) (fun g => .inl (by omega))⟩
  · omega
theorem BestI.mem {k m : Nat} (h : BestI v bs l k (m : Int)) : m < k ∧ ∃ c : CntAt v bs m, l ≤ (bs[m]'c.1).amount ∧ ∀ j, j < k → (d : CntAt v bs j) → j = m ∨ (bs[j]'d.1).amount < (bs[m]'c.1).amount ∨ ((bs[j]'d.1).amount = (bs[m]'c.1).amount ∧ (bs[m]'c.1).who < (bs[j]'d.1).who) := by
  rcases h with ⟨h0, _⟩ | ⟨m', h0, hm, c, h1, h2⟩
  · omega
  · obtain rfl : m = m' := by omega
    exact ⟨hm, c, h1, h2⟩
theorem BestI.next {k m : Nat} (h : BestI v bs l k (m : Int)) (c : CntAt v bs k) (cm : m < bs.length) (hl : l ≤ (bs[k]'c.1).amount) (hb : bs[m].amount < (bs[k]'c.1).amount ∨ ((bs[k]'c.1).amount = bs[m].amount ∧ (bs[k]'c.1).who < bs[m].who)) : BestI v bs l (k + 1) (k : Int) := by
  obtain ⟨hm, c', h1, h2⟩ := h.mem
  refine .inr ⟨k, rfl, by omega, c, hl, fun j hj d => (Nat.lt_or_ge j k).elim (fun g => .inr ?_) (fun g => .inl (by omega))⟩
  rcases h2 j g d with rfl | h3 | ⟨h3, h4⟩
  · rcases hb with hb | ⟨hb, hb2⟩
    · exact .inl hb
    · exact .inr ⟨hb.symm, hb2⟩
  · rcases hb with hb | ⟨hb, hb2⟩
    · exact .inl (by omega)
    · exact .inl (by omega)
  · rcases hb with hb | ⟨hb, hb2⟩
    · exact .inl (by omega)
    · exact .inr ⟨by omega, by omega⟩
theorem BestI.keep {k m : Nat} (h : BestI v bs l k (m : Int)) (c : CntAt v bs k) (cm : m < bs.length) (hb : ¬ (bs[m].amount < (bs[k]'c.1).amount ∨ ((bs[k]'c.1).amount = bs[m].amount ∧ (bs[k]'c.1).who < bs[m].who))) : BestI v bs l (k + 1) (m : Int) := by
  obtain ⟨hm, c', h1, h2⟩ := h.mem
  refine .inr ⟨m, rfl, by omega, c', h1, fun j hj d => (Nat.lt_or_ge j k).elim (fun g => h2 j g d) (fun g => ?_)⟩
  obtain rfl : j = k := by omega
  have hne : (bs[j]'d.1).who ≠ bs[m].who := fun he => by have := cnt_apart d c' he; omega
  rw [not_or] at hb
  obtain ⟨g1, g2⟩ := hb
  by_cases he : (bs[j]'d.1).amount = bs[m].amount
  · refine .inr (.inr ⟨he, ?_⟩)
    have := fun hh => g2 ⟨he, hh⟩
    omega
  · exact .inr (.inl (by omega))
/-- what is paid, behind the first k places -/
def PaidI (v : Bd → Bool) (bs : List Bd) (l : Int) (m k : Nat) (p : Int) : Prop :=
  l ≤ p ∧ (∀ j, j < k → (c : CntAt v bs j) → j ≠ m → (bs[j]'c.1).amount ≤ p) ∧ (p = l ∨ ∃ j, ∃ c : CntAt v bs j, j ≠ m ∧ (bs[j]'c.1).amount = p)
theorem PaidI.zero {m : Nat} : PaidI v bs l m 0 l := ⟨Int.le_refl _, fun j h => absurd h (Nat.not_lt_zero _), .inl rfl⟩
theorem PaidI.skip {m k : Nat} {p : Int} (h : PaidI v bs l m k p) (hs : (c : CntAt v bs k) → k ≠ m → (bs[k]'c.1).amount ≤ p) : PaidI v bs l m (k + 1) p :=
  ⟨h.1, fun j hj c hn => (Nat.lt_or_ge j k).elim (fun g => h.2.1 j g c hn) (fun g => by
    obtain rfl : j = k := by omega
    exact hs c hn), h.2.2⟩
theorem PaidI.take {m k : Nat} {p : Int} (h : PaidI v bs l m k p) (c : CntAt v bs k) (hn : k ≠ m) (hp : p < (bs[k]'c.1).amount) : PaidI v bs l m (k + 1) (bs[k]'c.1).amount :=
  ⟨by have := h.1; omega, fun j hj d hn => (Nat.lt_or_ge j k).elim (fun g => by have := h.2.1 j g d hn; omega) (fun g => by
    obtain rfl : j = k := by omega
    exact Int.le_refl _), .inr ⟨k, c, hn, rfl⟩⟩
theorem award_best {m : Nat} {p : Int} (h : BestI v bs l bs.length (m : Int)) (hp : PaidI v bs l m bs.length p) (cm : m < bs.length) : AwardIs (cntB v bs) l bs[m].who p := by
  obtain ⟨hm, c, h1, h2⟩ := h.mem
  exact award_some c h1 (fun j d => h2 j d.1 d) hp.1 (fun j d => hp.2.1 j d.1 d) hp.2.2
theorem award_no (h : BestI v bs l bs.length (-1)) : AwardIs (cntB v bs) l (-1) 0 := by
  rcases h with ⟨_, h⟩ | ⟨m, h0, _⟩
  · exact award_none fun j c => h j c.1 c
  · omega
end
end Go.Proofs.YteikbbdkpeecaaaDoor
