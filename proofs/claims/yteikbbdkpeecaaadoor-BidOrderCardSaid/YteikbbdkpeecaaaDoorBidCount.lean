/- Law: which bids count: those that have their vow, of each number the first. No program is in sight. -/
import Derived.Test.YteikbbdkpeecaaaDoorBidLaw
namespace Go.Proofs.YteikbbdkpeecaaaDoor
open Go.RowKit
set_option linter.unusedVariables false
def hasW (acc : List Bd) (w : Int) : Bool := acc.any fun c => c.who == w
def cntStep (v : Bd → Bool) (acc : List Bd) (b : Bd) : List Bd := if v b && !(hasW acc b.who) then acc ++ [b] else acc
def cntB (v : Bd → Bool) (bs : List Bd) : List Bd := bs.foldl (cntStep v) []
theorem hasW_iff {acc : List Bd} {w : Int} : hasW acc w = true ↔ ∃ c ∈ acc, c.who = w := by
  unfold hasW
  rw [List.any_eq_true]
  simp only [beq_iff_eq]
theorem cnt_take (v : Bd → Bool) (bs : List Bd) (i : Nat) (h : i < bs.length) : cntB v (bs.take (i + 1)) = cntStep v (cntB v (bs.take i)) bs[i] := by
  unfold cntB
  rw [List.take_succ_eq_append_getElem h, List.foldl_append]; rfl
/-- does the bid at a place count? -/
def CntAt (v : Bd → Bool) (bs : List Bd) (i : Nat) : Prop := ∃ h : i < bs.length, v bs[i] = true ∧ ∀ j, (hj : j < i) → ¬ ((bs[j]'(by omega)).who = bs[i].who ∧ v (bs[j]'(by omega)) = true)
theorem cnt_all (v : Bd → Bool) (bs : List Bd) : ∀ n, n ≤ bs.length →
    (∀ b, b ∈ cntB v (bs.take n) ↔ ∃ i, i < n ∧ CntAt v bs i ∧ ∃ h : i < bs.length, b = bs[i]) ∧
    (∀ j, (hj : j < bs.length) → j < n → v bs[j] = true → hasW (cntB v (bs.take n)) bs[j].who = true)
  | 0, _ => by
    refine ⟨fun b => ⟨fun h => ?_, fun ⟨i, h, _⟩ => absurd h (by omega)⟩, fun j _ h => absurd h (by omega)⟩
    rw [List.take_zero] at h
    exact absurd h (by simp [cntB])
  | n + 1, hn => by
    obtain ⟨ih1, ih2⟩ := cnt_all v bs n (by omega)
    have hl : n < bs.length := by omega
    have key : (v bs[n] && !(hasW (cntB v (bs.take n)) bs[n].who)) = true ↔ CntAt v bs n := by
      simp only [Bool.and_eq_true, Bool.not_eq_true']
      constructor
      · rintro ⟨h1, h2⟩
        refine ⟨hl, h1, fun j hj ⟨g1, g2⟩ => ?_⟩
        have := ih2 j (by omega) hj g2
        rw [g1, h2] at this
        cases this
      · rintro ⟨_, h1, h2⟩
        refine ⟨h1, ?_⟩
        cases hh : hasW (cntB v (bs.take n)) bs[n].who with
        | false => rfl
        | true =>
          obtain ⟨c, hc, hw⟩ := hasW_iff.1 hh
          obtain ⟨i, hi, ⟨hil, hv, _⟩, _, rfl⟩ := (ih1 c).1 hc
          exact absurd ⟨hw, hv⟩ (h2 i hi)
    rw [cnt_take v bs n hl]
    unfold cntStep
    by_cases hk : (v bs[n] && !(hasW (cntB v (bs.take n)) bs[n].who)) = true
    · rw [if_pos hk]
      refine ⟨fun b => ⟨fun h => ?_, fun ⟨i, hi, hc, hil, hb⟩ => ?_⟩, fun j hj hjn hv => ?_⟩
      · rcases List.mem_append.1 h with h | h
        · obtain ⟨i, hi, hc⟩ := (ih1 b).1 h
          exact ⟨i, by omega, hc⟩
        · exact ⟨n, by omega, key.1 hk, hl, List.mem_singleton.1 h⟩
      · by_cases hin : i < n
        · exact List.mem_append_left _ ((ih1 b).2 ⟨i, hin, hc, hil, hb⟩)
        · obtain rfl : i = n := by omega
          exact List.mem_append_right _ (List.mem_singleton.2 hb)
      · by_cases hjn2 : j < n
        · obtain ⟨c, hc, hw⟩ := hasW_iff.1 (ih2 j hj hjn2 hv)
          exact hasW_iff.2 ⟨c, List.mem_append_left _ hc, hw⟩
        · obtain rfl : j = n := by omega
          exact hasW_iff.2 ⟨_, List.mem_append_right _ (List.mem_singleton.2 rfl), rfl⟩
    · rw [if_neg hk]
      refine ⟨fun b => ⟨fun h => ?_, fun ⟨i, hi, hc, hil, hb⟩ => ?_⟩, fun j hj hjn hv => ?_⟩
      · obtain ⟨i, hi, hc⟩ := (ih1 b).1 h
        exact ⟨i, by omega, hc⟩
      · by_cases hin : i < n
        · exact (ih1 b).2 ⟨i, hin, hc, hil, hb⟩
        · obtain rfl : i = n := by omega
          exact absurd (key.2 hc) hk
      · by_cases hjn2 : j < n
        · exact ih2 j hj hjn2 hv
        · obtain rfl : j = n := by omega
          cases hh : hasW (cntB v (bs.take j)) bs[j].who with
          | true => rfl
          | false => exact absurd (by rw [hv, hh]; rfl) hk
theorem mem_cnt (v : Bd → Bool) (bs : List Bd) (b : Bd) : b ∈ cntB v bs ↔ ∃ i, CntAt v bs i ∧ ∃ h : i < bs.length, b = bs[i] := by
  have := (cnt_all v bs bs.length (Nat.le_refl _)).1 b
  rw [List.take_length] at this
  rw [this]
  constructor
  · rintro ⟨i, _, h⟩; exact ⟨i, h⟩
  · rintro ⟨i, h, hl, hb⟩; exact ⟨i, hl, h, hl, hb⟩
/-- two that count have two numbers -/
theorem cnt_apart {v : Bd → Bool} {bs : List Bd} {i j : Nat} (hi : CntAt v bs i) (hj : CntAt v bs j) (h : (bs[i]'hi.1).who = (bs[j]'hj.1).who) : i = j := by
  obtain ⟨h1, h2, h3⟩ := hi
  obtain ⟨g1, g2, g3⟩ := hj
  apply Classical.byContradiction
  intro hne
  by_cases hlt : i < j
  · exact g3 i hlt ⟨h, h2⟩
  · exact h3 j (by omega) ⟨h.symm, g2⟩
/-- where all have numbers of their own, just those count that have their vow -/
theorem cnt_unlike {v : Bd → Bool} {bs : List Bd} (hu : ∀ i j, (hi : i < bs.length) → (hj : j < bs.length) → bs[i].who = bs[j].who → i = j) (b : Bd) : b ∈ cntB v bs ↔ b ∈ bs ∧ v b = true := by
  rw [mem_cnt]
  constructor
  · rintro ⟨i, ⟨_, h2, _⟩, h, rfl⟩
    exact ⟨List.getElem_mem _, h2⟩
  · rintro ⟨h1, h2⟩
    obtain ⟨i, hi, rfl⟩ := List.getElem_of_mem h1
    exact ⟨i, ⟨hi, h2, fun j hj g => absurd (hu j i (by omega) hi g.1) (by omega)⟩, hi, rfl⟩
/-- the sale, by the places of those that count -/
theorem award_none {v : Bd → Bool} {bs : List Bd} {l : Int} (h : ∀ j, (c : CntAt v bs j) → (bs[j]'c.1).amount < l) : AwardIs (cntB v bs) l (-1) 0 :=
  .inl ⟨fun b hb => by
    obtain ⟨i, hc, hi, rfl⟩ := (mem_cnt v bs b).1 hb
    exact h i hc, rfl, rfl⟩
theorem award_some {v : Bd → Bool} {bs : List Bd} {l p : Int} {m : Nat} (hm : CntAt v bs m) (h1 : l ≤ (bs[m]'hm.1).amount) (h2 : ∀ j, (c : CntAt v bs j) → j = m ∨ (bs[j]'c.1).amount < (bs[m]'hm.1).amount ∨ ((bs[j]'c.1).amount = (bs[m]'hm.1).amount ∧ (bs[m]'hm.1).who < (bs[j]'c.1).who))
    (h3 : l ≤ p) (h4 : ∀ j, (c : CntAt v bs j) → j ≠ m → (bs[j]'c.1).amount ≤ p) (h5 : p = l ∨ ∃ j, ∃ c : CntAt v bs j, j ≠ m ∧ (bs[j]'c.1).amount = p) : AwardIs (cntB v bs) l (bs[m]'hm.1).who p := by
  refine .inr ⟨bs[m]'hm.1, ⟨(mem_cnt v bs _).2 ⟨m, hm, hm.1, rfl⟩, fun y hy => ?_⟩, h1, rfl, h3, fun y hy hne => ?_, ?_⟩
  · obtain ⟨j, hc, hj, rfl⟩ := (mem_cnt v bs y).1 hy
    rcases h2 j hc with rfl | h
    · exact .inl rfl
    · exact .inr h
  · obtain ⟨j, hc, hj, rfl⟩ := (mem_cnt v bs y).1 hy
    exact h4 j hc (fun e => by subst e; exact hne rfl)
  · rcases h5 with h5 | ⟨j, hc, hjm, hp⟩
    · exact .inl h5
    · exact .inr ⟨bs[j]'hc.1, (mem_cnt v bs _).2 ⟨j, hc, hc.1, rfl⟩, fun e => hjm (cnt_apart hc hm (congrArg Bd.who e)), hp⟩
/-- sorted, the bids that count are sold so -/
theorem award_sorted {cs ds : List Bd} (hp : ∀ b, b ∈ ds ↔ b ∈ cs) (hs : ds.Pairwise Ahead) (l : Int) : AwardIs cs l (soldOf ds l).1 (soldOf ds l).2 := award_mem hp (sold_is hs l)
theorem bds_length (s : List UInt8) (as : List Int) : (bdsOf s as).length = as.length := by unfold bdsOf; exact List.length_mapIdx
theorem bds_get {s : List UInt8} {as : List Int} {i : Nat} (hi : i < (bdsOf s as).length) : (bdsOf s as)[i] = bdOf s i (as[i]'(by rwa [bds_length] at hi)) := by
  have hi2 : i < as.length := by rwa [bds_length] at hi
  have e : (bdsOf s as)[i]? = some (bdOf s i as[i]) := by
    unfold bdsOf
    rw [List.getElem?_mapIdx, List.getElem?_eq_getElem hi2]; rfl
  rw [List.getElem?_eq_getElem hi, Option.some.injEq] at e
  exact e
/-- amounts, each by its place: all count -/
theorem cnt_bds {v : Bd → Bool} {s : List UInt8} {as : List Int} (hv : ∀ k, (h : k < as.length) → v (bdOf s k as[k]) = true) (b : Bd) : b ∈ cntB v (bdsOf s as) ↔ b ∈ bdsOf s as := by
  have hg := fun i hi => bds_get (s := s) (as := as) (i := i) hi
  rw [cnt_unlike (fun i j hi hj h => by
    rw [hg i hi, hg j hj] at h
    simp only [bdOf] at h
    omega) b]
  constructor
  · exact fun h => h.1
  · intro h
    refine ⟨h, ?_⟩
    obtain ⟨k, hk, rfl⟩ := mem_bds.1 h
    exact hv k hk
/-- what is paid -/
theorem paid_law {s : List UInt8} {as : List Int} {l w p : Int} (h : SoldIs s as l w p) {most : Int} (hm1 : ∀ k, (hk : k < as.length) → as[k] ≤ most) (hm2 : (most = -1 ∧ as = []) ∨ ∃ k, ∃ hk : k < as.length, as[k] = most) (h0 : 0 ≤ l) :
    (most < l → w = -1 ∧ p = 0) ∧ (¬ most < l → ∃ k, ∃ hk : k < as.length, w = (k : Int) ∧ as[k] = most ∧ WonIs as l k hk p) := by
  rcases sold_words h with ⟨h1, h2, h3⟩ | ⟨k, hk, hw, hwon⟩
  · refine ⟨fun _ => ⟨h2, h3⟩, fun hn => ?_⟩
    rcases hm2 with ⟨rfl, rfl⟩ | ⟨k, hk, rfl⟩
    · omega
    · exact absurd (h1 k hk) hn
  · have hkm : as[k] = most := by
      rcases hm2 with ⟨_, rfl⟩ | ⟨j, hj, rfl⟩
      · simp at hk
      · by_cases hjk : j = k
        · subst hjk; rfl
        · have g1 := hm1 k hk
          rcases (hwon.2.2.2.1 j hj hjk).2 with g | ⟨g, _⟩ <;> omega
    refine ⟨fun hn => ?_, fun _ => ⟨k, hk, hw, hkm, hwon⟩⟩
    have := hwon.1
    omega
/-- who buys would buy, for that, with any higher bid -/
theorem paid_higher {s : List UInt8} {as : List Int} {l p x q higher : Int} {k : Nat} {hk : k < as.length} (h : WonIs as l k hk p) (hh : as[k] ≤ higher) (g : SoldIs s (as.set k higher) l x q) : x = (k : Int) ∧ q = p := by
  obtain ⟨h1, h2, h3, h4, h5⟩ := h
  have hl : (as.set k higher).length = as.length := List.length_set
  have hk2 : k < (as.set k higher).length := by omega
  have hot : ∀ (j : Nat) (hj : j < (as.set k higher).length), j ≠ k → (as.set k higher)[j] = as[j]'(by rw [List.length_set] at hj; exact hj) := fun j hj hne => List.getElem_set_ne (Ne.symm hne) _
  have hat : (as.set k higher)[k] = higher := List.getElem_set_self _
  have : WonIs (as.set k higher) l k hk2 p := by
    refine ⟨by rw [hat]; omega, h2, by rw [hat]; omega, fun j hj hjk => ?_, ?_⟩
    · rw [hot j hj hjk, hat]
      obtain ⟨g1, g2⟩ := h4 j (by omega) hjk
      refine ⟨g1, ?_⟩
      rcases g2 with g2 | ⟨g2, g3⟩
      · exact .inl (by omega)
      · by_cases he : as[k] = higher
        · exact .inr ⟨by omega, g3⟩
        · exact .inl (by omega)
    · rcases h5 with h5 | ⟨j, hj, hjk, hp⟩
      · exact .inl h5
      · exact .inr ⟨j, by omega, hjk, by rw [hot j (by omega) hjk]; exact hp⟩
  exact award_one g (sold_of (s := s) this)
end Go.Proofs.YteikbbdkpeecaaaDoor
