/- Law: a sale by what is bid: to whom, and for what; it hangs on which bids there are, not on their order. No program is in sight. -/
import Derived.Test.YteikbbdkpeecaaaDoorShaBase
namespace Go.Proofs.YteikbbdkpeecaaaDoor
open Go.RowKit
set_option linter.unusedVariables false
structure Bd where
  who : Int
  amount : Int
  salt : List UInt8
/-- whoever bids no less than all others, the first of such -/
def Best (cs : List Bd) (x : Bd) : Prop := x ∈ cs ∧ ∀ y ∈ cs, y = x ∨ y.amount < x.amount ∨ (y.amount = x.amount ∧ x.who < y.who)
def AwardIs (cs : List Bd) (least w p : Int) : Prop :=
  ((∀ b ∈ cs, b.amount < least) ∧ w = -1 ∧ p = 0) ∨
  ∃ x, Best cs x ∧ least ≤ x.amount ∧ w = x.who ∧ least ≤ p ∧ (∀ y ∈ cs, y ≠ x → y.amount ≤ p) ∧ (p = least ∨ ∃ y ∈ cs, y ≠ x ∧ y.amount = p)
theorem best_one {cs : List Bd} {x y : Bd} (hx : Best cs x) (hy : Best cs y) : x = y := by
  rcases hx.2 y hy.1 with h | h | ⟨h, h'⟩
  · exact h.symm
  · rcases hy.2 x hx.1 with g | g | ⟨g, g'⟩
    · exact g
    · omega
    · omega
  · rcases hy.2 x hx.1 with g | g | ⟨g, g'⟩
    · exact g
    · omega
    · omega
theorem award_one {cs : List Bd} {l w p w' p' : Int} (h : AwardIs cs l w p) (h' : AwardIs cs l w' p') : w = w' ∧ p = p' := by
  rcases h with ⟨h1, rfl, rfl⟩ | ⟨x, hx, hl, rfl, h1, h2, h3⟩
  · rcases h' with ⟨_, rfl, rfl⟩ | ⟨y, hy, hl, _⟩
    · exact ⟨rfl, rfl⟩
    · have := h1 y hy.1; omega
  · rcases h' with ⟨g1, rfl, rfl⟩ | ⟨y, hy, gl, rfl, g1, g2, g3⟩
    · have := g1 x hx.1; omega
    · obtain rfl := best_one hx hy
      refine ⟨rfl, ?_⟩
      have k1 : p ≤ p' := by
        rcases h3 with rfl | ⟨y, hy, hne, rfl⟩
        · exact g1
        · exact g2 y hy hne
      have k2 : p' ≤ p := by
        rcases g3 with rfl | ⟨y, hy, hne, rfl⟩
        · exact h1
        · exact h2 y hy hne
      omega
theorem award_mem {cs ds : List Bd} (h : ∀ b, b ∈ cs ↔ b ∈ ds) {l w p : Int} (ha : AwardIs cs l w p) : AwardIs ds l w p := by
  rcases ha with ⟨h1, h2⟩ | ⟨x, hx, hl, hw, h1, h2, h3⟩
  · exact .inl ⟨fun b hb => h1 b ((h b).2 hb), h2⟩
  · refine .inr ⟨x, ⟨(h x).1 hx.1, fun y hy => hx.2 y ((h y).2 hy)⟩, hl, hw, h1, fun y hy => h2 y ((h y).2 hy), ?_⟩
    rcases h3 with h3 | ⟨y, hy, h4⟩
    · exact .inl h3
    · exact .inr ⟨y, (h y).1 hy, h4⟩
/-- sorted: who bids more is ahead; of those who bid alike who has the lesser number -/
def Ahead (a b : Bd) : Prop := b.amount < a.amount ∨ (b.amount = a.amount ∧ a.who < b.who)
def soldOf : List Bd → Int → Int × Int
  | [], _ => (-1, 0)
  | [x], l => if x.amount < l then (-1, 0) else (x.who, l)
  | x :: y :: _, l => if x.amount < l then (-1, 0) else (x.who, max l y.amount)
theorem soldOf_one (x : Bd) (l : Int) : soldOf [x] l = if x.amount < l then (-1, 0) else (x.who, l) := rfl
theorem soldOf_two (x y : Bd) (r : List Bd) (l : Int) : soldOf (x :: y :: r) l = if x.amount < l then (-1, 0) else (x.who, max l y.amount) := rfl
theorem ahead_ne {a b : Bd} (h : Ahead a b) : b ≠ a := fun e => by
  subst e
  rcases h with h | ⟨_, h⟩ <;> omega
theorem sold_is {cs : List Bd} (hs : cs.Pairwise Ahead) (l : Int) : AwardIs cs l (soldOf cs l).1 (soldOf cs l).2 := by
  match cs, hs with
  | [], _ => exact .inl ⟨fun b hb => (by cases hb), rfl, rfl⟩
  | [x], _ =>
    rw [soldOf_one]
    by_cases h : x.amount < l
    · rw [if_pos h]
      exact .inl ⟨fun b hb => by rw [List.mem_singleton.1 hb]; exact h, rfl, rfl⟩
    · rw [if_neg h]
      exact .inr ⟨x, ⟨List.mem_singleton.2 rfl, fun y hy => .inl (List.mem_singleton.1 hy)⟩, by omega, rfl, Int.le_refl _, fun y hy hne => absurd (List.mem_singleton.1 hy) hne, .inl rfl⟩
  | x :: y :: r, hs =>
    obtain ⟨h1, h2⟩ := List.pairwise_cons.1 hs
    obtain ⟨h3, _⟩ := List.pairwise_cons.1 h2
    have hxy := h1 y (List.mem_cons_self ..)
    rw [soldOf_two]
    by_cases h : x.amount < l
    · rw [if_pos h]
      refine .inl ⟨fun b hb => ?_, rfl, rfl⟩
      rcases List.mem_cons.1 hb with rfl | hb
      · exact h
      · rcases h1 b hb with g | ⟨g, _⟩ <;> omega
    · rw [if_neg h]
      refine .inr ⟨x, ⟨List.mem_cons_self .., fun b hb => ?_⟩, by omega, rfl, Int.le_max_left _ _, fun b hb hne => ?_, ?_⟩
      · rcases List.mem_cons.1 hb with rfl | hb
        · exact .inl rfl
        · exact .inr (h1 b hb)
      · rcases List.mem_cons.1 hb with rfl | hb
        · exact absurd rfl hne
        · rcases List.mem_cons.1 hb with rfl | hb
          · exact Int.le_max_right _ _
          · have := Int.le_max_right l y.amount
            rcases h3 b hb with g | ⟨g, _⟩ <;> omega
      · by_cases hm : l ≤ y.amount
        · exact .inr ⟨y, List.mem_cons_of_mem _ (List.mem_cons_self ..), ahead_ne hxy, by show y.amount = max l y.amount; omega⟩
        · exact .inl (by show max l y.amount = l; omega)
/-- the bids by their places, of amounts -/
def bdOf (salt : List UInt8) (k : Nat) (a : Int) : Bd := ⟨(k : Int), a, salt⟩
def bdsOf (salt : List UInt8) (as : List Int) : List Bd := as.mapIdx fun k a => bdOf salt k a
theorem mem_bds {salt : List UInt8} {as : List Int} {b : Bd} : b ∈ bdsOf salt as ↔ ∃ k, ∃ h : k < as.length, b = bdOf salt k as[k] := by
  unfold bdsOf
  rw [List.mem_mapIdx]
  constructor
  · rintro ⟨k, h, rfl⟩; exact ⟨k, h, rfl⟩
  · rintro ⟨k, h, rfl⟩; exact ⟨k, h, rfl⟩
/-- the sale of amounts, each by its place -/
def SoldIs (s : List UInt8) (as : List Int) (l w p : Int) : Prop := AwardIs (bdsOf s as) l w p
theorem bd_ne {s : List UInt8} {i j : Nat} {x y : Int} (h : i ≠ j) : bdOf s i x ≠ bdOf s j y := fun e => by
  have := congrArg Bd.who e
  simp only [bdOf] at this
  omega
def WonIs (as : List Int) (l : Int) (k : Nat) (hk : k < as.length) (p : Int) : Prop :=
  l ≤ as[k] ∧ l ≤ p ∧ p ≤ as[k] ∧ (∀ j, (hj : j < as.length) → j ≠ k → as[j] ≤ p ∧ (as[j] < as[k] ∨ (as[j] = as[k] ∧ k < j))) ∧ (p = l ∨ ∃ j, ∃ hj : j < as.length, j ≠ k ∧ as[j] = p)
/-- what a sale is, in plain words -/
theorem sold_words {s : List UInt8} {as : List Int} {l w p : Int} (h : SoldIs s as l w p) : ((∀ k, (hk : k < as.length) → as[k] < l) ∧ w = -1 ∧ p = 0) ∨ ∃ k, ∃ hk : k < as.length, w = (k : Int) ∧ WonIs as l k hk p := by
  rcases h with ⟨h1, h2⟩ | ⟨x, hx, hl, hw, h1, h2, h3⟩
  · exact .inl ⟨fun k hk => h1 _ (mem_bds.2 ⟨k, hk, rfl⟩), h2⟩
  · obtain ⟨k, hk, rfl⟩ := mem_bds.1 hx.1
    have hb : ∀ j, (hj : j < as.length) → j ≠ k → as[j] < as[k] ∨ (as[j] = as[k] ∧ k < j) := fun j hj hne => by
      rcases hx.2 _ (mem_bds.2 ⟨j, hj, rfl⟩) with g | g | ⟨g, g'⟩
      · exact absurd g (bd_ne hne)
      · exact .inl g
      · simp only [bdOf] at g g'
        exact .inr ⟨g, by omega⟩
    refine .inr ⟨k, hk, hw, hl, h1, ?_, fun j hj hne => ⟨h2 _ (mem_bds.2 ⟨j, hj, rfl⟩) (bd_ne hne), hb j hj hne⟩, ?_⟩
    · rcases h3 with h3 | ⟨y, hy, hne, hp⟩
      · have : l ≤ as[k] := hl
        omega
      · obtain ⟨j, hj, rfl⟩ := mem_bds.1 hy
        have hjk : j ≠ k := fun e => by subst e; exact hne rfl
        have hp2 : as[j] = p := hp
        rcases hb j hj hjk with g | ⟨g, _⟩ <;> omega
    · rcases h3 with h3 | ⟨y, hy, hne, hp⟩
      · exact .inl h3
      · obtain ⟨j, hj, rfl⟩ := mem_bds.1 hy
        exact .inr ⟨j, hj, fun e => by subst e; exact hne rfl, hp⟩
theorem sold_of {s : List UInt8} {as : List Int} {l p : Int} {k : Nat} {hk : k < as.length} (h : WonIs as l k hk p) : SoldIs s as l (k : Int) p := by
  obtain ⟨h1, h2, h3, h4, h5⟩ := h
  refine .inr ⟨bdOf s k as[k], ⟨mem_bds.2 ⟨k, hk, rfl⟩, fun y hy => ?_⟩, h1, rfl, h2, fun y hy hne => ?_, ?_⟩
  · obtain ⟨j, hj, rfl⟩ := mem_bds.1 hy
    by_cases hjk : j = k
    · subst hjk; exact .inl rfl
    · rcases (h4 j hj hjk).2 with g | ⟨g, g'⟩
      · exact .inr (.inl g)
      · exact .inr (.inr ⟨g, by simp only [bdOf]; omega⟩)
  · obtain ⟨j, hj, rfl⟩ := mem_bds.1 hy
    exact (h4 j hj (fun e => by subst e; exact hne rfl)).1
  · rcases h5 with h5 | ⟨j, hj, hjk, hp⟩
    · exact .inl h5
    · exact .inr ⟨bdOf s j as[j], mem_bds.2 ⟨j, hj, rfl⟩, bd_ne hjk, hp⟩
/-- VICKREY: nobody gains by another bid -/
theorem vickrey {s : List UInt8} {as : List Int} {l w p x q worth other : Int} {me : Nat} (hme : me < as.length) (h : SoldIs s (as.set me worth) l w p) (g : SoldIs s (as.set me other) l x q) :
    0 ≤ (if w = (me : Int) then worth - p else 0) ∧ (if x = (me : Int) then worth - q else 0) ≤ (if w = (me : Int) then worth - p else 0) := by
  have hl1 : (as.set me worth).length = as.length := List.length_set
  have hl2 : (as.set me other).length = as.length := List.length_set
  have hat : ∀ (v : Int) (hx : me < (as.set me v).length), (as.set me v)[me] = v := fun v hx => List.getElem_set_self _
  have hot : ∀ (v : Int) (j : Nat) (hj : j < (as.set me v).length), j ≠ me → (as.set me v)[j] = as[j]'(by rw [List.length_set] at hj; exact hj) := fun v j hj hne => List.getElem_set_ne (Ne.symm hne) _
  rcases sold_words h with ⟨h1, rfl, rfl⟩ | ⟨k, hk, rfl, k1, k2, k3, k4, k5⟩
  · rw [if_neg (by omega)]
    refine ⟨Int.le_refl _, ?_⟩
    rcases sold_words g with ⟨_, rfl, rfl⟩ | ⟨m, hm, rfl, m1, m2, m3, m4, m5⟩
    · rw [if_neg (by omega)]; exact Int.le_refl _
    · by_cases hmm : (m : Int) = (me : Int)
      · rw [if_pos hmm]
        have := h1 me (by omega)
        rw [hat] at this
        omega
      · rw [if_neg hmm]; exact Int.le_refl _
  · by_cases hkm : (k : Int) = (me : Int)
    · rw [if_pos hkm]
      obtain rfl : k = me := by omega
      rw [hat] at k1 k3
      refine ⟨by omega, ?_⟩
      rcases sold_words g with ⟨_, rfl, rfl⟩ | ⟨m, hm, rfl, m1, m2, m3, m4, m5⟩
      · rw [if_neg (by omega)]; omega
      · by_cases hmm : (m : Int) = (k : Int)
        · rw [if_pos hmm]
          obtain rfl : m = k := by omega
          have e1 : p ≤ q := by
            rcases k5 with rfl | ⟨j, hj, hjk, rfl⟩
            · exact m2
            · rw [hot _ j hj hjk]
              have := (m4 j (by omega) hjk).1
              rwa [hot _ j _ hjk] at this
          omega
        · rw [if_neg hmm]; omega
    · rw [if_neg hkm]
      refine ⟨Int.le_refl _, ?_⟩
      rcases sold_words g with ⟨_, rfl, rfl⟩ | ⟨m, hm, rfl, m1, m2, m3, m4, m5⟩
      · rw [if_neg (by omega)]; exact Int.le_refl _
      · by_cases hmm : (m : Int) = (me : Int)
        · rw [if_pos hmm]
          obtain rfl : m = me := by omega
          have hkne : k ≠ m := by omega
          have e1 := (k4 m (by omega) (Ne.symm hkne)).2
          rw [hat, hot _ k hk hkne] at e1
          have e2 := (m4 k (by omega) hkne).1
          rw [hot _ k _ hkne] at e2
          omega
        · rw [if_neg hmm]; exact Int.le_refl _
end Go.Proofs.YteikbbdkpeecaaaDoor
