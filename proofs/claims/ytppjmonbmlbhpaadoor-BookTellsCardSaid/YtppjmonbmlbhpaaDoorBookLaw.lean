/- Law: books are merged name by name: in whatever order, from either side, the same book. Plain: no program is in sight. -/
import Derived.Test.YtppjmonbmlbhpaaDoorNamed
import Derived.Test.YtppjmonbmlbhpaaDoorRec
import Derived.Lib.Bytealg
namespace Go.Proofs.YtppjmonbmlbhpaaDoor
set_option linter.unusedVariables false

/-! the order of names -/
theorem bl_irrefl : ∀ a : List UInt8, Op.bytesLess a a = false := by
  intro a
  induction a with
  | nil => rfl
  | cons x a ih => simp [Op.bytesLess, ih, UInt8.lt_irrefl]
theorem bl_trans : ∀ a b c : List UInt8, Op.bytesLess a b = true → Op.bytesLess b c = true → Op.bytesLess a c = true := by
  intro a
  induction a with
  | nil =>
    intro b c h1 h2
    cases c with
    | nil => cases b <;> simp [Op.bytesLess] at h2
    | cons z c => rfl
  | cons x a ih =>
    intro b c h1 h2
    cases b with
    | nil => simp [Op.bytesLess] at h1
    | cons y b =>
      cases c with
      | nil => simp [Op.bytesLess] at h2
      | cons z c =>
        simp only [Op.bytesLess, Bool.or_eq_true, Bool.and_eq_true, decide_eq_true_eq, beq_iff_eq] at h1 h2 ⊢
        rcases h1 with h1 | ⟨rfl, h1⟩
        · rcases h2 with h2 | ⟨rfl, h2⟩
          · exact .inl (UInt8.lt_trans h1 h2)
          · exact .inl h1
        · rcases h2 with h2 | ⟨rfl, h2⟩
          · exact .inl h2
          · exact .inr ⟨rfl, ih b c h1 h2⟩
theorem bl_tri : ∀ a b : List UInt8, a ≠ b → Op.bytesLess a b = true ∨ Op.bytesLess b a = true := by
  intro a
  induction a with
  | nil =>
    intro b h
    cases b with
    | nil => exact absurd rfl h
    | cons y b => exact .inl rfl
  | cons x a ih =>
    intro b h
    cases b with
    | nil => exact .inr rfl
    | cons y b =>
      simp only [Op.bytesLess, Bool.or_eq_true, Bool.and_eq_true, decide_eq_true_eq, beq_iff_eq]
      by_cases e : x = y
      · subst e
        rcases ih b (fun e => h (by rw [e])) with h1 | h1
        · exact .inl (.inr ⟨rfl, h1⟩)
        · exact .inr (.inr ⟨rfl, h1⟩)
      · rcases UInt8.lt_or_lt_of_ne e with h1 | h1
        · exact .inl (.inl h1)
        · exact .inr (.inl h1)
theorem bl_asymm (a b : List UInt8) (h : Op.bytesLess a b = true) : Op.bytesLess b a = false := by
  cases e : Op.bytesLess b a with
  | false => rfl
  | true =>
    have := bl_trans a b a h e
    rw [bl_irrefl] at this
    cases this
theorem bl_ne {a b : List UInt8} (h : Op.bytesLess a b = true) : a ≠ b := fun e => by rw [e, bl_irrefl] at h; cases h
theorem cmp_bytes : ∀ a b : List UInt8, Lib.compareBytes a b = if Op.bytesLess a b then -1 else if Op.bytesLess b a then 1 else 0 := by
  intro a
  induction a with
  | nil =>
    intro b
    cases b <;> simp [Lib.compareBytes, Op.bytesLess]
  | cons x a ih =>
    intro b
    cases b with
    | nil => simp [Lib.compareBytes, Op.bytesLess]
    | cons y b =>
      unfold Lib.compareBytes Op.bytesLess
      by_cases h1 : x < y
      · simp [h1]
      · by_cases h2 : y < x
        · have h3 : ¬ x = y := fun e => by subst e; exact UInt8.lt_irrefl _ h2
          simp [h1, h2, h3]
        · have h3 : x = y := Decidable.byContradiction fun e => by
            rcases UInt8.lt_or_lt_of_ne e with h | h
            · exact h1 h
            · exact h2 h
          subst h3
          simp [h1, ih b]
/-- one name at most another one -/
theorem bl_le (a b : List UInt8) : (Op.bytesLess a b || a == b) = !(Op.bytesLess b a) := by
  by_cases e : a = b
  · subst e; simp [bl_irrefl]
  · rcases bl_tri a b e with h | h
    · simp [h, bl_asymm a b h]
    · simp [h, bl_asymm b a h, e]

/-- a contact -/
structure Ct where
  name : ByteArray
  key : List UInt8
  lvl : Int
instance : DecidableEq Ct := fun a b => decidable_of_iff (a.name = b.name ∧ a.key = b.key ∧ a.lvl = b.lvl) ⟨fun ⟨h1, h2, h3⟩ => by cases a; cases b; simp_all, fun h => by subst h; exact ⟨rfl, rfl, rfl⟩⟩
instance : Inhabited Ct := ⟨⟨⟨#[]⟩, [], 0⟩⟩
def noKey : List UInt8 := List.replicate 32 0
def rk (c : Ct) : Int := (c.lvl + 1) / 2
def forkC (n : ByteArray) (r : Int) : Ct := ⟨n, noKey, 2 * r⟩
def bothC (a b : Ct) : Ct := if rk b < rk a ∨ a = b then a else if rk a < rk b then b else forkC a.name (rk a)
theorem rk_fork (n : ByteArray) (r : Int) : rk (forkC n r) = r := by unfold rk forkC; dsimp only; omega
theorem both_same (a : Ct) : bothC a a = a := by unfold bothC; rw [if_pos (.inr rfl)]
theorem both_gt {a b : Ct} (h : rk b < rk a) : bothC a b = a := by unfold bothC; rw [if_pos (.inl h)]
theorem both_lt {a b : Ct} (h : rk a < rk b) : bothC a b = b := by
  unfold bothC
  rw [if_neg (fun e => by rcases e with e | e; omega; subst e; omega), if_pos h]
theorem both_eq {a b : Ct} (h : rk a = rk b) (hne : a ≠ b) : bothC a b = forkC a.name (rk a) := by
  unfold bothC
  rw [if_neg (fun e => by rcases e with e | e; omega; exact hne e), if_neg (by omega)]
theorem both_name {a b : Ct} (h : a.name = b.name) : (bothC a b).name = a.name := by
  unfold bothC
  split
  · rfl
  · split
    · exact h.symm
    · rfl
theorem rk_both (a b : Ct) : rk (bothC a b) = if rk a < rk b then rk b else rk a := by
  rcases Int.lt_trichotomy (rk a) (rk b) with h | h | h
  · rw [both_lt h, if_pos h]
  · rw [if_neg (by omega)]
    by_cases e : a = b
    · subst e; rw [both_same]
    · rw [both_eq h e, rk_fork]
  · rw [both_gt h, if_neg (by omega)]
theorem both_comm {a b : Ct} (hn : a.name = b.name) : bothC a b = bothC b a := by
  rcases Int.lt_trichotomy (rk a) (rk b) with h | h | h
  · rw [both_lt h, both_gt h]
  · by_cases e : a = b
    · subst e; rfl
    · rw [both_eq h e, both_eq h.symm (Ne.symm e), hn, h]
  · rw [both_gt h, both_lt h]
theorem both_fork {a : Ct} : bothC a (forkC a.name (rk a)) = forkC a.name (rk a) := by
  by_cases e : a = forkC a.name (rk a)
  · rw [← e, both_same]
  · rw [both_eq (rk_fork _ _).symm e]
theorem fork_both {c : Ct} {n : ByteArray} (hn : n = c.name) : bothC (forkC n (rk c)) c = forkC n (rk c) := by
  subst hn
  rw [both_comm (by rfl)]
  exact both_fork
theorem both_assoc {a b c : Ct} (h1 : a.name = b.name) (h2 : b.name = c.name) : bothC (bothC a b) c = bothC a (bothC b c) := by
  rcases Int.lt_trichotomy (rk a) (rk b) with h | h | h
  · rw [both_lt h]
    have : rk a < rk (bothC b c) := by rw [rk_both]; split <;> omega
    rw [both_lt this]
  · rcases Int.lt_trichotomy (rk b) (rk c) with g | g | g
    · have e1 : rk (bothC a b) < rk c := by rw [rk_both]; split <;> omega
      rw [both_lt g, both_lt e1, both_lt (by omega : rk a < rk c)]
    · by_cases e : a = b
      · subst e
        rw [both_same]
        by_cases f : a = c
        · subst f; rw [both_same, both_same]
        · rw [both_eq g f, both_fork]
      · rw [both_eq h e]
        have e1 : bothC (forkC a.name (rk a)) c = forkC a.name (rk a) := by
          rw [h, g]; exact fork_both (h1.trans h2)
        rw [e1]
        by_cases f : b = c
        · subst f; rw [both_same, both_eq h e]
        · rw [both_eq g f, ← h1, ← h]
          exact both_fork.symm
    · have e1 : rk c < rk (bothC a b) := by rw [rk_both]; split <;> omega
      rw [both_gt g, both_gt e1]
  · rw [both_gt h]
    rcases Int.lt_trichotomy (rk b) (rk c) with g | g | g
    · rw [both_lt g]
    · have e1 : rk (bothC b c) < rk a := by rw [rk_both]; split <;> omega
      rw [both_gt e1, both_gt (by omega : rk c < rk a)]
    · rw [both_gt g, both_gt h, both_gt (by omega : rk c < rk a)]

/-- two books ar one -/
def mergeC : List Ct → List Ct → List Ct
  | [], b => b
  | a :: ar, [] => a :: ar
  | a :: ar, b :: br => if Op.bytesLess (sb a.name) (sb b.name) then a :: mergeC ar (b :: br) else if Op.bytesLess (sb b.name) (sb a.name) then b :: mergeC (a :: ar) br else bothC a b :: mergeC ar br
  termination_by a b => a.length + b.length
theorem merge_nil_left (b : List Ct) : mergeC [] b = b := by rw [mergeC]
theorem merge_nil (a : List Ct) : mergeC a [] = a := by cases a <;> rw [mergeC]
theorem merge_lt {a b : Ct} {ar br : List Ct} (h : Op.bytesLess (sb a.name) (sb b.name) = true) : mergeC (a :: ar) (b :: br) = a :: mergeC ar (b :: br) := by rw [mergeC, if_pos h]
theorem merge_gt {a b : Ct} {ar br : List Ct} (h : Op.bytesLess (sb b.name) (sb a.name) = true) : mergeC (a :: ar) (b :: br) = b :: mergeC (a :: ar) br := by
  rw [mergeC, if_neg (by rw [bl_asymm _ _ h]; decide), if_pos h]
theorem merge_eq {a b : Ct} {ar br : List Ct} (h : a.name = b.name) : mergeC (a :: ar) (b :: br) = bothC a b :: mergeC ar br := by
  rw [mergeC, h, bl_irrefl, if_neg (by decide), if_neg (by decide)]
theorem name_tri (a b : Ct) : Op.bytesLess (sb a.name) (sb b.name) = true ∨ a.name = b.name ∨ Op.bytesLess (sb b.name) (sb a.name) = true := by
  by_cases e : a.name = b.name
  · exact .inr (.inl e)
  · rcases bl_tri (sb a.name) (sb b.name) (fun h => e (sb_inj h)) with h | h
    · exact .inl h
    · exact .inr (.inr h)
theorem merge_length : ∀ (n : Nat) (a b : List Ct), a.length + b.length ≤ n → (mergeC a b).length ≤ a.length + b.length ∧ a.length ≤ (mergeC a b).length ∧ b.length ≤ (mergeC a b).length := by
  intro n
  induction n with
  | zero =>
    intro a b h
    obtain rfl : a = [] := List.length_eq_zero_iff.1 (by omega)
    rw [merge_nil_left]
    simp
  | succ n ih =>
    intro a b h
    cases a with
    | nil => rw [merge_nil_left]; simp
    | cons x ar =>
      cases b with
      | nil => rw [merge_nil]; simp
      | cons y br =>
        simp only [List.length_cons] at h ⊢
        rcases name_tri x y with g | g | g
        · rw [merge_lt g]
          have := ih ar (y :: br) (by simp only [List.length_cons]; omega)
          simp only [List.length_cons] at this ⊢
          omega
        · rw [merge_eq g]
          have := ih ar br (by omega)
          simp only [List.length_cons] at this ⊢
          omega
        · rw [merge_gt g]
          have := ih (x :: ar) br (by simp only [List.length_cons]; omega)
          simp only [List.length_cons] at this ⊢
          omega
def lk (b : List Ct) (n : ByteArray) : Option Ct := b.find? (fun c => decide (c.name = n))
theorem lk_cons_pos {c : Ct} {b : List Ct} {n : ByteArray} (h : c.name = n) : lk (c :: b) n = some c := by
  unfold lk; rw [List.find?_cons_of_pos]; simpa using h
theorem lk_cons_neg {c : Ct} {b : List Ct} {n : ByteArray} (h : c.name ≠ n) : lk (c :: b) n = lk b n := by
  unfold lk; rw [List.find?_cons_of_neg]; simpa using h
theorem lk_none {b : List Ct} {n : ByteArray} (h : ∀ c ∈ b, c.name ≠ n) : lk b n = none := by
  unfold lk; rw [List.find?_eq_none]; intro c hc; simpa using h c hc
theorem lk_some {b : List Ct} {n : ByteArray} {c : Ct} (h : lk b n = some c) : c ∈ b ∧ c.name = n := by
  unfold lk at h
  exact ⟨List.mem_of_find?_eq_some h, by simpa using List.find?_some h⟩
def optB : Option Ct → Option Ct → Option Ct
  | some a, some b => some (bothC a b)
  | some a, none => some a
  | none, o => o
def SortedC (b : List Ct) : Prop := b.Pairwise (fun x y => Op.bytesLess (sb x.name) (sb y.name) = true)
theorem merge_names : ∀ (n : Nat) (a b : List Ct), a.length + b.length ≤ n → ∀ c ∈ mergeC a b, (∃ x ∈ a, x.name = c.name) ∨ (∃ x ∈ b, x.name = c.name) := by
  intro n
  induction n with
  | zero =>
    intro a b h
    obtain rfl : a = [] := List.length_eq_zero_iff.1 (by omega)
    rw [merge_nil_left]
    exact fun c hc => .inr ⟨c, hc, rfl⟩
  | succ n ih =>
    intro a b h
    cases a with
    | nil => rw [merge_nil_left]; exact fun c hc => .inr ⟨c, hc, rfl⟩
    | cons x ar =>
      cases b with
      | nil => rw [merge_nil]; exact fun c hc => .inl ⟨c, hc, rfl⟩
      | cons y br =>
        simp only [List.length_cons] at h
        intro c hc
        rcases name_tri x y with g | g | g
        · rw [merge_lt g] at hc
          rcases List.mem_cons.1 hc with rfl | hc
          · exact .inl ⟨_, List.mem_cons_self .., rfl⟩
          · rcases ih ar (y :: br) (by simp only [List.length_cons]; omega) c hc with ⟨z, hz, e⟩ | hz
            · exact .inl ⟨z, List.mem_cons_of_mem _ hz, e⟩
            · exact .inr hz
        · rw [merge_eq g] at hc
          rcases List.mem_cons.1 hc with rfl | hc
          · exact .inl ⟨x, List.mem_cons_self .., (both_name g).symm⟩
          · rcases ih ar br (by omega) c hc with ⟨z, hz, e⟩ | ⟨z, hz, e⟩
            · exact .inl ⟨z, List.mem_cons_of_mem _ hz, e⟩
            · exact .inr ⟨z, List.mem_cons_of_mem _ hz, e⟩
        · rw [merge_gt g] at hc
          rcases List.mem_cons.1 hc with rfl | hc
          · exact .inr ⟨_, List.mem_cons_self .., rfl⟩
          · rcases ih (x :: ar) br (by simp only [List.length_cons]; omega) c hc with hz | ⟨z, hz, e⟩
            · exact .inl hz
            · exact .inr ⟨z, List.mem_cons_of_mem _ hz, e⟩
theorem merge_sorted : ∀ (n : Nat) (a b : List Ct), a.length + b.length ≤ n → SortedC a → SortedC b → SortedC (mergeC a b) := by
  intro n
  induction n with
  | zero =>
    intro a b h ha hb
    obtain rfl : a = [] := List.length_eq_zero_iff.1 (by omega)
    rw [merge_nil_left]
    exact hb
  | succ n ih =>
    intro a b h ha hb
    cases a with
    | nil => rw [merge_nil_left]; exact hb
    | cons x ar =>
      cases b with
      | nil => rw [merge_nil]; exact ha
      | cons y br =>
        simp only [List.length_cons] at h
        obtain ⟨ha1, ha2⟩ := List.pairwise_cons.1 ha
        obtain ⟨hb1, hb2⟩ := List.pairwise_cons.1 hb
        rcases name_tri x y with g | g | g
        · rw [merge_lt g]
          refine List.pairwise_cons.2 ⟨fun c hc => ?_, ih _ _ (by simp only [List.length_cons]; omega) ha2 hb⟩
          rcases merge_names _ _ _ (Nat.le_refl _) c hc with ⟨z, hz, e⟩ | ⟨z, hz, e⟩
          · rw [← e]; exact ha1 z hz
          · rw [← e]
            rcases List.mem_cons.1 hz with rfl | hz
            · exact g
            · exact bl_trans _ _ _ g (hb1 z hz)
        · rw [merge_eq g]
          refine List.pairwise_cons.2 ⟨fun c hc => ?_, ih _ _ (by omega) ha2 hb2⟩
          rw [both_name g]
          rcases merge_names _ _ _ (Nat.le_refl _) c hc with ⟨z, hz, e⟩ | ⟨z, hz, e⟩
          · rw [← e]; exact ha1 z hz
          · rw [← e, g]; exact hb1 z hz
        · rw [merge_gt g]
          refine List.pairwise_cons.2 ⟨fun c hc => ?_, ih _ _ (by simp only [List.length_cons]; omega) ha hb2⟩
          rcases merge_names _ _ _ (Nat.le_refl _) c hc with ⟨z, hz, e⟩ | ⟨z, hz, e⟩
          · rw [← e]
            rcases List.mem_cons.1 hz with rfl | hz
            · exact g
            · exact bl_trans _ _ _ g (ha1 z hz)
          · rw [← e]; exact hb1 z hz
theorem ne_of_bl {a b : Ct} (h : Op.bytesLess (sb a.name) (sb b.name) = true) : b.name ≠ a.name := fun e => by rw [e, bl_irrefl] at h; cases h
theorem lk_merge : ∀ (n : Nat) (a b : List Ct), a.length + b.length ≤ n → SortedC a → SortedC b → ∀ s, lk (mergeC a b) s = optB (lk a s) (lk b s) := by
  intro n
  induction n with
  | zero =>
    intro a b h ha hb s
    obtain rfl : a = [] := List.length_eq_zero_iff.1 (by omega)
    rw [merge_nil_left]
    rfl
  | succ n ih =>
    intro a b h ha hb s
    cases a with
    | nil => rw [merge_nil_left]; rfl
    | cons x ar =>
      cases b with
      | nil =>
        rw [merge_nil]
        show _ = optB _ none
        cases lk (x :: ar) s <;> rfl
      | cons y br =>
        simp only [List.length_cons] at h
        obtain ⟨ha1, ha2⟩ := List.pairwise_cons.1 ha
        obtain ⟨hb1, hb2⟩ := List.pairwise_cons.1 hb
        rcases name_tri x y with g | g | g
        · rw [merge_lt g]
          by_cases e : x.name = s
          · have hn : lk (y :: br) s = none := lk_none fun c hc => by
              rw [← e]
              rcases List.mem_cons.1 hc with rfl | hc
              · exact ne_of_bl g
              · exact ne_of_bl (bl_trans _ _ _ g (hb1 c hc))
            rw [lk_cons_pos e, lk_cons_pos e, hn]
            rfl
          · rw [lk_cons_neg e, lk_cons_neg e]
            exact ih _ _ (by simp only [List.length_cons]; omega) ha2 hb s
        · rw [merge_eq g]
          by_cases e : x.name = s
          · rw [lk_cons_pos ((both_name g).trans e), lk_cons_pos e, lk_cons_pos (g.symm.trans e)]
            rfl
          · rw [lk_cons_neg (fun h => e ((both_name g).symm.trans h)), lk_cons_neg e, lk_cons_neg (fun h => e (g.trans h))]
            exact ih _ _ (by omega) ha2 hb2 s
        · rw [merge_gt g]
          by_cases e : y.name = s
          · have hn : lk (x :: ar) s = none := lk_none fun c hc => by
              rw [← e]
              rcases List.mem_cons.1 hc with rfl | hc
              · exact ne_of_bl g
              · exact ne_of_bl (bl_trans _ _ _ g (ha1 c hc))
            rw [lk_cons_pos e, lk_cons_pos e, hn]
            rfl
          · rw [lk_cons_neg e, lk_cons_neg e]
            exact ih _ _ (by simp only [List.length_cons]; omega) ha hb2 s
/-- two sorted books that tell alike of each name are the same -/
theorem sorted_ext : ∀ a b : List Ct, SortedC a → SortedC b → (∀ s, lk a s = lk b s) → a = b := by
  intro a
  induction a with
  | nil =>
    intro b _ _ h
    cases b with
    | nil => rfl
    | cons y br =>
      have := h y.name
      rw [lk_cons_pos rfl] at this
      cases this
  | cons x ar ih =>
    intro b ha hb h
    cases b with
    | nil =>
      have := h x.name
      rw [lk_cons_pos rfl] at this
      cases this
    | cons y br =>
      obtain ⟨ha1, ha2⟩ := List.pairwise_cons.1 ha
      obtain ⟨hb1, hb2⟩ := List.pairwise_cons.1 hb
      rcases name_tri x y with g | g | g
      · exfalso
        have h1 := h x.name
        rw [lk_cons_pos rfl, lk_none (b := y :: br)] at h1
        · cases h1
        · intro c hc
          rcases List.mem_cons.1 hc with rfl | hc
          · exact ne_of_bl g
          · exact ne_of_bl (bl_trans _ _ _ g (hb1 c hc))
      · have h1 := h x.name
        rw [lk_cons_pos rfl, lk_cons_pos g.symm] at h1
        have hxy : x = y := by injection h1
        subst hxy
        congr 1
        refine ih br ha2 hb2 fun s => ?_
        by_cases e : x.name = s
        · subst e
          rw [lk_none (fun c hc => ne_of_bl (ha1 c hc)), lk_none (fun c hc => ne_of_bl (hb1 c hc))]
        · have := h s
          rwa [lk_cons_neg e, lk_cons_neg e] at this
      · exfalso
        have h1 := h y.name
        rw [lk_cons_pos (c := y) rfl, lk_none (b := x :: ar)] at h1
        · cases h1
        · intro c hc
          rcases List.mem_cons.1 hc with rfl | hc
          · exact ne_of_bl g
          · exact ne_of_bl (bl_trans _ _ _ g (ha1 c hc))
theorem lk_merge' {a b : List Ct} (ha : SortedC a) (hb : SortedC b) (s : ByteArray) : lk (mergeC a b) s = optB (lk a s) (lk b s) := lk_merge _ a b (Nat.le_refl _) ha hb s
theorem merge_sorted' {a b : List Ct} (ha : SortedC a) (hb : SortedC b) : SortedC (mergeC a b) := merge_sorted _ a b (Nat.le_refl _) ha hb
theorem merge_comm {a b : List Ct} (ha : SortedC a) (hb : SortedC b) : mergeC a b = mergeC b a := by
  refine sorted_ext _ _ (merge_sorted' ha hb) (merge_sorted' hb ha) fun s => ?_
  rw [lk_merge' ha hb, lk_merge' hb ha]
  cases h1 : lk a s with
  | none => cases lk b s <;> rfl
  | some x =>
    cases h2 : lk b s with
    | none => rfl
    | some y =>
      show some _ = some _
      rw [both_comm ((lk_some h1).2.trans (lk_some h2).2.symm)]
theorem merge_assoc {a b c : List Ct} (ha : SortedC a) (hb : SortedC b) (hc : SortedC c) : mergeC (mergeC a b) c = mergeC a (mergeC b c) := by
  refine sorted_ext _ _ (merge_sorted' (merge_sorted' ha hb) hc) (merge_sorted' ha (merge_sorted' hb hc)) fun s => ?_
  rw [lk_merge' (merge_sorted' ha hb) hc, lk_merge' ha hb, lk_merge' ha (merge_sorted' hb hc), lk_merge' hb hc]
  cases h1 : lk a s with
  | none => cases lk b s <;> cases lk c s <;> rfl
  | some x =>
    cases h2 : lk b s with
    | none => cases lk c s <;> rfl
    | some y =>
      cases h3 : lk c s with
      | none => rfl
      | some z =>
        show some _ = some _
        rw [both_assoc ((lk_some h1).2.trans (lk_some h2).2.symm) ((lk_some h2).2.trans (lk_some h3).2.symm)]
theorem merge_self {a : List Ct} (ha : SortedC a) : mergeC a a = a := by
  refine sorted_ext _ _ (merge_sorted' ha ha) ha fun s => ?_
  rw [lk_merge' ha ha]
  cases h1 : lk a s with
  | none => rfl
  | some x =>
    show some _ = some _
    rw [both_same]
theorem merge_again {a b : List Ct} (ha : SortedC a) (hb : SortedC b) : mergeC (mergeC a b) b = mergeC a b := by
  rw [merge_assoc ha hb hb, merge_self hb]

/-! what is wrong with a book -/
def GoodC (c : Ct) : Prop := named c.name = true ∧ 1 ≤ c.lvl ∧ c.lvl ≤ 4 ∧ (c.key = noKey ↔ c.lvl % 2 = 0)
def GoodB (b : List Ct) : Prop := b.length ≤ 40 ∧ SortedC b ∧ ∀ c ∈ b, GoodC c
def behind : Option ByteArray → ByteArray → Bool
  | none, _ => true
  | some p, n => Op.bytesLess (sb p) (sb n)
def ctFault (prev : Option ByteArray) (c : Ct) : Int :=
  if named c.name = false then 1 else if behind prev c.name = false then 7 else if c.lvl < 1 ∨ 4 < c.lvl then 2 else if decide (c.key = noKey) ≠ decide (c.lvl % 2 = 0) then 9 else 0
def faultFrom : Option ByteArray → List Ct → Int
  | _, [] => 0
  | prev, c :: r => if ctFault prev c ≠ 0 then ctFault prev c else faultFrom (some c.name) r
def fault (b : List Ct) : Int := if 40 < b.length then 4 else faultFrom none b
theorem ctFault_zero {prev : Option ByteArray} {c : Ct} : ctFault prev c = 0 ↔ GoodC c ∧ behind prev c.name = true := by
  unfold ctFault GoodC
  constructor
  · intro h
    split at h
    · cases h
    · split at h
      · cases h
      · split at h
        · cases h
        · split at h
          · cases h
          · rename_i h1 h2 h3 h4
            refine ⟨⟨by simpa using h1, by omega, by omega, ?_⟩, by simpa using h2⟩
            have := Decidable.not_not.1 h4
            exact decide_eq_decide.1 this
  · rintro ⟨⟨h1, h2, h3, h4⟩, h5⟩
    rw [if_neg (by rw [h1]; decide), if_neg (by rw [h5]; decide), if_neg (by omega), if_neg (Decidable.not_not.2 (decide_eq_decide.2 h4))]
theorem faultFrom_zero : ∀ (b : List Ct) (prev : Option ByteArray), faultFrom prev b = 0 ↔ (SortedC b ∧ (∀ c ∈ b, GoodC c) ∧ ∀ c ∈ b, behind prev c.name = true) := by
  intro b
  induction b with
  | nil => intro prev; exact ⟨fun _ => ⟨List.Pairwise.nil, fun c hc => by simp at hc, fun c hc => by simp at hc⟩, fun _ => rfl⟩
  | cons c r ih =>
    intro prev
    unfold faultFrom
    constructor
    · intro h
      split at h
      · rename_i h1; exact absurd h h1
      · rename_i h1
        obtain ⟨g1, g2⟩ := ctFault_zero.1 (Decidable.not_not.1 h1)
        obtain ⟨k1, k2, k3⟩ := (ih (some c.name)).1 h
        refine ⟨List.pairwise_cons.2 ⟨fun d hd => k3 d hd, k1⟩, ?_, ?_⟩
        · intro d hd
          rcases List.mem_cons.1 hd with rfl | hd
          · exact g1
          · exact k2 d hd
        · intro d hd
          rcases List.mem_cons.1 hd with rfl | hd
          · exact g2
          · cases prev with
            | none => rfl
            | some p => exact bl_trans _ _ _ g2 (k3 d hd)
    · rintro ⟨h1, h2, h3⟩
      obtain ⟨k1, k2⟩ := List.pairwise_cons.1 h1
      rw [if_neg (Decidable.not_not.2 (ctFault_zero.2 ⟨h2 c (List.mem_cons_self ..), h3 c (List.mem_cons_self ..)⟩))]
      exact (ih (some c.name)).2 ⟨k2, fun d hd => h2 d (List.mem_cons_of_mem _ hd), fun d hd => k1 d hd⟩
theorem fault_zero {b : List Ct} : fault b = 0 ↔ GoodB b := by
  unfold fault GoodB
  constructor
  · intro h
    split at h
    · cases h
    · obtain ⟨h1, h2, _⟩ := (faultFrom_zero b none).1 h
      exact ⟨by omega, h1, h2⟩
  · rintro ⟨h1, h2, h3⟩
    rw [if_neg (by omega)]
    exact (faultFrom_zero b none).2 ⟨h2, h3, fun _ _ => rfl⟩
theorem good_both {a b : Ct} (ha : GoodC a) (hb : GoodC b) : GoodC (bothC a b) := by
  unfold bothC
  split
  · exact ha
  · split
    · exact hb
    · obtain ⟨h1, h2, h3, _⟩ := ha
      refine ⟨h1, ?_, ?_, ?_⟩
      · show 1 ≤ 2 * rk a
        unfold rk; omega
      · show 2 * rk a ≤ 4
        unfold rk; omega
      · show noKey = noKey ↔ 2 * rk a % 2 = 0
        exact ⟨fun _ => by omega, fun _ => rfl⟩
theorem merge_good : ∀ (n : Nat) (a b : List Ct), a.length + b.length ≤ n → (∀ c ∈ a, GoodC c) → (∀ c ∈ b, GoodC c) → ∀ c ∈ mergeC a b, GoodC c := by
  intro n
  induction n with
  | zero =>
    intro a b h ha hb
    obtain rfl : a = [] := List.length_eq_zero_iff.1 (by omega)
    rw [merge_nil_left]
    exact hb
  | succ n ih =>
    intro a b h ha hb
    cases a with
    | nil => rw [merge_nil_left]; exact hb
    | cons x ar =>
      cases b with
      | nil => rw [merge_nil]; exact ha
      | cons y br =>
        simp only [List.length_cons] at h
        intro c hc
        rcases name_tri x y with g | g | g
        · rw [merge_lt g] at hc
          rcases List.mem_cons.1 hc with rfl | hc
          · exact ha _ (List.mem_cons_self ..)
          · exact ih ar (y :: br) (by simp only [List.length_cons]; omega) (fun d hd => ha d (List.mem_cons_of_mem _ hd)) hb c hc
        · rw [merge_eq g] at hc
          rcases List.mem_cons.1 hc with rfl | hc
          · exact good_both (ha _ (List.mem_cons_self ..)) (hb _ (List.mem_cons_self ..))
          · exact ih ar br (by omega) (fun d hd => ha d (List.mem_cons_of_mem _ hd)) (fun d hd => hb d (List.mem_cons_of_mem _ hd)) c hc
        · rw [merge_gt g] at hc
          rcases List.mem_cons.1 hc with rfl | hc
          · exact hb _ (List.mem_cons_self ..)
          · exact ih (x :: ar) br (by simp only [List.length_cons]; omega) ha (fun d hd => hb d (List.mem_cons_of_mem _ hd)) c hc
theorem good_merge {a b : List Ct} (ha : GoodB a) (hb : GoodB b) (hl : (mergeC a b).length ≤ 40) : GoodB (mergeC a b) :=
  ⟨hl, merge_sorted' ha.2.1 hb.2.1, merge_good _ a b (Nat.le_refl _) ha.2.2 hb.2.2⟩
end Go.Proofs.YtppjmonbmlbhpaaDoor
