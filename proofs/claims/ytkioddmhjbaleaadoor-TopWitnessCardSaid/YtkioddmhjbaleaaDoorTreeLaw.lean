/- Law: one digest for many: the root of leaves, a leaf's path, and what a leaf and a path fold to. No walk is in it. -/
import Derived.Test.YtkioddmhjbaleaaDoorShaBase
namespace Go.Proofs.YtkioddmhjbaleaaDoor
open Go.RowKit
set_option linter.unusedVariables false
def tleaf (b : List UInt8) : List UInt8 := shaOf (0 :: b)
def tnode (l r : List UInt8) : List UInt8 := shaOf (1 :: (l ++ r))
theorem tleaf_length (b : List UInt8) : (tleaf b).length = 32 := shaOf_length _
theorem tnode_length (l r : List UInt8) : (tnode l r).length = 32 := shaOf_length _
/-- the greatest power of 2 below a number above 1 -/
def hf (n : Nat) : Nat := 2 ^ Nat.log2 (n - 1)
theorem hf_pos (n : Nat) : 0 < hf n := Nat.two_pow_pos _
theorem hf_lt {n : Nat} (h : 2 ≤ n) : hf n < n := by
  have := Nat.log2_self_le (n := n - 1) (by omega)
  unfold hf
  omega
theorem hf_two (n : Nat) : n ≤ 2 * hf n := by
  have := @Nat.lt_log2_self (n - 1)
  unfold hf
  rw [Nat.pow_succ] at this
  omega
/-- the one power of 2 that is below, and whose double is not -/
theorem hf_of {n j : Nat} (h1 : 2 ^ j < n) (h2 : n ≤ 2 * 2 ^ j) : hf n = 2 ^ j := by
  unfold hf
  congr 1
  have hp : 0 < 2 ^ j := Nat.two_pow_pos j
  apply Nat.le_antisymm
  · refine Nat.lt_succ_iff.1 ((Nat.log2_lt (by omega)).2 ?_)
    rw [Nat.pow_succ]; omega
  · exact (Nat.le_log2 (by omega)).2 (by omega)
/-- the root of leaves -/
def troot (ls : List (List UInt8)) : List UInt8 :=
  if h : 2 ≤ ls.length then tnode (troot (ls.take (hf ls.length))) (troot (ls.drop (hf ls.length)))
  else match ls with
    | [] => shaOf []
    | l :: _ => l
termination_by ls.length
decreasing_by
  · have := hf_lt h; rw [List.length_take]; omega
  · have := hf_pos ls.length; rw [List.length_drop]; omega
theorem troot_nil : troot [] = shaOf [] := by rw [troot]; rfl
theorem troot_one (l : List UInt8) : troot [l] = l := by rw [troot]; rfl
theorem troot_step {ls : List (List UInt8)} (h : 2 ≤ ls.length) : troot ls = tnode (troot (ls.take (hf ls.length))) (troot (ls.drop (hf ls.length))) := by
  rw [troot, dif_pos h]
theorem troot_length (ls : List (List UInt8)) (h : ∀ l ∈ ls, l.length = 32) : (troot ls).length = 32 := by
  by_cases h2 : 2 ≤ ls.length
  · rw [troot_step h2]; exact tnode_length _ _
  · match ls, h with
    | [], _ => rw [troot_nil]; exact shaOf_length _
    | [l], h => rw [troot_one]; exact h l (List.mem_cons_self ..)
    | _ :: _ :: _, _ => exact absurd (by simp) h2
/-- a leaf's path, from the leaf up -/
def tpath (ls : List (List UInt8)) (i : Nat) : List (List UInt8) :=
  if h : 2 ≤ ls.length then
    (if i < hf ls.length then tpath (ls.take (hf ls.length)) i ++ [troot (ls.drop (hf ls.length))]
    else tpath (ls.drop (hf ls.length)) (i - hf ls.length) ++ [troot (ls.take (hf ls.length))])
  else []
termination_by ls.length
decreasing_by
  · have := hf_lt h; rw [List.length_take]; omega
  · have := hf_pos ls.length; rw [List.length_drop]; omega
theorem tpath_one {ls : List (List UInt8)} (i : Nat) (h : ¬ 2 ≤ ls.length) : tpath ls i = [] := by rw [tpath, dif_neg h]
theorem tpath_left {ls : List (List UInt8)} {i : Nat} (h : 2 ≤ ls.length) (hi : i < hf ls.length) : tpath ls i = tpath (ls.take (hf ls.length)) i ++ [troot (ls.drop (hf ls.length))] := by rw [tpath, dif_pos h, if_pos hi]
theorem tpath_right {ls : List (List UInt8)} {i : Nat} (h : 2 ≤ ls.length) (hi : ¬ i < hf ls.length) : tpath ls i = tpath (ls.drop (hf ls.length)) (i - hf ls.length) ++ [troot (ls.take (hf ls.length))] := by rw [tpath, dif_pos h, if_neg hi]
theorem tpath_dig : ∀ (n : Nat) (ls : List (List UInt8)) (i : Nat), ls.length ≤ n → (∀ l ∈ ls, l.length = 32) → ∀ p ∈ tpath ls i, p.length = 32
  | 0, ls, i, hn, hd, p, hp => by rw [tpath_one i (by omega)] at hp; cases hp
  | n + 1, ls, i, hn, hd, p, hp => by
    by_cases h2 : 2 ≤ ls.length
    · have h3 := hf_lt h2
      have h4 := hf_pos ls.length
      by_cases hi : i < hf ls.length
      · rw [tpath_left h2 hi] at hp
        rcases List.mem_append.1 hp with hp | hp
        · exact tpath_dig n _ i (by rw [List.length_take]; omega) (fun l hl => hd l (List.mem_of_mem_take hl)) p hp
        · rw [List.mem_singleton.1 hp]; exact troot_length _ (fun l hl => hd l (List.mem_of_mem_drop hl))
      · rw [tpath_right h2 hi] at hp
        rcases List.mem_append.1 hp with hp | hp
        · exact tpath_dig n _ _ (by rw [List.length_drop]; omega) (fun l hl => hd l (List.mem_of_mem_drop hl)) p hp
        · rw [List.mem_singleton.1 hp]; exact troot_length _ (fun l hl => hd l (List.mem_of_mem_take hl))
    · rw [tpath_one i h2] at hp; cases hp
/-- the sides of a leaf's way, from the root down: is it on the left? -/
def tsides (i n : Nat) : List Bool :=
  if h : 2 ≤ n then (if i < hf n then true :: tsides i (hf n) else false :: tsides (i - hf n) (n - hf n)) else []
termination_by n
decreasing_by
  · exact hf_lt h
  · have := hf_pos n; omega
theorem tsides_one {i n : Nat} (h : ¬ 2 ≤ n) : tsides i n = [] := by rw [tsides, dif_neg h]
theorem tsides_left {i n : Nat} (h : 2 ≤ n) (hi : i < hf n) : tsides i n = true :: tsides i (hf n) := by rw [tsides, dif_pos h, if_pos hi]
theorem tsides_right {i n : Nat} (h : 2 ≤ n) (hi : ¬ i < hf n) : tsides i n = false :: tsides (i - hf n) (n - hf n) := by rw [tsides, dif_pos h, if_neg hi]
/-- how long a leaf's path is -/
def tlong (i n : Nat) : Nat := (tsides i n).length
theorem tlong_one {i n : Nat} (h : ¬ 2 ≤ n) : tlong i n = 0 := by unfold tlong; rw [tsides_one h]; rfl
theorem tlong_left {i n : Nat} (h : 2 ≤ n) (hi : i < hf n) : tlong i n = 1 + tlong i (hf n) := by unfold tlong; rw [tsides_left h hi, List.length_cons]; omega
theorem tlong_right {i n : Nat} (h : 2 ≤ n) (hi : ¬ i < hf n) : tlong i n = 1 + tlong (i - hf n) (n - hf n) := by unfold tlong; rw [tsides_right h hi, List.length_cons]; omega
theorem tlong_le : ∀ (m i n : Nat), n ≤ m + 1 → tlong i n ≤ m
  | 0, i, n, h => by rw [tlong_one (by omega)]; exact Nat.le_refl _
  | m + 1, i, n, h => by
    by_cases h2 : 2 ≤ n
    · have h3 := hf_lt h2
      have h4 := hf_pos n
      by_cases hi : i < hf n
      · rw [tlong_left h2 hi]
        have := tlong_le m i (hf n) (by omega)
        omega
      · rw [tlong_right h2 hi]
        have := tlong_le m (i - hf n) (n - hf n) (by omega)
        omega
    · rw [tlong_one h2]; omega
theorem tpath_long : ∀ (n : Nat) (ls : List (List UInt8)) (i : Nat), ls.length ≤ n → (tpath ls i).length = tlong i ls.length
  | 0, ls, i, h => by rw [tpath_one i (by omega), tlong_one (by omega)]; rfl
  | n + 1, ls, i, h => by
    by_cases h2 : 2 ≤ ls.length
    · have h3 := hf_lt h2
      have h4 := hf_pos ls.length
      have e1 : (ls.take (hf ls.length)).length = hf ls.length := by rw [List.length_take]; omega
      have e2 : (ls.drop (hf ls.length)).length = ls.length - hf ls.length := List.length_drop
      by_cases hi : i < hf ls.length
      · rw [tpath_left h2 hi, tlong_left h2 hi, List.length_append, tpath_long n _ i (by omega), e1, List.length_singleton]; omega
      · rw [tpath_right h2 hi, tlong_right h2 hi, List.length_append, tpath_long n _ _ (by omega), e2, List.length_singleton]; omega
    · rw [tpath_one i h2, tlong_one h2]; rfl
/-- up along sides, from the leaf's own on -/
def foldS : List UInt8 → List Bool → List (List UInt8) → List UInt8
  | l, b :: bs, p :: ps => foldS (if b then tnode l p else tnode p l) bs ps
  | l, _, _ => l
theorem foldS_snoc : ∀ (bs : List Bool) (ps : List (List UInt8)) (l : List UInt8) (b : Bool) (p : List UInt8), bs.length = ps.length → foldS l (bs ++ [b]) (ps ++ [p]) = if b then tnode (foldS l bs ps) p else tnode p (foldS l bs ps)
  | [], [], l, b, p, _ => by simp [foldS]
  | [], _ :: _, _, _, _, h => by simp at h
  | _ :: _, [], _, _, _, h => by simp at h
  | c :: bs, q :: ps, l, b, p, h => by
    rw [List.cons_append, List.cons_append, foldS, foldS_snoc bs ps _ b p (by simpa using h), foldS]
theorem foldS_length : ∀ (bs : List Bool) (ps : List (List UInt8)) (l : List UInt8), l.length = 32 → (foldS l bs ps).length = 32
  | [], [], l, h => h
  | [], _ :: _, l, h => h
  | _ :: _, [], l, h => h
  | b :: bs, p :: ps, l, h => by
    rw [foldS]
    refine foldS_length bs ps _ ?_
    cases b <;> exact tnode_length _ _
/-- what a leaf and a path fold to -/
def tfold (l : List UInt8) (i n : Nat) (ps : List (List UInt8)) : List UInt8 := foldS l (tsides i n).reverse ps
theorem tfold_length (l : List UInt8) (i n : Nat) (ps : List (List UInt8)) (h : l.length = 32) : (tfold l i n ps).length = 32 := foldS_length _ _ _ h
theorem tfold_one {l : List UInt8} {i n : Nat} {ps : List (List UInt8)} (h : ¬ 2 ≤ n) (hl : ps.length = tlong i n) : tfold l i n ps = l := by
  rw [tlong_one h] at hl
  obtain rfl := List.length_eq_zero_iff.1 hl
  unfold tfold
  rw [tsides_one h]; rfl
theorem tfold_left {l : List UInt8} {i n : Nat} {ps : List (List UInt8)} {p : List UInt8} (h : 2 ≤ n) (hi : i < hf n) (hl : (ps ++ [p]).length = tlong i n) : tfold l i n (ps ++ [p]) = tnode (tfold l i (hf n) ps) p := by
  rw [tlong_left h hi, List.length_append, List.length_singleton] at hl
  unfold tfold
  rw [tsides_left h hi, List.reverse_cons, foldS_snoc _ _ _ _ _ (by rw [List.length_reverse]; unfold tlong at hl; omega), if_pos rfl]
theorem tfold_right {l : List UInt8} {i n : Nat} {ps : List (List UInt8)} {p : List UInt8} (h : 2 ≤ n) (hi : ¬ i < hf n) (hl : (ps ++ [p]).length = tlong i n) : tfold l i n (ps ++ [p]) = tnode p (tfold l (i - hf n) (n - hf n) ps) := by
  rw [tlong_right h hi, List.length_append, List.length_singleton] at hl
  unfold tfold
  rw [tsides_right h hi, List.reverse_cons, foldS_snoc _ _ _ _ _ (by rw [List.length_reverse]; unfold tlong at hl; omega), if_neg (by simp)]
/-- MERKLE: a leaf and its path fold to the root -/
theorem tfold_path : ∀ (n : Nat) (ls : List (List UInt8)) (i : Nat) (l : List UInt8), ls[i]? = some l → ls.length ≤ n → tfold l i ls.length (tpath ls i) = troot ls
  | 0, ls, i, l, h, hn => by have := (List.getElem?_eq_some_iff.1 h).1; omega
  | n + 1, ls, i, l, h, hn => by
    have hlt := (List.getElem?_eq_some_iff.1 h).1
    by_cases h2 : 2 ≤ ls.length
    · have h3 := hf_lt h2
      have h4 := hf_pos ls.length
      have e1 : (ls.take (hf ls.length)).length = hf ls.length := by rw [List.length_take]; omega
      have e2 : (ls.drop (hf ls.length)).length = ls.length - hf ls.length := List.length_drop
      have hl := tpath_long (n + 1) ls i hn
      by_cases hi : i < hf ls.length
      · rw [tpath_left h2 hi] at hl ⊢
        rw [tfold_left h2 hi hl, troot_step h2]
        have := tfold_path n (ls.take (hf ls.length)) i l (by rw [List.getElem?_take, if_pos hi]; exact h) (by omega)
        rw [e1] at this
        rw [this]
      · rw [tpath_right h2 hi] at hl ⊢
        rw [tfold_right h2 hi hl, troot_step h2]
        have := tfold_path n (ls.drop (hf ls.length)) (i - hf ls.length) l (by rw [List.getElem?_drop, show hf ls.length + (i - hf ls.length) = i by omega]; exact h) (by omega)
        rw [e2] at this
        rw [this]
    · match ls, h, h2, hlt with
      | [], h, _, _ => simp at h
      | [x], h, h2, hlt =>
        obtain rfl : i = 0 := by simpa using hlt
        rw [tpath_one 0 h2, tfold_one h2 (by rw [tlong_one h2]; rfl), troot_one]
        simpa using h.symm
      | _ :: _ :: _, _, h2, _ => exact absurd (by simp) h2
/-- the path from the root down, as it is found -/
theorem tpath_rev_left {ls : List (List UInt8)} {i : Nat} (h : 2 ≤ ls.length) (hi : i < hf ls.length) : (tpath ls i).reverse = troot (ls.drop (hf ls.length)) :: (tpath (ls.take (hf ls.length)) i).reverse := by rw [tpath_left h hi]; simp
theorem tpath_rev_right {ls : List (List UInt8)} {i : Nat} (h : 2 ≤ ls.length) (hi : ¬ i < hf ls.length) : (tpath ls i).reverse = troot (ls.take (hf ls.length)) :: (tpath (ls.drop (hf ls.length)) (i - hf ls.length)).reverse := by rw [tpath_right h hi]; simp
end Go.Proofs.YtkioddmhjbaleaaDoor
