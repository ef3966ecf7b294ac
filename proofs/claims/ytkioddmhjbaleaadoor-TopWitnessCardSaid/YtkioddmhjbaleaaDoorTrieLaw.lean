/- Law: a digest for a map. No walk is in it. -/
import Derived.Test.YtkioddmhjbaleaaDoorRPut
import Derived.Test.YtkioddmhjbaleaaDoorDigOf
import Derived.Test.YtkioddmhjbaleaaDoorShaBase
namespace Go.Proofs.YtkioddmhjbaleaaDoor
open Go.RowKit
set_option linter.unusedVariables false
/-- an entry -/
structure En where
  key : Int
  val : List UInt8
def leafTxt (k : Nat) (v : List UInt8) : List UInt8 := 9 :: (beS 4 k ++ v)
theorem leafTxt_length (k : Nat) (v : List UInt8) (h : v.length = 32) : (leafTxt k v).length = 37 := by simp [leafTxt, beS_length, h]
def leafD (k : Nat) (v : List UInt8) : List UInt8 := shaOf (leafTxt k v)
theorem leafD_length (k : Nat) (v : List UInt8) : (leafD k v).length = 32 := shaOf_length _
def nodeTxt (l r : List UInt8) : List UInt8 := 10 :: (l ++ r)
def nodeD (l r : List UInt8) : List UInt8 := if l == nz && r == nz then nz else shaOf (nodeTxt l r)
theorem nodeTxt_length (l r : List UInt8) (h1 : l.length = 32) (h2 : r.length = 32) : (nodeTxt l r).length = 65 := by simp [nodeTxt, h1, h2]
theorem nodeD_length (l r : List UInt8) : (nodeD l r).length = 32 := by
  unfold nodeD
  split
  · rfl
  · exact shaOf_length _
theorem nodeD_nz : nodeD nz nz = nz := rfl
/-- the digest of all keys that begin like p, of which each has some digest -/
def treeD : Nat → (Nat → List UInt8) → Nat → List UInt8
  | 0, f, p => f p
  | n + 1, f, p => nodeD (treeD n f (2 * p)) (treeD n f (2 * p + 1))
theorem treeD_congr (f g : Nat → List UInt8) : ∀ (n p : Nat), (∀ q, p * 2 ^ n ≤ q → q < (p + 1) * 2 ^ n → f q = g q) → treeD n f p = treeD n g p
  | 0, p, h => h p (by simp) (by simp)
  | n + 1, p, h => by
    have e : 2 ^ (n + 1) = 2 * 2 ^ n := by rw [Nat.pow_succ]; omega
    have e1 : p * 2 ^ (n + 1) = 2 * p * 2 ^ n := by rw [e, ← Nat.mul_assoc, Nat.mul_comm p 2]
    have e2 : (p + 1) * 2 ^ (n + 1) = (2 * p + 1 + 1) * 2 ^ n := by rw [e, ← Nat.mul_assoc]; congr 1; omega
    have e3 : (2 * p + 1) * 2 ^ n = 2 * p * 2 ^ n + 2 ^ n := by rw [Nat.add_mul]; omega
    have e4 : (2 * p + 1 + 1) * 2 ^ n = (2 * p + 1) * 2 ^ n + 2 ^ n := by rw [Nat.add_mul (2 * p + 1)]; omega
    rw [treeD, treeD, treeD_congr f g n (2 * p) (fun q h1 h2 => h q (by omega) (by omega)), treeD_congr f g n (2 * p + 1) (fun q h1 h2 => h q (by omega) (by omega))]
theorem treeD_nz : ∀ (n p : Nat), treeD n (fun _ => nz) p = nz
  | 0, p => rfl
  | n + 1, p => by rw [treeD, treeD_nz, treeD_nz, nodeD_nz]
theorem treeD_none (f : Nat → List UInt8) (n p : Nat) (h : ∀ q, p * 2 ^ n ≤ q → q < (p + 1) * 2 ^ n → f q = nz) : treeD n f p = nz :=
  (treeD_congr f (fun _ => nz) n p h).trans (treeD_nz n p)
theorem treeD_length (f : Nat → List UInt8) (h : ∀ q, (f q).length = 32) : ∀ (n p : Nat), (treeD n f p).length = 32
  | 0, p => h p
  | n + 1, p => nodeD_length _ _
/-- what stands beside a key's way up, so far up -/
def sib (f : Nat → List UInt8) (k b : Nat) : List UInt8 := treeD b f (if k / 2 ^ b % 2 = 1 then k / 2 ^ b - 1 else k / 2 ^ b + 1)
theorem sib_length (f : Nat → List UInt8) (h : ∀ q, (f q).length = 32) (k b : Nat) : (sib f k b).length = 32 := treeD_length f h _ _
def pathD (f : Nat → List UInt8) (k : Nat) : List (List UInt8) := (List.range 32).map (sib f k)
theorem pathD_length (f : Nat → List UInt8) (k : Nat) : (pathD f k).length = 32 := by simp [pathD]
/-- a leaf at a key, and what stands beside its way up -/
def foldD : Nat → List UInt8 → List (List UInt8) → List UInt8
  | _, l, [] => l
  | k, l, p :: ps => foldD (k / 2) (if k % 2 = 1 then nodeD p l else nodeD l p) ps
theorem foldD_snoc : ∀ (ps : List (List UInt8)) (k : Nat) (l p : List UInt8), foldD k l (ps ++ [p]) = if k / 2 ^ ps.length % 2 = 1 then nodeD p (foldD k l ps) else nodeD (foldD k l ps) p
  | [], k, l, p => by simp [foldD]
  | q :: ps, k, l, p => by
    rw [List.cons_append, foldD, foldD_snoc ps, foldD, List.length_cons, Nat.pow_succ, Nat.mul_comm, ← Nat.div_div_eq_div_mul]
theorem foldD_tree (f : Nat → List UInt8) (k : Nat) : ∀ n, foldD k (f k) ((List.range n).map (sib f k)) = treeD n f (k / 2 ^ n)
  | 0 => by simp [foldD, treeD]
  | n + 1 => by
    rw [List.range_succ, List.map_append, List.map_cons, List.map_nil, foldD_snoc, List.length_map, List.length_range, foldD_tree f k n, treeD]
    have e : k / 2 ^ (n + 1) = k / 2 ^ n / 2 := by rw [Nat.pow_succ, Nat.div_div_eq_div_mul]
    rw [e]
    unfold sib
    generalize k / 2 ^ n = x
    by_cases h : x % 2 = 1
    · rw [if_pos h, if_pos h, show 2 * (x / 2) = x - 1 by omega, show x - 1 + 1 = x by omega]
    · rw [if_neg h, if_neg h, show 2 * (x / 2) = x by omega]
theorem foldD_path (f : Nat → List UInt8) (k : Nat) (hk : k < 2 ^ 32) : foldD k (f k) (pathD f k) = treeD 32 f 0 := by
  unfold pathD
  rw [foldD_tree f k 32, Nat.div_eq_of_lt hk]
/-- beside the way up of a key all other keys stand -/
theorem sib_congr (f g : Nat → List UInt8) (k b : Nat) (h : ∀ q, q ≠ k → f q = g q) : sib f k b = sib g k b := by
  unfold sib
  have hp : 0 < 2 ^ b := Nat.two_pow_pos b
  obtain ⟨x, hx⟩ : ∃ x, x = k / 2 ^ b := ⟨_, rfl⟩
  rw [← hx]
  refine treeD_congr f g b _ fun q h1 h2 => h q ?_
  rintro rfl
  by_cases hx1 : x % 2 = 1
  · rw [if_pos hx1] at h1 h2
    have : q / 2 ^ b < x - 1 + 1 := (Nat.div_lt_iff_lt_mul hp).2 h2
    omega
  · rw [if_neg hx1] at h1 h2
    have : x + 1 ≤ q / 2 ^ b := (Nat.le_div_iff_mul_le hp).2 h1
    omega
theorem pathD_congr (f g : Nat → List UInt8) (k : Nat) (h : ∀ q, q ≠ k → f q = g q) : pathD f k = pathD g k := by
  unfold pathD
  exact List.map_congr_left fun b _ => sib_congr f g k b h
/-- what a map has at a key -/
def leafF (es : List En) (k : Nat) : List UInt8 := match es.find? (fun e => e.key == (k : Int)) with
  | some e => leafD k e.val
  | none => nz
theorem leafF_length (es : List En) (k : Nat) : (leafF es k).length = 32 := by
  unfold leafF
  split
  · exact leafD_length _ _
  · rfl
theorem leafF_none (es : List En) (k : Nat) (h : ∀ e ∈ es, e.key ≠ (k : Int)) : leafF es k = nz := by
  unfold leafF
  rw [List.find?_eq_none.2 (fun e he => by simpa using h e he)]
theorem leafF_filter (es : List En) (p : En → Bool) (k : Nat) (h : ∀ e ∈ es, e.key = (k : Int) → p e = true) : leafF (es.filter p) k = leafF es k := by
  unfold leafF
  have key : ∀ es : List En, (∀ e ∈ es, e.key = (k : Int) → p e = true) → (es.filter p).find? (fun e => e.key == (k : Int)) = es.find? (fun e => e.key == (k : Int)) := by
    intro es
    induction es with
    | nil => intro _; rfl
    | cons a es ih =>
      intro h
      have ih := ih (fun e he => h e (List.mem_cons_of_mem _ he))
      by_cases e : a.key = (k : Int)
      · have := h a (List.mem_cons_self ..) e
        rw [List.filter_cons, if_pos this, List.find?_cons_of_pos (by simpa using e), List.find?_cons_of_pos (by simpa using e)]
      · rw [List.find?_cons_of_neg (by simpa using e), ← ih, List.filter_cons]
        split
        · rw [List.find?_cons_of_neg (by simpa using e)]
        · rfl
  rw [key es h]
/-- no key stands twice -/
def Apart (es : List En) : Prop := es.Pairwise fun a b => a.key ≠ b.key
theorem leafF_mem (es : List En) (h : Apart es) (e : En) (he : e ∈ es) (k : Nat) (hk : e.key = (k : Int)) : leafF es k = leafD k e.val := by
  unfold leafF
  induction es with
  | nil => cases he
  | cons a es ih =>
    rw [List.find?_cons]
    rcases List.mem_cons.1 he with rfl | he2
    · simp [hk]
    · have h2 := List.pairwise_cons.1 h
      have : a.key ≠ (k : Int) := by rw [← hk]; exact h2.1 e he2
      simp only [beq_eq_false_iff_ne.2 this]
      exact ih h2.2 he2
/-- in any order -/
theorem leafF_same (es fs : List En) (h : Apart es) (h2 : Apart fs) (hm : ∀ e, e ∈ es ↔ e ∈ fs) (k : Nat) : leafF es k = leafF fs k := by
  by_cases hk : ∃ e ∈ es, e.key = (k : Int)
  · obtain ⟨e, he, hk⟩ := hk
    rw [leafF_mem es h e he k hk, leafF_mem fs h2 e ((hm e).1 he) k hk]
  · rw [leafF_none es k (fun e he hke => hk ⟨e, he, hke⟩), leafF_none fs k (fun e he hke => hk ⟨e, (hm e).2 he, hke⟩)]
/-- the digest of a map -/
def rootD (es : List En) : List UInt8 := treeD 32 (leafF es) 0
theorem rootD_length (es : List En) : (rootD es).length = 32 := treeD_length _ (leafF_length es) _ _
theorem rootD_nil : rootD [] = nz := treeD_none _ _ _ (fun q _ _ => rfl)
/-! entries that stand by their keys, halved again and again -/
def bitE (b : Nat) (e : En) : Bool := e.key.toNat / 2 ^ b % 2 == 1
def rootL : Nat → List En → List UInt8
  | _, [] => nz
  | 0, e :: _ => leafD e.key.toNat e.val
  | b + 1, es => nodeD (rootL b (es.takeWhile fun e => !(bitE b e))) (rootL b (es.dropWhile fun e => !(bitE b e)))
/-- all the keys begin like p -/
def InP (b p : Nat) (es : List En) : Prop := ∀ e ∈ es, ((p * 2 ^ b : Nat) : Int) ≤ e.key ∧ e.key < (((p + 1) * 2 ^ b : Nat) : Int)
def Up (es : List En) : Prop := es.Pairwise fun a b => a.key < b.key
theorem Up.apart {es : List En} (h : Up es) : Apart es := h.imp fun h => by omega
theorem up_halves (es : List En) (b p : Nat) (hu : Up es) (hp : InP (b + 1) p es) :
    (es.takeWhile fun e => !(bitE b e)) = es.filter (fun e => decide (e.key < (((2 * p + 1) * 2 ^ b : Nat) : Int))) ∧ (es.dropWhile fun e => !(bitE b e)) = es.filter (fun e => !decide (e.key < (((2 * p + 1) * 2 ^ b : Nat) : Int))) := by
  have e0 : 2 ^ (b + 1) = 2 * 2 ^ b := by rw [Nat.pow_succ]; omega
  have hp0 : 0 < 2 ^ b := Nat.two_pow_pos b
  have key : ∀ e ∈ es, bitE b e = !decide (e.key < (((2 * p + 1) * 2 ^ b : Nat) : Int)) := by
    intro e he
    obtain ⟨h1, h2⟩ := hp e he
    obtain ⟨k, hk⟩ : ∃ k : Nat, e.key = (k : Int) := ⟨e.key.toNat, by omega⟩
    unfold bitE
    rw [hk] at h1 h2 ⊢
    rw [Int.toNat_natCast]
    have e1 : p * 2 ^ (b + 1) = 2 * p * 2 ^ b := by rw [e0, ← Nat.mul_assoc, Nat.mul_comm p 2]
    have e2 : (p + 1) * 2 ^ (b + 1) = (2 * p + 1 + 1) * 2 ^ b := by rw [e0, ← Nat.mul_assoc]; congr 1; omega
    rw [e1] at h1
    rw [e2] at h2
    have h1 : 2 * p * 2 ^ b ≤ k := by exact_mod_cast h1
    have h2 : k < (2 * p + 1 + 1) * 2 ^ b := by exact_mod_cast h2
    have g1 : 2 * p ≤ k / 2 ^ b := (Nat.le_div_iff_mul_le hp0).2 h1
    have g2 : k / 2 ^ b < 2 * p + 1 + 1 := (Nat.div_lt_iff_lt_mul hp0).2 h2
    by_cases c : k < (2 * p + 1) * 2 ^ b
    · have g3 : k / 2 ^ b < 2 * p + 1 := (Nat.div_lt_iff_lt_mul hp0).2 c
      have c2 : (k : Int) < (((2 * p + 1) * 2 ^ b : Nat) : Int) := by exact_mod_cast c
      rw [decide_eq_true c2, show k / 2 ^ b = 2 * p by omega]
      simp
    · have g3 : 2 * p + 1 ≤ k / 2 ^ b := (Nat.le_div_iff_mul_le hp0).2 (by omega)
      have c2 : ¬ (k : Int) < (((2 * p + 1) * 2 ^ b : Nat) : Int) := by intro h; exact c (by exact_mod_cast h)
      rw [decide_eq_false c2, show k / 2 ^ b = 2 * p + 1 by omega, show (2 * p + 1) % 2 = 1 by omega]
      rfl
  generalize (((2 * p + 1) * 2 ^ b : Nat) : Int) = m at key
  clear hp
  induction es with
  | nil => exact ⟨rfl, rfl⟩
  | cons a es ih =>
    obtain ⟨h1, h2⟩ := List.pairwise_cons.1 hu
    obtain ⟨i1, i2⟩ := ih h2 (fun e he => key e (List.mem_cons_of_mem _ he))
    have ka := key a (List.mem_cons_self ..)
    by_cases c : a.key < m
    · rw [decide_eq_true c] at ka
      simp only [List.takeWhile_cons, List.dropWhile_cons, ka, Bool.not_true, Bool.not_false, if_true, List.filter_cons, decide_eq_true c, i1, i2]
      refine ⟨?_, ?_⟩ <;> first | trivial | rfl
    · rw [decide_eq_false c] at ka
      have hall : ∀ e ∈ es, ¬ e.key < m := fun e he => by have := h1 e he; omega
      have f1 : es.filter (fun e => decide (e.key < m)) = [] := List.filter_eq_nil_iff.2 fun e he => by simpa using hall e he
      have f2 : es.filter (fun e => !decide (e.key < m)) = es := List.filter_eq_self.2 fun e he => by simpa using hall e he
      simp only [List.takeWhile_cons, List.dropWhile_cons, ka, Bool.not_false, Bool.not_true, List.filter_cons, decide_eq_false c, f1, f2]
      refine ⟨?_, ?_⟩ <;> first | trivial | rfl
theorem rootL_succ (b : Nat) (e : En) (es : List En) : rootL (b + 1) (e :: es) = nodeD (rootL b ((e :: es).takeWhile fun e => !(bitE b e))) (rootL b ((e :: es).dropWhile fun e => !(bitE b e))) := rfl
theorem rootL_eq : ∀ (b p : Nat) (es : List En), Up es → InP b p es → rootL b es = treeD b (leafF es) p
  | 0, p, [], _, _ => rfl
  | b + 1, p, [], _, _ => (treeD_none _ _ _ (fun q _ _ => rfl)).symm
  | 0, p, e :: es, hu, hp => by
    have h := hp e (List.mem_cons_self ..)
    simp only [Nat.pow_zero, Nat.mul_one] at h
    have hk : e.key = (p : Int) := by omega
    rw [rootL, treeD, leafF_mem _ hu.apart e (List.mem_cons_self ..) p hk, hk, Int.toNat_natCast]
  | b + 1, p, e :: es, hu, hp => by
    rw [rootL_succ, treeD]
    obtain ⟨h1, h2⟩ := up_halves (e :: es) b p hu hp
    rw [h1, h2]
    have e0 : 2 ^ (b + 1) = 2 * 2 ^ b := by rw [Nat.pow_succ]; omega
    have e1 : p * 2 ^ (b + 1) = 2 * p * 2 ^ b := by rw [e0, ← Nat.mul_assoc, Nat.mul_comm p 2]
    have e2 : (p + 1) * 2 ^ (b + 1) = (2 * p + 1 + 1) * 2 ^ b := by rw [e0, ← Nat.mul_assoc]; congr 1; omega
    have q1 : InP b (2 * p) ((e :: es).filter fun e => decide (e.key < (((2 * p + 1) * 2 ^ b : Nat) : Int))) := by
      intro x hx
      obtain ⟨hx1, hx2⟩ := List.mem_filter.1 hx
      have := hp x hx1
      rw [e1] at this
      exact ⟨this.1, of_decide_eq_true hx2⟩
    have q2 : InP b (2 * p + 1) ((e :: es).filter fun e => !decide (e.key < (((2 * p + 1) * 2 ^ b : Nat) : Int))) := by
      intro x hx
      obtain ⟨hx1, hx2⟩ := List.mem_filter.1 hx
      have := hp x hx1
      rw [e2] at this
      have hx3 : ¬ x.key < (((2 * p + 1) * 2 ^ b : Nat) : Int) := by simpa using hx2
      exact ⟨by omega, this.2⟩
    rw [rootL_eq b (2 * p) _ (hu.filter _) q1, rootL_eq b (2 * p + 1) _ (hu.filter _) q2]
    congr 1
    · refine treeD_congr _ _ _ _ fun q g1 g2 => leafF_filter _ _ _ fun x _ hx => ?_
      rw [hx]
      exact decide_eq_true (by exact_mod_cast g2)
    · refine treeD_congr _ _ _ _ fun q g1 g2 => leafF_filter _ _ _ fun x _ hx => ?_
      rw [hx, decide_eq_false (by intro h; have h : q < (2 * p + 1) * 2 ^ b := by exact_mod_cast h
                                  omega)]
      rfl
/-! as the document reckons it -/
def inR (from_ many : Nat) (e : En) : Bool := decide ((from_ : Int) ≤ e.key) && decide (e.key - (from_ : Int) < (many : Int))
def mapR : Nat → Nat → List En → List UInt8
  | 0, from_, es => match es.filter (inR from_ (2 ^ 0)) with
    | [] => nz
    | e :: _ => leafD e.key.toNat e.val
  | b + 1, from_, es => if (es.filter (inR from_ (2 ^ (b + 1)))).isEmpty then nz else nodeD (mapR b from_ (es.filter (inR from_ (2 ^ (b + 1))))) (mapR b (from_ + 2 ^ b) (es.filter (inR from_ (2 ^ (b + 1)))))
theorem mapR_none (b from_ : Nat) (es : List En) (h : es.filter (inR from_ (2 ^ b)) = []) : mapR b from_ es = nz := by
  cases b with
  | zero => rw [mapR, h]
  | succ b => rw [mapR, h]; rfl
theorem mapR_zero (from_ : Nat) (es : List En) (e : En) (r : List En) (h : es.filter (inR from_ (2 ^ 0)) = e :: r) : mapR 0 from_ es = leafD e.key.toNat e.val := by rw [mapR, h]
theorem mapR_succ (b from_ : Nat) (es : List En) (h : es.filter (inR from_ (2 ^ (b + 1))) ≠ []) : mapR (b + 1) from_ es = nodeD (mapR b from_ (es.filter (inR from_ (2 ^ (b + 1))))) (mapR b (from_ + 2 ^ b) (es.filter (inR from_ (2 ^ (b + 1))))) := by
  rw [mapR, if_neg (by simpa [List.isEmpty_iff] using h)]
theorem mapR_eq : ∀ (b p : Nat) (es : List En), Apart es → mapR b (p * 2 ^ b) es = treeD b (leafF es) p := by
  intro b
  induction b with
  | zero =>
    intro p es ha
    have hf : leafF (es.filter (inR (p * 2 ^ 0) (2 ^ 0))) p = leafF es p := leafF_filter _ _ _ fun x _ hx => by
      unfold inR; rw [hx]; simp
    rw [treeD, ← hf]
    rcases h : es.filter (inR (p * 2 ^ 0) (2 ^ 0)) with _ | ⟨e, r⟩
    · rw [mapR_none _ _ _ h]; rfl
    · rw [mapR_zero _ _ _ _ h, ← h]
      have hm : e ∈ es.filter (inR (p * 2 ^ 0) (2 ^ 0)) := by rw [h]; exact List.mem_cons_self ..
      have h2 := (List.mem_filter.1 hm).2
      unfold inR at h2
      simp only [Nat.pow_zero, Nat.mul_one, Bool.and_eq_true, decide_eq_true_eq] at h2
      have hk : e.key = (p : Int) := by omega
      rw [leafF_mem _ (ha.filter _) e hm p hk, hk, Int.toNat_natCast]
  | succ b ih =>
    intro p es ha
    have e0 : 2 ^ (b + 1) = 2 * 2 ^ b := by rw [Nat.pow_succ]; omega
    have e1 : p * 2 ^ (b + 1) = 2 * p * 2 ^ b := by rw [e0, ← Nat.mul_assoc, Nat.mul_comm p 2]
    have e2 : (p + 1) * 2 ^ (b + 1) = (2 * p + 1 + 1) * 2 ^ b := by rw [e0, ← Nat.mul_assoc]; congr 1; omega
    have e3 : p * 2 ^ (b + 1) + 2 ^ b = (2 * p + 1) * 2 ^ b := by rw [e1, Nat.add_mul (2 * p)]; omega
    have e4 : (p + 1) * 2 ^ (b + 1) = p * 2 ^ (b + 1) + 2 ^ (b + 1) := by rw [Nat.add_mul, Nat.one_mul]
    have hin : ∀ q, p * 2 ^ (b + 1) ≤ q → q < (p + 1) * 2 ^ (b + 1) → leafF (es.filter (inR (p * 2 ^ (b + 1)) (2 ^ (b + 1)))) q = leafF es q := fun q g1 g2 => leafF_filter _ _ _ fun x _ hx => by
      unfold inR; rw [hx, Bool.and_eq_true, decide_eq_true_iff, decide_eq_true_iff]; omega
    rw [← treeD_congr _ _ (b + 1) p hin]
    by_cases h : es.filter (inR (p * 2 ^ (b + 1)) (2 ^ (b + 1))) = []
    · rw [mapR_none _ _ _ h, h]; exact (treeD_none _ _ _ (fun q _ _ => rfl)).symm
    · rw [mapR_succ _ _ _ h]
      generalize he : es.filter (inR (p * 2 ^ (b + 1)) (2 ^ (b + 1))) = fs
      rw [e3, e1, ih (2 * p) fs (by rw [← he]; exact ha.filter _), ih (2 * p + 1) fs (by rw [← he]; exact ha.filter _)]
      rfl
end Go.Proofs.YtkioddmhjbaleaaDoor
