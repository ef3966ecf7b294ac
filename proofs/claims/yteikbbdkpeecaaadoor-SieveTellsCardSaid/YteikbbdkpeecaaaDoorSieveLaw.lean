/- Law: a sieve of bits. No walk is in it. -/
import Derived.Test.YteikbbdkpeecaaaDoorOrdLaw
namespace Go.Proofs.YteikbbdkpeecaaaDoor
open Go.RowKit
set_option linter.unusedVariables false
/-- the text by which place number i of bytes is drawn -/
def sTxt (i : Nat) (b : List UInt8) : List UInt8 := 17 :: UInt8.ofNat i :: b
theorem sTxt_length (i : Nat) (b : List UInt8) : (sTxt i b).length = b.length + 2 := rfl
/-- place number i of bytes, in a sieve of L bytes -/
def sAt (L : Nat) (b : List UInt8) (i : Nat) : Nat := numB ((shaOf (sTxt i b)).take 4) % (8 * L)
def placesOf (L K : Nat) (b : List UInt8) : List Nat := (List.range K).map (sAt L b)
theorem sAt_lt (L : Nat) (hL : 0 < L) (b : List UInt8) (i : Nat) : sAt L b i < 8 * L := Nat.mod_lt _ (by omega)
theorem placesOf_lt (L : Nat) (hL : 0 < L) (K : Nat) (b : List UInt8) : ∀ p ∈ placesOf L K b, p < 8 * L := by
  intro p hp
  obtain ⟨i, _, rfl⟩ := List.mem_map.1 hp
  exact sAt_lt L hL b i
theorem placesOf_length (L K : Nat) (b : List UInt8) : (placesOf L K b).length = K := by simp [placesOf]
theorem placesOf_take (L K k : Nat) (hk : k ≤ K) (b : List UInt8) : (placesOf L K b).take k = placesOf L k b := by
  unfold placesOf
  rw [← List.map_take, List.take_range, Nat.min_eq_left hk]
theorem placesOf_succ (L k : Nat) (b : List UInt8) : placesOf L (k + 1) b = placesOf L k b ++ [sAt L b k] := by
  unfold placesOf; rw [List.range_succ, List.map_append]; rfl
/-- bit p of bytes -/
def bitB (l : List UInt8) (p : Nat) : Bool := (l.getD (p / 8) 0).toNat.testBit (p % 8)
/-- a byte with a bit more -/
def orB (x : UInt8) (k : Nat) : UInt8 := UInt8.ofNat (x.toNat ||| 2 ^ k)
def orX (x y : UInt8) : UInt8 := UInt8.ofNat (x.toNat ||| y.toNat)
def setB (l : List UInt8) (p : Nat) : List UInt8 := l.set (p / 8) (orB (l.getD (p / 8) 0) (p % 8))
def addAll (l : List UInt8) (ps : List Nat) : List UInt8 := ps.foldl setB l
def hasAll (l : List UInt8) (ps : List Nat) : Bool := ps.all (bitB l)
def joinB (l m : List UInt8) : List UInt8 := (List.range l.length).map fun i => orX (l.getD i 0) (m.getD i 0)
theorem or_lt (x : UInt8) (k : Nat) (hk : k < 8) : x.toNat ||| 2 ^ k < 256 := by
  have h1 : x.toNat < 2 ^ 8 := x.toNat_lt
  have h2 : 2 ^ k < 2 ^ 8 := Nat.pow_lt_pow_right (by omega) hk
  exact Nat.or_lt_two_pow h1 h2
theorem orB_toNat (x : UInt8) (k : Nat) (hk : k < 8) : (orB x k).toNat = x.toNat ||| 2 ^ k := by
  unfold orB; rw [UInt8.toNat_ofNat_of_lt' (by exact or_lt x k hk)]
theorem orX_toNat (x y : UInt8) : (orX x y).toNat = x.toNat ||| y.toNat := by
  unfold orX
  rw [UInt8.toNat_ofNat_of_lt' (by exact Nat.or_lt_two_pow (n := 8) x.toNat_lt y.toNat_lt)]
theorem setB_length (l : List UInt8) (p : Nat) : (setB l p).length = l.length := by simp [setB]
theorem addAll_length : ∀ (ps : List Nat) (l : List UInt8), (addAll l ps).length = l.length
  | [], _ => rfl
  | p :: ps, l => by show (addAll (setB l p) ps).length = _; rw [addAll_length ps, setB_length]
theorem joinB_length (l m : List UInt8) : (joinB l m).length = l.length := by simp [joinB]
theorem bit_set (l : List UInt8) (p q : Nat) (hp : p < 8 * l.length) : bitB (setB l p) q = (bitB l q || decide (p = q)) := by
  unfold bitB setB
  rw [List.getD_eq_getElem?_getD, List.getElem?_set]
  by_cases e : p / 8 = q / 8
  · rw [if_pos e, if_pos (by omega), Option.getD_some, orB_toNat _ _ (by omega), Nat.testBit_or, Nat.testBit_two_pow, e]
    congr 1
    rw [decide_eq_decide]
    omega
  · rw [if_neg e, ← List.getD_eq_getElem?_getD, decide_eq_false (by intro h; exact e (by rw [h])), Bool.or_false]
theorem bit_add : ∀ (ps : List Nat) (l : List UInt8) (q : Nat), (∀ p ∈ ps, p < 8 * l.length) → bitB (addAll l ps) q = (bitB l q || decide (q ∈ ps))
  | [], l, q, _ => by simp [addAll]
  | p :: ps, l, q, h => by
    show bitB (addAll (setB l p) ps) q = _
    rw [bit_add ps (setB l p) q (fun x hx => by rw [setB_length]; exact h x (List.mem_cons_of_mem _ hx)), bit_set l p q (h p (List.mem_cons_self ..)), Bool.or_assoc]
    congr 1
    rw [Bool.eq_iff_iff, Bool.or_eq_true, decide_eq_true_iff, decide_eq_true_iff, decide_eq_true_iff, List.mem_cons]
    exact ⟨fun h => h.elim (fun h => .inl h.symm) .inr, fun h => h.elim (fun h => .inl h.symm) .inr⟩
theorem bit_join (l m : List UInt8) (h : m.length = l.length) (q : Nat) : bitB (joinB l m) q = (bitB l q || bitB m q) := by
  unfold bitB joinB
  rw [List.getD_eq_getElem?_getD, List.getElem?_map]
  by_cases e : q / 8 < l.length
  · rw [List.getElem?_range e, Option.map_some, Option.getD_some, orX_toNat, Nat.testBit_or]
  · rw [List.getElem?_eq_none (by simp; omega), List.getD_eq_getElem?_getD, List.getElem?_eq_none (by omega), List.getD_eq_getElem?_getD, List.getElem?_eq_none (by omega)]
    simp
theorem bits_ext (l m : List UInt8) (h : l.length = m.length) (hb : ∀ q, bitB l q = bitB m q) : l = m := by
  apply List.ext_getElem h
  intro i h1 h2
  apply UInt8.toNat_inj.1
  apply Nat.eq_of_testBit_eq
  intro k
  by_cases hk : k < 8
  · have := hb (8 * i + k)
    unfold bitB at this
    rw [show (8 * i + k) / 8 = i by omega, show (8 * i + k) % 8 = k by omega, List.getD_eq_getElem?_getD, List.getD_eq_getElem?_getD, List.getElem?_eq_getElem h1, List.getElem?_eq_getElem h2] at this
    exact this
  · have hle : 2 ^ 8 ≤ 2 ^ k := Nat.pow_le_pow_right (by omega) (by omega)
    rw [Nat.testBit_lt_two_pow (Nat.lt_of_lt_of_le l[i].toNat_lt hle), Nat.testBit_lt_two_pow (Nat.lt_of_lt_of_le m[i].toNat_lt hle)]
/-- a sieve with many bytes more -/
def fillB (K : Nat) (l : List UInt8) (bs : List (List UInt8)) : List UInt8 := bs.foldl (fun l b => addAll l (placesOf l.length K b)) l
theorem fillB_length (K : Nat) : ∀ (bs : List (List UInt8)) (l : List UInt8), (fillB K l bs).length = l.length
  | [], _ => rfl
  | b :: bs, l => by show (fillB K (addAll l _) bs).length = _; rw [fillB_length K bs, addAll_length]
theorem fillB_snoc (K : Nat) (l : List UInt8) (bs : List (List UInt8)) (b : List UInt8) : fillB K l (bs ++ [b]) = addAll (fillB K l bs) (placesOf l.length K b) := by
  unfold fillB
  rw [List.foldl_append, List.foldl_cons, List.foldl_nil]
  have := fillB_length K bs l
  unfold fillB at this
  rw [this]
theorem bit_fill (K : Nat) (hK : True) : ∀ (bs : List (List UInt8)) (l : List UInt8) (q : Nat), 0 < l.length → bitB (fillB K l bs) q = (bitB l q || decide (∃ b ∈ bs, q ∈ placesOf l.length K b))
  | [], l, q, _ => by simp [fillB]
  | b :: bs, l, q, h => by
    show bitB (fillB K (addAll l (placesOf l.length K b)) bs) q = _
    rw [bit_fill K hK bs _ q (by rw [addAll_length]; exact h), addAll_length, bit_add _ _ _ (placesOf_lt _ h K b), Bool.or_assoc]
    congr 1
    rw [Bool.eq_iff_iff]
    simp
theorem has_fill (K : Nat) (l : List UInt8) (h : 0 < l.length) (bs : List (List UInt8)) (b : List UInt8) (hb : b ∈ bs) : hasAll (fillB K l bs) (placesOf l.length K b) = true := by
  unfold hasAll
  rw [List.all_eq_true]
  intro p hp
  rw [bit_fill K trivial bs l p h, decide_eq_true ⟨b, hb, hp⟩, Bool.or_true]
theorem has_more (K : Nat) (l : List UInt8) (h : 0 < l.length) (bs : List (List UInt8)) (b : List UInt8) (hb : hasAll l (placesOf l.length K b) = true) : hasAll (fillB K l bs) (placesOf l.length K b) = true := by
  unfold hasAll at hb ⊢
  rw [List.all_eq_true] at hb ⊢
  intro p hp
  rw [bit_fill K trivial bs l p h, hb p hp, Bool.true_or]
theorem join_fill (K : Nat) (l : List UInt8) (h : 0 < l.length) (us bs : List (List UInt8)) : joinB (fillB K l us) (fillB K l bs) = fillB K (fillB K l us) bs := by
  apply bits_ext
  · rw [joinB_length, fillB_length, fillB_length, fillB_length]
  · intro q
    rw [bit_join _ _ (by rw [fillB_length, fillB_length]), bit_fill K trivial us l q h, bit_fill K trivial bs l q h, bit_fill K trivial bs _ q (by rw [fillB_length]; exact h), fillB_length, bit_fill K trivial us l q h]
    cases bitB l q <;> simp
theorem fill_comm (K : Nat) (l : List UInt8) (h : 0 < l.length) (us bs : List (List UInt8)) : fillB K (fillB K l us) bs = fillB K (fillB K l bs) us := by
  apply bits_ext
  · rw [fillB_length, fillB_length, fillB_length, fillB_length]
  · intro q
    rw [bit_fill K trivial bs (fillB K l us) q (by rw [fillB_length]; exact h), bit_fill K trivial us (fillB K l bs) q (by rw [fillB_length]; exact h), fillB_length, fillB_length, bit_fill K trivial us l q h, bit_fill K trivial bs l q h, Bool.or_assoc, Bool.or_assoc]
    congr 1
    exact Bool.or_comm _ _
theorem bit_zero (n p : Nat) : bitB (List.replicate n 0) p = false := by
  unfold bitB
  rw [List.getD_eq_getElem?_getD]
  by_cases h : p / 8 < n
  · rw [List.getElem?_replicate, if_pos h]; simp
  · rw [List.getElem?_eq_none (by simp; omega)]; simp
end Go.Proofs.YteikbbdkpeecaaaDoor
