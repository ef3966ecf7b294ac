/- Law: of two notes that differ, the bytes of neither begin those of the other. -/
import Derived.Test.YtppjmonbmlbhpaaWrite
namespace Go.Proofs.Ytppjmonbmlbhpaa
set_option linter.unusedVariables false

theorem be4_inj {n m : Nat} (hn : n < 4294967296) (hm : m < 4294967296) (h : be4 n = be4 m) : n = m := by
  have e : ∀ j, j < 4 → beE n j = beE m j := by
    intro j hj
    have := congrArg (fun l => l[j]?) h
    unfold be4 at this
    simp only [List.getElem?_map, List.getElem?_range hj, Option.map_some, Option.some.injEq] at this
    exact this
  have g : ∀ j, j < 4 → n / 2 ^ (8 * (3 - j)) % 256 = m / 2 ^ (8 * (3 - j)) % 256 := by
    intro j hj
    have := congrArg UInt8.toNat (e j hj)
    unfold beE at this
    rwa [UInt8.toNat_ofNat', UInt8.toNat_ofNat'] at this
  have g0 := g 0 (by omega)
  have g1 := g 1 (by omega)
  have g2 := g 2 (by omega)
  have g3 := g 3 (by omega)
  simp only [Nat.reduceSub, Nat.reduceMul, Nat.reducePow, Nat.pow_zero, Nat.mul_zero, Nat.div_one] at g0 g1 g2 g3
  omega
theorem noteB_eq (s : ByteArray) (key : List UInt8) (t : Nat) : noteB s key t = UInt8.ofNat s.size :: (sb s ++ (key ++ be4 t)) := by simp [noteB]
theorem noteB_inj {s s' : ByteArray} {k k' : List UInt8} {t t' : Nat} (hk : k.length = 32) (hk' : k'.length = 32) (hs : s.size = s'.size) (ht : t < 4294967296) (ht' : t' < 4294967296) (h : noteB s k t = noteB s' k' t') : s = s' ∧ k = k' ∧ t = t' := by
  rw [noteB_eq, noteB_eq] at h
  have h1 := (List.cons.inj h).2
  obtain ⟨a1, h2⟩ := List.append_inj h1 (by rw [sb_length, sb_length, hs])
  obtain ⟨a2, h3⟩ := List.append_inj h2 (by rw [hk, hk'])
  exact ⟨sb_inj a1, a2, be4_inj ht ht' h3⟩
theorem note_apart {s s' : ByteArray} {k k' : List UInt8} {t t' : Nat} (hk : k.length = 32) (hk' : k'.length = 32) (hs : s.size ≤ 30) (hs' : s'.size ≤ 30) (ht : t < 4294967296) (ht' : t' < 4294967296)
    (h : noteB s k t = (noteB s' k' t').take (noteB s k t).length) : s = s' ∧ k = k' ∧ t = t' := by
  have h0 := congrArg (fun l => l[0]?) h
  rw [noteB_length s k t hk] at h0
  rw [List.getElem?_take_of_lt (by omega), noteB_eq, noteB_eq] at h0
  simp only [List.getElem?_cons_zero, Option.some.injEq] at h0
  have h1 := congrArg UInt8.toNat h0
  rw [UInt8.toNat_ofNat', UInt8.toNat_ofNat'] at h1
  have hz : s.size = s'.size := by omega
  refine noteB_inj hk hk' hz ht ht' ?_
  rw [h, List.take_of_length_le]
  rw [noteB_length s' k' t' hk', noteB_length s k t hk, hz]
  exact Nat.le_refl _
end Go.Proofs.Ytppjmonbmlbhpaa
