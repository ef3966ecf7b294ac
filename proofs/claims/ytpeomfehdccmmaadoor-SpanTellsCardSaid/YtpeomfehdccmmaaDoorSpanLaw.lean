/- Law: a list of entries by their keys: its leaves, and what is wrong with it. No walk is in it. -/
import Derived.Test.YtpeomfehdccmmaaDoorTreeLaw
import Derived.Test.YtpeomfehdccmmaaDoorTrieSorted
namespace Go.Proofs.YtpeomfehdccmmaaDoor
open Go.RowKit
set_option linter.unusedVariables false
def itemT (e : En) : List UInt8 := beS 4 e.key.toNat ++ e.val
def itemD (e : En) : List UInt8 := tleaf (itemT e)
theorem itemD_length (e : En) : (itemD e).length = 32 := tleaf_length _
theorem itemT_length {e : En} (h : e.val.length = 32) : (itemT e).length = 36 := by simp [itemT, beS_length, h]
def leavesD (es : List En) : List (List UInt8) := es.map itemD
theorem leavesD_length (es : List En) : (leavesD es).length = es.length := by simp [leavesD]
theorem leavesD_dig (es : List En) : ∀ d ∈ leavesD es, d.length = 32 := by
  intro d hd
  obtain ⟨e, _, rfl⟩ := List.mem_map.1 hd
  exact itemD_length e
def badK : Option Int → Int → Bool
  | none, _ => false
  | some p, k => decide (k ≤ p)
/-- what is wrong, behind a key -/
def listG : Option Int → List En → Int
  | _, [] => 0
  | pr, e :: r => if KeyOk e.key then (if badK pr e.key then 7 else listG (some e.key) r) else 2
def listF (es : List En) : Int := if 256 < es.length then 4 else listG none es
theorem listG_cons (pr : Option Int) (e : En) (r : List En) : listG pr (e :: r) = if KeyOk e.key then (if badK pr e.key then 7 else listG (some e.key) r) else 2 := rfl
theorem listG_ok : ∀ (es : List En) (pr : Option Int), listG pr es = 0 → (∀ e ∈ es, KeyOk e.key) ∧ Up es ∧ ∀ p, pr = some p → ∀ e ∈ es, p < e.key
  | [], _, _ => ⟨fun _ h => (by cases h), List.Pairwise.nil, fun _ _ _ h => (by cases h)⟩
  | e :: r, pr, h => by
    rw [listG_cons] at h
    split at h
    · rename_i hk
      split at h
      · cases h
      · rename_i hb
        obtain ⟨h1, h2, h3⟩ := listG_ok r _ h
        have h4 := h3 _ rfl
        refine ⟨fun x hx => ?_, List.pairwise_cons.2 ⟨h4, h2⟩, fun p hp x hx => ?_⟩
        · rcases List.mem_cons.1 hx with rfl | hx
          · exact hk
          · exact h1 x hx
        · subst hp
          have hb2 : p < e.key := by simpa [badK] using hb
          rcases List.mem_cons.1 hx with rfl | hx
          · exact hb2
          · have := h4 x hx; omega
    · cases h
theorem listF_ok {es : List En} (h : listF es = 0) : es.length ≤ 256 ∧ (∀ e ∈ es, KeyOk e.key) ∧ Up es := by
  unfold listF at h
  split at h
  · cases h
  · obtain ⟨h1, h2, _⟩ := listG_ok es none h
    exact ⟨by omega, h1, h2⟩
theorem listF_big {es : List En} (h : 256 < es.length) : listF es = 4 := by unfold listF; rw [if_pos h]
theorem listF_small {es : List En} (h : ¬ 256 < es.length) : listF es = listG none es := by unfold listF; rw [if_neg h]
/-- the key ahead of a place -/
def prevK (es : List En) (j : Nat) : Option Int := if j = 0 then none else (es[j - 1]?).map (·.key)
theorem prevK_zero (es : List En) : prevK es 0 = none := rfl
theorem prevK_succ (es : List En) (j : Nat) (h : j < es.length) : prevK es (j + 1) = some es[j].key := by
  unfold prevK
  rw [if_neg (by omega), Nat.add_sub_cancel, List.getElem?_eq_getElem h]; rfl
theorem leavesD_take (es : List En) (j : Nat) (h : j < es.length) : leavesD (es.take (j + 1)) = leavesD (es.take j) ++ [itemD es[j]] := by
  unfold leavesD
  rw [List.take_succ_eq_append_getElem h, List.map_append]; rfl
/-- the entries from here to there -/
def withinE (es : List En) (a b : Int) : List En := es.filter fun e => decide (a ≤ e.key) && decide (e.key ≤ b)
/-- do entries with their paths stand in a list of n with a root, one behind the other? -/
def fitS (R : List UInt8) (n : Nat) (fr : Int) : Option Int → Nat → List En → List (List (List UInt8)) → Bool
  | pr, i, e :: es, p :: ps => if KeyOk e.key ∧ badK pr e.key = false ∧ 0 ≤ fr ∧ fr + (i : Int) < (n : Int) ∧ fr < (n : Int) ∧ p.length = tlong (fr.toNat + i) n ∧ tfold (itemD e) (fr.toNat + i) n p = R then fitS R n fr (some e.key) (i + 1) es ps else false
  | _, _, _, _ => true
def fitsB (R : List UInt8) (n : Nat) (a b fr : Int) (es : List En) (ps : List (List (List UInt8))) : Bool :=
  if h : 0 < es.length then
    (if (fr ≠ 0 ∧ a ≤ es[0].key) ∨ (fr ≠ (n : Int) - (es.length : Int) ∧ es[es.length - 1].key ≤ b) then false else fitS R n fr none 0 es ps)
  else decide (n = 0 ∧ fr = 0 ∧ R = shaOf [])
theorem fitS_cons (R : List UInt8) (n : Nat) (fr : Int) (pr : Option Int) (i : Nat) (e : En) (es : List En) (p : List (List UInt8)) (ps : List (List (List UInt8))) : fitS R n fr pr i (e :: es) (p :: ps) = if KeyOk e.key ∧ badK pr e.key = false ∧ 0 ≤ fr ∧ fr + (i : Int) < (n : Int) ∧ fr < (n : Int) ∧ p.length = tlong (fr.toNat + i) n ∧ tfold (itemD e) (fr.toNat + i) n p = R then fitS R n fr (some e.key) (i + 1) es ps else false := rfl
theorem fitS_nil (R : List UInt8) (n : Nat) (fr : Int) (pr : Option Int) (i : Nat) (ps : List (List (List UInt8))) : fitS R n fr pr i [] ps = true := by cases ps <;> rfl
theorem fitS_keys (R : List UInt8) (n : Nat) (fr : Int) : ∀ (es : List En) (ps : List (List (List UInt8))) (pr : Option Int) (i : Nat), ps.length = es.length → fitS R n fr pr i es ps = true → ∀ e ∈ es, KeyOk e.key
  | [], _, _, _, _, _, e, he => by cases he
  | x :: es, [], _, _, hl, _, e, he => by simp at hl
  | x :: es, p :: ps, pr, i, hl, h, e, he => by
    rw [fitS_cons] at h
    split at h
    · rename_i hc
      rcases List.mem_cons.1 he with rfl | he
      · exact hc.1
      · exact fitS_keys R n fr es ps _ _ (by simpa using hl) h e he
    · cases h
theorem fitsB_keys {R : List UInt8} {n : Nat} {a b fr : Int} {es : List En} {ps : List (List (List UInt8))} (hl : ps.length = es.length) (h : fitsB R n a b fr es ps = true) : ∀ e ∈ es, KeyOk e.key := by
  unfold fitsB at h
  split at h
  · split at h
    · cases h
    · exact fitS_keys R n fr es ps none 0 hl h
  · rename_i h0
    intro e he
    have := List.length_pos_of_mem he
    omega
end Go.Proofs.YtpeomfehdccmmaaDoor
