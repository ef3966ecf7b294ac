/- Facts: one entry's leaf and root are not nothing; the walk's words for such an entry. -/
import Derived.Test.YtpeomfehdccmmaaDoorTrieLeaf
import Derived.Test.YtpeomfehdccmmaaDoorShaEval
namespace Go.Proofs.YtpeomfehdccmmaaDoor
open Go.RowKit
set_option linter.unusedVariables false
set_option linter.unusedSimpArgs false
theorem leaf1_ne : (leafD 1 nz == nz) = false := by
  rw [beq_eq_false_iff_ne]
  intro h
  have h2 : (shaOf (leafTxt 1 nz)).map UInt8.toNat = nz.map UInt8.toNat := by show (leafD 1 nz).map _ = _; rw [h]
  rw [sha_n] at h2
  exact absurd h2 (by decide +kernel)
def zs : List Nat := List.replicate 32 0
/-- the root of one entry, reckoned -/
def up1 : Nat → List Nat → List Nat
  | 0, c => c
  | n + 1, c => fzL (shaN (10 :: (c ++ zs))) fun d => up1 n d
def up0 : List Nat := fzL (shaN ((leafTxt 1 nz).map UInt8.toNat)) fun c => fzL (shaN (10 :: (zs ++ c))) fun d => up1 31 d
/-- a node that is not of nothing twice -/
theorem node_n (l r : List UInt8) (h : (l.map UInt8.toNat == zs) = false ∨ (r.map UInt8.toNat == zs) = false) : (nodeD l r).map UInt8.toNat = shaN (10 :: (l.map UInt8.toNat ++ r.map UInt8.toNat)) := by
  have hn : (l == nz && r == nz) = false := by
    rw [Bool.and_eq_false_iff]
    rcases h with h | h
    · left
      rw [beq_eq_false_iff_ne] at h ⊢
      rintro rfl; exact h rfl
    · right
      rw [beq_eq_false_iff_ne] at h ⊢
      rintro rfl; exact h rfl
  unfold nodeD
  rw [hn]
  show (shaOf (nodeTxt l r)).map _ = _
  rw [sha_n]
  unfold nodeTxt
  rw [List.map_cons, List.map_append]
  rfl
def rootN : Nat → List UInt8 → List UInt8
  | 0, c => c
  | n + 1, c => rootN n (nodeD c nz)
def okUp : Nat → List Nat → Bool
  | 0, c => !(c == zs)
  | n + 1, c => fzL c fun c => !(c == zs) && fzL (shaN (10 :: (c ++ zs))) fun d => okUp n d
theorem rootN_ok : ∀ (n : Nat) (c : List UInt8), okUp n (c.map UInt8.toNat) = true → (rootN n c == nz) = false
  | 0, c, h => by
    rw [okUp] at h
    rw [rootN, beq_eq_false_iff_ne]
    rintro rfl
    revert h; decide
  | n + 1, c, h => by
    rw [okUp, fzL_eq, fzL_eq, Bool.and_eq_true] at h
    rw [rootN]
    refine rootN_ok n _ ?_
    rw [node_n c nz (.inl (by simpa using h.1))]
    exact h.2
theorem node1_n (c : List UInt8) (h : (c.map UInt8.toNat == zs) = false) : (nodeD nz c).map UInt8.toNat = shaN (10 :: (zs ++ c.map UInt8.toNat)) := node_n nz c (.inr h)
theorem root1_ne : (rootN 31 (nodeD nz (leafD 1 nz)) == nz) = false := by
  refine rootN_ok 31 _ ?_
  have e : (leafD 1 nz).map UInt8.toNat = shaN ((leafTxt 1 nz).map UInt8.toNat) := sha_n _
  rw [node1_n _ (by rw [e]; decide +kernel), e]
  decide +kernel
theorem treeD_off (f : Nat → List UInt8) (h : ∀ q, q ≠ 1 → f q = nz) (n p : Nat) (hp : 1 ≤ p) (hp2 : 2 ≤ p ∨ 1 ≤ n) : treeD n f p = nz := by
  refine treeD_none f n p fun q h1 h2 => h q ?_
  rcases hp2 with h3 | h3
  · have : 2 * 1 ≤ p * 2 ^ n := Nat.mul_le_mul h3 (Nat.two_pow_pos n)
    omega
  · have h4 : 2 ^ 1 ≤ 2 ^ n := Nat.pow_le_pow_right (by omega) h3
    have : 1 * 2 ≤ p * 2 ^ n := Nat.mul_le_mul hp h4
    omega
theorem rootN_snoc : ∀ (n : Nat) (c : List UInt8), rootN (n + 1) c = nodeD (rootN n c) nz
  | 0, c => rfl
  | n + 1, c => by rw [rootN, rootN_snoc n]; rfl
theorem tree_one (f : Nat → List UInt8) (h : ∀ q, q ≠ 1 → f q = nz) : ∀ n, treeD (n + 1) f 0 = rootN n (nodeD nz (f 1))
  | 0 => by
    rw [treeD, treeD, treeD, h (2 * 0) (by omega)]; rfl
  | n + 1 => by rw [treeD, show 2 * 0 = 0 by rfl, tree_one f h n, treeD_off f h (n + 1) (0 + 1) (by omega) (.inr (by omega)), rootN_snoc]
theorem root_one : (rootD [⟨1, nz⟩] == nz) = false := by
  have e : rootD [⟨1, nz⟩] = rootN 31 (nodeD nz (leafD 1 nz)) := by
    show treeD (31 + 1) _ 0 = _
    rw [tree_one (leafF [⟨1, nz⟩]) (fun q hq => leafF_none _ _ (fun e he => by rw [List.mem_singleton.1 he]; show (1 : Int) ≠ _; omega)) 31]
    rfl
  rw [e]; exact root1_ne
theorem built_ent : Tryd.prog.built 35 [(0, .int .i64 1)] = some (eV 1 nz) := by kernel_rfl
theorem wpl_ent {w : World} {ops : Array Oper} {rest : List Oper} {o : Oper} {a : Act} {Q : Exit → Act → World → Prop} (hg : o.guard = none) (x : Operand) (ho : o.op = .build 35 #[(0, x)]) (hx : a.eval x = .int .i64 1) (Z : List UInt8) (hZ : Z = nz) (h : wpList Tryd.prog ops Q rest (a.put o.dst (.agg (eV 1 Z))) w) : wpList Tryd.prog ops Q (o :: rest) a w := by
  subst hZ
  refine wpList_plain hg fun _ hK => ?_
  unfold Oper.wp execOp
  simp only [ho, Sem.run_bind]
  have := run_build (P := Tryd.prog) w 35 #[(0, .int .i64 1)] (eV 1 nz) built_ent
  simp only [List.map_toArray, List.map_cons, List.map_nil, hx, this, Result.andThen_ok]
  exact hK _ _ h
end Go.Proofs.YtpeomfehdccmmaaDoor
