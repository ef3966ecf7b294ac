/- Law: words of 32 bits, and the digest as it is reckoned. Plain: no program is in sight. -/
import Derived.Test.YtkioddmhjbaleaaDoorMemA
import Derived.Laws.BitsAllLaws
import Derived.Below
import Derived.Deep.MidRow
import Derived.Laws.Tables
namespace Go.Proofs.YtkioddmhjbaleaaDoor
open Go.RowKit
set_option linter.unusedVariables false
/-! words; plain definitions, so that no simplifier opens them -/
def xr (a b : UInt32) : UInt32 := a ^^^ b
def an (a b : UInt32) : UInt32 := a &&& b
def ou (a b : UInt32) : UInt32 := a ||| b
def nt (a : UInt32) : UInt32 := UInt32.ofNat (4294967295 - a.toNat)
def ad (a b : UInt32) : UInt32 := a + b
def shr (a : UInt32) (n : Nat) : UInt32 := UInt32.ofNat (a.toNat / 2 ^ n)
def shl (a : UInt32) (n : Nat) : UInt32 := UInt32.ofNat (a.toNat * 2 ^ n)
/-- turned down by n -/
def rot (a : UInt32) (n : Nat) : UInt32 := ou (shl a (32 - n)) (shr a n)
def vW (a : UInt32) : Value := .int .u32 a.toNat
theorem w_lt (a : UInt32) : a.toNat < 4294967296 := a.toNat_lt
theorem r_xor (a b : UInt32) : bits .xor .u32 (a.toNat : Int) (b.toNat : Int) = ((xr a b).toNat : Int) := by rw [u32_xor_nat _ _ (w_lt a) (w_lt b)]; unfold xr; rw [UInt32.toNat_xor]
theorem r_and (a b : UInt32) : bits .and .u32 (a.toNat : Int) (b.toNat : Int) = ((an a b).toNat : Int) := by rw [u32_and_nat _ _ (w_lt a) (w_lt b)]; unfold an; rw [UInt32.toNat_and]
theorem r_or (a b : UInt32) : bits .or .u32 (a.toNat : Int) (b.toNat : Int) = ((ou a b).toNat : Int) := by rw [u32_or_nat _ _ (w_lt a) (w_lt b)]; unfold ou; rw [UInt32.toNat_or]
theorem r_add (a b : UInt32) : IntKind.u32.wrap ((a.toNat : Int) + (b.toNat : Int)) = ((ad a b).toNat : Int) := by
  rw [IntKind.wrap_u32]; unfold ad; rw [UInt32.toNat_add]; have := w_lt a; have := w_lt b; omega
theorem r_shr (a : UInt32) (n : Nat) : (a.toNat : Int) / 2 ^ n = ((shr a n).toNat : Int) := by
  unfold shr
  rw [UInt32.toNat_ofNat_of_lt' (by have := w_lt a; have := Nat.div_le_self a.toNat (2 ^ n); show _ < 4294967296; omega)]
  norm_cast
theorem r_shl (a : UInt32) (n : Nat) : IntKind.u32.wrap ((a.toNat : Int) * 2 ^ n) = ((shl a n).toNat : Int) := by
  rw [IntKind.wrap_u32]; unfold shl
  rw [UInt32.toNat_ofNat']
  show ((a.toNat : Int) * 2 ^ n) % 4294967296 = ((a.toNat * 2 ^ n % 4294967296 : Nat) : Int)
  rw [Int.natCast_emod, Int.natCast_mul, Int.natCast_pow]
  rfl
theorem r_not (a : UInt32) : (4294967295 : Int) - (a.toNat : Int) = ((nt a).toNat : Int) := by
  unfold nt
  rw [UInt32.toNat_ofNat_of_lt' (by show _ < 4294967296; omega)]
  have := w_lt a; omega

theorem xor_all (a : Nat) (h : a < 4294967296) : 4294967295 ^^^ a = 4294967295 - a := by
  have e := congrArg BitVec.toNat (BitVec.allOnes_xor (x := BitVec.ofNat 32 a))
  rw [BitVec.toNat_xor, BitVec.toNat_not, BitVec.toNat_allOnes, BitVec.toNat_ofNat, Nat.mod_eq_of_lt h] at e
  exact e
theorem r_com (a : UInt32) : bits .xor .u32 (if IntKind.u32.signed = true then -1 else IntKind.u32.max) (a.toNat : Int) = ((nt a).toNat : Int) := by
  have h1 : (if IntKind.u32.signed = true then -1 else IntKind.u32.max) = ((4294967295 : Nat) : Int) := by decide +kernel
  rw [h1, u32_xor_nat _ _ (by omega) (w_lt a), xor_all _ (w_lt a), ← r_not]
  have := w_lt a
  omega
/-- what is added in each round -/
def rk64 : List UInt32 := [
  0x428a2f98, 0x71374491, 0xb5c0fbcf, 0xe9b5dba5, 0x3956c25b, 0x59f111f1, 0x923f82a4, 0xab1c5ed5,
  0xd807aa98, 0x12835b01, 0x243185be, 0x550c7dc3, 0x72be5d74, 0x80deb1fe, 0x9bdc06a7, 0xc19bf174,
  0xe49b69c1, 0xefbe4786, 0x0fc19dc6, 0x240ca1cc, 0x2de92c6f, 0x4a7484aa, 0x5cb0a9dc, 0x76f988da,
  0x983e5152, 0xa831c66d, 0xb00327c8, 0xbf597fc7, 0xc6e00bf3, 0xd5a79147, 0x06ca6351, 0x14292967,
  0x27b70a85, 0x2e1b2138, 0x4d2c6dfc, 0x53380d13, 0x650a7354, 0x766a0abb, 0x81c2c92e, 0x92722c85,
  0xa2bfe8a1, 0xa81a664b, 0xc24b8b70, 0xc76c51a3, 0xd192e819, 0xd6990624, 0xf40e3585, 0x106aa070,
  0x19a4c116, 0x1e376c08, 0x2748774c, 0x34b0bcb5, 0x391c0cb3, 0x4ed8aa4a, 0x5b9cca4f, 0x682e6ff3,
  0x748f82ee, 0x78a5636f, 0x84c87814, 0x8cc70208, 0x90befffa, 0xa4506ceb, 0xbef9a3f7, 0xc67178f2]
def h0 : List UInt32 := [0x6a09e667, 0xbb67ae85, 0x3c6ef372, 0xa54ff53a, 0x510e527f, 0x9b05688c, 0x1f83d9ab, 0x5be0cd19]
def g (l : List UInt32) (i : Nat) : UInt32 := l.getD i 0
def s0 (x : UInt32) : UInt32 := xr (xr (rot x 7) (rot x 18)) (shr x 3)
def s1 (x : UInt32) : UInt32 := xr (xr (rot x 17) (rot x 19)) (shr x 10)
def wnext (l : List UInt32) : UInt32 := ad (ad (ad (s1 (g l (l.length - 2))) (g l (l.length - 7))) (s0 (g l (l.length - 15)))) (g l (l.length - 16))
def sched (m : List UInt32) : Nat → List UInt32
  | 0 => m
  | n + 1 => sched m n ++ [wnext (sched m n)]
def turn3 (x : UInt32) (a b c : Nat) : UInt32 := xr (xr (rot x a) (rot x b)) (rot x c)
/-- the state of eight words, in a round -/
def pOf (v : List UInt32) (k w : UInt32) : UInt32 := ad (ad (ad (ad (g v 7) (turn3 (g v 4) 6 11 25)) (xr (an (g v 4) (g v 5)) (an (nt (g v 4)) (g v 6)))) k) w
def qOf (v : List UInt32) : UInt32 := ad (turn3 (g v 0) 2 13 22) (xr (xr (an (g v 0) (g v 1)) (an (g v 0) (g v 2))) (an (g v 1) (g v 2)))
def rnd (v : List UInt32) (k w : UInt32) : List UInt32 := [ad (pOf v k w) (qOf v), g v 0, g v 1, g v 2, ad (g v 3) (pOf v k w), g v 4, g v 5, g v 6]
def rnds (v w : List UInt32) : Nat → List UInt32
  | 0 => v
  | t + 1 => rnd (rnds v w t) (g rk64 t) (g w t)
/-- a byte as a word -/
def wb (x : UInt8) : UInt32 := UInt32.ofNat x.toNat
theorem wb_toNat (x : UInt8) : (wb x).toNat = x.toNat := by unfold wb; rw [UInt32.toNat_ofNat_of_lt' (by have := x.toNat_lt; show _ < 4294967296; omega)]
def word (b : List UInt8) (t : Nat) : UInt32 := ou (ou (ou (shl (wb (b.getD (4 * t) 0)) 24) (shl (wb (b.getD (4 * t + 1) 0)) 16)) (shl (wb (b.getD (4 * t + 2) 0)) 8)) (wb (b.getD (4 * t + 3) 0))
def words (b : List UInt8) : List UInt32 := (List.range 16).map (word b)
def sumW (v s : List UInt32) : List UInt32 := (List.range 8).map fun i => ad (g v i) (g s i)
def blk (s : List UInt32) (b : List UInt8) : List UInt32 := sumW (rnds s (sched (words b) 48) 64) s
theorem rnd_length (v : List UInt32) (k w : UInt32) : (rnd v k w).length = 8 := rfl
theorem rnds_length (v w : List UInt32) (h : v.length = 8) : ∀ t, (rnds v w t).length = 8
  | 0 => h
  | t + 1 => rfl
theorem sumW_length (v s : List UInt32) : (sumW v s).length = 8 := by simp [sumW]
theorem blk_length (s : List UInt32) (b : List UInt8) : (blk s b).length = 8 := sumW_length _ _
theorem words_length (b : List UInt8) : (words b).length = 16 := by simp [words]
theorem sched_length (m : List UInt32) : ∀ n, (sched m n).length = m.length + n
  | 0 => rfl
  | n + 1 => by rw [sched, List.length_append, sched_length m n]; rfl
theorem sched_get (m : List UInt32) (n j : Nat) (h : n ≤ j) (i : Nat) (hi : i < m.length + n) : g (sched m j) i = g (sched m n) i := by
  induction j with
  | zero => obtain rfl : n = 0 := by omega
            rfl
  | succ j ih =>
    rcases Nat.lt_or_ge j n with hlt | hge
    · obtain rfl : n = j + 1 := by omega
      rfl
    · rw [← ih hge]
      unfold g
      rw [sched, List.getD_eq_getElem?_getD, List.getElem?_append_left (by rw [sched_length]; omega), List.getD_eq_getElem?_getD]
/-- the words that a block is spread to -/
def wOf (b : List UInt8) (i : Nat) : UInt32 := g (sched (words b) 48) i
theorem wOf_first (b : List UInt8) (i : Nat) (h : i < 16) : wOf b i = word b i := by
  unfold wOf
  rw [sched_get (words b) 0 48 (by omega) i (by rw [words_length]; omega)]
  show g (words b) i = _
  unfold g words
  rw [List.getD_eq_getElem?_getD, List.getElem?_map, List.getElem?_range h]
  rfl
theorem wOf_next (b : List UInt8) (i : Nat) (h : 16 ≤ i) (h2 : i < 64) : wOf b i = ad (ad (ad (s1 (wOf b (i - 2))) (wOf b (i - 7))) (s0 (wOf b (i - 15)))) (wOf b (i - 16)) := by
  have hw := words_length b
  have hn : ∀ k, k < i → wOf b k = g (sched (words b) (i - 16)) k := fun k hk => sched_get (words b) (i - 16) 48 (by omega) k (by rw [hw]; omega)
  have hl : (sched (words b) (i - 16)).length = i := by rw [sched_length, hw]; omega
  rw [hn (i - 2) (by omega), hn (i - 7) (by omega), hn (i - 15) (by omega), hn (i - 16) (by omega)]
  unfold wOf
  rw [sched_get (words b) (i - 16 + 1) 48 (by omega) i (by rw [hw]; omega)]
  have : g (sched (words b) (i - 16 + 1)) i = wnext (sched (words b) (i - 16)) := by
    unfold g
    rw [sched, List.getD_eq_getElem?_getD, List.getElem?_append_right (by omega), hl]
    simp
  rw [this]
  unfold wnext
  rw [hl]
theorem rnds_congr (v w w' : List UInt32) : ∀ t, (∀ i, i < t → g w i = g w' i) → rnds v w t = rnds v w' t
  | 0, _ => rfl
  | t + 1, h => by rw [rnds, rnds, rnds_congr v w w' t (fun i hi => h i (by omega)), h t (by omega)]
theorem blk_take (s : List UInt32) (b : List UInt8) : blk s (b.take 64) = blk s b := by
  unfold blk
  have : words (b.take 64) = words b := by
    unfold words
    apply List.map_congr_left
    intro t ht
    have ht2 : t < 16 := List.mem_range.1 ht
    unfold word
    simp only [List.getD_eq_getElem?_getD, List.getElem?_take_of_lt (show 4 * t < 64 by omega), List.getElem?_take_of_lt (show 4 * t + 1 < 64 by omega), List.getElem?_take_of_lt (show 4 * t + 2 < 64 by omega), List.getElem?_take_of_lt (show 4 * t + 3 < 64 by omega)]
  rw [this]
/-- all whole blocks -/
def run (s : List UInt32) (l : List UInt8) : List UInt32 := if h : l.length < 64 then s else run (blk s (l.take 64)) (l.drop 64)
termination_by l.length
decreasing_by simp; omega
theorem run_short {s : List UInt32} {l : List UInt8} (h : l.length < 64) : run s l = s := by rw [run, dif_pos h]
theorem run_step {s : List UInt32} {l : List UInt8} (h : ¬ l.length < 64) : run s l = run (blk s (l.take 64)) (l.drop 64) := by rw [run, dif_neg h]
def be8 (n : Nat) : List UInt8 := (List.range 8).map fun i => UInt8.ofNat (n / 2 ^ (8 * (7 - i)))
/-- how many zeros stand behind the byte 128 -/
def zeros (n : Nat) : Nat := (119 - n % 64) % 64
def pad (n : Nat) : List UInt8 := 128 :: (List.replicate (zeros n) 0 ++ be8 (n * 8))
def bytesOf (s : List UInt32) : List UInt8 := (List.range 32).map fun i => UInt8.ofNat ((g s (i / 4)).toNat / 2 ^ (24 - i % 4 * 8))
/-- the digest of bytes -/
def shaOf (b : List UInt8) : List UInt8 := bytesOf (run h0 (b ++ pad b.length))
theorem shaOf_length (b : List UInt8) : (shaOf b).length = 32 := by simp [shaOf, bytesOf]
/-- bytes that were taken ahead, in whole blocks -/
theorem run_append : ∀ (n : Nat) (s : List UInt32) (l r : List UInt8), l.length ≤ n → run s (l ++ r) = run (run s l) (l.drop (l.length / 64 * 64) ++ r) := by
  intro n
  induction n with
  | zero =>
    intro s l r h
    obtain rfl : l = [] := List.length_eq_zero_iff.1 (by omega)
    rw [run_short (l := []) (by simp)]
    simp
  | succ n ih =>
    intro s l r h
    by_cases hl : l.length < 64
    · rw [run_short hl, Nat.div_eq_of_lt hl]
      simp
    · rw [run_step (l := l ++ r) (by simp; omega), run_step hl, List.take_append_of_le_length (by omega), List.drop_append_of_le_length (by omega), ih _ (l.drop 64) r (by simp; omega)]
      congr 2
      rw [List.length_drop, List.drop_drop]
      congr 1
      omega
end Go.Proofs.YtkioddmhjbaleaaDoor
/- Law: how bytes are filled up. Plain: no program is in sight. -/
namespace Go.Proofs.YtkioddmhjbaleaaDoor
set_option linter.unusedVariables false
theorem zeros_lt (n : Nat) : zeros n < 64 := by unfold zeros; omega
/-- zeros are missing, or no more -/
theorem zeros_more (n k : Nat) (h : k < zeros n) : (n % 64 + 1 + k) % 64 ≠ 56 := by unfold zeros at h; omega
theorem zeros_done (n : Nat) : (n % 64 + 1 + zeros n) % 64 = 56 := by unfold zeros; omega
theorem pad_length (n : Nat) : (pad n).length = zeros n + 9 := by simp [pad, be8]
theorem be8_length (n : Nat) : (be8 n).length = 8 := by simp [be8]
theorem filled_length (n : Nat) (r : List UInt8) (h : r.length = n % 64) : (r ++ pad n).length % 64 = 0 ∧ (r ++ pad n).length ≤ 136 := by
  rw [List.length_append, pad_length, h]
  have := zeros_done n
  have := zeros_lt n
  omega
end Go.Proofs.YtkioddmhjbaleaaDoor
/- Rows of words of 32 bits in memory. It says nothing of the program. -/
namespace Go.Proofs.YtkioddmhjbaleaaDoor
open Go.RowKit
set_option linter.unusedVariables false
/-- words as cells -/
def rW (l : List UInt32) : Array Value := (l.map vW).toArray
theorem rW_size (l : List UInt32) : (rW l).size = l.length := by simp [rW]
theorem rW_get (l : List UInt32) (k : Nat) (h : k < l.length) : (rW l)[k]? = some (.int .u32 (g l k).toNat) := by
  unfold rW g
  simp [h, vW]
theorem rW_set (l : List UInt32) (k : Nat) (x : UInt32) : (rW l).setIfInBounds k (.int .u32 x.toNat) = rW (l.set k x) := by
  unfold rW
  rw [List.setIfInBounds_toArray, List.map_set]
  rfl
theorem rW_one (l : List UInt32) : (rW l).all (·.oneCell') = true := by
  unfold rW
  simp [vW, Value.oneCell']
theorem cellW {w : World} {B : Nat} {l : List UInt32} {t : TypeId} {fr : Nat × Nat} (h : w.heap[B]? = some (.cells (rW l) t fr)) (k : Nat) (hk : k < l.length) : w.cell? ⟨B, k, none⟩ = some (.int .u32 (g l k).toNat) := by
  rw [cell_of_row w B k _ t fr h, rW_get l k hk]
theorem frozenW {w : World} {B : Nat} {c : Array Value} {t : TypeId} (h : w.heap[B]? = some (.cells c t (0, 0))) (k : Nat) : w.frozen? ⟨B, k, none⟩ = false := by
  simp [World.frozen?, h]
theorem setW {w : World} {B : Nat} {l : List UInt32} {t : TypeId} {fr : Nat × Nat} (h : w.heap[B]? = some (.cells (rW l) t fr)) (k : Nat) (x : UInt32) : (w.setCell ⟨B, k, none⟩ (.int .u32 x.toNat)).heap[B]? = some (.cells (rW (l.set k x)) t fr) := by
  simp only [World.setCell, Array.getElem?_modify, if_pos, h]
  simp [rW_set]
theorem g_set (l : List UInt32) (k : Nat) (x : UInt32) (i : Nat) (hk : k < l.length) : g (l.set k x) i = if i = k then x else g l i := by
  unfold g
  rw [List.getD_eq_getElem?_getD, List.getD_eq_getElem?_getD, List.getElem?_set]
  by_cases h : i = k
  · subst h; simp [hk]
  · simp [h, Ne.symm h]
theorem list8 (l l' : List UInt32) (h : l.length = 8) (h' : l'.length = 8) (he : ∀ i, i < 8 → g l i = g l' i) : l = l' := by
  apply List.ext_getElem (by omega)
  intro i h1 h2
  have := he i (by omega)
  unfold g at this
  simpa [List.getD_eq_getElem?_getD, h1, h2] using this
theorem results_cellW {fn : Func} {k : Nat} {t : TypeId} (h : fn.results = #[.cell k t]) (tmps : Array Value) (P : Program) (w : World) (p : Addr) (v : Value) (hp : tmps.getD k undef = .pointer (some p)) (hl : (loadVar t p).run P w = .ok v w) : (results fn tmps).run P w = .ok v w := by
  have hp2 : tmps[k]?.getD undef = .pointer (some p) := by simpa using hp
  simp [results, h, hp2, asAddr, hl]
theorem below_setRowW {B : Nat} {w w' : World} (h : Below B w w') {g : Nat} (hg : B ≤ g) (cs : Array Value) : Below B w (w'.setRow g cs) :=
  h.trans ⟨rfl, rfl, rfl, by rw [setRow_size]; exact Nat.le_refl _, fun k hk => setRow_other _ _ _ _ (by omega)⟩
end Go.Proofs.YtkioddmhjbaleaaDoor
/- Law: words of 32 bits as integers of 64. Plain: no program is in sight. -/
namespace Go.Proofs.YtkioddmhjbaleaaDoor
open Go.RowKit
set_option linter.unusedVariables false
theorem ofInt_i64' (a : Nat) (ha : a < 9223372036854775808) : (BitVec.ofInt 64 (a : Int)).toNat = a := by
  rw [BitVec.ofInt_natCast, BitVec.toNat_ofNat]; exact Nat.mod_eq_of_lt (by omega)
theorem i64_and_nat (a b : Nat) (ha : a < 9223372036854775808) (hb : b < 9223372036854775808) : bits .and .i64 (a : Int) (b : Int) = ((a &&& b : Nat) : Int) := by
  have hx : a &&& b < 2 ^ 63 := Nat.and_lt_two_pow _ (by omega)
  show IntKind.i64.wrap ((BitVec.ofInt 64 (a : Int) &&& BitVec.ofInt 64 (b : Int)).toNat : Int) = _
  rw [BitVec.toNat_and, ofInt_i64' a ha, ofInt_i64' b hb, IntKind.wrap_i64]
  omega
theorem i64_or_nat (a b : Nat) (ha : a < 9223372036854775808) (hb : b < 9223372036854775808) : bits .or .i64 (a : Int) (b : Int) = ((a ||| b : Nat) : Int) := by
  have hx : a ||| b < 2 ^ 63 := Nat.or_lt_two_pow (by omega) (by omega)
  show IntKind.i64.wrap ((BitVec.ofInt 64 (a : Int) ||| BitVec.ofInt 64 (b : Int)).toNat : Int) = _
  rw [BitVec.toNat_or, ofInt_i64' a ha, ofInt_i64' b hb, IntKind.wrap_i64]
  omega
theorem i64_xor_nat (a b : Nat) (ha : a < 9223372036854775808) (hb : b < 9223372036854775808) : bits .xor .i64 (a : Int) (b : Int) = ((a ^^^ b : Nat) : Int) := by
  have hx : a ^^^ b < 2 ^ 63 := Nat.xor_lt_two_pow (by omega) (by omega)
  show IntKind.i64.wrap ((BitVec.ofInt 64 (a : Int) ^^^ BitVec.ofInt 64 (b : Int)).toNat : Int) = _
  rw [BitVec.toNat_xor, ofInt_i64' a ha, ofInt_i64' b hb, IntKind.wrap_i64]
  omega
theorem ri_xor (a b : UInt32) : bits .xor .i64 (a.toNat : Int) (b.toNat : Int) = ((xr a b).toNat : Int) := by
  rw [i64_xor_nat _ _ (by have := w_lt a; omega) (by have := w_lt b; omega)]; unfold xr; rw [UInt32.toNat_xor]
theorem ri_and (a b : UInt32) : bits .and .i64 (a.toNat : Int) (b.toNat : Int) = ((an a b).toNat : Int) := by
  rw [i64_and_nat _ _ (by have := w_lt a; omega) (by have := w_lt b; omega)]; unfold an; rw [UInt32.toNat_and]
theorem ri_or (a b : UInt32) : bits .or .i64 (a.toNat : Int) (b.toNat : Int) = ((ou a b).toNat : Int) := by
  rw [i64_or_nat _ _ (by have := w_lt a; omega) (by have := w_lt b; omega)]; unfold ou; rw [UInt32.toNat_or]
theorem ri_low (n : Nat) (h : n < 9223372036854775808) : bits .and .i64 (n : Int) 4294967295 = ((UInt32.ofNat n).toNat : Int) := by
  have := i64_and_nat n 4294967295 h (by omega)
  rw [show (4294967295 : Int) = ((4294967295 : Nat) : Int) from rfl, this, UInt32.toNat_ofNat']
  congr 1
  exact Nat.and_two_pow_sub_one_eq_mod n 32
theorem add_n (m n : Nat) (h : m + n < 9223372036854775808) : IntKind.i64.wrap ((m : Int) + (n : Int)) = ((m + n : Nat) : Int) := by
  rw [IntWalk.i64_in _ (by omega)]; omega
theorem sums4 (a b c d : UInt32) : a.toNat + b.toNat < 9223372036854775808 ∧ a.toNat + b.toNat + c.toNat < 9223372036854775808 ∧ a.toNat + b.toNat + c.toNat + d.toNat < 9223372036854775808 := by
  have := w_lt a; have := w_lt b; have := w_lt c; have := w_lt d; omega
theorem ou_comm (a b : UInt32) : ou a b = ou b a := by unfold ou; exact UInt32.or_comm a b
theorem rot_other (a : UInt32) (n : Nat) : ou (shr a n) (UInt32.ofNat (a.toNat * 2 ^ (32 - n))) = rot a n := by
  unfold rot shl; exact ou_comm _ _
theorem of_add (a b : Nat) : UInt32.ofNat (a + b) = ad (UInt32.ofNat a) (UInt32.ofNat b) := by unfold ad; exact UInt32.ofNat_add a b
theorem of_toNat (a : UInt32) : UInt32.ofNat a.toNat = a := UInt32.ofNat_toNat
end Go.Proofs.YtkioddmhjbaleaaDoor
/- Law: four bytes are one word. Plain: no program is in sight. -/
namespace Go.Proofs.YtkioddmhjbaleaaDoor
set_option linter.unusedVariables false
/-- the number of bytes -/
def numB (l : List UInt8) : Nat := l.foldl (fun n x => n * 256 + x.toNat) 0
theorem numB_snoc (l : List UInt8) (x : UInt8) : numB (l ++ [x]) = numB l * 256 + x.toNat := by unfold numB; rw [List.foldl_append]; rfl
theorem fold_lt : ∀ (l : List UInt8) (n : Nat), l.foldl (fun n x => n * 256 + x.toNat) n < (n + 1) * 256 ^ l.length := by
  intro l
  induction l with
  | nil => intro n; simp
  | cons x l ih =>
    intro n
    rw [List.foldl_cons, List.length_cons, Nat.pow_succ, Nat.mul_comm (256 ^ l.length) 256, ← Nat.mul_assoc]
    have h1 := ih (n * 256 + x.toNat)
    have h2 := x.toNat_lt
    exact Nat.lt_of_lt_of_le h1 (Nat.mul_le_mul_right _ (by omega))
theorem numB_lt (l : List UInt8) : numB l < 256 ^ l.length := by
  have := fold_lt l 0
  rw [Nat.zero_add, Nat.one_mul] at this
  exact this
theorem word_num (y0 y1 y2 y3 : UInt8) : (ou (ou (ou (shl (wb y0) 24) (shl (wb y1) 16)) (shl (wb y2) 8)) (wb y3)).toNat = numB [y0, y1, y2, y3] := by
  have h0 := y0.toNat_lt
  have h1 := y1.toNat_lt
  have h2 := y2.toNat_lt
  have h3 := y3.toNat_lt
  have e : ∀ (a b : UInt32), (ou a b).toNat = a.toNat ||| b.toNat := fun a b => by unfold ou; exact UInt32.toNat_or a b
  have s : ∀ (y : UInt8) (n : Nat), y.toNat * 2 ^ n < 4294967296 → (shl (wb y) n).toNat = y.toNat * 2 ^ n := fun y n h => by
    unfold shl
    rw [wb_toNat, UInt32.toNat_ofNat_of_lt' (by exact h)]
  rw [e, e, e, s y0 24 (by omega), s y1 16 (by omega), s y2 8 (by omega), wb_toNat]
  have a1 : y0.toNat * 2 ^ 24 ||| y1.toNat * 2 ^ 16 = 2 ^ 24 * y0.toNat + y1.toNat * 2 ^ 16 := by rw [Nat.mul_comm, Nat.two_pow_add_eq_or_of_lt (by omega)]
  rw [a1]
  have a2 : 2 ^ 24 * y0.toNat + y1.toNat * 2 ^ 16 ||| y2.toNat * 2 ^ 8 = 2 ^ 16 * (2 ^ 8 * y0.toNat + y1.toNat) + y2.toNat * 2 ^ 8 := by
    have k : 2 ^ 24 * y0.toNat + y1.toNat * 2 ^ 16 = 2 ^ 16 * (2 ^ 8 * y0.toNat + y1.toNat) := by omega
    rw [k]
    exact (Nat.two_pow_add_eq_or_of_lt (i := 16) (by omega) _).symm
  rw [a2]
  have a3 : 2 ^ 16 * (2 ^ 8 * y0.toNat + y1.toNat) + y2.toNat * 2 ^ 8 ||| y3.toNat = 2 ^ 8 * (2 ^ 8 * (2 ^ 8 * y0.toNat + y1.toNat) + y2.toNat) + y3.toNat := by
    have k : 2 ^ 16 * (2 ^ 8 * y0.toNat + y1.toNat) + y2.toNat * 2 ^ 8 = 2 ^ 8 * (2 ^ 8 * (2 ^ 8 * y0.toNat + y1.toNat) + y2.toNat) := by omega
    rw [k]
    exact (Nat.two_pow_add_eq_or_of_lt (i := 8) (by omega) _).symm
  rw [a3]
  simp only [numB, List.foldl_cons, List.foldl_nil]
  omega
end Go.Proofs.YtkioddmhjbaleaaDoor
