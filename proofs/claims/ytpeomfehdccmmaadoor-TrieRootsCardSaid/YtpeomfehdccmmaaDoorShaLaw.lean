/- Law: words of 32 bits, and the digest as it is reckoned. Plain: no program is in sight. -/
import Derived.Test.YtpeomfehdccmmaaDoorMem
import Derived.Laws.BitsAllLaws
namespace Go.Proofs.YtpeomfehdccmmaaDoor
open Go.RowKit
set_option linter.unusedVariables false
/-! words; plain definitions, so that no simplifier opens them -/
def xr (a b : UInt32) : UInt32 := a ^^^ b
def an (a b : UInt32) : UInt32 := a &&& b
def ou (a b : UInt32) : UInt32 := a ||| b
def nt (a : UInt32) : UInt32 := UInt32.ofNat (4294967295 - a.toNat)
def ad (a b : UInt32) : UInt32 := a + b
def shr (a : UInt32) (n : Nat) : UInt32 := UInt32.ofNat (a.toNat / 2 ^ n)
def shl (a : UInt32) (n : Nat) : UInt32 := UInt32.ofNat (a.toNat * 2 ^ n)
/-- turned down by n -/
def rot (a : UInt32) (n : Nat) : UInt32 := ou (shl a (32 - n)) (shr a n)
def vW (a : UInt32) : Value := .int .u32 a.toNat
theorem w_lt (a : UInt32) : a.toNat < 4294967296 := a.toNat_lt
theorem r_xor (a b : UInt32) : bits .xor .u32 (a.toNat : Int) (b.toNat : Int) = ((xr a b).toNat : Int) := by rw [u32_xor_nat _ _ (w_lt a) (w_lt b)]; unfold xr; rw [UInt32.toNat_xor]
theorem r_and (a b : UInt32) : bits .and .u32 (a.toNat : Int) (b.toNat : Int) = ((an a b).toNat : Int) := by rw [u32_and_nat _ _ (w_lt a) (w_lt b)]; unfold an; rw [UInt32.toNat_and]
theorem r_or (a b : UInt32) : bits .or .u32 (a.toNat : Int) (b.toNat : Int) = ((ou a b).toNat : Int) := by rw [u32_or_nat _ _ (w_lt a) (w_lt b)]; unfold ou; rw [UInt32.toNat_or]
theorem r_add (a b : UInt32) : IntKind.u32.wrap ((a.toNat : Int) + (b.toNat : Int)) = ((ad a b).toNat : Int) := by
  rw [IntKind.wrap_u32]; unfold ad; rw [UInt32.toNat_add]; have := w_lt a; have := w_lt b; omega
theorem r_shr (a : UInt32) (n : Nat) : (a.toNat : Int) / 2 ^ n = ((shr a n).toNat : Int) := by
  unfold shr
  rw [UInt32.toNat_ofNat_of_lt' (by have := w_lt a; have := Nat.div_le_self a.toNat (2 ^ n); show _ < 4294967296; omega)]
  norm_cast
theorem r_shl (a : UInt32) (n : Nat) : IntKind.u32.wrap ((a.toNat : Int) * 2 ^ n) = ((shl a n).toNat : Int) := by
  rw [IntKind.wrap_u32]; unfold shl
  rw [UInt32.toNat_ofNat']
  show ((a.toNat : Int) * 2 ^ n) % 4294967296 = ((a.toNat * 2 ^ n % 4294967296 : Nat) : Int)
  rw [Int.natCast_emod, Int.natCast_mul, Int.natCast_pow]
  rfl
theorem r_not (a : UInt32) : (4294967295 : Int) - (a.toNat : Int) = ((nt a).toNat : Int) := by
  unfold nt
  rw [UInt32.toNat_ofNat_of_lt' (by show _ < 4294967296; omega)]
  have := w_lt a; omega

theorem xor_all (a : Nat) (h : a < 4294967296) : 4294967295 ^^^ a = 4294967295 - a := by
  have e := congrArg BitVec.toNat (BitVec.allOnes_xor (x := BitVec.ofNat 32 a))
  rw [BitVec.toNat_xor, BitVec.toNat_not, BitVec.toNat_allOnes, BitVec.toNat_ofNat, Nat.mod_eq_of_lt h] at e
  exact e
theorem r_com (a : UInt32) : bits .xor .u32 (if IntKind.u32.signed = true then -1 else IntKind.u32.max) (a.toNat : Int) = ((nt a).toNat : Int) := by
  have h1 : (if IntKind.u32.signed = true then -1 else IntKind.u32.max) = ((4294967295 : Nat) : Int) := by decide +kernel
  rw [h1, u32_xor_nat _ _ (by omega) (w_lt a), xor_all _ (w_lt a), ← r_not]
  have := w_lt a
  omega
/-- what is added in each round -/
def rk64 : List UInt32 := [
  0x428a2f98, 0x71374491, 0xb5c0fbcf, 0xe9b5dba5, 0x3956c25b, 0x59f111f1, 0x923f82a4, 0xab1c5ed5,
  0xd807aa98, 0x12835b01, 0x243185be, 0x550c7dc3, 0x72be5d74, 0x80deb1fe, 0x9bdc06a7, 0xc19bf174,
  0xe49b69c1, 0xefbe4786, 0x0fc19dc6, 0x240ca1cc, 0x2de92c6f, 0x4a7484aa, 0x5cb0a9dc, 0x76f988da,
  0x983e5152, 0xa831c66d, 0xb00327c8, 0xbf597fc7, 0xc6e00bf3, 0xd5a79147, 0x06ca6351, 0x14292967,
  0x27b70a85, 0x2e1b2138, 0x4d2c6dfc, 0x53380d13, 0x650a7354, 0x766a0abb, 0x81c2c92e, 0x92722c85,
  0xa2bfe8a1, 0xa81a664b, 0xc24b8b70, 0xc76c51a3, 0xd192e819, 0xd6990624, 0xf40e3585, 0x106aa070,
  0x19a4c116, 0x1e376c08, 0x2748774c, 0x34b0bcb5, 0x391c0cb3, 0x4ed8aa4a, 0x5b9cca4f, 0x682e6ff3,
  0x748f82ee, 0x78a5636f, 0x84c87814, 0x8cc70208, 0x90befffa, 0xa4506ceb, 0xbef9a3f7, 0xc67178f2]
def h0 : List UInt32 := [0x6a09e667, 0xbb67ae85, 0x3c6ef372, 0xa54ff53a, 0x510e527f, 0x9b05688c, 0x1f83d9ab, 0x5be0cd19]
def g (l : List UInt32) (i : Nat) : UInt32 := l.getD i 0
def s0 (x : UInt32) : UInt32 := xr (xr (rot x 7) (rot x 18)) (shr x 3)
def s1 (x : UInt32) : UInt32 := xr (xr (rot x 17) (rot x 19)) (shr x 10)
def wnext (l : List UInt32) : UInt32 := ad (ad (ad (s1 (g l (l.length - 2))) (g l (l.length - 7))) (s0 (g l (l.length - 15)))) (g l (l.length - 16))
def sched (m : List UInt32) : Nat → List UInt32
  | 0 => m
  | n + 1 => sched m n ++ [wnext (sched m n)]
def turn3 (x : UInt32) (a b c : Nat) : UInt32 := xr (xr (rot x a) (rot x b)) (rot x c)
/-- the state of eight words, in a round -/
def pOf (v : List UInt32) (k w : UInt32) : UInt32 := ad (ad (ad (ad (g v 7) (turn3 (g v 4) 6 11 25)) (xr (an (g v 4) (g v 5)) (an (nt (g v 4)) (g v 6)))) k) w
def qOf (v : List UInt32) : UInt32 := ad (turn3 (g v 0) 2 13 22) (xr (xr (an (g v 0) (g v 1)) (an (g v 0) (g v 2))) (an (g v 1) (g v 2)))
def rnd (v : List UInt32) (k w : UInt32) : List UInt32 := [ad (pOf v k w) (qOf v), g v 0, g v 1, g v 2, ad (g v 3) (pOf v k w), g v 4, g v 5, g v 6]
def rnds (v w : List UInt32) : Nat → List UInt32
  | 0 => v
  | t + 1 => rnd (rnds v w t) (g rk64 t) (g w t)
/-- a byte as a word -/
def wb (x : UInt8) : UInt32 := UInt32.ofNat x.toNat
theorem wb_toNat (x : UInt8) : (wb x).toNat = x.toNat := by unfold wb; rw [UInt32.toNat_ofNat_of_lt' (by have := x.toNat_lt; show _ < 4294967296; omega)]
def word (b : List UInt8) (t : Nat) : UInt32 := ou (ou (ou (shl (wb (b.getD (4 * t) 0)) 24) (shl (wb (b.getD (4 * t + 1) 0)) 16)) (shl (wb (b.getD (4 * t + 2) 0)) 8)) (wb (b.getD (4 * t + 3) 0))
def words (b : List UInt8) : List UInt32 := (List.range 16).map (word b)
def sumW (v s : List UInt32) : List UInt32 := (List.range 8).map fun i => ad (g v i) (g s i)
def blk (s : List UInt32) (b : List UInt8) : List UInt32 := sumW (rnds s (sched (words b) 48) 64) s
theorem rnd_length (v : List UInt32) (k w : UInt32) : (rnd v k w).length = 8 := rfl
theorem rnds_length (v w : List UInt32) (h : v.length = 8) : ∀ t, (rnds v w t).length = 8
  | 0 => h
  | t + 1 => rfl
theorem sumW_length (v s : List UInt32) : (sumW v s).length = 8 := by simp [sumW]
theorem blk_length (s : List UInt32) (b : List UInt8) : (blk s b).length = 8 := sumW_length _ _
theorem words_length (b : List UInt8) : (words b).length = 16 := by simp [words]
theorem sched_length (m : List UInt32) : ∀ n, (sched m n).length = m.length + n
  | 0 => rfl
  | n + 1 => by rw [sched, List.length_append, sched_length m n]; rfl
theorem sched_get (m : List UInt32) (n j : Nat) (h : n ≤ j) (i : Nat) (hi : i < m.length + n) : g (sched m j) i = g (sched m n) i := by
  induction j with
  | zero => obtain rfl : n = 0 := by omega
            rfl
  | succ j ih =>
    rcases Nat.lt_or_ge j n with hlt | hge
    · obtain rfl : n = j + 1 := by omega
      rfl
    · rw [← ih hge]
      unfold g
      rw [sched, List.getD_eq_getElem?_getD, List.getElem?_append_left (by rw [sched_length]; omega), List.getD_eq_getElem?_getD]
/-- the words that a block is spread to -/
def wOf (b : List UInt8) (i : Nat) : UInt32 := g (sched (words b) 48) i
theorem wOf_first (b : List UInt8) (i : Nat) (h : i < 16) : wOf b i = word b i := by
  unfold wOf
  rw [sched_get (words b) 0 48 (by omega) i (by rw [words_length]; omega)]
  show g (words b) i = _
  unfold g words
  rw [List.getD_eq_getElem?_getD, List.getElem?_map, List.getElem?_range h]
  rfl
theorem wOf_next (b : List UInt8) (i : Nat) (h : 16 ≤ i) (h2 : i < 64) : wOf b i = ad (ad (ad (s1 (wOf b (i - 2))) (wOf b (i - 7))) (s0 (wOf b (i - 15)))) (wOf b (i - 16)) := by
  have hw := words_length b
  have hn : ∀ k, k < i → wOf b k = g (sched (words b) (i - 16)) k := fun k hk => sched_get (words b) (i - 16) 48 (by omega) k (by rw [hw]; omega)
  have hl : (sched (words b) (i - 16)).length = i := by rw [sched_length, hw]; omega
  rw [hn (i - 2) (by omega), hn (i - 7) (by omega), hn (i - 15) (by omega), hn (i - 16) (by omega)]
  unfold wOf
  rw [sched_get (words b) (i - 16 + 1) 48 (by omega) i (by rw [hw]; omega)]
  have : g (sched (words b) (i - 16 + 1)) i = wnext (sched (words b) (i - 16)) := by
    unfold g
    rw [sched, List.getD_eq_getElem?_getD, List.getElem?_append_right (by omega), hl]
    simp
  rw [this]
  unfold wnext
  rw [hl]
theorem rnds_congr (v w w' : List UInt32) : ∀ t, (∀ i, i < t → g w i = g w' i) → rnds v w t = rnds v w' t
  | 0, _ => rfl
  | t + 1, h => by rw [rnds, rnds, rnds_congr v w w' t (fun i hi => h i (by omega)), h t (by omega)]
theorem blk_take (s : List UInt32) (b : List UInt8) : blk s (b.take 64) = blk s b := by
  unfold blk
  have : words (b.take 64) = words b := by
    unfold words
    apply List.map_congr_left
    intro t ht
    have ht2 : t < 16 := List.mem_range.1 ht
    unfold word
    simp only [List.getD_eq_getElem?_getD, List.getElem?_take_of_lt (show 4 * t < 64 by omega), List.getElem?_take_of_lt (show 4 * t + 1 < 64 by omega), List.getElem?_take_of_lt (show 4 * t + 2 < 64 by omega), List.getElem?_take_of_lt (show 4 * t + 3 < 64 by omega)]
  rw [this]
/-- all whole blocks -/
def run (s : List UInt32) (l : List UInt8) : List UInt32 := if h : l.length < 64 then s else run (blk s (l.take 64)) (l.drop 64)
termination_by l.length
decreasing_by simp; omega
theorem run_short {s : List UInt32} {l : List UInt8} (h : l.length < 64) : run s l = s := by rw [run, dif_pos h]
theorem run_step {s : List UInt32} {l : List UInt8} (h : ¬ l.length < 64) : run s l = run (blk s (l.take 64)) (l.drop 64) := by rw [run, dif_neg h]
def be8 (n : Nat) : List UInt8 := (List.range 8).map fun i => UInt8.ofNat (n / 2 ^ (8 * (7 - i)))
/-- how many zeros stand behind the byte 128 -/
def zeros (n : Nat) : Nat := (119 - n % 64) % 64
def pad (n : Nat) : List UInt8 := 128 :: (List.replicate (zeros n) 0 ++ be8 (n * 8))
def bytesOf (s : List UInt32) : List UInt8 := (List.range 32).map fun i => UInt8.ofNat ((g s (i / 4)).toNat / 2 ^ (24 - i % 4 * 8))
/-- the digest of bytes -/
def shaOf (b : List UInt8) : List UInt8 := bytesOf (run h0 (b ++ pad b.length))
theorem shaOf_length (b : List UInt8) : (shaOf b).length = 32 := by simp [shaOf, bytesOf]
/-- bytes that were taken ahead, in whole blocks -/
theorem run_append : ∀ (n : Nat) (s : List UInt32) (l r : List UInt8), l.length ≤ n → run s (l ++ r) = run (run s l) (l.drop (l.length / 64 * 64) ++ r) := by
  intro n
  induction n with
  | zero =>
    intro s l r h
    obtain rfl : l = [] := List.length_eq_zero_iff.1 (by omega)
    rw [run_short (l := []) (by simp)]
    simp
  | succ n ih =>
    intro s l r h
    by_cases hl : l.length < 64
    · rw [run_short hl, Nat.div_eq_of_lt hl]
      simp
    · rw [run_step (l := l ++ r) (by simp; omega), run_step hl, List.take_append_of_le_length (by omega), List.drop_append_of_le_length (by omega), ih _ (l.drop 64) r (by simp; omega)]
      congr 2
      rw [List.length_drop, List.drop_drop]
      congr 1
      omega
end Go.Proofs.YtpeomfehdccmmaaDoor
