/- Law: the digest, reckoned with plain numbers in an order that the kernel can follow. Plain: no program is in sight. -/
import Derived.Test.YteikbbdkpeecaaaDoorShaBase
namespace Go.Proofs.YteikbbdkpeecaaaDoor
open Go.RowKit
set_option linter.unusedVariables false
/-- the number is reckoned first -/
def fz {α : Type} (x : Nat) (f : Nat → α) : α := match x with
  | 0 => f 0
  | n + 1 => f (Nat.succ n)
theorem fz_eq {α : Type} (x : Nat) (f : Nat → α) : fz x f = f x := by cases x <;> rfl
/-- the numbers of a list are reckoned first -/
def fzL {α : Type} : List Nat → (List Nat → α) → α
  | [], f => f []
  | x :: l, f => fz x fun y => fzL l fun m => f (y :: m)
theorem fzL_eq {α : Type} : ∀ (l : List Nat) (f : List Nat → α), fzL l f = f l
  | [], f => rfl
  | x :: l, f => by rw [fzL, fz_eq, fzL_eq l]
def aN (x y : Nat) : Nat := Nat.mod (Nat.add x y) 4294967296
def rN (x n : Nat) : Nat := Nat.lor (Nat.mod (Nat.mul x (Nat.pow 2 (Nat.sub 32 n))) 4294967296) (Nat.div x (Nat.pow 2 n))
def s0N (x : Nat) : Nat := Nat.xor (Nat.xor (rN x 7) (rN x 18)) (Nat.div x (Nat.pow 2 3))
def s1N (x : Nat) : Nat := Nat.xor (Nat.xor (rN x 17) (rN x 19)) (Nat.div x (Nat.pow 2 10))
def t3N (x a b c : Nat) : Nat := Nat.xor (Nat.xor (rN x a) (rN x b)) (rN x c)
def goN (s0 s1 s2 s3 s4 s5 s6 s7 : Nat) : List Nat → Nat → Nat → Nat → Nat → Nat → Nat → Nat → Nat → Nat → Nat → Nat → Nat → Nat → Nat → Nat → Nat → Nat → Nat → Nat → Nat → Nat → Nat → Nat → Nat → List Nat
  | [], w0, w1, w2, w3, w4, w5, w6, w7, w8, w9, w10, w11, w12, w13, w14, w15, a, b, c, d, e, f, g, h => [aN a s0, aN b s1, aN c s2, aN d s3, aN e s4, aN f s5, aN g s6, aN h s7]
  | k :: ks, w0, w1, w2, w3, w4, w5, w6, w7, w8, w9, w10, w11, w12, w13, w14, w15, a, b, c, d, e, f, g, h =>
    fz (aN (aN (aN (s1N w14) w9) (s0N w1)) w0) fun n =>
    fz (aN (aN (aN (aN h (t3N e 6 11 25)) (Nat.xor (Nat.land e f) (Nat.land (Nat.sub 4294967295 e) g))) k) w0) fun p =>
    fz (aN (t3N a 2 13 22) (Nat.xor (Nat.xor (Nat.land a b) (Nat.land a c)) (Nat.land b c))) fun q =>
    fz (aN p q) fun x => fz (aN d p) fun y => goN s0 s1 s2 s3 s4 s5 s6 s7 ks w1 w2 w3 w4 w5 w6 w7 w8 w9 w10 w11 w12 w13 w14 w15 n x a b c y e f g
theorem ad_n (a b : UInt32) : (ad a b).toNat = aN a.toNat b.toNat := by unfold ad; rw [UInt32.toNat_add]; rfl
theorem shl_n (a : UInt32) (n : Nat) : (shl a n).toNat = a.toNat * 2 ^ n % 4294967296 := by unfold shl; rw [UInt32.toNat_ofNat']
theorem shr_n (a : UInt32) (n : Nat) : (shr a n).toNat = a.toNat / 2 ^ n := by
  unfold shr
  rw [UInt32.toNat_ofNat_of_lt' (by have := w_lt a; have := Nat.div_le_self a.toNat (2 ^ n); show _ < 4294967296; omega)]
theorem ou_n (a b : UInt32) : (ou a b).toNat = Nat.lor a.toNat b.toNat := by unfold ou; rw [UInt32.toNat_or]; rfl
theorem xr_n (a b : UInt32) : (xr a b).toNat = Nat.xor a.toNat b.toNat := by unfold xr; rw [UInt32.toNat_xor]; rfl
theorem an_n (a b : UInt32) : (an a b).toNat = Nat.land a.toNat b.toNat := by unfold an; rw [UInt32.toNat_and]; rfl
theorem nt_n (a : UInt32) : (nt a).toNat = Nat.sub 4294967295 a.toNat := by
  unfold nt; rw [UInt32.toNat_ofNat_of_lt' (by show _ < 4294967296; omega)]; rfl
theorem rot_n (a : UInt32) (n : Nat) : (rot a n).toNat = rN a.toNat n := by unfold rot; rw [ou_n, shl_n, shr_n]; rfl
theorem s0_n (a : UInt32) : (s0 a).toNat = s0N a.toNat := by unfold s0; rw [xr_n, xr_n, rot_n, rot_n, shr_n]; rfl
theorem s1_n (a : UInt32) : (s1 a).toNat = s1N a.toNat := by unfold s1; rw [xr_n, xr_n, rot_n, rot_n, shr_n]; rfl
theorem t3_n (x : UInt32) (a b c : Nat) : (turn3 x a b c).toNat = t3N x.toNat a b c := by unfold turn3; rw [xr_n, xr_n, rot_n, rot_n, rot_n]; rfl
/-- words without an end -/
def wA (m : List UInt8) (i : Nat) : UInt32 := g (sched (words m) i) i
theorem wA_of (m : List UInt8) (i : Nat) (h : i < 64) : wA m i = wOf m i := by
  unfold wA wOf
  have hw := words_length m
  rcases Nat.lt_or_ge i 48 with h1 | h1
  · exact (sched_get (words m) i 48 (by omega) i (by omega)).symm
  · exact sched_get (words m) 48 i (by omega) i (by omega)
theorem wA_next (m : List UInt8) (i : Nat) : wA m (i + 16) = ad (ad (ad (s1 (wA m (i + 14))) (wA m (i + 9))) (s0 (wA m (i + 1)))) (wA m i) := by
  have hw := words_length m
  have hn : ∀ k, k < i + 16 → wA m k = g (sched (words m) i) k := fun k hk => by
    unfold wA
    rcases Nat.lt_or_ge k i with h1 | h1
    · exact (sched_get (words m) k i (by omega) k (by omega)).symm
    · exact sched_get (words m) i k (by omega) k (by omega)
  have hl : (sched (words m) i).length = i + 16 := by rw [sched_length, hw]; omega
  rw [hn (i + 14) (by omega), hn (i + 9) (by omega), hn (i + 1) (by omega), hn i (by omega)]
  have e : wA m (i + 16) = g (sched (words m) (i + 1)) (i + 16) := by
    unfold wA
    exact sched_get (words m) (i + 1) (i + 16) (by omega) (i + 16) (by omega)
  rw [e]
  have : g (sched (words m) (i + 1)) (i + 16) = wnext (sched (words m) i) := by
    unfold g
    rw [sched, List.getD_eq_getElem?_getD, List.getElem?_append_right (by omega), hl]
    simp
  rw [this]
  unfold wnext
  rw [hl]
  rfl
def vA (s : List UInt32) (m : List UInt8) : Nat → List UInt32
  | 0 => s
  | t + 1 => rnd (vA s m t) (g rk64 t) (wA m t)
theorem vA_rnds (s : List UInt32) (m : List UInt8) : ∀ t, t ≤ 64 → vA s m t = rnds s (sched (words m) 48) t
  | 0, _ => rfl
  | t + 1, h => by rw [vA, rnds, vA_rnds s m t (by omega), wA_of m t (by omega)]; rfl
theorem eight {α : Type} (l : List α) (z : α) (h : l.length = 8) : l = [l.getD 0 z, l.getD 1 z, l.getD 2 z, l.getD 3 z, l.getD 4 z, l.getD 5 z, l.getD 6 z, l.getD 7 z] := by
  match l, h with
  | [_, _, _, _, _, _, _, _], _ => rfl
theorem eight_ex {α : Type} (l : List α) (h : l.length = 8) : ∃ s0 s1 s2 s3 s4 s5 s6 s7, l = [s0, s1, s2, s3, s4, s5, s6, s7] := by
  match l, h with
  | [s0, s1, s2, s3, s4, s5, s6, s7], _ => exact ⟨s0, s1, s2, s3, s4, s5, s6, s7, rfl⟩
theorem vA_length (s : List UInt32) (m : List UInt8) (h : s.length = 8) : ∀ t, (vA s m t).length = 8
  | 0 => h
  | t + 1 => rfl
def gN (l : List UInt32) (i : Nat) : Nat := (g l i).toNat
theorem goN_eq (s : List UInt32) (m : List UInt8) (hs : s.length = 8) : ∀ (n t : Nat),
    goN (gN s 0) (gN s 1) (gN s 2) (gN s 3) (gN s 4) (gN s 5) (gN s 6) (gN s 7) ((List.range' t n).map fun i => (g rk64 i).toNat) (wA m t).toNat (wA m (t + 1)).toNat (wA m (t + 2)).toNat (wA m (t + 3)).toNat (wA m (t + 4)).toNat (wA m (t + 5)).toNat (wA m (t + 6)).toNat (wA m (t + 7)).toNat (wA m (t + 8)).toNat (wA m (t + 9)).toNat (wA m (t + 10)).toNat (wA m (t + 11)).toNat (wA m (t + 12)).toNat (wA m (t + 13)).toNat (wA m (t + 14)).toNat (wA m (t + 15)).toNat (gN (vA s m t) 0) (gN (vA s m t) 1) (gN (vA s m t) 2) (gN (vA s m t) 3) (gN (vA s m t) 4) (gN (vA s m t) 5) (gN (vA s m t) 6) (gN (vA s m t) 7) = (sumW (vA s m (t + n)) s).map UInt32.toNat
  | 0, t => by
    simp only [List.range'_zero, List.map_nil, goN, Nat.add_zero]
    unfold sumW gN
    simp only [← ad_n]
    rfl
  | n + 1, t => by
    have ih := goN_eq s m hs n (t + 1)
    simp only [Nat.add_assoc, Nat.reduceAdd] at ih
    rw [List.range'_succ, List.map_cons, goN]
    simp only [fz_eq]
    rw [show t + (n + 1) = t + (1 + n) by omega, ← ih]
    have e1 : aN (aN (aN (s1N (wA m (t + 14)).toNat) (wA m (t + 9)).toNat) (s0N (wA m (t + 1)).toNat)) (wA m t).toNat = (wA m (t + 16)).toNat := by
      rw [wA_next, ad_n, ad_n, ad_n, s1_n, s0_n]
    have e2 : aN (aN (aN (aN (gN (vA s m t) 7) (t3N (gN (vA s m t) 4) 6 11 25)) (Nat.xor (Nat.land (gN (vA s m t) 4) (gN (vA s m t) 5)) (Nat.land (Nat.sub 4294967295 (gN (vA s m t) 4)) (gN (vA s m t) 6)))) (g rk64 t).toNat) (wA m t).toNat = (pOf (vA s m t) (g rk64 t) (wA m t)).toNat := by
      unfold pOf gN
      rw [ad_n, ad_n, ad_n, ad_n, t3_n, xr_n, an_n, an_n, nt_n]
    have e3 : aN (t3N (gN (vA s m t) 0) 2 13 22) (Nat.xor (Nat.xor (Nat.land (gN (vA s m t) 0) (gN (vA s m t) 1)) (Nat.land (gN (vA s m t) 0) (gN (vA s m t) 2))) (Nat.land (gN (vA s m t) 1) (gN (vA s m t) 2))) = (qOf (vA s m t)).toNat := by
      unfold qOf gN
      rw [ad_n, t3_n, xr_n, xr_n, an_n, an_n, an_n]
    rw [e1, e2, e3, ← ad_n]
    have e4 : aN (gN (vA s m t) 3) (pOf (vA s m t) (g rk64 t) (wA m t)).toNat = (ad (g (vA s m t) 3) (pOf (vA s m t) (g rk64 t) (wA m t))).toNat := by rw [ad_n]; rfl
    rw [e4]
    rfl
def rkN : List Nat := rk64.map UInt32.toNat
theorem rkN_eq : rkN = (List.range' 0 64).map fun i => (g rk64 i).toNat := by decide +kernel
def wdN (b : List Nat) (t : Nat) : Nat := Nat.lor (Nat.lor (Nat.lor (Nat.mod (Nat.mul (b.getD (4 * t) 0) 16777216) 4294967296) (Nat.mod (Nat.mul (b.getD (4 * t + 1) 0) 65536) 4294967296)) (Nat.mod (Nat.mul (b.getD (4 * t + 2) 0) 256) 4294967296)) (b.getD (4 * t + 3) 0)
theorem getD_n (m : List UInt8) (i : Nat) : (m.map UInt8.toNat).getD i 0 = (m.getD i 0).toNat := by
  rw [List.getD_eq_getElem?_getD, List.getD_eq_getElem?_getD, List.getElem?_map]
  cases m[i]? <;> rfl
theorem word_n (m : List UInt8) (t : Nat) : (word m t).toNat = wdN (m.map UInt8.toNat) t := by
  unfold word wdN
  rw [ou_n, ou_n, ou_n, shl_n, shl_n, shl_n, wb_toNat, wb_toNat, wb_toNat, wb_toNat, getD_n, getD_n, getD_n, getD_n]
  rfl
theorem wA_first (m : List UInt8) (i : Nat) (h : i < 16) : (wA m i).toNat = wdN (m.map UInt8.toNat) i := by
  rw [wA_of m i (by omega), wOf_first m i h, word_n]
/-- a block -/
def blkN : List Nat → List Nat → List Nat
  | [s0, s1, s2, s3, s4, s5, s6, s7], m =>
    fz s0 fun s0 => fz s1 fun s1 => fz s2 fun s2 => fz s3 fun s3 => fz s4 fun s4 => fz s5 fun s5 => fz s6 fun s6 => fz s7 fun s7 =>
    fz (wdN m 0) fun w0 => fz (wdN m 1) fun w1 => fz (wdN m 2) fun w2 => fz (wdN m 3) fun w3 => fz (wdN m 4) fun w4 => fz (wdN m 5) fun w5 => fz (wdN m 6) fun w6 => fz (wdN m 7) fun w7 => fz (wdN m 8) fun w8 => fz (wdN m 9) fun w9 => fz (wdN m 10) fun w10 => fz (wdN m 11) fun w11 => fz (wdN m 12) fun w12 => fz (wdN m 13) fun w13 => fz (wdN m 14) fun w14 => fz (wdN m 15) fun w15 =>
    goN s0 s1 s2 s3 s4 s5 s6 s7 rkN w0 w1 w2 w3 w4 w5 w6 w7 w8 w9 w10 w11 w12 w13 w14 w15 s0 s1 s2 s3 s4 s5 s6 s7
  | _, _ => []
set_option maxRecDepth 20000 in
theorem blk_n (s : List UInt32) (m : List UInt8) (hs : s.length = 8) : (blk s m).map UInt32.toNat = blkN (s.map UInt32.toNat) (m.map UInt8.toNat) := by
  have h := goN_eq s m hs 64 0
  rw [← rkN_eq] at h
  unfold blk
  rw [← vA_rnds s m 64 (Nat.le_refl _)]
  rw [Nat.zero_add] at h
  rw [← h]
  simp only [Nat.zero_add]
  rw [wA_first m 0 (by omega), wA_first m 1 (by omega), wA_first m 2 (by omega), wA_first m 3 (by omega), wA_first m 4 (by omega), wA_first m 5 (by omega), wA_first m 6 (by omega), wA_first m 7 (by omega), wA_first m 8 (by omega), wA_first m 9 (by omega), wA_first m 10 (by omega), wA_first m 11 (by omega), wA_first m 12 (by omega), wA_first m 13 (by omega), wA_first m 14 (by omega), wA_first m 15 (by omega)]
  obtain ⟨s0, s1, s2, s3, s4, s5, s6, s7, rfl⟩ := eight_ex s hs
  clear h
  rw [show ([s0, s1, s2, s3, s4, s5, s6, s7] : List UInt32).map UInt32.toNat = [s0.toNat, s1.toNat, s2.toNat, s3.toNat, s4.toNat, s5.toNat, s6.toNat, s7.toNat] from rfl, blkN]
  simp only [fz_eq]
  generalize hW : m.map UInt8.toNat = M
  rw [show vA [s0, s1, s2, s3, s4, s5, s6, s7] m 0 = [s0, s1, s2, s3, s4, s5, s6, s7] from rfl]
  rw [show gN [s0, s1, s2, s3, s4, s5, s6, s7] 0 = s0.toNat from rfl, show gN [s0, s1, s2, s3, s4, s5, s6, s7] 1 = s1.toNat from rfl, show gN [s0, s1, s2, s3, s4, s5, s6, s7] 2 = s2.toNat from rfl, show gN [s0, s1, s2, s3, s4, s5, s6, s7] 3 = s3.toNat from rfl, show gN [s0, s1, s2, s3, s4, s5, s6, s7] 4 = s4.toNat from rfl, show gN [s0, s1, s2, s3, s4, s5, s6, s7] 5 = s5.toNat from rfl, show gN [s0, s1, s2, s3, s4, s5, s6, s7] 6 = s6.toNat from rfl, show gN [s0, s1, s2, s3, s4, s5, s6, s7] 7 = s7.toNat from rfl]
def runN (s : List Nat) (l : List Nat) : Nat → List Nat
  | 0 => s
  | n + 1 => fzL (blkN s (l.take 64)) fun v => runN v (l.drop 64) n
theorem run_n : ∀ (n : Nat) (s : List UInt32) (l : List UInt8), s.length = 8 → l.length = 64 * n → (run s l).map UInt32.toNat = runN (s.map UInt32.toNat) (l.map UInt8.toNat) n
  | 0, s, l, _, h => by rw [run_short (by omega)]; rfl
  | n + 1, s, l, hs, h => by
    rw [run_step (by omega), run_n n _ _ (blk_length _ _) (by rw [List.length_drop]; omega), blk_n _ _ hs, runN, fzL_eq, List.map_take, List.map_drop]
def be8N (n : Nat) : List Nat := (List.range 8).map fun i => Nat.mod (Nat.div n (Nat.pow 2 (8 * (7 - i)))) 256
def padN (n : Nat) : List Nat := 128 :: (List.replicate (zeros n) 0 ++ be8N (n * 8))
theorem pad_n (n : Nat) : (pad n).map UInt8.toNat = padN n := by
  unfold pad padN
  rw [List.map_cons, List.map_append, List.map_replicate]
  have e : (be8 (n * 8)).map UInt8.toNat = be8N (n * 8) := by
    unfold be8 be8N
    rw [List.map_map]
    apply List.map_congr_left
    intro i _
    show (UInt8.ofNat _).toNat = _
    rw [UInt8.toNat_ofNat']
    rfl
  rw [e]
  rfl
def bytesN : List Nat → List Nat
  | [s0, s1, s2, s3, s4, s5, s6, s7] => fz s0 fun s0 => fz s1 fun s1 => fz s2 fun s2 => fz s3 fun s3 => fz s4 fun s4 => fz s5 fun s5 => fz s6 fun s6 => fz s7 fun s7 => (List.range 32).map fun i => Nat.mod (Nat.div ([s0, s1, s2, s3, s4, s5, s6, s7].getD (i / 4) 0) (Nat.pow 2 (24 - i % 4 * 8))) 256
  | _ => []
theorem bytes_n (s : List UInt32) (hs : s.length = 8) : (bytesOf s).map UInt8.toNat = bytesN (s.map UInt32.toNat) := by
  match s, hs with
  | [s0, s1, s2, s3, s4, s5, s6, s7], _ =>
    simp only [List.map_cons, List.map_nil, bytesN, fz_eq]
    unfold bytesOf
    rw [List.map_map]
    apply List.map_congr_left
    intro i _
    show (UInt8.ofNat _).toNat = _
    rw [UInt8.toNat_ofNat']
    have e : (g [s0, s1, s2, s3, s4, s5, s6, s7] (i / 4)).toNat = [s0.toNat, s1.toNat, s2.toNat, s3.toNat, s4.toNat, s5.toNat, s6.toNat, s7.toNat].getD (i / 4) 0 := by
      unfold g
      rw [List.getD_eq_getElem?_getD, List.getD_eq_getElem?_getD, show [s0.toNat, s1.toNat, s2.toNat, s3.toNat, s4.toNat, s5.toNat, s6.toNat, s7.toNat] = [s0, s1, s2, s3, s4, s5, s6, s7].map UInt32.toNat from rfl, List.getElem?_map]
      cases [s0, s1, s2, s3, s4, s5, s6, s7][i / 4]? <;> rfl
    rw [e]
    rfl
def h0N : List Nat := h0.map UInt32.toNat
/-- the digest of bytes -/
def shaN (l : List Nat) : List Nat := fzL (l ++ padN l.length) fun m => fzL (runN h0N m ((l.length + zeros l.length + 9) / 64)) bytesN
theorem run8_length : ∀ (n : Nat) (s : List UInt32) (l : List UInt8), s.length = 8 → l.length ≤ n → (run s l).length = 8
  | 0, s, l, hs, h => by rw [run_short (by omega)]; exact hs
  | n + 1, s, l, hs, h => by
    by_cases hl : l.length < 64
    · rw [run_short hl]; exact hs
    · rw [run_step hl]; exact run8_length n _ _ (blk_length _ _) (by rw [List.length_drop]; omega)
theorem pad_blocks (n : Nat) : n + zeros n + 9 = 64 * ((n + zeros n + 9) / 64) := by unfold zeros; omega
theorem sha_n (b : List UInt8) : (shaOf b).map UInt8.toNat = shaN (b.map UInt8.toNat) := by
  unfold shaOf shaN
  rw [fzL_eq, fzL_eq, bytes_n _ (run8_length _ _ _ rfl (Nat.le_refl _)), run_n ((b.length + zeros b.length + 9) / 64) _ _ rfl ?_, List.map_append, pad_n, List.length_map]
  · rfl
  · rw [List.length_append]
    unfold pad
    have := pad_blocks b.length
    simp only [List.length_cons, List.length_append, List.length_replicate]
    unfold be8
    simp only [List.length_map, List.length_range]
    omega
end Go.Proofs.YteikbbdkpeecaaaDoor
