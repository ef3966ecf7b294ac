/- Walk: (*sha.Hasher).Sum. -/
import Derived.Test.YtkioddmhjbaleaaDoorHasA
import Derived.Test.YtkioddmhjbaleaaDoorShaBase
import Derived.Test.YtkioddmhjbaleaaDoorArrA
namespace Go.Proofs.YtkioddmhjbaleaaDoor
open Go.RowKit
set_option linter.unusedVariables false
set_option linter.unusedSimpArgs false
def lenS : Value → Nat | .slice _ n _ => n | _ => 0
theorem push_rd (W : World) (x : UInt8) : Rd (W.alloc (.cells #[.int .u8 x.toNat] 5)) (some ⟨W.heap.size, 0, none⟩) 5 ([x].map vB) := Rd.new W #[.int .u8 x.toNat] 5

theorem setD {w : World} {B : Nat} {d : List UInt8} {t : TypeId} {fr : Nat × Nat} (h : w.heap[B]? = some (.cells (dV d) t fr)) (k : Nat) (x : UInt8) : (w.setCell ⟨B, k, none⟩ (.int .u8 x.toNat)).heap[B]? = some (.cells (dV (d.set k x)) t fr) := by
  simp only [World.setCell, Array.getElem?_modify, if_pos, h]
  simp [dV_set]
theorem cellD {w : World} {B : Nat} {d : List UInt8} {t : TypeId} {fr : Nat × Nat} (h : w.heap[B]? = some (.cells (dV d) t fr)) (k : Nat) (hk : k < d.length) : w.cell? ⟨B, k, none⟩ = some (.int .u8 (d[k]).toNat) := by
  rw [cell_of_row w B k _ t fr h]
  unfold dV
  simp [hk, vB]
theorem dig_load {d : List UInt8} (hl : d.length = 32) {w : World} {b o : Nat} (hr : w.rangeAt b o (d.map vB)) : (loadVar 23 ⟨b, o, none⟩).run Tryd.prog w = .ok (.agg (dV d)) w :=
  run_loadVar_mid w b o _ (d.map vB) _ hr Tryd.underlying23 rfl (by rw [List.length_map, hl]; exact dig_size)
def BInv (H T : Nat) (S : List UInt32) (w : World) (wr : World) : Prop :=
  ∃ d : List UInt8, d.length = 32 ∧ (∀ p, p < T → d[p]? = (bytesOf S)[p]?) ∧ wr.heap[H]? = some (.cells (dV d) 23 (0, 0)) ∧ Below H w wr
theorem bytesOf_length (S : List UInt32) : (bytesOf S).length = 32 := by simp [bytesOf]
theorem BInv.step {H q : Nat} {S : List UInt32} {w wr : World} {d : List UInt8} (hd : d.length = 32) (hp : ∀ p, p < q → d[p]? = (bytesOf S)[p]?) (hg : wr.heap[H]? = some (.cells (dV d) 23 (0, 0))) (hb : Below H w wr) (hq : q < 32) (Y : UInt8) (hY : (bytesOf S)[q]? = some Y) : BInv H (q + 1) S w (wr.setCell ⟨H, q, none⟩ (.int .u8 Y.toNat)) := by
  refine ⟨d.set q Y, by rw [List.length_set]; exact hd, fun p hp2 => ?_, setD hg q Y, hb.setCell (Nat.le_refl _) _⟩
  rw [List.getElem?_set]
  by_cases e : q = p
  · subst e; rw [if_pos rfl, if_pos (by omega), hY]
  · rw [if_neg e]; exact hp p (by omega)
def SInv (V M : Nat) (F : List UInt8) (s : List UInt32) (wB : World) (t : Value) (wr : World) : Prop :=
  ∃ (j : Nat) (s' : List UInt32) (av : Option Addr) (cp er : Nat), s'.length = 8 ∧ 64 * j ≤ M ∧ t = .slice av (F.drop (64 * j)).length cp ∧ Rd wr av er ((F.drop (64 * j)).map vB) ∧ (F.drop (64 * j)).length ≤ cp ∧ cp ≤ 9223372036854775807 ∧ (∀ x, av = some x → x.block < V) ∧ run s' (F.drop (64 * j)) = run s F ∧ wr.heap[V]? = some (.cells (rW s') 203 (0, 0)) ∧ Below V wB wr
set_option maxRecDepth 100000 in
set_option maxHeartbeats 8000000 in
theorem Hsum_calls (s : List UInt32) (hs : s.length = 8) (r : List UInt8) (n : Nat) (hn : n ≤ 140737488355328) (hrl : r.length = n % 64) (ad : Option Addr) (cp er : Nat) (G : Nat) (w : World) (hh : Has w G s (.slice ad r.length cp) (n : Int)) (hr : Rd w ad er (r.map vB)) (hro : RoundsAt w) (hgs : 1 < w.heap.size) :
    Calls Tryd.prog 108 #[.pointer (some ⟨G, 0, none⟩)] w fun e w' => e = .returned (.agg (dV (bytesOf (run s (r ++ pad n))))) ∧ Below w.heap.size w w' := by
  have hr64 : r.length < 64 := by omega
  obtain ⟨H, hH⟩ : ∃ H, H = w.heap.size := ⟨_, rfl⟩
  obtain ⟨w1, hw1⟩ : ∃ w1, w1 = w.alloc (.cells (dV (List.replicate 32 0)) 23) := ⟨_, rfl⟩
  have b1 : Below H w w1 := by rw [hw1, hH]; exact (Below.refl _ _).alloc (Nat.le_refl _) _
  have s1 : w1.heap.size = H + 1 := by rw [hw1, hH]; exact World.size_alloc _ _
  have g1 : w1.heap[H]? = some (.cells (dV (List.replicate 32 0)) 23 (0, 0)) := by rw [hw1, hH]; exact heap_alloc_new _ _
  have h1 := hh.below b1 (by rw [hH]; exact hh.lt)
  have r1 := hr.below (show Below w.heap.size w w1 by rw [← hH]; exact b1)
  have c8 := hh.re
  have hGw := hh.lt
  have c8z : (w.alloc (.cells #[.int .u8 0, .int .u8 0, .int .u8 0, .int .u8 0, .int .u8 0, .int .u8 0, .int .u8 0, .int .u8 0, .int .u8 0, .int .u8 0, .int .u8 0, .int .u8 0, .int .u8 0, .int .u8 0, .int .u8 0, .int .u8 0, .int .u8 0, .int .u8 0, .int .u8 0, .int .u8 0, .int .u8 0, .int .u8 0, .int .u8 0, .int .u8 0, .int .u8 0, .int .u8 0, .int .u8 0, .int .u8 0, .int .u8 0, .int .u8 0, .int .u8 0, .int .u8 0] 23)).cell? ⟨G, 8, none⟩ = some (.slice ad r.length cp) := (((Below.refl _ _).alloc (Nat.le_refl _) _ : Below w.heap.size w (w.alloc (.cells #[.int .u8 0, .int .u8 0, .int .u8 0, .int .u8 0, .int .u8 0, .int .u8 0, .int .u8 0, .int .u8 0, .int .u8 0, .int .u8 0, .int .u8 0, .int .u8 0, .int .u8 0, .int .u8 0, .int .u8 0, .int .u8 0, .int .u8 0, .int .u8 0, .int .u8 0, .int .u8 0, .int .u8 0, .int .u8 0, .int .u8 0, .int .u8 0, .int .u8 0, .int .u8 0, .int .u8 0, .int .u8 0, .int .u8 0, .int .u8 0, .int .u8 0, .int .u8 0] 23))).cell (p := ⟨G, 8, none⟩) hh.lt).trans hh.re
  have zd : (#[.int .u8 0, .int .u8 0, .int .u8 0, .int .u8 0, .int .u8 0, .int .u8 0, .int .u8 0, .int .u8 0, .int .u8 0, .int .u8 0, .int .u8 0, .int .u8 0, .int .u8 0, .int .u8 0, .int .u8 0, .int .u8 0, .int .u8 0, .int .u8 0, .int .u8 0, .int .u8 0, .int .u8 0, .int .u8 0, .int .u8 0, .int .u8 0, .int .u8 0, .int .u8 0, .int .u8 0, .int .u8 0, .int .u8 0, .int .u8 0, .int .u8 0, .int .u8 0] : Array Value) = dV (List.replicate 32 0) := by kernel_rfl
  have HW1 := Lib.hid hw1
  have HH := Lib.hid hH
  have B1 := Lib.hid b1
  have G1 := Lib.hid g1
  have H1 := Lib.hid h1
  have HRO := Lib.hid hro
  have HRL := Lib.hid hrl
  have HS := Lib.hid hs
  obtain ⟨D, hD⟩ : ∃ D, D = w1.heap.size := ⟨_, rfl⟩
  have hHD : H < D := by omega
  have s1' : D ≤ w1.heap.size := by omega
  have HD := Lib.hid hD
  have hGH : G < H := by omega
  clear hD hH hGw
  have ZD := Lib.hid zd
  clear hw1 b1 g1 h1 hro hrl s1 hh hr hs zd
  go_enter Tryd.func108, Tryd.ntmps108
  go_wp2_with (first
    | (at_builtin; rw [ZD.out, ← HW1.out, ← HH.out]; refine appAllw 67 5 (.int .u8 0) 1 1 Tryd.underlying67 info_byte rfl (by omega) rfl (.const (.slice none 0 0)) (.tmp 12) (by rfl) D (.slice none 0 0) 0 [] (by rfl) (World.ownsRow_nil _ _ _ _) ad r.length cp (r.map vB) (by rfl) er r1 (by simp) (one_bytes r) (by omega) (by omega) s1' ?_; intro av3 cp3 w3 hown3 hb3; rw [Nat.zero_add, List.nil_append] at hown3; rw [Nat.zero_add]; have OWN3 := Lib.hid hown3; have B3 := Lib.hid hb3; have s3 := hb3.size; clear hown3 hb3)
    | (at_builtin; refine appAllw 67 5 (.int .u8 0) 1 1 Tryd.underlying67 info_byte rfl (by omega) rfl (.tmp 14) (.tmp 15) (by rfl) D (.slice av3 r.length cp3) r.length (r.map vB) (by rfl) (OWN3.out.alloc _) (some ⟨w3.heap.size, 0, none⟩) 1 1 ([(128 : UInt8)].map vB) (by rfl) _ (push_rd w3 128) (by simp) (one_bytes _) (by omega) (by omega) (by rw [World.size_alloc]; omega) ?_; intro av5 cp5 w5 hown5 hb5; rw [← List.map_append] at hown5; have OWN5 := Lib.hid hown5; have B5 := Lib.hid hb5; have s5 := hb5.size; clear hown5 hb5))
  have B15 : Below D w1 w5 := B3.out.trans ((((Below.refl _ _).alloc (Nat.le_refl _) _ : Below w3.heap.size w3 (w3.alloc (.cells #[.int .u8 (128 : UInt8).toNat] 5))).mono (by omega)).trans B5.out)
  have BB5 := Lib.hid B15
  clear B15 c8 c8z
  go_loopw [3] (fun t wr => ∃ (k : Nat) (av : Option Addr) (cp : Nat), k ≤ zeros n ∧ t = .slice av (r.length + 1 + k) cp ∧ wr.ownsRow D 5 1 (.slice av (r.length + 1 + k) cp) (r.length + 1 + k) ((r ++ 128 :: List.replicate k 0).map vB) ∧ Below D w1 wr) (fun t _ => 200 - lenS t)
  case atStart => exact ⟨0, av5, cp5, Nat.zero_le _, rfl, OWN5.out, BB5.out⟩
  case round =>
    obtain ⟨k, av, cpp, hk, rfl, hown, hbl⟩ := hrel
    have hz64 := zeros_lt n
    obtain ⟨N, hN⟩ : ∃ N, N = r.length + 1 + k := ⟨_, rfl⟩
    obtain ⟨m, hm⟩ : ∃ m, m = N % 64 := ⟨_, rfl⟩
    have htm : (N : Int).tmod 64 = (m : Int) := by rw [Int.tmod_eq_emod_of_nonneg (by omega)]; omega
    have htm2 : (N : Int) % 64 = (m : Int) := by omega
    rw [← hN] at hown ⊢
    have HN := Lib.hid hN
    have hbs := hbl.size
    have hN200 : N ≤ 130 := by omega
    by_cases hlt : k < zeros n
    · have hne : m ≠ 56 := by rw [hm, hN, HRL.out]; exact zeros_more n k hlt
      have q1 : ((m : Int) != 56) = true := by rw [bne_iff_ne]; omega
      have q2 : ((m : Int) == 56) = false := by rw [beq_eq_false_iff_ne]; omega
      have OWN := Lib.hid hown
      have BL := Lib.hid hbl
      have hk1 : k + 1 ≤ zeros n := hlt
      clear hown hbl hN hm hne hlt
      go_wp2_with (at_builtin; refine appAllw 67 5 (.int .u8 0) 1 1 Tryd.underlying67 info_byte rfl (by omega) rfl (.tmp 21) (.tmp 22) (by rfl) D (.slice av N cpp) N _ (by rfl) (OWN.out.alloc _) (some ⟨wr.heap.size, 0, none⟩) 1 1 ([(0 : UInt8)].map vB) (by rfl) _ (push_rd wr 0) (by simp) (one_bytes _) (by omega) (by omega) (by rw [World.size_alloc]; omega) ?_; intro av7 cp7 w7 hown7 hb7; rw [← List.map_append] at hown7; have OWN7 := Lib.hid hown7; have B7 := Lib.hid hb7; clear hown7 hb7)
      have B17 : Below D w1 w7 := BL.out.trans ((((Below.refl _ _).alloc (Nat.le_refl _) _ : Below wr.heap.size wr (wr.alloc (.cells #[.int .u8 (0 : UInt8).toNat] 5))).mono (by omega)).trans B7.out)
      have hlist : (r ++ 128 :: List.replicate k 0) ++ [(0 : UInt8)] = r ++ 128 :: List.replicate (k + 1) 0 := by rw [List.append_assoc, List.cons_append, List.replicate_succ']
      have hN1 : N + 1 = r.length + 1 + (k + 1) := by rw [HN.out]; omega
      have OWN8 : w7.ownsRow D 5 1 (.slice av7 (r.length + 1 + (k + 1)) cp7) (r.length + 1 + (k + 1)) ((r ++ 128 :: List.replicate (k + 1) 0).map vB) := by rw [← hlist, ← hN1]; exact OWN7.out
      have O8 := Lib.hid OWN8
      have BB8 := Lib.hid B17
      have HN1 := Lib.hid hN1
      clear B17 hlist OWN8 hN1
      go_roundw
      case rel => exact ⟨k + 1, av7, cp7, hk1, by rw [HN1.out], O8.out, BB8.out⟩
      case measure => simp only [lenS]; omega
    · obtain rfl : k = zeros n := by omega
      have hne : m = 56 := by rw [hm, hN, HRL.out]; exact zeros_done n
      have q1 : ((m : Int) != 56) = false := by rw [hne]; rfl
      have q2 : ((m : Int) == 56) = true := by rw [hne]; rfl
      have OWN := Lib.hid hown
      have BL := Lib.hid hbl
      clear hown hbl hN hm hlt hk
      subst hne
      have hL1 : (r ++ 128 :: List.replicate (zeros n) 0).length = N := by rw [HN.out]; simp; omega
      obtain ⟨L1, hLL⟩ : ∃ L1, L1 = r ++ 128 :: List.replicate (zeros n) 0 := ⟨_, rfl⟩
      rw [← hLL] at OWN hL1
      have HLL := Lib.hid hLL
      have HL1 := Lib.hid hL1
      have G9 := (BL.out.cell (p := ⟨G, 9, none⟩) (by show G < D; omega)).trans H1.out.nn
      clear hLL hL1 G9
      go_wp2_with fail
      clear q1 q2 htm htm2
      go_loopw [4, 3] (fun i t wr => ∃ (k : Nat) (av : Option Addr) (cp : Nat), k ≤ 8 ∧ i = .int .i64 (7 - (k : Int)) ∧ t = .slice av (N + k) cp ∧ wr.ownsRow D 5 1 (.slice av (N + k) cp) (N + k) ((L1 ++ (be8 (n * 8)).take k).map vB) ∧ Below D w1 wr) (fun i _ _ => (intOf i + 1).toNat)
      case atStart => exact ⟨0, av, cpp, by omega, rfl, rfl, by simpa using OWN.out, BL.out⟩
      case round =>
        clear OWN BL
        obtain ⟨k, av, cpp, hk, rfl, rfl, hown, hbl⟩ := hrel
        have hbs := hbl.size
        obtain ⟨M, hM⟩ : ∃ M, M = N + k := ⟨_, rfl⟩
        rw [← hM] at hown ⊢
        have HM := Lib.hid hM
        have hM200 : M ≤ 140 := by omega
        by_cases hlt : k < 8
        · obtain ⟨j, hj⟩ : ∃ j : Nat, j = 7 - k := ⟨_, rfl⟩
          have hji : (7 : Int) - (k : Int) = (j : Int) := by omega
          have hj8 : j < 8 := by omega
          have c9 := (hbl.cell (p := ⟨G, 9, none⟩) (by show G < D; omega)).trans H1.out.nn
          have j0 : (0 : Int) ≤ (j : Int) := by omega
          have e1 : IntKind.u64.wrap (n : Int) = (n : Int) := by rw [IntKind.wrap_u64]; omega
          have e2 : IntKind.u64.wrap ((n : Int) * 8) = ((n * 8 : Nat) : Int) := by rw [IntKind.wrap_u64]; omega
          have e3 : IntKind.i64.wrap (8 * (j : Int)) = ((8 * j : Nat) : Int) := by rw [IntWalk.i64_in _ (by omega)]; omega
          rw [hji]
          have HJ := Lib.hid hj
          have HJI := Lib.hid hji
          have OWN := Lib.hid hown
          have BL := Lib.hid hbl
          obtain ⟨X, hX⟩ : ∃ X : UInt8, X = UInt8.ofNat (n * 8 / 2 ^ (8 * j)) := ⟨_, rfl⟩
          have ex : (n : Int) * 8 / 2 ^ (8 * j) % 256 = (X.toNat : Int) := by
            rw [hX, UInt8.toNat_ofNat']
            show (n : Int) * 8 / 2 ^ (8 * j) % 256 = ((n * 8 / 2 ^ (8 * j) % 256 : Nat) : Int)
            rw [Int.natCast_emod, Int.natCast_ediv, Int.natCast_mul, Int.natCast_pow]
            rfl
          have hbt : (be8 (n * 8)).take (k + 1) = (be8 (n * 8)).take k ++ [X] := by
            rw [List.take_succ_eq_append_getElem (by rw [be8_length]; exact hlt), hX, hj]
            congr 2
            simp [be8]
          have HBT := Lib.hid hbt
          clear hown hbl hM hj hji hbt hX
          go_wp2_with (at_builtin; refine appAllw 67 5 (.int .u8 0) 1 1 Tryd.underlying67 info_byte rfl (by omega) rfl (.tmp 28) (.tmp 39) (by rfl) D (.slice av M cpp) M _ (by rfl) (OWN.out.alloc _) (some ⟨wr.heap.size, 0, none⟩) 1 1 ([X].map vB) (by rfl) _ (push_rd wr X) (by simp) (one_bytes _) (by omega) (by omega) (by rw [World.size_alloc]; omega) ?_; intro av7 cp7 w7 hown7 hb7; rw [← List.map_append, List.append_assoc, ← HBT.out] at hown7; have OWN7 := Lib.hid hown7; have B7 := Lib.hid hb7; clear hown7 hb7)
          have B17 : Below D w1 w7 := BL.out.trans ((((Below.refl _ _).alloc (Nat.le_refl _) _ : Below wr.heap.size wr (wr.alloc (.cells #[.int .u8 X.toNat] 5))).mono (by omega)).trans B7.out)
          have hM1 : M + 1 = N + (k + 1) := by rw [HM.out]; omega
          have OWN8 : w7.ownsRow D 5 1 (.slice av7 (N + (k + 1)) cp7) (N + (k + 1)) ((L1 ++ (be8 (n * 8)).take (k + 1)).map vB) := by rw [← hM1]; exact OWN7.out
          have O8 := Lib.hid OWN8
          have BB8 := Lib.hid B17
          have HM1 := Lib.hid hM1
          have hjj : (j : Int) - 1 = 7 - ((k + 1 : Nat) : Int) := by have := HJ.out; omega
          have HJJ := Lib.hid hjj
          clear B17 OWN8 hM1 hjj ex e1 e2 e3 c9
          go_roundw
          case rel => exact ⟨k + 1, av7, cp7, by omega, by rw [← HJJ.out], by rw [HM1.out], O8.out, BB8.out⟩
          case measure => have := HJ.out; simp only [intOf]; omega
        · obtain rfl : k = 8 := by omega
          have htl : L1 ++ (be8 (n * 8)).take 8 = r ++ pad n := by rw [List.take_of_length_le (by rw [be8_length]; omega), HLL.out]; unfold pad; rw [List.append_assoc, List.cons_append]
          rw [htl] at hown
          obtain ⟨F, hF⟩ : ∃ F, F = r ++ pad n := ⟨_, rfl⟩
          have hFl := filled_length n r HRL.out
          have hFM : F.length = M := by rw [hF, List.length_append, pad_length, hM, HN.out]; omega
          rw [← hF] at hown hFl
          have OWN := Lib.hid hown
          have BL := Lib.hid hbl
          have HF := Lib.hid hF
          have HFM := Lib.hid hFM
          have HFl := Lib.hid hFl
          have hgs2 : 1 < D := by have h9 := HH.out; omega
          clear htl hown hbl hM hF hFM hFl hlt hk
          rw [show (7 : Int) - ((8 : Nat) : Int) = -1 by omega]
          have hst : wr.rangeAt G 0 (s.map vW) := fun j v hj => (BL.out.cell (p := ⟨G, 0 + j, none⟩) (by show G < D; omega)).trans (H1.out.st j v hj)
          obtain ⟨V, hV⟩ : ∃ V, V = wr.heap.size := ⟨_, rfl⟩
          obtain ⟨wB, hwB⟩ : ∃ x, x = wr.alloc (.cells (rW s) 203) := ⟨_, rfl⟩
          have gV : wB.heap[V]? = some (.cells (rW s) 203 (0, 0)) := by rw [hwB, hV]; exact heap_alloc_new _ _
          have bVB : Below V wr wB := by rw [hwB, hV]; exact (Below.refl _ _).alloc (Nat.le_refl _) _
          have b1B : Below D w1 wB := BL.out.trans (bVB.mono (by omega))
          have rF : Rd wB av 5 (F.map vB) := (Rd.of_own OWN.out).below (by rw [← hV]; exact bVB)
          have cF := own_cappW OWN.out
          have nF : ∀ x, av = some x → x.block < V := fun x hx => by
            subst hx
            rw [hV]
            have := OWN.out.lt x.block rfl
            omega
          obtain ⟨trd, frd, hrd⟩ := HRO.out
          have hrdB : RoundsAt wB := ⟨trd, frd, (b1B.block _ hgs2).trans ((B1.out.block _ (by rw [HH.out]; exact hgs)).trans hrd)⟩
          have hDV : D ≤ V := by omega
          have HST := Lib.hid hst
          have HV := Lib.hid hV
          have HWB := Lib.hid hwB
          have GV := Lib.hid gV
          have B1B := Lib.hid b1B
          have RF := Lib.hid rF
          have NF := Lib.hid nF
          have RDB := Lib.hid hrdB
          clear hst hwB gV bVB b1B rF nF hrd hrdB hV
          go_wp2_with (first
            | (refine ld_st rfl (.tmp 43) rfl G 0 (by rfl) s HS.out HST.out ?_)
            | (refine st_stNew rfl (.tmp 5) (.tmp 44) rfl s HS.out (by rfl) _ _ (by rfl) (by rfl) ?_; rw [← HWB.out]))
          rw [← HV.out]
          simp only [Act.put, List.setIfInBounds_toArray, List.set_cons_zero, List.set_cons_succ]
          go_loopw [3] (fun t wr => SInv V M F s wB t wr) (fun t _ => lenS t)
          case atStart => exact ⟨0, s, av, cpp, _, HS.out, by omega, by rw [Nat.mul_zero, List.drop_zero, HFM.out], by simpa using RF.out, by rw [Nat.mul_zero, List.drop_zero, HFM.out]; exact cF.1, cF.2, NF.out, by simp, GV.out, Below.refl _ _⟩
          case round =>
            clear OWN BL RF NF cF GV
            obtain ⟨j, s', av, cpp, er, hsl, hjm, rfl, hrr, hc1, hc2, hnv, hrun, hgv, hbl⟩ := hrel
            obtain ⟨f, hf⟩ : ∃ f, f = F.drop (64 * j) := ⟨_, rfl⟩
            rw [← hf] at hrr hc1 hrun ⊢
            have hfl : f.length = M - 64 * j := by rw [hf, List.length_drop, HFM.out]
            have hM64 : M % 64 = 0 ∧ M ≤ 136 := by have := HFl.out; rw [HFM.out] at this; exact this
            have hVw : V < wr.heap.size := lt_of_heap hgv
            have HRR := Lib.hid hrr
            have HGV := Lib.hid hgv
            have HBL := Lib.hid hbl
            have HRUN := Lib.hid hrun
            have HF2 := Lib.hid hf
            have HSL := Lib.hid hsl
            by_cases hlt : 0 < f.length
            · have hf64 : 64 ≤ f.length := by omega
              obtain ⟨t5, f5, hro5⟩ := RDB.out
              have hro6 : RoundsAt wr := ⟨t5, f5, (hbl.block _ (by omega)).trans hro5⟩
              obtain ⟨B, o, hBo, hB, _⟩ := hrr.bytes (k := 0) (by omega)
              obtain rfl := hBo
              have hBV : B < V := hnv _ rfl
              have BC := Block_calls s' hsl f hf64 (some ⟨B, o, none⟩) cpp er wr hrr (by omega) hro6 (by omega)
              have p0 : (0 : Int) < (f.length : Int) := by omega
              have f0 : f.length ≤ 136 := by omega
              have BC' := Lib.hid BC
              clear hrr hgv hbl hrun hf hsl hro5 hro6 BC hfl
              go_wp2_with (refine ld_st rfl (.tmp 5) rfl V 0 (by rfl) s' HSL.out (rangeW HGV.out) ?_)
              refine BC'.out.mono ?_
              rintro e w7 ⟨rfl, hb7⟩
              have g7 := (hb7.block V hVw).trans HGV.out
              have r7 := HRR.out.below hb7
              have b7 : Below V wB w7 := HBL.out.trans (hb7.mono (Nat.le_of_lt hVw))
              have G7 := Lib.hid g7
              have R7 := Lib.hid r7
              have B7 := Lib.hid b7
              clear hb7 g7 r7 b7 BC'
              have hd64 : F.drop (64 * (j + 1)) = f.drop 64 := by rw [HF2.out, List.drop_drop]; congr 1
              have hl64 : (F.drop (64 * (j + 1))).length = f.length - 64 := by rw [hd64, List.length_drop]
              have hcut := rd_cut (k := 64) R7.out hf64 hc1
              have hne9 : ∀ x, cutA B o 64 cpp = some x → x.block < V := by intro x hx; unfold cutA at hx; split at hx <;> (obtain rfl := Option.some.inj hx; exact hBV)
              have R9 : Rd (w7.setRow V (rW (blk s' f))) (cutA B o 64 cpp) er ((f.drop 64).map vB) := hcut.of_block (fun x hx _ => setRow_other _ _ _ _ (by have := hne9 x hx; omega))
              have hrun2 : run (blk s' f) (f.drop 64) = run s F := by rw [← HRUN.out, run_step (l := f) (by omega), blk_take s' f]
              have hjm2 : 64 * (j + 1) ≤ M := by have := HF2.out; rw [this, List.length_drop, HFM.out] at hf64; omega
              have I9 : SInv V M F s wB (.slice (cutA B o 64 cpp) (f.length - 64) (cpp - 64)) (w7.setRow V (rW (blk s' f))) := ⟨j + 1, blk s' f, _, _, _, blk_length _ _, hjm2, by rw [hl64], by rw [hd64]; exact R9, by rw [hl64]; omega, by omega, hne9, by rw [hd64]; exact hrun2, setRow_heap _ _ _ _ _ _ G7.out, below_setRowW B7.out (Nat.le_refl _) _⟩
              have IA : cpp = 64 → SInv V M F s wB (.slice (some ⟨B, o, none⟩) (f.length - 64) 0) (w7.setRow V (rW (blk s' f))) := fun h => by
                have h9 := I9
                unfold cutA at h9
                rw [if_pos h, h] at h9
                exact h9
              have IB : ¬ cpp = 64 → SInv V M F s wB (.slice (some ⟨B, o + 64, none⟩) (f.length - 64) (cpp - 64)) (w7.setRow V (rW (blk s' f))) := fun h => by
                have h9 := I9
                unfold cutA at h9
                rw [if_neg h] at h9
                exact h9
              have LA : f.length - 64 < f.length := by omega
              have HI9 := Lib.hid I9
              have HIA := Lib.hid IA
              have HIB := Lib.hid IB
              clear hd64 hl64 hcut hne9 R9 hrun2 hjm2 I9 IA IB
              go_wp2_with (refine st_st rfl (.tmp 5) (.tmp 52) rfl V (blk s' f) (blk_length _ _) (by rfl) (by rfl) (rW s') (by rw [rW_size]; exact HSL.out) _ G7.out ?_)
              all_goals first
                | exact ⟨HI9.out, LA⟩
                | exact ⟨HIA.out (by assumption), LA⟩
                | exact ⟨HIB.out (by assumption), LA⟩
            · have hf0 : f = [] := List.length_eq_zero_iff.1 (by omega)
              have hsr : s' = run s F := by rw [← hrun, hf0, run_short (by simp)]
              have p0 : ¬ (0 : Int) < (f.length : Int) := by omega
              have hb1r : Below D w1 wr := B1B.out.trans (hbl.mono (by omega))
              have hgH := (hb1r.block H hHD).trans G1.out
              have GH := Lib.hid hgH
              have B1R := Lib.hid hb1r
              have HSR := Lib.hid hsr
              clear hrr hgv hbl hrun hf hsl hfl hf0 hsr hb1r hgH hlt
              go_wp2_with (refine ld_st rfl (.tmp 5) rfl V 0 (by rfl) s' HSL.out (rangeW HGV.out) ?_)
              have I0 : BInv H 0 s' w wr := ⟨_, by simp, fun p hp => by omega, GH.out, by have := B1.out.trans (B1R.out.mono (by omega)); exact this⟩
              have HI0 := Lib.hid I0
              have IX := fun (k : Nat) (hk : k < 8) (w : World) => run_index_st HSL.out hk w
              clear I0
              go_loopw [54] (fun i wr => ∃ i' : Nat, i' ≤ 8 ∧ i = .int .i64 i' ∧ BInv H (4 * i') s' w wr) (fun i _ => 8 - (intOf i).toNat)
              case atStart => exact ⟨0, by omega, rfl, HI0.out⟩
              case round =>
                clear HI0
                obtain ⟨i', hi, rfl, hbi⟩ := hrel
                have HBI := Lib.hid hbi
                clear hbi
                by_cases hi8 : i' < 8
                · have ix := IX i' hi8
                  obtain ⟨x, hx⟩ : ∃ x, x = g s' i' := ⟨_, rfl⟩
                  rw [← hx] at ix
                  have HX := Lib.hid hx
                  have i0 : (0 : Int) ≤ (i' : Int) := by omega
                  have i8 : (i' : Int) < 8 := by omega
                  clear hx IX
                  go_wp2_with fail
                  go_loopw [58] (fun k wr => ∃ k' : Nat, k' ≤ 4 ∧ k = .int .i64 k' ∧ BInv H (4 * i' + k') s' w wr) (fun k _ => 4 - (intOf k).toNat)
                  case atStart => exact ⟨0, by omega, rfl, HBI.out⟩
                  case round =>
                    clear HBI
                    obtain ⟨k', hk, rfl, d, hd, hp, hgd, hbd⟩ := hrel
                    by_cases hk4 : k' < 4
                    · obtain ⟨q, hq⟩ : ∃ q, q = 4 * i' + k' := ⟨_, rfl⟩
                      obtain ⟨c, hc⟩ : ∃ c : Nat, c = 24 - 8 * k' := ⟨_, rfl⟩
                      obtain ⟨Y, hY⟩ : ∃ Y : UInt8, Y = UInt8.ofNat (x.toNat / 2 ^ c) := ⟨_, rfl⟩
                      have hq32 : q < 32 := by omega
                      have hYb : (bytesOf s')[q]? = some Y := by
                        unfold bytesOf
                        rw [List.getElem?_map, List.getElem?_range hq32, hY, HX.out]
                        have h4 : q / 4 = i' := by omega
                        have h5 : 24 - q % 4 * 8 = c := by omega
                        simp only [Option.map_some, h4, h5]
                      rw [← hq] at hp
                      have NX := BInv.step hd hp hgd hbd hq32 Y hYb
                      rw [show q + 1 = 4 * i' + (k' + 1) by omega] at NX
                      have cq := cellD hgd q (by omega)
                      have fq := frozenW hgd q
                      have e1 : IntKind.i64.wrap (8 * (k' : Int)) = 8 * (k' : Int) := IntWalk.i64_in _ (by omega)
                      have e2 : IntKind.i64.wrap (24 - 8 * (k' : Int)) = (c : Int) := by rw [IntWalk.i64_in _ (by omega)]; omega
                      have e2b : (24 : Int) - 8 * (k' : Int) = (c : Int) := by omega
                      have c0 : (0 : Int) ≤ (c : Int) := by omega
                      have c32 : (c : Int) ≤ 32 := by omega
                      have f1 : IntKind.i64.wrap (4 * (i' : Int)) = 4 * (i' : Int) := IntWalk.i64_in _ (by omega)
                      have f2 : IntKind.i64.wrap (4 * (i' : Int) + (k' : Int)) = (q : Int) := by rw [IntWalk.i64_in _ (by omega)]; omega
                      have f2b : 4 * (i' : Int) + (k' : Int) = (q : Int) := by omega
                      have q0 : (0 : Int) ≤ (q : Int) := by omega
                      have q32 : (q : Int) < 32 := by omega
                      have ex : (x.toNat : Int) / 2 ^ c % 256 = (Y.toNat : Int) := by
                        rw [hY, UInt8.toNat_ofNat']
                        show (x.toNat : Int) / 2 ^ c % 256 = ((x.toNat / 2 ^ c % 256 : Nat) : Int)
                        rw [Int.natCast_emod, Int.natCast_ediv, Int.natCast_pow]
                        rfl
                      have HNX := Lib.hid NX
                      have HE2 := Lib.hid e2b
                      have HF2b := Lib.hid f2b
                      clear hq hc hY hYb hp hgd hbd NX
                      go_wp2_with fail
                      clear e1 e2 f1 f2 e2b f2b ex cq fq
                      go_roundw
                      case rel => exact ⟨k' + 1, by omega, by go_num, HNX.out⟩
                      case measure => simp [intOf] <;> omega
                    · obtain rfl : k' = 4 := by omega
                      have NX : BInv H (4 * (i' + 1)) s' w wr := ⟨d, hd, hp, hgd, hbd⟩
                      have HNX := Lib.hid NX
                      clear hp hgd hbd NX
                      go_wp2_with fail
                      go_roundw
                      case rel => exact ⟨i' + 1, by omega, by go_num, HNX.out⟩
                      case measure => simp [intOf] <;> omega
                · obtain rfl : i' = 8 := by omega
                  obtain ⟨d, hd, hp, hgd, hbd⟩ := HBI.out
                  have hdd : d = bytesOf s' := by
                    apply List.ext_getElem?
                    intro p
                    rcases Nat.lt_or_ge p 32 with h | h
                    · exact hp p (by omega)
                    · rw [List.getElem?_eq_none (by omega), List.getElem?_eq_none (by rw [bytesOf_length]; exact h)]
                  subst hdd
                  have HGD := Lib.hid hgd
                  have HBD := Lib.hid hbd
                  clear hp hgd hbd IX
                  go_wp2_with (first
                    | (refine ld_row rfl (.tmp 2) rfl H (by rfl) (bytesOf s') (bytesOf_length _) _ _ HGD.out ?_)
                    | (refine st_row rfl (.tmp 2) (.tmp 74) rfl H (bytesOf s') (bytesOf_length _) (by rfl) (by rfl) (dV (bytesOf s')) (by rw [dV_size (bytesOf_length _)]) _ HGD.out ?_))
                  try simp only [Exit.inBlock, Exit.then]
                  refine bodyPost_ret (v := .agg (dV (bytesOf s'))) (results_cellW rfl _ _ _ ⟨H, 0, none⟩ _ rfl ?_) rfl ?_
                  · exact dig_load (bytesOf_length _) (range_of_row (setRow_heap _ _ _ _ _ _ HGD.out))
                  · exact ⟨by rw [HSR.out, HF.out], by rw [← HH.out]; exact below_setRowW HBD.out (Nat.le_refl _) _⟩
end Go.Proofs.YtkioddmhjbaleaaDoor
