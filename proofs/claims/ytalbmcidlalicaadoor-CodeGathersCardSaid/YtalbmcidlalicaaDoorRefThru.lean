/- Walk: the document's Through, by NEWTON's differences. -/
import Derived.Test.YtalbmcidlalicaaDoorNewton
import Derived.Test.YtalbmcidlalicaaDoorRefMul2
import Derived.Test.YtalbmcidlalicaaDoorLibs
import Derived.Test.YtalbmcidlalicaaDoorMem4
import Derived.Deep.QuietTactic
import Derived.BigQuiet
import Derived.StillTailTactics
namespace Go.Proofs.YtalbmcidlalicaaDoor
open Go.RowKit
set_option linter.unusedVariables false

theorem ownB_set {w : World} {base g n cap : Nat} {xs : List UInt8} (h : w.ownsRow base 5 1 (.slice (some ⟨g, 0, none⟩) n cap) n (xs.map vB)) (k : Nat) (z : UInt8) :
    (w.setCell ⟨g, k, none⟩ (.int .u8 z.toNat)).ownsRow base 5 1 (.slice (some ⟨g, 0, none⟩) n cap) n ((xs.set k z).map vB) := by
  have := own_set h k (.int .u8 z.toNat)
  rw [List.map_set]; exact this
theorem ownB_get {w : World} {base g n cap : Nat} {xs : List UInt8} (h : w.ownsRow base 5 1 (.slice (some ⟨g, 0, none⟩) n cap) n (xs.map vB)) {k : Nat} (hk : k < xs.length) :
    w.cell? ⟨g, k, none⟩ = some (.int .u8 xs[k].toNat) ∧ w.frozen? ⟨g, k, none⟩ = false := by
  have := own_cell h (k := k) (by simpa using hk)
  simpa [vB] using this

/-! what lies in d -/
def dE (at_ v : List UInt8) (k j : Nat) : UInt8 := Gf.dif (fun i => at_.getD i 0) (fun i => v.getD i 0) (min k j) j
def dL (at_ v : List UInt8) (n k : Nat) : List UInt8 := (List.range n).map (dE at_ v k)
def dM (at_ v : List UInt8) (n K t : Nat) : List UInt8 := (List.range n).map fun j => if t ≤ j then dE at_ v K j else dE at_ v (K - 1) j
theorem dM_length (at_ v : List UInt8) (n K t : Nat) : (dM at_ v n K t).length = n := by simp [dM]
theorem dL_length (at_ v : List UInt8) (n k : Nat) : (dL at_ v n k).length = n := by simp [dL]
theorem dM_get (at_ v : List UInt8) (n K t j : Nat) (h : j < (dM at_ v n K t).length) : (dM at_ v n K t)[j] = if t ≤ j then dE at_ v K j else dE at_ v (K - 1) j := by simp [dM]
theorem dL_get (at_ v : List UInt8) (n k j : Nat) (h : j < (dL at_ v n k).length) : (dL at_ v n k)[j] = dE at_ v k j := by simp [dL]
theorem dM_start (at_ v : List UInt8) (n K : Nat) : dM at_ v n K n = dL at_ v n (K - 1) := by
  unfold dM dL
  refine List.map_congr_left fun j hj => ?_
  rw [if_neg (by have := List.mem_range.1 hj; omega)]
theorem dM_end (at_ v : List UInt8) (n K : Nat) (hK : 1 ≤ K) : dM at_ v n K K = dL at_ v n K := by
  unfold dM dL
  refine List.map_congr_left fun j hj => ?_
  by_cases h : K ≤ j
  · rw [if_pos h]
  · rw [if_neg h]
    unfold dE
    rw [Nat.min_eq_right (by omega), Nat.min_eq_right (by omega)]
theorem dM_set (at_ v : List UInt8) (n K I : Nat) (hI : I < n) : (dM at_ v n K (I + 1)).set I (dE at_ v K I) = dM at_ v n K I := by
  apply List.ext_getElem
  · simp [dM]
  · intro q h1 h2
    rw [List.getElem_set, dM_get, dM_get]
    by_cases e : I = q
    · subst e; rw [if_pos rfl, if_pos (Nat.le_refl _)]
    · rw [if_neg e]
      by_cases g : I ≤ q
      · rw [if_pos g, if_pos (by omega)]
      · rw [if_neg g, if_neg (by omega)]
theorem dE_step (at_ v : List UInt8) (K I : Nat) (hK : 1 ≤ K) (hI : K ≤ I) : dE at_ v K I = Gf.mul (Gf.add (dE at_ v (K - 1) I) (dE at_ v (K - 1) (I - 1))) (Gf.inv (Gf.add (at_.getD I 0) (at_.getD (I - K) 0))) := by
  obtain ⟨k, rfl⟩ : ∃ k, K = k + 1 := ⟨K - 1, by omega⟩
  unfold dE
  rw [Nat.min_eq_left hI, Nat.min_eq_left (show k + 1 - 1 ≤ I by omega), Nat.min_eq_left (show k + 1 - 1 ≤ I - 1 by omega)]
  rfl
theorem dL_zero (at_ v : List UInt8) (n : Nat) (hv : v.length = n) : dL at_ v n 0 = v := by
  apply List.ext_getElem
  · rw [dL_length, hv]
  · intro j h1 h2
    rw [dL_get]
    unfold dE
    rw [Nat.min_eq_left (Nat.zero_le _)]
    show v.getD j 0 = v[j]
    rw [List.getD_eq_getElem?_getD, List.getElem?_eq_getElem h2]; rfl
theorem dE_last (at_ v : List UInt8) (n k j : Nat) (hk : n ≤ k + 1) (hj : j < n) : dE at_ v k j = Gf.dif (fun i => at_.getD i 0) (fun i => v.getD i 0) j j := by
  unfold dE; rw [Nat.min_eq_right (by omega)]
/-- the sum from the end on -/
def nw (at_ v : List UInt8) (n : Nat) (x : UInt8) (k : Nat) : UInt8 := Gf.horner (fun i => at_.getD i 0) (fun i => Gf.dif (fun i => at_.getD i 0) (fun i => v.getD i 0) i i) n x k
theorem nw_step (at_ v : List UInt8) (n : Nat) (x : UInt8) (S k : Nat) (hS : S < n) (hk : n ≤ k + 1) : nw at_ v n x (n - S) = Gf.add (Gf.mul (nw at_ v n x (n - (S + 1))) (Gf.add x (at_.getD S 0))) (dE at_ v k S) := by
  rw [dE_last at_ v n k S hk hS]
  obtain ⟨m, hm⟩ : ∃ m, m = n - (S + 1) := ⟨_, rfl⟩
  rw [← hm, show n - S = m + 1 by omega]
  unfold nw
  simp only [Gf.horner]
  rw [show n - (m + 1) = S by omega]
  rfl

set_option maxRecDepth 20000 in
set_option maxHeartbeats 8000000 in
theorem RefThru_calls (at_ v : List UInt8) (n : Nat) (x : UInt8) (a b : Option Addr) (ca ea cb eb : Nat) (w : World) (ha : Rd w a ea (at_.map vB)) (hb : Rd w b eb (v.map vB)) (hl : at_.length = n) (hv : v.length = n) (h0 : 0 < n) (hn : n ≤ 1000) :
    Calls Tryd.prog 36 #[.slice a n ca, .slice b n cb, .int .u8 x.toNat] w fun e w' => e = .returned (.int .u8 (nw at_ v n x n).toNat) ∧ Below w.heap.size w w' := by
  obtain ⟨bb, ob, rfl, hbb, _⟩ := hb.bytes (k := 0) (by omega)
  have Hl := Lib.hid hl
  have Hv := Lib.hid hv
  clear hl hv
  obtain ⟨W, hW⟩ : ∃ W, W = w.heap.size := ⟨_, rfl⟩
  have HW := Lib.hid hW
  go_enter Tryd.func36, Tryd.ntmps36
  go_wp2_with (at_builtin; refine appRd 33 5 (.int .u8 0) 1 1 Tryd.underlying33 info_u8 rfl (by omega) (by omega) rfl _ _ rfl w.heap.size _ 0 [] rfl (World.ownsRow_made w #[] 0 (Nat.le_refl _) (Nat.zero_le _) rfl) ⟨bb, ob, none⟩ n _ (v.map vB) rfl eb (hb.alloc _) (by rw [List.length_map, Hv.out]; omega) (one_bytes v) h0 (by omega) (by simp) _ rfl ?_; intro g cap w1 hown hgrow _ _)
  have hb1 : Below w.heap.size w w1 := ((Below.refl _ w).alloc (Nat.le_refl _) _).grown hgrow (by simp) (fun k hk => by have : w.heap.size = k := Option.some.inj hk; omega)
  clear hgrow
  have hown1 : w1.ownsRow w.heap.size 5 1 (.slice (some ⟨g, 0, none⟩) n cap) n ((dL at_ v n 0).map vB) := by
    rw [dL_zero at_ v n Hv.out]; simpa using hown
  rw [← hW] at hown1 hb1 ⊢
  clear hW hown
  go_wp2_with fail
  go_loopw [8] (fun i wr => ∃ K : Nat, 1 ≤ K ∧ K ≤ n ∧ i = .int .i64 K ∧ wr.ownsRow W 5 1 (.slice (some ⟨g, 0, none⟩) n cap) n ((dL at_ v n (K - 1)).map vB) ∧ Below W w wr) (fun i _ => n - (intOf i).toNat)
  case atStart => exact ⟨1, Nat.le_refl _, h0, rfl, hown1, hb1⟩
  case round =>
    clear hown1 hb1
    obtain ⟨K, hK1, hK, rfl, hown, hbl⟩ := hrel
    by_cases hlt : K < n
    · have q1 : decide ((K : Int) < (n : Int)) = true := by rw [decide_eq_true_eq]; omega
      go_wp2_with fail
      go_loopw [9] (fun i wr => ∃ t : Nat, K ≤ t ∧ t ≤ n ∧ i = .int .i64 ((t : Int) - 1) ∧ wr.ownsRow W 5 1 (.slice (some ⟨g, 0, none⟩) n cap) n ((dM at_ v n K t).map vB) ∧ Below W w wr) (fun i _ => (intOf i + 1).toNat)
      case atStart => exact ⟨n, hK, Nat.le_refl _, rfl, by rw [dM_start]; exact hown, hbl⟩
      case round =>
        clear hown hbl
        obtain ⟨t, hKt, htn, rfl, hown, hbl⟩ := hrel
        by_cases hg : K < t
        · obtain ⟨I, rfl⟩ : ∃ I, t = I + 1 := ⟨t - 1, by omega⟩
          obtain ⟨m, hm⟩ : ∃ m, m = I - 1 := ⟨_, rfl⟩
          obtain ⟨q, hq⟩ : ∃ q, q = I - K := ⟨_, rfl⟩
          have eI : (((I + 1 : Nat) : Int) - 1) = (I : Int) := by omega
          rw [eI]
          have hm1 : (I : Int) - 1 = (m : Int) := by omega
          have hq1 : (I : Int) - (K : Int) = (q : Int) := by omega
          have q2 : decide ((K : Int) ≤ (I : Int)) = true := by rw [decide_eq_true_eq]; omega
          have hst := dE_step at_ v K I hK1 (by omega)
          have hset := dM_set at_ v n K I (by omega)
          rw [← hm, ← hq] at hst
          rw [hst] at hset
          have g1 := ownB_get hown (k := I) (by rw [dM_length]; omega)
          have g2 := ownB_get hown (k := m) (by rw [dM_length]; omega)
          rw [dM_get, if_neg (by omega)] at g1 g2
          obtain ⟨ba, oa, rfl, hba, hca⟩ := ha.bytes (k := I) (by rw [Hl.out]; omega)
          have f1 : wr.cell? ⟨ba, oa + I, none⟩ = some (.int .u8 (at_.getD I 0).toNat) := by
            rw [List.getD_eq_getElem?_getD, List.getElem?_eq_getElem (show I < at_.length by rw [Hl.out]; omega)]
            exact (hbl.cell (p := ⟨ba, oa + I, none⟩) (by rw [HW.out]; exact hba)).trans (hca I (by rw [Hl.out]; omega))
          have f2 : wr.cell? ⟨ba, oa + q, none⟩ = some (.int .u8 (at_.getD q 0).toNat) := by
            rw [List.getD_eq_getElem?_getD, List.getElem?_eq_getElem (show q < at_.length by rw [Hl.out]; omega)]
            exact (hbl.cell (p := ⟨ba, oa + q, none⟩) (by rw [HW.out]; exact hba)).trans (hca q (by rw [Hl.out]; omega))
          have HSet := Lib.hid hset
          have g10 := g1.1
          have g11 := g1.2
          have g20 := g2.1
          have i0 : (0 : Int) ≤ (I : Int) := by omega
          have i1 : (I : Int) < (n : Int) := by omega
          have i2 : (0 : Int) ≤ (m : Int) := by omega
          have i3 : (m : Int) < (n : Int) := by omega
          have i4 : (0 : Int) ≤ (q : Int) := by omega
          have i5 : (q : Int) < (n : Int) := by omega
          have hw1 : IntKind.i64.wrap (m : Int) = (m : Int) := by rw [IntKind.wrap_i64]; omega
          have hw2 : IntKind.i64.wrap (q : Int) = (q : Int) := by rw [IntKind.wrap_i64]; omega
          have Hm := Lib.hid hm
          have Hq := Lib.hid hq
          clear hst hset g1 g2 hca hm hq eI
          generalize dE at_ v (K - 1) I = y1 at *
          generalize dE at_ v (K - 1) m = y2 at *
          generalize at_.getD I 0 = y3 at *
          generalize at_.getD q 0 = y4 at *
          go_wp2_with fail
          refine wp_region_still_tail 26 (by kernel_rfl) (by kernel_rfl) ?_
          simp only [List.take_succ_cons, List.take_zero, List.drop_succ_cons, List.drop_zero]
          repeat still_step
          still_call ((RefInv_calls (Gf.add y3 y4) _).mono fun e w' h => ⟨h.1, h.2.symm⟩)
          repeat still_step
          still_call ((RefMul_calls (Gf.add y1 y2) (Gf.inv (Gf.add y3 y4)) _).mono fun e w' h => ⟨h.1, h.2.symm⟩)
          repeat still_step
          refine wpStill_nil ?_
          change wpList _ _ _ _ _ wr.drew
          have hown6 := ownB_set hown.drew I (Gf.mul (Gf.add y1 y2) (Gf.inv (Gf.add y3 y4)))
          have b6 := hbl.drew.setCell (p := ⟨g, I, none⟩) (hown.lt g rfl).1 (.int .u8 (Gf.mul (Gf.add y1 y2) (Gf.inv (Gf.add y3 y4))).toNat)
          have g12 : wr.drew.cell? ⟨g, I, none⟩ = some (.int .u8 y1.toNat) := g10
          have g13 : wr.drew.frozen? ⟨g, I, none⟩ = false := g11
          rw [HSet.out] at hown6
          generalize wr.drew = w2 at *
          go_wp2_with fail
          go_roundw
          case rel => exact ⟨I, by omega, by omega, by go_num, hown6, b6⟩
          case measure => simp [intOf] <;> omega
        · obtain rfl : t = K := by omega
          have q3 : decide ((t : Int) ≤ (t : Int) - 1) = false := by rw [decide_eq_false]; omega
          rw [dM_end at_ v n t hK1] at hown
          go_wp2_with fail
          go_roundw
          case rel => exact ⟨t + 1, by omega, by omega, by go_num, hown, hbl⟩
          case measure => simp [intOf] <;> omega
    · obtain rfl : K = n := by omega
      have q1 : decide ((K : Int) < (K : Int)) = false := by rw [decide_eq_false]; omega
      go_wp2_with fail
      obtain ⟨w5, hw5⟩ : ∃ w5, w5 = wr := ⟨_, rfl⟩
      rw [← hw5] at hown hbl ⊢
      clear hw5
      go_loopw [10, 11] (fun o i wr => ∃ s m : Nat, s ≤ K ∧ i = .int .i64 ((s : Int) - 1) ∧ o = .int .u8 (nw at_ v K x (K - s)).toNat ∧ wr = w5.drewN m) (fun _ i _ => (intOf i + 1).toNat)
      case atStart => exact ⟨K, 0, Nat.le_refl _, rfl, by rw [Nat.sub_self]; rfl, rfl⟩
      case round =>
        obtain ⟨s, d, hs, rfl, rfl, hwr⟩ := hrel
        have hown : wr.ownsRow W 5 1 (.slice (some ⟨g, 0, none⟩) K cap) K ((dL at_ v K (K - 1)).map vB) := by rw [hwr]; exact own_drewN hown d
        have hbl : Below W w wr := by rw [hwr]; exact below_drewN hbl d
        have Hwr := Lib.hid hwr
        clear hwr
        by_cases hg : 0 < s
        · obtain ⟨S, rfl⟩ : ∃ S, s = S + 1 := ⟨s - 1, by omega⟩
          have eI : (((S + 1 : Nat) : Int) - 1) = (S : Int) := by omega
          rw [eI]
          have q2 : decide ((0 : Int) ≤ (S : Int)) = true := by rw [decide_eq_true_eq]; omega
          have hst := nw_step at_ v K x S (K - 1) (by omega) (by omega)
          have g1 := (ownB_get hown (k := S) (by rw [dL_length]; omega)).1
          rw [dL_get] at g1
          obtain ⟨ba, oa, rfl, hba, hca⟩ := ha.bytes (k := S) (by rw [Hl.out]; omega)
          have f1 : wr.cell? ⟨ba, oa + S, none⟩ = some (.int .u8 (at_.getD S 0).toNat) := by
            rw [List.getD_eq_getElem?_getD, List.getElem?_eq_getElem (show S < at_.length by rw [Hl.out]; omega)]
            exact (hbl.cell (p := ⟨ba, oa + S, none⟩) (by rw [HW.out]; exact hba)).trans (hca S (by rw [Hl.out]; omega))
          have HSt := Lib.hid hst
          have i0 : (0 : Int) ≤ (S : Int) := by omega
          have i1 : (S : Int) < (K : Int) := by omega
          clear hst hca eI
          generalize nw at_ v K x (K - (S + 1)) = y1 at *
          generalize dE at_ v (K - 1) S = y2 at *
          generalize at_.getD S 0 = y3 at *
          have MC : ∀ w, Calls Tryd.prog 10 #[.int .u8 y1.toNat, .int .u8 (Gf.add x y3).toNat] w fun e w' => e = .returned (.int .u8 (Gf.mul y1 (Gf.add x y3)).toNat) ∧ ∃ n, w' = w.drewN n := fun w => (RefMul_calls y1 (Gf.add x y3) w).mono (fun e w' h => ⟨h.1, 0, by rw [← h.2]; rfl⟩)
          go_wp2_with fail
          go_quiet ((go_at_call 10; exact Calls.quiet_of (MC _)))
          go_wp2
          go_roundw
          case rel => exact ⟨S, d + nq, by omega, by go_num, by rw [HSt.out], by rw [Hwr.out, World.drewN_drewN]⟩
          case measure => simp [intOf] <;> omega
        · obtain rfl : s = 0 := by omega
          have eI : (((0 : Nat) : Int) - 1) = -1 := by omega
          rw [eI, Nat.sub_zero]
          have q2 : decide ((0 : Int) ≤ -1) = false := by decide
          go_wp2_with fail
          go_ret
          rw [HW.out] at hbl
          exact ⟨rfl, hbl⟩
end Go.Proofs.YtalbmcidlalicaaDoor
