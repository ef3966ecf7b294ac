/- ONE WHO IS HONEST IS ENOUGH: oathbooklaw4.LotFair answers true at every input. -/
import Derived.Test.YtpfpcklonkgkeaaRows
import Derived.StillTailTactics
import Derived.Deep.RegionHeld3
import Derived.SizedLaws
import Derived.Test.YtpfpcklonkgkeaaLotFact
import Derived.Test.YtpfpcklonkgkeaaWeigh
import Derived.ShutString
import Derived.ChangeOld
import Derived.Below
namespace Go.Proofs.Ytpfpcklonkgkeaa
open Go.ChangeShapes Go.WideShapes Go.ChangeAt Go.RowKit
open Go.ChangeMaps (open_string shut_string)
set_option linter.unusedVariables false
namespace lotFair
theorem own : ownKnob Try.prog.godebug = none := by kernel_rfl
theorem laidOut : laidOutB Try.prog = true := by kernel_rfl

-- HOLE: the walk
set_option linter.unusedSimpArgs false
set_option maxRecDepth 20000 in
set_option maxHeartbeats 8000000 in
theorem walk (x0 : List (List UInt8)) (a0 : Option Addr) (c0 e0 : Nat) (a1 : Int) (x2 : List UInt8) (x3 : List UInt8) (w : World) (l0 : x0.length * 32 ≤ 140737488351232) (n0 : ∀ d ∈ x0, d.length = 32) (r0 : Rd w a0 e0 (x0.flatten.map vB)) (h1 : -9223372036854775808 ≤ a1 ∧ a1 ≤ 9223372036854775807) (n2 : x2.length = 32) (n3 : x3.length = 32) :
    Calls Try.prog 3 #[.slice a0 x0.length c0, .int .i64 a1, .agg (dV x2), .agg (dV x3)] w fun e w' => e = .returned (.bool true) ∧ Below w.heap.size w w' := by
  obtain ⟨M, hM, eqM, FC⟩ := Mix_fact ((w.alloc (.cells (dV x2) 24)).alloc (.cells (dV x3) 24))
  unfold sixCells at eqM
  unfold lotCells at FC
  simp only [World.size_alloc] at FC
  have N0 := Lib.hid n0
  have L2 := Lib.hid n2
  have L3 := Lib.hid n3
  clear n0 n2 n3
  by_cases hA : a1 < 0
  · have q1 : decide (a1 < 0) = true := decide_eq_true hA
    clear hA
    go_enter Try.func3, Try.ntmps3
    go_wp2_with fail
    generalize (Value.agg #[.int .u8 5, .int .u8 0, .int .u8 0, .int .u8 0, .int .u8 0, .int .u8 0, .int .u8 0, .int .u8 0, .int .u8 0, .int .u8 0, .int .u8 0, .int .u8 0, .int .u8 0, .int .u8 0, .int .u8 0, .int .u8 0, .int .u8 0, .int .u8 0, .int .u8 0, .int .u8 0, .int .u8 0, .int .u8 0, .int .u8 0, .int .u8 0, .int .u8 0, .int .u8 0, .int .u8 0, .int .u8 0, .int .u8 0, .int .u8 0, .int .u8 0, .int .u8 0]) = z5
    generalize (Value.agg #[.int .u8 3, .int .u8 0, .int .u8 0, .int .u8 0, .int .u8 0, .int .u8 0, .int .u8 0, .int .u8 0, .int .u8 0, .int .u8 0, .int .u8 0, .int .u8 0, .int .u8 0, .int .u8 0, .int .u8 0, .int .u8 0, .int .u8 0, .int .u8 0, .int .u8 0, .int .u8 0, .int .u8 0, .int .u8 0, .int .u8 0, .int .u8 0, .int .u8 0, .int .u8 0, .int .u8 0, .int .u8 0, .int .u8 0, .int .u8 0, .int .u8 0, .int .u8 0]) = z3
    refine FC.mono ?_; rintro e w1 ⟨rfl, hb1⟩
    clear FC
    have hb00 := ((Below.refl w.heap.size w).alloc (Nat.le_refl _) (.cells (dV x2) 24)).alloc (by simp) (.cells (dV x3) 24)
    have hb0 : Below w.heap.size w w1 := hb00.trans (hb1.mono (by omega))
    clear hb00
    have hs1 := hb1.size
    simp only [World.size_alloc] at hs1
    go_wp2_with (first
      | (refine st_new rfl (.tmp 9) (.tmp 17) rfl M hM (by rfl) _ _ (by rfl) (by rfl) ?_)
      | (refine ld_new rfl (.tmp 9) rfl M hM _ (by rfl) ?_))
    go_ret
    exact ⟨rfl, hb0.alloc hb0.size _⟩
  · have q1 : decide (a1 < 0) = false := decide_eq_false hA
    by_cases hB : (x0.length : Int) ≤ a1
    · have q2 : decide ((x0.length : Int) ≤ a1) = true := decide_eq_true hB
      clear hA hB
      go_enter Try.func3, Try.ntmps3
      go_wp2_with fail
      generalize (Value.agg #[.int .u8 5, .int .u8 0, .int .u8 0, .int .u8 0, .int .u8 0, .int .u8 0, .int .u8 0, .int .u8 0, .int .u8 0, .int .u8 0, .int .u8 0, .int .u8 0, .int .u8 0, .int .u8 0, .int .u8 0, .int .u8 0, .int .u8 0, .int .u8 0, .int .u8 0, .int .u8 0, .int .u8 0, .int .u8 0, .int .u8 0, .int .u8 0, .int .u8 0, .int .u8 0, .int .u8 0, .int .u8 0, .int .u8 0, .int .u8 0, .int .u8 0, .int .u8 0]) = z5
      generalize (Value.agg #[.int .u8 3, .int .u8 0, .int .u8 0, .int .u8 0, .int .u8 0, .int .u8 0, .int .u8 0, .int .u8 0, .int .u8 0, .int .u8 0, .int .u8 0, .int .u8 0, .int .u8 0, .int .u8 0, .int .u8 0, .int .u8 0, .int .u8 0, .int .u8 0, .int .u8 0, .int .u8 0, .int .u8 0, .int .u8 0, .int .u8 0, .int .u8 0, .int .u8 0, .int .u8 0, .int .u8 0, .int .u8 0, .int .u8 0, .int .u8 0, .int .u8 0, .int .u8 0]) = z3
      refine FC.mono ?_; rintro e w1 ⟨rfl, hb1⟩
      clear FC
      have hb00 := ((Below.refl w.heap.size w).alloc (Nat.le_refl _) (.cells (dV x2) 24)).alloc (by simp) (.cells (dV x3) 24)
      have hb0 : Below w.heap.size w w1 := hb00.trans (hb1.mono (by omega))
      clear hb00
      have hs1 := hb1.size
      simp only [World.size_alloc] at hs1
      go_wp2_with (first
        | (refine st_new rfl (.tmp 9) (.tmp 17) rfl M hM (by rfl) _ _ (by rfl) (by rfl) ?_)
        | (refine ld_new rfl (.tmp 9) rfl M hM _ (by rfl) ?_))
      go_ret
      exact ⟨rfl, hb0.alloc hb0.size _⟩
    · obtain ⟨k, rfl⟩ : ∃ k : Nat, a1 = k := ⟨a1.toNat, by omega⟩
      have hk : k < x0.length := by omega
      have q2 : decide ((x0.length : Int) ≤ (k : Int)) = false := by rw [decide_eq_false]; omega
      have q2' : decide (x0.length ≤ k) = false := by rw [decide_eq_false]; omega
      have k0 : (0 : Int) ≤ (k : Int) := by omega
      have k1 : (k : Int) < (x0.length : Int) := by omega
      obtain ⟨bs, os, rfl, hbs, _⟩ := r0.range N0.out hk
      clear hA hB
      go_enter Try.func3, Try.ntmps3
      go_wp2_with fail
      generalize (Value.agg #[.int .u8 5, .int .u8 0, .int .u8 0, .int .u8 0, .int .u8 0, .int .u8 0, .int .u8 0, .int .u8 0, .int .u8 0, .int .u8 0, .int .u8 0, .int .u8 0, .int .u8 0, .int .u8 0, .int .u8 0, .int .u8 0, .int .u8 0, .int .u8 0, .int .u8 0, .int .u8 0, .int .u8 0, .int .u8 0, .int .u8 0, .int .u8 0, .int .u8 0, .int .u8 0, .int .u8 0, .int .u8 0, .int .u8 0, .int .u8 0, .int .u8 0, .int .u8 0]) = z5
      generalize (Value.agg #[.int .u8 3, .int .u8 0, .int .u8 0, .int .u8 0, .int .u8 0, .int .u8 0, .int .u8 0, .int .u8 0, .int .u8 0, .int .u8 0, .int .u8 0, .int .u8 0, .int .u8 0, .int .u8 0, .int .u8 0, .int .u8 0, .int .u8 0, .int .u8 0, .int .u8 0, .int .u8 0, .int .u8 0, .int .u8 0, .int .u8 0, .int .u8 0, .int .u8 0, .int .u8 0, .int .u8 0, .int .u8 0, .int .u8 0, .int .u8 0, .int .u8 0, .int .u8 0]) = z3
      refine FC.mono ?_; rintro e w1 ⟨rfl, hb1⟩
      clear FC
      have hb00 := ((Below.refl w.heap.size w).alloc (Nat.le_refl _) (.cells (dV x2) 24)).alloc (by simp) (.cells (dV x3) 24)
      have hb0 : Below w.heap.size w w1 := hb00.trans (hb1.mono (by omega))
      clear hb00
      have hs1 := hb1.size
      simp only [World.size_alloc] at hs1
      obtain ⟨B, hB⟩ : ∃ B, B = w.heap.size := ⟨_, rfl⟩
      have HB := Lib.hid hB
      have c6 : w1.heap[B]? = some (.cells (dV x2) 24 (0, 0)) := by
        rw [hb1.block B (by omega), Below.heap_alloc _ _ B (by simp; omega), hB]
        exact heap_alloc_new _ _
      have c7 : w1.heap[B + 1]? = some (.cells (dV x3) 24 (0, 0)) := by
        rw [hb1.block (B + 1) (by omega), hB]
        have := heap_alloc_new (w.alloc (.cells (dV x2) 24)) (.cells (dV x3) 24)
        simpa using this
      rw [← hB] at hb0 hs1 ⊢
      have r1 := r0.below (show Below w.heap.size w w1 by rw [← hB]; exact hb0)
      clear hb1 hB
      obtain ⟨C, hC⟩ : ∃ C, C = w1.heap.size := ⟨_, rfl⟩
      obtain ⟨W', hW'⟩ : ∃ W', W' = (w1.alloc (.cells (dV M) 24)).alloc (.cells #[] 24) := ⟨_, rfl⟩
      have hsW : W'.heap.size = C + 1 + 1 := by rw [hW', hC]; simp
      have hmade : W'.ownsRow C 24 32 (.slice (some ⟨w1.heap.size + 1, 0, none⟩) 0 0) 0 [] := by
        have := World.ownsRow_made (base := C) (size := 32) (e := 24) (w1.alloc (.cells (dV M) 24)) #[] 0 (by rw [World.size_alloc]; omega) (Nat.zero_le _) rfl
        rw [hW']; simpa using this
      have bW1 : Below C w1 W' := by rw [hW']; exact ((Below.refl _ _).alloc (by omega) _).alloc (by rw [World.size_alloc]; omega) _
      have bW : Below B w W' := hb0.trans (bW1.mono (by omega))
      have rW : Rd W' (some ⟨bs, os, none⟩) e0 (x0.flatten.map vB) := by rw [hW']; exact (r1.alloc _).alloc _
      have hfl := (flat_get x0 N0.out).1
      have Hfl := Lib.hid hfl
      have HW' := Lib.hid hW'
      have HC := Lib.hid hC
      have C6 := Lib.hid c6
      have C7 := Lib.hid c7
      have BW := Lib.hid bW
      have BW1 := Lib.hid bW1
      clear hW' hC hfl c6 c7 r1 bW bW1
      have hz32 : zeros.length = 32 := by decide
      go_wp2_with (first
        | (refine st_new rfl (.tmp 9) (.tmp 17) rfl M hM (by rfl) _ _ (by rfl) (by rfl) ?_)
        | (refine ld_new rfl (.tmp 9) rfl M hM _ (by rfl) ?_)
        | (at_builtin; rw [← HW'.out]; refine appRdw 22 24 (.agg #[.int .u8 0, .int .u8 0, .int .u8 0, .int .u8 0, .int .u8 0, .int .u8 0, .int .u8 0, .int .u8 0, .int .u8 0, .int .u8 0, .int .u8 0, .int .u8 0, .int .u8 0, .int .u8 0, .int .u8 0, .int .u8 0, .int .u8 0, .int .u8 0, .int .u8 0, .int .u8 0, .int .u8 0, .int .u8 0, .int .u8 0, .int .u8 0, .int .u8 0, .int .u8 0, .int .u8 0, .int .u8 0, .int .u8 0, .int .u8 0, .int .u8 0, .int .u8 0]) 32 32 Try.underlying22 info_dig rfl (by omega) rfl (.tmp 29) (.tmp 30) rfl C _ 0 [] rfl hmade ⟨bs, os, none⟩ x0.length _ (x0.flatten.map vB) rfl e0 rW (by rw [List.length_map, Hfl.out]; omega) (one_bytes _) (by omega) (by omega) (by omega) (by rw [hsW]; omega) _ rfl ?_; intro g cap w2 hown hgrow _ _; simp only [Nat.zero_add, List.nil_append] at hown; have hg := (hown.lt g rfl).1; have b2 : Below C w1 w2 := BW1.out.grown hgrow (by rw [hsW]; omega) (fun q hq => by have h9 : w1.heap.size + 1 = q := Option.some.inj hq; have := HC.out; omega); have hown3 := own_digset hown N0.out k hk zeros hz32; have b3 : Below C w1 (w2.setCells g (k * 32) (zeros.map vB)) := below_setCells _ _ b2 hg; have thr := own_there hown N0.out k hk; clear hgrow hown b2)
        | (refine st_dig rfl (.tmp 35) (.tmp 34) rfl g (k * 32) zeros hz32 (by rfl) zlit thr ?_; clear thr; generalize w2.setCells g (k * 32) (zeros.map vB) = w3 at *))
      clear hmade rW hsW
      have hs3 := b3.size
      have hC1 := HC.out
      have D0 : ∀ d ∈ x0.set k zeros, d.length = 32 := by
        intro x hx
        rcases List.mem_or_eq_of_mem_set hx with hx | rfl
        · exact N0.out x hx
        · exact hz32
      have D0' := Lib.hid D0
      have MC := Mix_calls (x0.set k zeros) D0 (some ⟨g, 0, none⟩) cap 24 w3 (Rd.of_own hown3) (by rw [List.length_set]; omega)
      rw [List.length_set] at MC
      obtain ⟨R, hR⟩ : ∃ R, R = mixOf (x0.set k zeros) := ⟨_, rfl⟩
      have hRl : R.length = 32 := by rw [hR]; exact mixOf_length _
      rw [← hR] at MC
      have HR := Lib.hid hR
      clear D0 hR
      refine MC.mono ?_; rintro e w4 ⟨rfl, hb4⟩
      clear MC
      have hs4 := hb4.size
      have hown4 := own_below hown3 hb4
      have b4 : Below C w1 w4 := b3.trans (hb4.mono (by omega))
      clear hown3 b3 hb4
      go_wp2_with (first
        | (refine st_new rfl (.tmp 11) (.tmp 37) rfl R hRl (by rfl) _ _ (by rfl) (by rfl) ?_))
      rw [zlit2]
      have hown5 := own_below hown4 (((Below.refl w4.heap.size w4).alloc (Nat.le_refl _) (.cells (dV R) 24)).alloc (by rw [World.size_alloc]; omega) (.cells (dV zeros) 24))
      have b5 : Below C w1 ((w4.alloc (.cells (dV R) 24)).alloc (.cells (dV zeros) 24)) := (b4.alloc (by omega) _).alloc (by rw [World.size_alloc]; omega) _
      have cR : ((w4.alloc (.cells (dV R) 24)).alloc (.cells (dV zeros) 24)).heap[w4.heap.size]? = some (.cells (dV R) 24 (0, 0)) := (Below.heap_alloc _ _ _ (by rw [World.size_alloc]; omega)).trans (heap_alloc_new _ _)
      have cO : ((w4.alloc (.cells (dV R) 24)).alloc (.cells (dV zeros) 24)).heap[w4.heap.size + 1]? = some (.cells (dV zeros) 24 (0, 0)) := by
        have := heap_alloc_new (w4.alloc (.cells (dV R) 24)) (.cells (dV zeros) 24)
        rw [World.size_alloc] at this
        exact this
      have hs5 : ((w4.alloc (.cells (dV R) 24)).alloc (.cells (dV zeros) 24)).heap.size = w4.heap.size + 1 + 1 := by simp
      generalize ((w4.alloc (.cells (dV R) 24)).alloc (.cells (dV zeros) 24)) = w5 at *
      obtain ⟨E, hE⟩ : ∃ E, E = w4.heap.size := ⟨_, rfl⟩
      rw [← hE] at cR cO hs5 hs4 ⊢
      have hgE : g < E := by rw [hE]; exact (hown4.lt g rfl).2
      clear hE hown4 b4
      have c65 : w5.heap[B]? = some (.cells (dV x2) 24 (0, 0)) := (b5.block B (by omega)).trans C6.out
      have CR := Lib.hid cR
      have CO := Lib.hid cO
      have C65 := Lib.hid c65
      clear cR cO c65
      go_loopw [13] (fun q wr => ∃ i : Nat, i ≤ 32 ∧ q = .int .i64 i ∧ wr.heap[E + 1]? = some (.cells (dV (ownM R x2 i)) 24 (0, 0)) ∧ Below (E + 1) w5 wr) (fun q _ => 32 - (intOf q).toNat)
      case atStart => exact ⟨0, Nat.zero_le _, rfl, by rw [ownM_zero]; exact CO.out, Below.refl _ _⟩
      case round =>
        obtain ⟨i, hi, rfl, hO, hbi⟩ := hrel
        have hsi := hbi.size
        have hRi : wr.heap[E]? = some (.cells (dV R) 24 (0, 0)) := (hbi.block E (by omega)).trans CR.out
        have hBi : wr.heap[B]? = some (.cells (dV x2) 24 (0, 0)) := (hbi.block B (by omega)).trans C65.out
        by_cases hlt : i < 32
        · have q5 : decide ((i : Int) < 32) = true := by rw [decide_eq_true_eq]; omega
          have d1 : wr.cell? ⟨E, i, none⟩ = some (.int .u8 (R.getD i 0).toNat) := by
            rw [cell_of_row _ E i _ _ _ hRi, dV_get (by omega), List.getD_eq_getElem?_getD, List.getElem?_eq_getElem (by omega)]; rfl
          have d2 : wr.cell? ⟨B, i, none⟩ = some (.int .u8 (x2.getD i 0).toNat) := by
            rw [cell_of_row _ B i _ _ _ hBi, dV_get (by rw [L2.out]; omega), List.getD_eq_getElem?_getD, List.getElem?_eq_getElem (by rw [L2.out]; omega)]; rfl
          have d3 : wr.cell? ⟨E + 1, i, none⟩ = some (.int .u8 0) := by
            rw [cell_of_row _ (E + 1) i _ _ _ hO, dV_get (by rw [ownM_length]; omega), ownM_get, if_neg (by omega)]; rfl
          have d4 : wr.frozen? ⟨E + 1, i, none⟩ = false := frozen_of_row _ (E + 1) i _ _ hO
          have hset := ownM_set R x2 i hlt
          have HSet := Lib.hid hset
          have HO := Lib.hid hO
          have i0 : (0 : Int) ≤ (i : Int) := by omega
          have i1 : (i : Int) < 32 := by omega
          clear hset hO hRi hBi
          generalize R.getD i 0 = y1 at *
          generalize x2.getD i 0 = y2 at *
          go_wp2_with fail
          refine wp_region_still_tail 9 (by kernel_rfl) (by kernel_rfl) ?_
          simp only [List.take_succ_cons, List.take_zero, List.drop_succ_cons, List.drop_zero]
          repeat still_step
          refine wpStill_nil ?_
          change wpList _ _ _ _ _ wr.drew
          have h6 := heap_setCell_same wr.drew (E + 1) i _ _ (.int .u8 (Gf.add y1 y2).toNat) HO.out
          rw [dV_set, HSet.out] at h6
          have b6 := hbi.drew.setCell (p := ⟨E + 1, i, none⟩) (Nat.le_refl _) (.int .u8 (Gf.add y1 y2).toNat)
          have d5 : wr.drew.cell? ⟨E + 1, i, none⟩ = some (.int .u8 0) := d3
          have d6 : wr.drew.frozen? ⟨E + 1, i, none⟩ = false := d4
          generalize wr.drew = w6 at *
          go_wp2_with fail
          go_roundw
          case rel => exact ⟨i + 1, by omega, by go_num, h6, b6⟩
          case measure => simp [intOf] <;> omega
        · obtain rfl : i = 32 := by omega
          have q5 : decide (((32 : Nat) : Int) < 32) = false := by decide
          have hOl : (ownM R x2 32).length = 32 := ownM_length _ _ _
          have hown6 : wr.ownsRow C 24 32 (.slice (some ⟨g, 0, none⟩) x0.length cap) x0.length ((x0.set k zeros).flatten.map vB) := own_of_block5 hown5 (fun q hq => by cases hq; exact hbi.block g (by omega))
          have b6 : Below C w1 wr := b5.trans (hbi.mono (by omega))
          have hk' : k < (x0.set k zeros).length := by rw [List.length_set]; exact hk
          have HO := Lib.hid hO
          clear hown5 b5 hRi hO
          obtain ⟨P, hP⟩ : ∃ P, P = ownM R x2 32 := ⟨_, rfl⟩
          rw [← hP] at HO hOl
          have HP := Lib.hid hP
          clear hP
          go_wp2_with (first
            | (refine ld_row rfl (.tmp 12) rfl (E + 1) (by rfl) P hOl _ _ HO.out ?_)
            | (refine st_dig rfl (.tmp 54) (.tmp 53) rfl g (k * 32) P hOl (by rfl) (by rfl) (own_there hown6 D0'.out k hk') ?_))
          have hown7 := own_digset hown6 D0'.out k hk' P hOl
          rw [List.set_set] at hown7
          have b7 : Below C w1 (wr.setCells g (k * 32) (P.map vB)) := below_setCells _ _ b6 hg
          have c67 : (wr.setCells g (k * 32) (P.map vB)).heap[B]? = some (.cells (dV x2) 24 (0, 0)) := (heap_setCells_other (by omega) _ _ _).trans hBi
          have c77 : (wr.setCells g (k * 32) (P.map vB)).heap[B + 1]? = some (.cells (dV x3) 24 (0, 0)) := (heap_setCells_other (by omega) _ _ _).trans ((b6.block (B + 1) (by omega)).trans C7.out)
          have cP7 : (wr.setCells g (k * 32) (P.map vB)).heap[E + 1]? = some (.cells (dV P) 24 (0, 0)) := (heap_setCells_other (by omega) _ _ _).trans HO.out
          have s7 := size_setCells (g := g) (P.map vB) wr (k * 32)
          generalize wr.setCells g (k * 32) (P.map vB) = w7 at *
          clear hown6 b6 hBi hbi
          have hPo : P = ownOf x0 k x2 := by rw [HP.out, HR.out]; rfl
          have hmx : mixOf (x0.set k P) = x2 := by rw [hPo]; exact lot_own x0 k hk x2 L2.out
          have DP : ∀ d, d.length = 32 → ∀ x ∈ x0.set k d, x.length = 32 := by
            intro d hd x hx
            rcases List.mem_or_eq_of_mem_set hx with hx | rfl
            · exact N0.out x hx
            · exact hd
          have MC2 : ∀ W, Rd W (some ⟨g, 0, none⟩) 24 ((x0.set k P).flatten.map vB) → Calls Try.prog 9 #[.slice (some ⟨g, 0, none⟩) x0.length cap] W fun e w' => e = .returned (.agg (dV x2)) ∧ Below W.heap.size W w' := fun W h => by
            have := Mix_calls (x0.set k P) (DP P hOl) (some ⟨g, 0, none⟩) cap 24 W h (by rw [List.length_set]; omega)
            rw [List.length_set, hmx] at this
            exact this
          have hoth := lot_other x0 k hk x2 x3 L2.out L3.out
          rw [← hPo] at hoth
          obtain ⟨M3, hM3⟩ : ∃ M3, M3 = mixOf (x0.set k x3) := ⟨_, rfl⟩
          have hM3l : M3.length = 32 := by rw [hM3]; exact mixOf_length _
          rw [← hM3] at hoth
          have MC3 : ∀ W, Rd W (some ⟨g, 0, none⟩) 24 ((x0.set k x3).flatten.map vB) → Calls Try.prog 9 #[.slice (some ⟨g, 0, none⟩) x0.length cap] W fun e w' => e = .returned (.agg (dV M3)) ∧ Below W.heap.size W w' := fun W h => by
            have := Mix_calls (x0.set k x3) (DP x3 L3.out) (some ⟨g, 0, none⟩) cap 24 W h (by rw [List.length_set]; omega)
            rw [List.length_set, ← hM3] at this
            exact this
          obtain ⟨qb, hqb⟩ : ∃ q, (M3 == x2) = q := ⟨_, rfl⟩
          have hqb2 : (x3 == P) = qb := by
            rw [hqb] at hoth
            exact (beq_iff_eq.1 hoth).symm
          have eq15 : ∀ w, (Op.equalIn 10000 24 (.agg (dV x2)) (.agg (x2.map vB).toArray)).run Try.prog w = .ok true w := fun w => by
            have h := dig_eq L2.out L2.out w
            rw [show (x2 == x2) = true from beq_self_eq_true _] at h
            exact h
          have eq18 : ∀ w, (Op.equalIn 10000 24 (.agg (dV M3)) (.agg (x2.map vB).toArray)).run Try.prog w = .ok qb w := fun w => by
            have h := dig_eq hM3l L2.out w
            rw [hqb] at h
            exact h
          have eq19 : ∀ w, (Op.equalIn 10000 24 (.agg (x3.map vB).toArray) (.agg (P.map vB).toArray)).run Try.prog w = .ok qb w := fun w => by
            have h := dig_eq L3.out hOl w
            rw [hqb2] at h
            exact h
          have DPP := Lib.hid (DP P hOl)
          have HPO := Lib.hid hOl
          have hu := Try.underlying24
          have hi2 : (Try.prog.info? 24).map (·.size) = some (x2.map vB).length := by rw [List.length_map, L2.out]; exact dig_size
          have hi3 : (Try.prog.info? 24).map (·.size) = some (x3.map vB).length := by rw [List.length_map, L3.out]; exact dig_size
          have hiP : (Try.prog.info? 24).map (·.size) = some (P.map vB).length := by rw [List.length_map, HPO.out]; exact dig_size
          have hl2 : (x2.map vB).length = 32 := by rw [List.length_map, L2.out]
          have hl3 : (x3.map vB).length = 32 := by rw [List.length_map, L3.out]
          have hlP : (P.map vB).length = 32 := by rw [List.length_map, HPO.out]
          have ho2 := one_bytes x2
          have ho3 := one_bytes x3
          have hoP := one_bytes P
          have rn2 := range_of_row c67
          have r7 : Rd w7 (some ⟨g, 0, none⟩) 24 ((x0.set k P).flatten.map vB) := Rd.of_own hown7
          have hg7 : g < w7.heap.size := by omega
          have hs7 : C < w7.heap.size := by omega
          clear hoth hqb hqb2 hmx hPo hM3 DP hM3l hOl
          go_wp2_with fail
          go_region_held3 (fun w' => w'.rangeAt B 0 (x2.map vB)) (first | go_keep_ranges | exact fun j v hj => (hb8.cell (p := ⟨B, 0 + j, none⟩) (by show B < _; simp; omega)).trans (rn2 j v hj)) (first | (go_at_call 9; refine (MC2 _ (by first | exact r7 | exact r7.drew)).mono ?_; rintro e w8 ⟨rfl, hb8⟩))
          have hb78 : Below w7.heap.size w7 w8 := Below.trans (Below.refl _ _).drew hb8
          have hown8 := own_below hown7 hb78
          have hEP := lt_of_heap cP7
          have b8 : Below C w1 w8 := b7.trans (hb78.mono (by omega))
          have c68 : w8.heap[B]? = some (.cells (dV x2) 24 (0, 0)) := (hb78.block B (by omega)).trans c67
          have c78 : w8.heap[B + 1]? = some (.cells (dV x3) 24 (0, 0)) := (hb78.block (B + 1) (by omega)).trans c77
          have cP8 : w8.heap[E + 1]? = some (.cells (dV P) 24 (0, 0)) := (hb78.block (E + 1) hEP).trans cP7
          have s8 := hb78.size
          have hk8 : k < (x0.set k P).length := by rw [List.length_set]; exact hk
          have C68 := Lib.hid c68
          have C78 := Lib.hid c78
          have CP8 := Lib.hid cP8
          clear hown7 b7 c67 c77 cP7 hb8 hb78 r7 rn2 c68 c78 cP8 MC2
          go_wp2_with (first
            | (refine ld_row rfl (.tmp 7) rfl (B + 1) (by rfl) x3 L3.out _ _ C78.out ?_)
            | (refine st_dig rfl (.tmp 62) (.tmp 61) rfl g (k * 32) x3 L3.out (by rfl) (by rfl) (own_there hown8 DPP.out k hk8) ?_))
          have hown9 := own_digset hown8 DPP.out k hk8 x3 L3.out
          rw [List.set_set] at hown9
          have b9 : Below C w1 (w8.setCells g (k * 32) (x3.map vB)) := below_setCells _ _ b8 hg
          have rn2 := range_of_row ((heap_setCells_other (show B ≠ g by omega) (x3.map vB) w8 (k * 32)).trans C68.out)
          have rn3 := range_of_row ((heap_setCells_other (show B + 1 ≠ g by omega) (x3.map vB) w8 (k * 32)).trans C78.out)
          have rnP := range_of_row ((heap_setCells_other (show E + 1 ≠ g by omega) (x3.map vB) w8 (k * 32)).trans CP8.out)
          have s9 := size_setCells (g := g) (x3.map vB) w8 (k * 32)
          generalize w8.setCells g (k * 32) (x3.map vB) = w9 at *
          have r9 : Rd w9 (some ⟨g, 0, none⟩) 24 ((x0.set k x3).flatten.map vB) := Rd.of_own hown9
          clear hown8 b8 hown9
          go_wp2_with fail
          have sB1 : B + 1 < w9.heap.size := by omega
          have sE1 : E + 1 < w9.heap.size := by omega
          have sB0 : B < w9.heap.size := by omega
          have sBC : B ≤ C := by omega
          have sC9 : C ≤ w9.heap.size := by omega
          generalize B + 1 = B1 at *
          generalize E + 1 = E1 at *
          refine wp_region_held_drew (S := fun w' => w'.rangeAt B 0 (x2.map vB) ∧ w'.rangeAt B1 0 (x3.map vB) ∧ w'.rangeAt E1 0 (P.map vB)) (by kernel_rfl) ⟨rn2, rn3, rnP⟩ (fun hHeld => ?_)
          refine wpAnyH_take (i := 4) (oi := _) (v := _) rfl (by kernel_rfl) (by kernel_rfl) (by kernel_rfl) (fun _ _ _ h => h) (yieldsIf_load_mid (by rfl) _ _ rfl _ _ rfl (x3.map vB) _ (fun w hw => hw.2.1) hu rfl hi3) hHeld ?_
          simp only [Act.put, List.getElem_toArray, List.getElem_cons_zero, List.getElem_cons_succ, List.setIfInBounds_toArray, List.set_cons_zero, List.set_cons_succ]
          refine wpAnyH_take (i := 5) (oi := _) (v := _) rfl (by kernel_rfl) (by kernel_rfl) (by kernel_rfl) (fun _ _ _ h => h) (yieldsIf_load_mid (by rfl) _ _ rfl _ _ rfl (P.map vB) _ (fun w hw => hw.2.2) hu rfl hiP) hHeld ?_
          simp only [Act.put, List.getElem_toArray, List.getElem_cons_zero, List.getElem_cons_succ, List.setIfInBounds_toArray, List.set_cons_zero, List.set_cons_succ]
          refine wpAnyH_take (i := 2) (oi := _) (v := _) rfl (by kernel_rfl) (by kernel_rfl) (by kernel_rfl) (fun _ _ _ h => h) (yieldsIf_load_mid (by rfl) _ _ rfl _ _ rfl (x2.map vB) _ (fun w hw => hw.1) hu rfl hi2) hHeld ?_
          simp only [Act.put, List.getElem_toArray, List.getElem_cons_zero, List.getElem_cons_succ, List.setIfInBounds_toArray, List.set_cons_zero, List.set_cons_succ]
          refine wpAnyH_take (i := 0) (oi := _) (v := .slice (some ⟨g, 0, none⟩) x0.length cap) rfl (by kernel_rfl) (by kernel_rfl) (by kernel_rfl) (fun _ _ _ h => h) (Or.inl ⟨by rfl, fun w hw => by go_simp⟩) hHeld ?_
          simp only [Act.put, List.getElem_toArray, List.getElem_cons_zero, List.getElem_cons_succ, List.setIfInBounds_toArray, List.set_cons_zero, List.set_cons_succ]
          refine wpAnyH_take (i := 6) (oi := _) (v := .bool qb) rfl (by kernel_rfl) (by kernel_rfl) (by kernel_rfl) (fun _ _ _ h => h) (Or.inl ⟨by rfl, fun w hw => by go_simp⟩) hHeld ?_
          simp only [Act.put, List.getElem_toArray, List.getElem_cons_zero, List.getElem_cons_succ, List.setIfInBounds_toArray, List.set_cons_zero, List.set_cons_succ]
          refine wpAnyH_ready (rs := [1]) (by kernel_rfl) (by simp) ?_
          refine AllReadyH.cons (o := _) rfl (fun K hK => ?_) AllReadyH.nil
          go_simp
          go_at_call 9
          refine (MC3 _ r9.drew).mono ?_
          rintro e wA ⟨rfl, hbA⟩
          dsimp only
          refine hK.out _ _ ⟨fun j v hj => (hbA.cell (p := ⟨B, 0 + j, none⟩) (by show B < w9.heap.size; omega)).trans (rn2 j v hj), fun j v hj => (hbA.cell (p := ⟨B1, 0 + j, none⟩) (by show B1 < w9.heap.size; omega)).trans (rn3 j v hj), fun j v hj => (hbA.cell (p := ⟨E1, 0 + j, none⟩) (by show E1 < w9.heap.size; omega)).trans (rnP j v hj)⟩ (fun hHeld => ?_)
          clear hK K
          try simp only [Act.put, List.getElem_toArray, List.getElem_cons_zero, List.getElem_cons_succ, List.setIfInBounds_toArray, List.set_cons_zero, List.set_cons_succ]
          refine wpAnyH_take (i := 3) (oi := _) (v := .bool qb) rfl (by kernel_rfl) (by kernel_rfl) (by kernel_rfl) (fun _ _ _ h => h) (Or.inl ⟨by rfl, fun w hw => by go_simp⟩) hHeld ?_
          simp only [Act.put, List.getElem_toArray, List.getElem_cons_zero, List.getElem_cons_succ, List.setIfInBounds_toArray, List.set_cons_zero, List.set_cons_succ]
          refine wpAnyH_take (i := 7) (oi := _) (v := .bool true) rfl (by kernel_rfl) (by kernel_rfl) (by kernel_rfl) (fun _ _ _ h => h) (Or.inl ⟨by rfl, fun w hw => by go_simp⟩) hHeld ?_
          simp only [Act.put, List.getElem_toArray, List.getElem_cons_zero, List.getElem_cons_succ, List.setIfInBounds_toArray, List.set_cons_zero, List.set_cons_succ]
          refine wpAnyH_take (i := 8) (oi := _) (v := .bool true) rfl (by kernel_rfl) (by kernel_rfl) (by kernel_rfl) (fun _ _ _ h => h) (Or.inl ⟨by rfl, fun w hw => by go_simp⟩) hHeld ?_
          simp only [Act.put, List.getElem_toArray, List.getElem_cons_zero, List.getElem_cons_succ, List.setIfInBounds_toArray, List.set_cons_zero, List.set_cons_succ]
          refine wpAnyH_done (by kernel_rfl) ?_ _
          have hb9A : Below w9.heap.size w9 wA := Below.trans (Below.refl _ _).drew hbA
          have hfin : Below B w wA := hb0.trans ((b9.mono (by omega)).trans (hb9A.mono (by omega)))
          go_wp2_with fail
          go_ret
          first
            | exact ⟨rfl, hfin⟩
            | exact ⟨rfl, by rw [← HB.out]; exact hfin⟩
            | exact ⟨by simp, hfin⟩
            | exact ⟨by simp, by rw [← HB.out]; exact hfin⟩
            | exact ⟨by kernel_rfl, hfin⟩
            | exact ⟨by kernel_rfl, by rw [← HB.out]; exact hfin⟩

set_option maxRecDepth 100000 in
theorem lifted (os : Os) (started : os.Started) (H : Type) (enc : TypeId × Value → H) :
    ReturnsInHanded {} Try.checked os 3 .any (Rows.lotFairSpec.pre6 enc Try.prog Try.f3 Rows.lotFairRow.domain false) (Rows.lotFairSpec.post enc Try.prog Try.f3 false true false false) := by
  refine returnsInHanded_of_change_sized (C := Try.checked) own started (by kernel_rfl) Try.func3
    (ChangeSpec.witness6 (enc := enc) (C := Try.checked) false ⟨#[], #[.slice none 0 0, .int .i64 0, .agg #[.int .u8 0, .int .u8 0, .int .u8 0, .int .u8 0, .int .u8 0, .int .u8 0, .int .u8 0, .int .u8 0, .int .u8 0, .int .u8 0, .int .u8 0, .int .u8 0, .int .u8 0, .int .u8 0, .int .u8 0, .int .u8 0, .int .u8 0, .int .u8 0, .int .u8 0, .int .u8 0, .int .u8 0, .int .u8 0, .int .u8 0, .int .u8 0, .int .u8 0, .int .u8 0, .int .u8 0, .int .u8 0, .int .u8 0, .int .u8 0, .int .u8 0, .int .u8 0], .agg #[.int .u8 0, .int .u8 0, .int .u8 0, .int .u8 0, .int .u8 0, .int .u8 0, .int .u8 0, .int .u8 0, .int .u8 0, .int .u8 0, .int .u8 0, .int .u8 0, .int .u8 0, .int .u8 0, .int .u8 0, .int .u8 0, .int .u8 0, .int .u8 0, .int .u8 0, .int .u8 0, .int .u8 0, .int .u8 0, .int .u8 0, .int .u8 0, .int .u8 0, .int .u8 0, .int .u8 0, .int .u8 0, .int .u8 0, .int .u8 0, .int .u8 0, .int .u8 0]], []⟩ 8 (by kernel_rfl) (by kernel_rfl) (by kernel_rfl) (by kernel_rfl)) ?_
  intro W base args ds gs before hval0 hW hcnd hsz _
  have hval : ∀ (j : Nat) t v, Try.f3.params[j]? = some t → args[j]? = some v → Value.okWide Try.prog W .any base t v := hval0
  have hW' := hW
  obtain ⟨p, q, hA0, hV, rfl, hfz, hnd⟩ := hW
  have hA : DataW.TrodAll enc Try.prog W 0 (fun _ => true) true Try.f3.params.toList args.toList ds p := hA0
  rw [Try.params3] at hA hval
  obtain ⟨v0, vs0, d0, ds0, p0, q0, hargs, rfl, rfl, h0, r0⟩ := trodAll_cons hA
  obtain ⟨v1, vs1, d1, ds1, p1, q1, rfl, rfl, rfl, h1, r1⟩ := trodAll_cons r0
  obtain ⟨v2, vs2, d2, ds2, p2, q2, rfl, rfl, rfl, h2, r2⟩ := trodAll_cons r1
  obtain ⟨v3, vs3, d3, ds3, p3, q3, rfl, rfl, rfl, h3, r3⟩ := trodAll_cons r2
  obtain ⟨rfl, rfl, rfl⟩ := trodAll_nil r3
  obtain rfl : args = #[v0, v1, v2, v3] := by cases args; simp_all
  obtain ⟨rfl, rfl⟩ := trodVars_none hV
  have k0 := h0
  have lt0 : ∀ x ∈ p0, x.block < W.heap.size := by obtain ⟨m, hm⟩ := k0; exact DataW.trod_lt m _ _ _ hm
  obtain ⟨x0, a0, c0, e0, rfl, g0, g_0, n0, r_0⟩ := open_digests Try.underlying22 Try.underlying24 Try.underlying5 (by kernel_rfl) (by kernel_rfl) (hval 0 22 v0 rfl rfl) h0
  have l0 : x0.length * 32 ≤ 140737488351232 := by have := trod_len (B := reachBytes) Try.underlying22 h0 (fun n hn => of_decide_eq_true (List.all_eq_true.1 hsz n (DataW.weights_mem_each (j := 0) (by first | rfl | kernel_rfl) rfl n hn))); rw [show Try.prog.bytesOf 24 = 32 by kernel_rfl] at this; exact this
  have k1 := h1
  have lt1 : ∀ x ∈ p1, x.block < W.heap.size := by obtain ⟨m, hm⟩ := k1; exact DataW.trod_lt m _ _ _ hm
  obtain ⟨a1, rfl, _, _, w1⟩ := open_int Try.underlying3 (hval 1 3 v1 rfl rfl) h1
  have b1 := bounds_i64 w1
  have k2 := h2
  have lt2 : ∀ x ∈ p2, x.block < W.heap.size := by obtain ⟨m, hm⟩ := k2; exact DataW.trod_lt m _ _ _ hm
  obtain ⟨x2, n2, rfl⟩ := open_digest Try.underlying24 Try.underlying5 (by kernel_rfl) (by kernel_rfl) (hval 2 24 v2 rfl rfl) h2
  have k3 := h3
  have lt3 : ∀ x ∈ p3, x.block < W.heap.size := by obtain ⟨m, hm⟩ := k3; exact DataW.trod_lt m _ _ _ hm
  obtain ⟨x3, n3, rfl⟩ := open_digest Try.underlying24 Try.underlying5 (by kernel_rfl) (by kernel_rfl) (hval 3 24 v3 rfl rfl) h3
  clear hA0 hval0
  refine (walk x0 a0 c0 e0 a1 x2 x3 W l0 n0 r_0 b1 n2 n3).mono fun e W' ⟨he, bel⟩ => ?_
  subst he
  exact ⟨_, rfl, _, _, _, [], _, [], hW', trodAll_mk1 (shut_bool Try.underlying4 _), (trodAll_cons_mk (Below.trod laidOut (by kernel_rfl) (of_decide_eq_true (by kernel_rfl)) k0 bel lt0) (trodAll_cons_mk (Below.trod laidOut (by kernel_rfl) (of_decide_eq_true (by kernel_rfl)) k1 bel lt1) (trodAll_cons_mk (Below.trod laidOut (by kernel_rfl) (of_decide_eq_true (by kernel_rfl)) k2 bel lt2) (trodAll_cons_mk (Below.trod laidOut (by kernel_rfl) (of_decide_eq_true (by kernel_rfl)) k3 bel lt3) trodAll_mk0)))), rfl, bel.frame _, fun h => by cases h⟩

theorem over : Rows.lotFairRow.holds Try.pinned (OpenSpec.ofChange Rows.lotFairSpec) :=
  OpenClaim.holds_of_wide 3 Try.f3 rfl rfl rfl rfl rfl rfl rfl ⟨rfl, rfl, rfl, rfl, rfl⟩ rfl rfl rfl rfl rfl (by kernel_rfl) Try.func3 (by kernel_rfl)
    (of_decide_eq_true (by kernel_rfl)) (by unfold Func.isWrapper; first | (rw [if_pos (by decide +kernel)]; kernel_rfl) | (rw [if_neg (by decide +kernel)]; exact ⟨rfl, rfl⟩))
    (fun os started H enc _ => lifted os started H enc)

theorem proved : Rows.LotFairSaid := over
#print axioms proved
end lotFair
end Go.Proofs.Ytpfpcklonkgkeaa
