/- Walk: the document's Nibbles: the numbers that a digest is signed by. -/
import Derived.Test.YtkioddmhjbaleaaGreatDoorDigits
namespace Go.Proofs.YtkioddmhjbaleaaGreatDoor
open Go.RowKit
set_option linter.unusedVariables false
set_option linter.unusedSimpArgs false

theorem info_intN : (Tryz.prog.info? 3).map (fun i => (i.zero, i.size, i.bytes)) = some (some (.int .i64 0), 1, 8) := by kernel_rfl
structure NibI (w : World) (S : Nat) (m : List UInt8) (k : Nat) (v : Value) (wr : World) : Prop where
  own : wr.ownsRow (S + 1) 3 1 v k (((List.range k).map (nibA m)).map vQ)
  s : wr.heap[S]? = some (.cells (dV m) 23 (0, 0))
  bel : Below w.heap.size w wr
theorem NibI.app {w wr w' : World} {S : Nat} {m : List UInt8} {k : Nat} {v : Value} (h : NibI w S m k v wr) (hS : w.heap.size ≤ S) (x : Nat) (hx : x = nibA m k) {v' : Value} (ob : Obj) (hown : w'.ownsRow (S + 1) 3 1 v' (k + 1) (((List.range k).map (nibA m)).map vQ ++ [.int .i64 (x : Int)])) (hg : (wr.alloc ob).grownBy w' v.ownBlock) : NibI w S m (k + 1) v' w' := by
  have hl := lt_of_heap h.s
  refine ⟨by rw [List.range_succ, List.map_append, List.map_append, List.map_singleton, List.map_singleton, ← hx]; exact hown, ?_, ?_⟩
  · rw [hg.block S (by rw [World.size_alloc]; omega) (fun e => by have := (h.own.lt S e.symm).1; omega), Below.heap_alloc wr ob S hl]
    exact h.s
  · exact (h.bel.alloc h.bel.size ob).grown hg (by rw [World.size_alloc]; have := h.bel.size; omega) (fun j hj => by have := (h.own.lt j hj).1; omega)
set_option maxRecDepth 20000 in
set_option maxHeartbeats 4000000 in
theorem Nib_calls (m : List UInt8) (hm : m.length = 32) (w : World) :
    Calls Tryz.prog 51 #[.agg (dV m)] w fun e w' => ∃ a cap, e = .returned (.slice a 67 cap) ∧ w'.ownsRow w.heap.size 3 1 (.slice a 67 cap) 67 ((nibs m).map vQ) ∧ Below w.heap.size w w' := by
  have ML := Lib.hid hm
  clear hm
  obtain ⟨S, hS⟩ : ∃ z, z = w.heap.size := ⟨_, rfl⟩
  obtain ⟨w1, hw1⟩ : ∃ z, z = w.alloc (.cells (dV m) 23) := ⟨_, rfl⟩
  have st1 : Below w.heap.size w w1 := by rw [hw1]; exact (Below.refl _ _).alloc (Nat.le_refl _) _
  have B1 := Lib.hid (show Below w.heap.size w w1 from Below.trans (Below.refl w.heap.size w) (Below.mono st1 (Below.size (Below.refl w.heap.size w))))
  have GS_1 := Lib.hid (show w1.heap[S]? = some (.cells (dV m) 23 (0, 0)) by rw [hw1, hS]; exact heap_alloc_new _ _)
  have LS_1 := Lib.hid (lt_of_heap GS_1.out)
  have HS := Lib.hid hS
  have Hw1 := Lib.hid hw1
  clear hS hw1 st1
  have SZS := Lib.hid (show S = w.heap.size from HS.out)
  have hSw : w.heap.size ≤ S := by rw [SZS.out]; exact Nat.le_refl _
  have N0 := Lib.hid (show NibI w S m 0 (.slice none 0 0) w1 from ⟨World.ownsRow_nil _ _ _ _, GS_1.out, B1.out⟩)
  go_enter Tryz.func51, Tryz.ntmps51
  go_upto_region 1 with fail
  rw [← SZS.out, ← Hw1.out]
  go_wp2_with fail
  go_loopw [3, 4, 5, 6] (fun v l i n wr => ∃ k : Nat, k ≤ 64 ∧ i = .int .i64 k ∧ l = .int .i64 ((lackK m k : Nat) : Int) ∧ Hid (NibI w S m k v wr)) (fun _ _ i _ _ => 64 - (intOf i).toNat)
  case atStart => exact ⟨0, Nat.zero_le _, rfl, rfl, N0⟩
  case round =>
    obtain ⟨k, hk, rfl, rfl, HI⟩ := hrel
    obtain ⟨L, hL⟩ : ∃ L, L = lackK m k := ⟨_, rfl⟩
    have hLb : L ≤ 15 * k := by rw [hL]; exact lackK_le _ _
    rw [← hL]
    have HL := Lib.hid hL
    clear hL
    by_cases hlt : k < 64
    · obtain ⟨j, hj⟩ : ∃ j, j = k / 2 := ⟨_, rfl⟩
      have hmk : j < m.length := by rw [ML.out]; omega
      have c0 := cellD HI.out.s j hmk
      obtain ⟨X, hX⟩ : ∃ X, X = m[j] := ⟨_, rfl⟩
      rw [← hX] at c0
      have hgd : m.getD j 0 = X := by rw [List.getD_eq_getElem?_getD, List.getElem?_eq_getElem hmk, hX]; rfl
      obtain ⟨u, hu⟩ : ∃ u, u = X.toNat / 16 := ⟨_, rfl⟩
      obtain ⟨v, hv⟩ : ∃ v, v = X.toNat % 16 := ⟨_, rfl⟩
      have hXl := X.toNat_lt
      have hu15 : u ≤ 15 := by omega
      have hv15 : v ≤ 15 := by omega
      have a1 : (X.toNat : Int) % 16 = (v : Int) := by omega
      have a2 : (X.toNat : Int) / 16 = (u : Int) := by omega
      have e2 : (k : Int) / 2 = (j : Int) := by omega
      have e4 : IntKind.i64.wrap ((k : Int) + 1) = (k : Int) + 1 := IntWalk.i64_in _ (by omega)
      have k0 : (0 : Int) ≤ (j : Int) := by omega
      have k1 : (j : Int) < 32 := by omega
      by_cases hp : k % 2 = 1
      · have t1 : (((k : Int) % 2) == 1) = true := by rw [beq_iff_eq]; omega
        have t2 : (k : Int) % 2 = 1 := by omega
        have hnx : v = nibA m k := by unfold nibA; rw [if_pos hp, ← hj, hgd]; exact hv
        have HNX := Lib.hid hnx
        have hl1 : lackK m (k + 1) = L + (15 - v) := by rw [lackK, ← HL.out, ← hnx]
        have HL1 := Lib.hid hl1
        have hsz := HI.out.bel.size
        have hszS := lt_of_heap HI.out.s
        obtain ⟨L2, hL2⟩ : ∃ z, z = lackK m (k + 1) := ⟨_, rfl⟩
        have HL2 := Lib.hid hL2
        have s5 : IntKind.i64.wrap ((L : Int) + (15 - (v : Int))) = (L2 : Int) := by rw [IntWalk.i64_in _ (by omega)]; omega
        have s6 : (L : Int) + (15 - (v : Int)) = (L2 : Int) := by omega
        clear hX hj hgd hu hv hnx hl1 hmk hL2
        go_wp2_with (at_builtin; refine app1 77 3 (.int .i64 0) 8 Tryz.underlying77 info_intN rfl (by omega) rfl (.tmp 26) (.tmp 28) rfl (S + 1) _ k (((List.range k).map (nibA m)).map vQ) rfl (HI.out.own.alloc _) ⟨wr.heap.size, 0, none⟩ 1 (.int .i64 (v : Int)) rfl (by simp) rfl (by omega) (by simp; omega) _ rfl ?_; intro g cap w3 hown3 hgrow3 _ _; have N3 := Lib.hid (HI.out.app hSw v HNX.out _ hown3 hgrow3); clear hown3 hgrow3)
        go_roundw
        case rel => exact ⟨k + 1, by omega, by go_num, by rw [HL2.out], N3⟩
        case measure => simp [intOf]; omega
      · have t1 : (((k : Int) % 2) == 1) = false := by rw [beq_eq_false_iff_ne]; omega
        have t2 : (k : Int) % 2 = 0 := by omega
        have hnx : u = nibA m k := by unfold nibA; rw [if_neg hp, ← hj, hgd]; exact hu
        have HNX := Lib.hid hnx
        have hl1 : lackK m (k + 1) = L + (15 - u) := by rw [lackK, ← HL.out, ← hnx]
        have HL1 := Lib.hid hl1
        have hsz := HI.out.bel.size
        have hszS := lt_of_heap HI.out.s
        obtain ⟨L2, hL2⟩ : ∃ z, z = lackK m (k + 1) := ⟨_, rfl⟩
        have HL2 := Lib.hid hL2
        have s5 : IntKind.i64.wrap ((L : Int) + (15 - (u : Int))) = (L2 : Int) := by rw [IntWalk.i64_in _ (by omega)]; omega
        have s6 : (L : Int) + (15 - (u : Int)) = (L2 : Int) := by omega
        clear hX hj hgd hu hv hnx hl1 hmk hL2
        go_wp2_with (at_builtin; refine app1 77 3 (.int .i64 0) 8 Tryz.underlying77 info_intN rfl (by omega) rfl (.tmp 26) (.tmp 28) rfl (S + 1) _ k (((List.range k).map (nibA m)).map vQ) rfl (HI.out.own.alloc _) ⟨wr.heap.size, 0, none⟩ 1 (.int .i64 (u : Int)) rfl (by simp) rfl (by omega) (by simp; omega) _ rfl ?_; intro g cap w3 hown3 hgrow3 _ _; have N3 := Lib.hid (HI.out.app hSw u HNX.out _ hown3 hgrow3); clear hown3 hgrow3)
        go_roundw
        case rel => exact ⟨k + 1, by omega, by go_num, by rw [HL2.out], N3⟩
        case measure => simp [intOf]; omega
    · obtain rfl : k = 64 := by omega
      obtain ⟨x, hx⟩ : ∃ x, x = L / 256 := ⟨_, rfl⟩
      obtain ⟨l16, hl16⟩ : ∃ x, x = L / 16 := ⟨_, rfl⟩
      obtain ⟨y, hy⟩ : ∃ x, x = l16 % 16 := ⟨_, rfl⟩
      obtain ⟨z, hz⟩ : ∃ x, x = L % 16 := ⟨_, rfl⟩
      have r1 : (L : Int) / 256 = (x : Int) := by omega
      have r2 : (L : Int) / 16 = (l16 : Int) := by omega
      have r3 : (l16 : Int) % 16 = (y : Int) := by omega
      have r4 : (L : Int) % 16 = (z : Int) := by omega
      have hn : ((List.range 64).map (nibA m)).map vQ ++ [.int .i64 (x : Int), .int .i64 (y : Int), .int .i64 (z : Int)] = (nibs m).map vQ := by
        unfold nibs
        rw [List.map_append, hx, hy, hl16, hz, HL.out]; rfl
      have HNB := Lib.hid hn
      have hsz := HI.out.bel.size
      have hszS := lt_of_heap HI.out.s
      obtain ⟨av, cp, rfl⟩ := own_slice HI.out.own
      clear hx hl16 hy hz hn
      go_wp2_with (at_builtin; refine appRdw 77 3 (.int .i64 0) 1 8 Tryz.underlying77 info_intN rfl (by omega) rfl (.tmp 34) (.tmp 42) rfl (S + 1) _ 64 (((List.range 64).map (nibA m)).map vQ) rfl (HI.out.own.alloc _) ⟨wr.heap.size, 0, none⟩ 3 3 [.int .i64 (x : Int), .int .i64 (y : Int), .int .i64 (z : Int)] rfl 3 (Rd.new wr #[.int .i64 (x : Int), .int .i64 (y : Int), .int .i64 (z : Int)] 3) rfl (by simp [Value.oneCell']) (by omega) (by omega) (by omega) (by simp; omega) _ rfl ?_; intro g cap w3 hown3 hgrow3 _ _; rw [HNB.out] at hown3; have O3 := Lib.hid hown3; have B3 := Lib.hid (show Below w.heap.size w w3 from (HI.out.bel.alloc hsz _).grown hgrow3 (by simp; omega) (fun j hj => by have := (HI.out.own.lt j hj).1; omega)); clear hown3 hgrow3)
      go_ret
      exact ⟨_, _, rfl, own_base O3.out (by omega), B3.out⟩
end Go.Proofs.YtkioddmhjbaleaaGreatDoor
