/- Walks: lot.pick and lot.Pick. -/
import Derived.Test.YtgngbmmmoecohaaDoorOrdLaw
import Derived.Test.YtgngbmmmoecohaaDoorVow
namespace Go.Proofs.YtgngbmmmoecohaaDoor
open Go.RowKit
set_option linter.unusedVariables false
set_option linter.unusedSimpArgs false
theorem pick_calls (d : List UInt8) (hd : d.length = 32) (n : Nat) (hn : n ≤ 2147483647) (w : World) : Calls Tryd.prog 54 #[.agg (dV d), .int .i64 n] w fun e w' => e = .returned (.int .i64 (pickN d n)) ∧ Below w.heap.size w w' := by
  have g := heap_alloc_new w (.cells (dV d) 23)
  have c0 := cellD g 0 (by omega)
  have c1 := cellD g 1 (by omega)
  have c2 := cellD g 2 (by omega)
  have c3 := cellD g 3 (by omega)
  have ht := take4 d hd
  obtain ⟨y0, h0⟩ : ∃ y, y = d[0] := ⟨_, rfl⟩
  obtain ⟨y1, h1⟩ : ∃ y, y = d[1] := ⟨_, rfl⟩
  obtain ⟨y2, h2⟩ : ∃ y, y = d[2] := ⟨_, rfl⟩
  obtain ⟨y3, h3⟩ : ∃ y, y = d[3] := ⟨_, rfl⟩
  rw [← h0] at c0 ht
  rw [← h1] at c1 ht
  rw [← h2] at c2 ht
  rw [← h3] at c3 ht
  have v0 : IntKind.u64.wrap (y0.toNat : Int) = (y0.toNat : Int) := by have := y0.toNat_lt; rw [IntKind.wrap_u64]; omega
  have v1 : IntKind.u64.wrap (y1.toNat : Int) = (y1.toNat : Int) := by have := y1.toNat_lt; rw [IntKind.wrap_u64]; omega
  have v2 : IntKind.u64.wrap (y2.toNat : Int) = (y2.toNat : Int) := by have := y2.toNat_lt; rw [IntKind.wrap_u64]; omega
  have v3 : IntKind.u64.wrap (y3.toNat : Int) = (y3.toNat : Int) := by have := y3.toNat_lt; rw [IntKind.wrap_u64]; omega
  obtain ⟨A0, A1, A2, B1, B2, N, hN, hN32, s0, s1, s2, o1, o2, o3⟩ := num_walk y0 y1 y2 y3
  obtain ⟨M, hM⟩ : ∃ M, M = N * n := ⟨_, rfl⟩
  have hM63 : M ≤ 4294967295 * 2147483647 := by rw [hM]; exact Nat.mul_le_mul (by omega) hn
  have hMi : (N : Int) * (n : Int) = (M : Int) := by rw [hM, Int.natCast_mul]
  have e1 : IntKind.u64.wrap (n : Int) = (n : Int) := by rw [IntKind.wrap_u64]; omega
  have e2 : IntKind.u64.wrap ((N : Int) * (n : Int)) = (M : Int) := by rw [hMi, IntKind.wrap_u64]; omega
  have hR : pickN d n = M / 4294967296 := by unfold pickN; rw [ht, ← hN, hM]
  obtain ⟨R, hRR⟩ : ∃ R, R = pickN d n := ⟨_, rfl⟩
  rw [← hRR] at hR
  have e3 : (M : Int) / 4294967296 = (R : Int) := by omega
  have e4 : IntKind.i64.wrap (R : Int) = (R : Int) := IntWalk.i64_in _ (by omega)
  have HR := Lib.hid hRR
  clear h0 h1 h2 h3 ht hN hM hR hRR hd g
  go_enter Tryd.func54, Tryd.ntmps54
  go_wp2_with fail
  go_ret
  exact ⟨by rw [← HR.out]; rfl, (Below.refl _ w).alloc (Nat.le_refl _) _⟩
/-- what lot.Pick tells -/
def Picks (d : List UInt8) (n : Int) (w : World) (e : Ending) (w' : World) : Prop :=
  (if n < 1 ∨ 2147483647 < n then e = .returned (.tuple #[.int .i64 0, .iface 47 (.int .i64 2)]) else e = .returned (.tuple #[.int .i64 (pickN d n.toNat), .nilIface])) ∧ Below w.heap.size w w'
theorem Pick_calls (d : List UInt8) (hd : d.length = 32) (n : Int) (w : World) : Calls Tryd.prog 32 #[.agg (dV d), .int .i64 n] w (Picks d n w) := by
  by_cases h1 : n < 1
  · have q1 : decide (n < 1) = true := decide_eq_true h1
    have H1 := Lib.hid (show n < 1 ∨ 2147483647 < n from .inl h1)
    clear h1
    go_enter Tryd.func32, Tryd.ntmps32
    go_wp2_with fail
    go_ret2
    exact ⟨by rw [if_pos H1.out]; rfl, (Below.refl _ w).alloc (Nat.le_refl _) _⟩
  · have q1 : decide (n < 1) = false := decide_eq_false h1
    by_cases h2 : 2147483647 < n
    · have q2 : decide (2147483647 < n) = true := decide_eq_true h2
      have H1 := Lib.hid (show n < 1 ∨ 2147483647 < n from .inr h2)
      clear h1 h2
      go_enter Tryd.func32, Tryd.ntmps32
      go_wp2_with fail
      go_ret2
      exact ⟨by rw [if_pos H1.out]; rfl, (Below.refl _ w).alloc (Nat.le_refl _) _⟩
    · have q2 : decide (2147483647 < n) = false := decide_eq_false h2
      have H1 := Lib.hid (show ¬ (n < 1 ∨ 2147483647 < n) from fun h => h.elim h1 h2)
      obtain ⟨m, rfl⟩ : ∃ m : Nat, n = m := ⟨n.toNat, by omega⟩
      have PC := pick_calls d hd m (by omega) (w.alloc (.cells (dV d) 23))
      have HPC := Lib.hid PC
      have HD := Lib.hid hd
      clear h1 h2 PC hd
      go_enter Tryd.func32, Tryd.ntmps32
      go_wp2_with (refine ld_new rfl (.tmp 2) rfl d HD.out _ (by rfl) ?_)
      refine HPC.out.mono ?_
      rintro e w2 ⟨rfl, hb⟩
      have HB := Lib.hid (((Below.refl _ w).alloc (Nat.le_refl _) (.cells (dV d) 23)).trans (hb.mono (by rw [World.size_alloc]; omega)))
      clear HPC hb
      go_wp2_with fail
      go_ret2
      exact ⟨by rw [if_neg H1.out]; rfl, HB.out⟩
end Go.Proofs.YtgngbmmmoecohaaDoor
