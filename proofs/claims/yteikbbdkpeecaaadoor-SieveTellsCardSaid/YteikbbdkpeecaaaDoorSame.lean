/- Walks: are two lists of bytes the same, are two lists of lists the same; where a byte stands in a list. -/
import Derived.Test.YteikbbdkpeecaaaDoorChecked
import Derived.Test.YteikbbdkpeecaaaDoorMemA
import Derived.Deep.QuietTactic
import Derived.BigQuiet
import Derived.WalkSmall
namespace Go.Proofs.YteikbbdkpeecaaaDoor
open Go.RowKit
set_option linter.unusedVariables false

theorem Rd.drewN {w : World} {a : Option Addr} {e : TypeId} {vs : List Value} (h : Rd w a e vs) (n : Nat) : Rd (w.drewN n) a e vs := h
theorem IsB.drewN {E : Nat → TypeId → Prop} {w : World} {xs : List UInt8} {v : Value} (h : IsB E w xs v) (n : Nat) : IsB E (w.drewN n) xs v := h
theorem below_N (w : World) (n : Nat) : Below w.heap.size w (w.drewN n) := below_drewN (Below.refl _ _) n

theorem byte_eq (x y : UInt8) : ((x.toNat : Int) = (y.toNat : Int)) ↔ x = y := ⟨fun h => UInt8.toNat_inj.1 (by omega), fun h => by rw [h]⟩

theorem Bytes_calls (xs ys : List UInt8) (a b : Option Addr) (ca cb ea eb : Nat) (w : World) (ha : Rd w a ea (xs.map vB)) (hb : Rd w b eb (ys.map vB)) (hx : xs.length ≤ 9223372036854775807) :
    Calls Tryd.prog 10 #[.slice a xs.length ca, .slice b ys.length cb] w fun e w' => e = .returned (.bool (decide (xs = ys))) ∧ ∃ n, w' = w.drewN n := by
  by_cases hl : xs.length = ys.length
  · have hl1 : xs.length ≤ ys.length := by omega
    have hl2 : ys.length ≤ xs.length := by omega
    clear hl
    go_enter Tryd.func10, Tryd.ntmps10
    go_wp2
    go_loopw [5] (fun i wr => ∃ k n : Nat, k ≤ xs.length ∧ i = .int .i64 k ∧ xs.take k = ys.take k ∧ wr = w.drewN n) (fun i _ => xs.length - (intOf i).toNat)
    case atStart => exact ⟨0, 0, Nat.zero_le _, rfl, rfl, rfl⟩
    case round =>
      obtain ⟨k, n, hk, rfl, ht, rfl⟩ := hrel
      have Ht := Lib.hid ht
      clear ht
      by_cases hlt : k < xs.length
      · obtain ⟨ba, oa, rfl, _, hca⟩ := ha.bytes hlt
        obtain ⟨bb, ob, rfl, _, hcb⟩ := hb.bytes (k := k) (by omega)
        have c1 := hca k hlt
        have c2 := hcb k (by omega)
        have i1 : (k : Int) < (xs.length : Int) := by omega
        have i2 : (k : Int) < (ys.length : Int) := by omega
        have i0 : (0 : Int) ≤ (k : Int) := by omega
        clear hca hcb ha hb
        by_cases hxy : xs[k] = ys[k]
        · have t : (((xs[k]).toNat : Int) != ((ys[k]'(by omega)).toNat : Int)) = false := by rw [hxy]; simp
          have Hxy := Lib.hid hxy
          clear hxy
          go_wp2_with fail
          go_quiet (fail)
          go_wp2
          go_roundw
          case rel => exact ⟨k + 1, n + nq, by omega, by go_num, by rw [List.take_succ_eq_append_getElem hlt, List.take_succ_eq_append_getElem (by omega), Ht.out, Hxy.out], rfl⟩
          case measure => simp [intOf] <;> omega
        · have t : (((xs[k]).toNat : Int) != ((ys[k]'(by omega)).toNat : Int)) = true := by rw [bne_iff_ne]; intro h; exact hxy ((byte_eq _ _).1 h)
          have Hxy := Lib.hid hxy
          clear hxy
          go_wp2_with fail
          go_quiet (fail)
          go_wp2
          go_ret
          have hne : ¬ xs = ys := fun h => Hxy.out (by simp [h])
          exact ⟨by rw [decide_eq_false hne]; try rfl, n + nq, World.drewN_drewN _ _ _⟩
      · obtain rfl : k = xs.length := by omega
        go_wp2
        go_ret
        have := Ht.out
        rw [List.take_of_length_le (Nat.le_refl _), List.take_of_length_le hl2] at this
        exact ⟨by rw [decide_eq_true this]; try rfl, n, rfl⟩
  · have hne : ((xs.length : Int) != (ys.length : Int)) = true := by rw [bne_iff_ne]; omega
    go_enter Tryd.func10, Tryd.ntmps10
    go_wp2
    go_ret
    have hn : ¬ xs = ys := fun h => hl (by rw [h])
    exact ⟨by rw [decide_eq_false hn]; try rfl, 0, rfl⟩
end Go.Proofs.YteikbbdkpeecaaaDoor
