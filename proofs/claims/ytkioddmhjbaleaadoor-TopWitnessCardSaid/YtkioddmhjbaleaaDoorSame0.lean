/- Rows that stay where numbers are drawn. -/
import Derived.Test.YtkioddmhjbaleaaDoorChecked
import Derived.Test.YtkioddmhjbaleaaDoorMemA
import Derived.Deep.QuietTactic
import Derived.BigQuiet
import Derived.WalkSmall
namespace Go.Proofs.YtkioddmhjbaleaaDoor
open Go.RowKit
set_option linter.unusedVariables false

theorem Rd.drewN {w : World} {a : Option Addr} {e : TypeId} {vs : List Value} (h : Rd w a e vs) (n : Nat) : Rd (w.drewN n) a e vs := h
theorem IsB.drewN {E : Nat → TypeId → Prop} {w : World} {xs : List UInt8} {v : Value} (h : IsB E w xs v) (n : Nat) : IsB E (w.drewN n) xs v := h
theorem below_N (w : World) (n : Nat) : Below w.heap.size w (w.drewN n) := below_drewN (Below.refl _ _) n

theorem byte_eq (x y : UInt8) : ((x.toNat : Int) = (y.toNat : Int)) ↔ x = y := ⟨fun h => UInt8.toNat_inj.1 (by omega), fun h => by rw [h]⟩
end Go.Proofs.YtkioddmhjbaleaaDoor
