/- What a function that tells bytes of its own leaves. It says nothing of what the program does. -/
import Derived.Test.YtkioddmhjbaleaaDoorChecked
import Derived.Test.YtkioddmhjbaleaaDoorMemA
import Derived.WalkSpells
namespace Go.Proofs.YtkioddmhjbaleaaDoor
open Go.RowKit
set_option linter.unusedVariables false

theorem info_u8 : (Tryd.prog.info? 5).map (fun i => (i.zero, i.size, i.bytes)) = some (some (.int .u8 0), 1, 1) := by kernel_rfl

/-- a list of bytes of the call's own comes back -/
def RetB (w : World) (xs : List UInt8) (e : Ending) (w' : World) : Prop :=
  ∃ a cap, e = .returned (.slice a xs.length cap) ∧ w'.ownsRow w.heap.size 5 1 (.slice a xs.length cap) xs.length (xs.map vB) ∧ Below w.heap.size w w'

end Go.Proofs.YtkioddmhjbaleaaDoor
