/- Walk: oathbookref1.rounds. -/
import Derived.Test.YtpeomfehdccmmaaDoorRBlk
namespace Go.Proofs.YtpeomfehdccmmaaDoor
open Go.RowKit
set_option linter.unusedVariables false
set_option linter.unusedSimpArgs false
theorem nW_rk : (nW rk64).toList = rk64.map vN := by simp [nW]
set_option maxRecDepth 20000 in
theorem RRounds_calls (w : World) : Calls Tryd.prog 78 #[] w fun e w' => e = .returned (.slice (some ⟨w.heap.size, 0, none⟩) 64 64) ∧ w.alloc (.cells (nW rk64) 3) = w' := by
  go_enter Tryd.func78, Tryd.ntmps78
  go_wp2_with fail
  go_ret
  exact ⟨rfl, by kernel_rfl⟩
end Go.Proofs.YtpeomfehdccmmaaDoor
