/- From a row's hypothesis on the listed variable to its cell; a world that meets it; the closing of a card. After the kit's worked text ToyasProofs. -/
import Derived.Test.YtkioddmhjbaleaaDoorRows
import Derived.Test.YtkioddmhjbaleaaDoorTie
import Derived.Test.YtkioddmhjbaleaaDoorCards
import Derived.Test.YtkioddmhjbaleaaDoorBlkA
import Derived.Lib.LaidTab
import Derived.ChangeSame
import Derived.ChangeVars
import Derived.JoinedOf
import Derived.RowKit
import Derived.RowKitTokens
import Derived.LaidLaws
import Derived.LaidHandle
import Derived.Stop.Joined
import Derived.SevenTiedAt
namespace Go.Proofs.YtkioddmhjbaleaaDoor
open Go.ChangeShapes Go.WideShapes Go.RowKit
set_option maxRecDepth 100000

theorem Laid.own : ownKnob Tryd.prog.godebug = none := by kernel_rfl
theorem Laid.laidOut : laidOutB Tryd.prog = true := by kernel_rfl
theorem Laid.rnd : Tryd.prog.globalNamed "oathbook/sha.rounds" = some 1 := by kernel_rfl
theorem rounds_data : (Rows.laid_oathbook_sha_rounds : DataW Unit) = Lib.tabData .u32 (rk64.map fun a => (a.toNat : Int)) := by kernel_rfl
theorem rounds_of_tab {W : World} (h : Lib.TabIs Tryd.prog W "oathbook/sha.rounds" .u32 (rk64.map fun a => (a.toNat : Int))) : RoundsAt W := by
  unfold Lib.TabIs World.var? at h
  rw [Laid.rnd] at h
  simp only [Option.bind_some] at h
  split at h
  · rename_i cs t fr heq
    refine ⟨t, fr, ?_⟩
    rw [heq]
    have e : ((rk64.map fun a => (a.toNat : Int)).map fun z => Value.int .u32 z).toArray = rW rk64 := by rw [List.map_map]; rfl
    rw [e] at h
    rw [Option.some.inj h]
  · cases h
theorem rounds_of_met {W : World} {rest : List (String × DataW Unit)} (h : laidMet Tryd.prog (("oathbook/sha.rounds", Rows.laid_oathbook_sha_rounds) :: rest) W) : RoundsAt W := by
  rw [rounds_data] at h
  exact rounds_of_tab (Lib.tabIs_of_head Laid.rnd (by kernel_rfl) Tryd.underlying233 Tryd.underlying201 (by kernel_rfl) (by kernel_rfl) h)
def Laid.list : List (String × DataW Unit) := [("oathbook/sha.rounds", Rows.laid_oathbook_sha_rounds)]
theorem rounds_of_laid {W : World} (h : laidMetH Tryd.prog Laid.list W) : RoundsAt W := by
  have h' : laidMet Tryd.prog [("oathbook/sha.rounds", Rows.laid_oathbook_sha_rounds)] W := h
  exact rounds_of_met h'
noncomputable def laidWorld (os : Os) : World :=
  let w0 := World.holding Tryd.prog os ⟨#[], #[], []⟩
  { w0 with heap := w0.heap.modify 1 fun
      | .cells _ t frozen => .cells (rW rk64) t frozen
      | o => o }
theorem laidWorld_met (os : Os) (args : Array Value) : laidMetH Tryd.prog Laid.list ((laidWorld os).forCall (fun _ _ => 0) ⟨#[], args, []⟩).memory :=
  laidMetH_of_parts (laidMet_of_run' 8 (by kernel_rfl) (by kernel_rfl)) (by kernel_rfl)
theorem stand_of_all {P : Program} {ps : Array TypeId} (h : (ps.toList.all fun t => !(P.wantsStandIn t)) = true) : ∀ (j : Nat) (t : TypeId), ps[j]? = some t → P.wantsStandIn t = false := by
  intro j t ht
  have := List.all_eq_true.1 h t (by rw [Array.mem_toList_iff]; exact Array.mem_of_getElem? ht)
  simpa using this
end Go.Proofs.YtkioddmhjbaleaaDoor
