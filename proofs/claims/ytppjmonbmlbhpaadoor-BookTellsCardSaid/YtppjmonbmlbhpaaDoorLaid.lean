/- From a row's hypothesis on the listed variable to its cell; a world that meets it; the closing of a card. After the kit's worked text ToyasProofs. -/
import Derived.Test.YtppjmonbmlbhpaaDoorRows
import Derived.Test.YtppjmonbmlbhpaaDoorTie
import Derived.Test.YtppjmonbmlbhpaaDoorCards
import Derived.Test.YtppjmonbmlbhpaaDoorToldA
import Derived.ChangeSame
import Derived.ChangeVars
import Derived.JoinedOf
import Derived.RowKit
import Derived.RowKitTokens
import Derived.LaidLaws
import Derived.LaidHandle
import Derived.Stop.Joined
import Derived.SevenTiedAt
namespace Go.Proofs.YtppjmonbmlbhpaaDoor
open Go.ChangeShapes Go.WideShapes Go.RowKit
set_option maxRecDepth 100000

theorem Laid.own : ownKnob Tryd.prog.godebug = none := by kernel_rfl
theorem Laid.laidOut : laidOutB Tryd.prog = true := by kernel_rfl
theorem Laid.et : Tryd.prog.globalNamed "errors.errorType" = some 0 := by kernel_rfl
theorem Laid.rt : (Tryd.prog.cutTypes.find? (·.1 == "internal/reflectlite.rtype")).map (·.2) = some 67 := by kernel_rfl
theorem Laid.oneRow : ((List.range 111).filter fun t => Tryd.prog.rowNamed t [101, 114, 114, 111, 114]) = [27] := by kernel_rfl
theorem Laid.size : Tryd.prog.types.size = 111 := by kernel_rfl
def Laid.list : List (String × DataW Unit) := [("errors.errorType", Rows.laid_errors_errorType)]

theorem handle_of_laid {W : World} (h : laidMetH Tryd.prog Laid.list W) : ErrVar W := by
  have h' : laidMet Tryd.prog [] W ∧ handlesMet Tryd.prog Laid.list W := h
  obtain ⟨name, u, ty, e1, e2, e3, e4, e5⟩ := h'.2 _ (List.mem_singleton.2 rfl)
  have en : name = [101, 114, 114, 111, 114] := (Option.some.inj e1).symm
  subst en
  obtain rfl := Option.some.inj (Laid.rt.symm.trans e2)
  have hm : ty ∈ (List.range 111).filter fun t => Tryd.prog.rowNamed t [101, 114, 114, 111, 114] := List.mem_filter.2 ⟨List.mem_range.2 (by rw [← Laid.size]; exact e3), e4⟩
  rw [Laid.oneRow] at hm
  obtain rfl := List.mem_singleton.1 hm
  have hh : typeHandle Tryd.prog 27 = .pointer (some ⟨2, 27, none⟩) := by kernel_rfl
  rw [hh] at e5
  have := World.var?_cell Laid.et e5 0
  unfold ErrVar
  simpa using this
noncomputable def laidWorld (os : Os) : World :=
  let w0 := World.holding Tryd.prog os ⟨#[], #[], []⟩
  { w0 with heap := w0.heap.modify 0 fun
      | .cells _ t frozen => .cells #[.iface 67 (.agg #[.pointer (some ⟨2, 27, none⟩)])] t frozen
      | o => o }
theorem laidWorld_met (os : Os) (args : Array Value) : laidMetH Tryd.prog Laid.list ((laidWorld os).forCall (fun _ _ => 0) ⟨#[], args, []⟩).memory :=
  laidMetH_of_parts (laidMet_nil _ _) (by kernel_rfl)
theorem stand_of_all {P : Program} {ps : Array TypeId} (h : (ps.toList.all fun t => !(P.wantsStandIn t)) = true) : ∀ (j : Nat) (t : TypeId), ps[j]? = some t → P.wantsStandIn t = false := by
  intro j t ht
  have := List.all_eq_true.1 h t (by rw [Array.mem_toList_iff]; exact Array.mem_of_getElem? ht)
  simpa using this
end Go.Proofs.YtppjmonbmlbhpaaDoor
