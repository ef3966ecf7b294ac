/- From a row's hypothesis on the listed variable to its cell; a world that meets it; the closing of a card. After the kit's worked text ToyasProofs. -/
import Derived.Test.YtkioddmhjbaleaaGreatDoorRows
import Derived.Test.YtkioddmhjbaleaaGreatDoorTie
import Derived.Test.YtkioddmhjbaleaaGreatDoorCards
import Derived.Test.YtkioddmhjbaleaaGreatDoorToldA
import Derived.Test.YtkioddmhjbaleaaGreatDoorBlkA
import Derived.Lib.LaidTab
import Derived.ChangeSame
import Derived.ChangeVars
import Derived.JoinedOf
import Derived.RowKit
import Derived.RowKitTokens
import Derived.LaidLaws
import Derived.LaidHandle
import Derived.Stop.Joined
import Derived.SevenTiedAt
namespace Go.Proofs.YtkioddmhjbaleaaGreatDoor
open Go.ChangeShapes Go.WideShapes Go.RowKit
set_option maxRecDepth 100000

theorem Laid.own : ownKnob Tryz.prog.godebug = none := by kernel_rfl
theorem Laid.laidOut : laidOutB Tryz.prog = true := by kernel_rfl
theorem Laid.rnd : Tryz.prog.globalNamed "oathbook/sha.rounds" = some 1 := by kernel_rfl
theorem rounds_data : (Rows.laid_oathbook_sha_rounds : DataW Unit) = Lib.tabData .u32 (rk64.map fun a => (a.toNat : Int)) := by kernel_rfl
theorem rounds_of_tab {W : World} (h : Lib.TabIs Tryz.prog W "oathbook/sha.rounds" .u32 (rk64.map fun a => (a.toNat : Int))) : RoundsAt W := by
  unfold Lib.TabIs World.var? at h
  rw [Laid.rnd] at h
  simp only [Option.bind_some] at h
  split at h
  · rename_i cs t fr heq
    refine ⟨t, fr, ?_⟩
    rw [heq]
    have e : ((rk64.map fun a => (a.toNat : Int)).map fun z => Value.int .u32 z).toArray = rW rk64 := by rw [List.map_map]; rfl
    rw [e] at h
    rw [Option.some.inj h]
  · cases h
theorem rounds_of_met {W : World} {rest : List (String × DataW Unit)} (h : laidMet Tryz.prog (("oathbook/sha.rounds", Rows.laid_oathbook_sha_rounds) :: rest) W) : RoundsAt W := by
  rw [rounds_data] at h
  exact rounds_of_tab (Lib.tabIs_of_head Laid.rnd (by kernel_rfl) Tryz.underlying147 Tryz.underlying137 (by kernel_rfl) (by kernel_rfl) h)
theorem Laid.et : Tryz.prog.globalNamed "errors.errorType" = some 0 := by kernel_rfl
theorem Laid.rt : (Tryz.prog.cutTypes.find? (·.1 == "internal/reflectlite.rtype")).map (·.2) = some 124 := by kernel_rfl
theorem Laid.oneRow : ((List.range 178).filter fun t => Tryz.prog.rowNamed t [101, 114, 114, 111, 114]) = [34] := by kernel_rfl
theorem Laid.size : Tryz.prog.types.size = 178 := by kernel_rfl
def Laid.list : List (String × DataW Unit) := [("oathbook/sha.rounds", Rows.laid_oathbook_sha_rounds), ("errors.errorType", Rows.laid_errors_errorType)]

theorem handle_of_laid {W : World} (h : laidMetH Tryz.prog Laid.list W) : ErrVar W := by
  have h' : laidMet Tryz.prog [("oathbook/sha.rounds", Rows.laid_oathbook_sha_rounds)] W ∧ handlesMet Tryz.prog [("errors.errorType", Rows.laid_errors_errorType)] W := h
  obtain ⟨name, u, ty, e1, e2, e3, e4, e5⟩ := h'.2 _ (List.mem_singleton.2 rfl)
  have en : name = [101, 114, 114, 111, 114] := (Option.some.inj e1).symm
  subst en
  obtain rfl := Option.some.inj (Laid.rt.symm.trans e2)
  have hm : ty ∈ (List.range 178).filter fun t => Tryz.prog.rowNamed t [101, 114, 114, 111, 114] := List.mem_filter.2 ⟨List.mem_range.2 (by rw [← Laid.size]; exact e3), e4⟩
  rw [Laid.oneRow] at hm
  obtain rfl := List.mem_singleton.1 hm
  have hh : typeHandle Tryz.prog 34 = .pointer (some ⟨2, 34, none⟩) := by kernel_rfl
  rw [hh] at e5
  have := World.var?_cell Laid.et e5 0
  unfold ErrVar
  simpa using this
theorem rounds_of_laid {W : World} (h : laidMetH Tryz.prog Laid.list W) : RoundsAt W := by
  have h' : laidMet Tryz.prog [("oathbook/sha.rounds", Rows.laid_oathbook_sha_rounds)] W ∧ handlesMet Tryz.prog [("errors.errorType", Rows.laid_errors_errorType)] W := h
  exact rounds_of_met h'.1
noncomputable def laidWorld (os : Os) : World :=
  let w0 := World.holding Tryz.prog os ⟨#[], #[], []⟩
  { w0 with heap := (w0.heap.modify 0 fun
      | .cells _ t frozen => .cells #[.iface 124 (.agg #[.pointer (some ⟨2, 34, none⟩)])] t frozen
      | o => o).modify 1 fun
      | .cells _ t frozen => .cells (rW rk64) t frozen
      | o => o }
theorem laidWorld_met (os : Os) (args : Array Value) : laidMetH Tryz.prog Laid.list ((laidWorld os).forCall (fun _ _ => 0) ⟨#[], args, []⟩).memory :=
  laidMetH_of_parts (laidMet_of_run' 8 (by kernel_rfl) (by kernel_rfl)) (by kernel_rfl)
theorem stand_of_all {P : Program} {ps : Array TypeId} (h : (ps.toList.all fun t => !(P.wantsStandIn t)) = true) : ∀ (j : Nat) (t : TypeId), ps[j]? = some t → P.wantsStandIn t = false := by
  intro j t ht
  have := List.all_eq_true.1 h t (by rw [Array.mem_toList_iff]; exact Array.mem_of_getElem? ht)
  simpa using this
end Go.Proofs.YtkioddmhjbaleaaGreatDoor
