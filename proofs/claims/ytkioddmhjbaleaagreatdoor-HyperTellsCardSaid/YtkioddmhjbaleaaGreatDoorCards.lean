/-
  DERIVED. GIVEN WITH THE SEED: THE CARDS: each row of YtkioddmhjbaleaaGreatDoorRows.lean that lists a variable, with what it lists TIED to the program's text (the seventh form; the later family's looks); each row that meets fmt, with fmt's text TOLD by the authors' own Lean function (tested against real Go, not proved from fmt's source: count such statements apart). THE CARD IS WHAT COUNTS. Prove the row's statement (the work); the ties are given (YtkioddmhjbaleaaGreatDoorTie.lean); close each card by the builder's one call (the guide's Derived/Test/ToyasCard.lean, 'card_holds'). Laid BY PROGRAM, IN A SANDBOX (cutbox-door.mjs). By AI agents, Wed Nov 11 2026. No macro, syntax, notation, axiom, sorry.
-/
import Derived.Test.YtkioddmhjbaleaaGreatDoorRows
import GoSem.ClaimSeven
namespace Go.Proofs.YtkioddmhjbaleaaGreatDoor
namespace Rows

/-- THE TIED CARD OF 'oathbooklaw4.HyperTells'. -/
def hyperTellsCard : Claim7 := { stood := { row := hyperTellsRow, standIns := [], harness := (true, "c315bb4c46605c211ff7dd6e5eec32b53c69931227847f121011b9d198b92d7c"), looks := true }, kinds := [], alts := [], laidByText := true, laidKinds := [.data, .handle], laidTests := true, laidLooks := .later }
def HyperTellsCardSaid : Prop := Claim7.holds Tryz.pinned (.plain (OpenSpec.ofChange hyperTellsSpec)) hyperTellsCard

/-- THE SECOND FORM's CARD OF 'oathbooklaw4.HyperTells'. -/
def hyperTellsUptoCard : Claim7 := { stood := { row := hyperTellsUptoRow, standIns := [], harness := (true, "c315bb4c46605c211ff7dd6e5eec32b53c69931227847f121011b9d198b92d7c"), looks := true }, kinds := [], alts := [], laidByText := true, laidKinds := [.data, .handle], laidTests := true, laidLooks := .later }
def HyperTellsUptoCardSaid : Prop := Claim7.holds Tryz.pinned (.plain (OpenSpec.upto hyperTellsSpec)) hyperTellsUptoCard
end Rows
end Go.Proofs.YtkioddmhjbaleaaGreatDoor
