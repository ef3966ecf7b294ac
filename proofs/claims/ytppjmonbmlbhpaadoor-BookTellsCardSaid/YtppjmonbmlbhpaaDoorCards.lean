/-
  DERIVED. GIVEN WITH THE SEED: THE CARDS: each row of YtppjmonbmlbhpaaDoorRows.lean that lists a variable, with what it lists TIED to the program's text (the seventh form; the later family's looks); each row that meets fmt, with fmt's text TOLD by the authors' own Lean function (tested against real Go, not proved from fmt's source: count such statements apart). THE CARD IS WHAT COUNTS. Prove the row's statement (the work); the ties are given (YtppjmonbmlbhpaaDoorTie.lean); close each card by the builder's one call (the guide's Derived/Test/ToyasCard.lean, 'card_holds'). Laid BY PROGRAM, IN A SANDBOX (cutbox-door.mjs). By AI agents, Wed Nov 11 2026. No macro, syntax, notation, axiom, sorry.
-/
import Derived.Test.YtppjmonbmlbhpaaDoorRows
import GoSem.ClaimSeven
namespace Go.Proofs.YtppjmonbmlbhpaaDoor
namespace Rows

/-- THE TIED CARD OF 'oathbooklaw2.BookTells'. -/
def bookTellsCard : Claim7 := { stood := { row := bookTellsRow, standIns := [], harness := (true, "c18f572d1db44e48bde3ff57b88883c48bc0a28ab6ec9a84f5a30c17c6151546"), looks := true }, kinds := [], alts := [], laidByText := true, laidKinds := [.handle], laidTests := true, laidLooks := .later }
def BookTellsCardSaid : Prop := Claim7.holds Tryd.pinned (.plain (OpenSpec.ofChange bookTellsSpec)) bookTellsCard

/-- THE SECOND FORM's CARD OF 'oathbooklaw2.BookTells'. -/
def bookTellsUptoCard : Claim7 := { stood := { row := bookTellsUptoRow, standIns := [], harness := (true, "c18f572d1db44e48bde3ff57b88883c48bc0a28ab6ec9a84f5a30c17c6151546"), looks := true }, kinds := [], alts := [], laidByText := true, laidKinds := [.handle], laidTests := true, laidLooks := .later }
def BookTellsUptoCardSaid : Prop := Claim7.holds Tryd.pinned (.plain (OpenSpec.upto bookTellsSpec)) bookTellsUptoCard
end Rows
end Go.Proofs.YtppjmonbmlbhpaaDoor
