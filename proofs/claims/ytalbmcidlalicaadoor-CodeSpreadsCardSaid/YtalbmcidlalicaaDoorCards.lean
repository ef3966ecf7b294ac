/-
  DERIVED. GIVEN WITH THE SEED: THE CARDS: each row of YtalbmcidlalicaaDoorRows.lean that lists a variable, with what it lists TIED to the program's text (the seventh form; the later family's looks); each row that meets fmt, with fmt's text TOLD by the authors' own Lean function (tested against real Go, not proved from fmt's source: count such statements apart). THE CARD IS WHAT COUNTS. Prove the row's statement (the work); the ties are given (YtalbmcidlalicaaDoorTie.lean); close each card by the builder's one call (the guide's Derived/Test/ToyasCard.lean, 'card_holds'). Laid BY PROGRAM, IN A SANDBOX (cutbox-door.mjs). By AI agents, Wed Nov 11 2026. No macro, syntax, notation, axiom, sorry.
-/
import Derived.Test.YtalbmcidlalicaaDoorRows
import GoSem.ClaimSeven
namespace Go.Proofs.YtalbmcidlalicaaDoor
namespace Rows

/-- THE TIED CARD OF 'oathbooklaw2.FieldTells'. -/
def fieldTellsCard : Claim7 := { stood := { row := fieldTellsRow, standIns := [], harness := (true, "bf1fbc32c3425ab6ada0ace87329c2efbd99e0e7f004f60d603e2408cd6a4aa3"), looks := true }, kinds := [], alts := [], laidByText := true, laidKinds := [.handle], laidTests := true, laidLooks := .later }
def FieldTellsCardSaid : Prop := Claim7.holds Tryd.pinned (.plain (OpenSpec.ofChange fieldTellsSpec)) fieldTellsCard

/-- THE TIED CARD OF 'oathbooklaw2.ShareTells'. -/
def shareTellsCard : Claim7 := { stood := { row := shareTellsRow, standIns := [], harness := (true, "bf1fbc32c3425ab6ada0ace87329c2efbd99e0e7f004f60d603e2408cd6a4aa3"), looks := true }, kinds := [], alts := [], laidByText := true, laidKinds := [.handle], laidTests := true, laidLooks := .later }
def ShareTellsCardSaid : Prop := Claim7.holds Tryd.pinned (.plain (OpenSpec.ofChange shareTellsSpec)) shareTellsCard

/-- THE TIED CARD OF 'oathbooklaw2.ShareJoins'. -/
def shareJoinsCard : Claim7 := { stood := { row := shareJoinsRow, standIns := [], harness := (true, "bf1fbc32c3425ab6ada0ace87329c2efbd99e0e7f004f60d603e2408cd6a4aa3"), looks := true }, kinds := [], alts := [], laidByText := true, laidKinds := [.handle], laidTests := true, laidLooks := .later }
def ShareJoinsCardSaid : Prop := Claim7.holds Tryd.pinned (.plain (OpenSpec.ofChange shareJoinsSpec)) shareJoinsCard

/-- THE TIED CARD OF 'oathbooklaw2.CodeSpreads'. -/
def codeSpreadsCard : Claim7 := { stood := { row := codeSpreadsRow, standIns := [], harness := (true, "bf1fbc32c3425ab6ada0ace87329c2efbd99e0e7f004f60d603e2408cd6a4aa3"), looks := true }, kinds := [], alts := [], laidByText := true, laidKinds := [.handle], laidTests := true, laidLooks := .later }
def CodeSpreadsCardSaid : Prop := Claim7.holds Tryd.pinned (.plain (OpenSpec.ofChange codeSpreadsSpec)) codeSpreadsCard

/-- THE TIED CARD OF 'oathbooklaw2.CodeGathers'. -/
def codeGathersCard : Claim7 := { stood := { row := codeGathersRow, standIns := [], harness := (true, "bf1fbc32c3425ab6ada0ace87329c2efbd99e0e7f004f60d603e2408cd6a4aa3"), looks := true }, kinds := [], alts := [], laidByText := true, laidKinds := [.handle], laidTests := true, laidLooks := .later }
def CodeGathersCardSaid : Prop := Claim7.holds Tryd.pinned (.plain (OpenSpec.ofChange codeGathersSpec)) codeGathersCard

/-- THE SECOND FORM's CARD OF 'oathbooklaw2.FieldTells'. -/
def fieldTellsUptoCard : Claim7 := { stood := { row := fieldTellsUptoRow, standIns := [], harness := (true, "bf1fbc32c3425ab6ada0ace87329c2efbd99e0e7f004f60d603e2408cd6a4aa3"), looks := true }, kinds := [], alts := [], laidByText := true, laidKinds := [.handle], laidTests := true, laidLooks := .later }
def FieldTellsUptoCardSaid : Prop := Claim7.holds Tryd.pinned (.plain (OpenSpec.upto fieldTellsSpec)) fieldTellsUptoCard

/-- THE SECOND FORM's CARD OF 'oathbooklaw2.ShareTells'. -/
def shareTellsUptoCard : Claim7 := { stood := { row := shareTellsUptoRow, standIns := [], harness := (true, "bf1fbc32c3425ab6ada0ace87329c2efbd99e0e7f004f60d603e2408cd6a4aa3"), looks := true }, kinds := [], alts := [], laidByText := true, laidKinds := [.handle], laidTests := true, laidLooks := .later }
def ShareTellsUptoCardSaid : Prop := Claim7.holds Tryd.pinned (.plain (OpenSpec.upto shareTellsSpec)) shareTellsUptoCard

/-- THE SECOND FORM's CARD OF 'oathbooklaw2.ShareJoins'. -/
def shareJoinsUptoCard : Claim7 := { stood := { row := shareJoinsUptoRow, standIns := [], harness := (true, "bf1fbc32c3425ab6ada0ace87329c2efbd99e0e7f004f60d603e2408cd6a4aa3"), looks := true }, kinds := [], alts := [], laidByText := true, laidKinds := [.handle], laidTests := true, laidLooks := .later }
def ShareJoinsUptoCardSaid : Prop := Claim7.holds Tryd.pinned (.plain (OpenSpec.upto shareJoinsSpec)) shareJoinsUptoCard

/-- THE SECOND FORM's CARD OF 'oathbooklaw2.CodeSpreads'. -/
def codeSpreadsUptoCard : Claim7 := { stood := { row := codeSpreadsUptoRow, standIns := [], harness := (true, "bf1fbc32c3425ab6ada0ace87329c2efbd99e0e7f004f60d603e2408cd6a4aa3"), looks := true }, kinds := [], alts := [], laidByText := true, laidKinds := [.handle], laidTests := true, laidLooks := .later }
def CodeSpreadsUptoCardSaid : Prop := Claim7.holds Tryd.pinned (.plain (OpenSpec.upto codeSpreadsSpec)) codeSpreadsUptoCard

/-- THE SECOND FORM's CARD OF 'oathbooklaw2.CodeGathers'. -/
def codeGathersUptoCard : Claim7 := { stood := { row := codeGathersUptoRow, standIns := [], harness := (true, "bf1fbc32c3425ab6ada0ace87329c2efbd99e0e7f004f60d603e2408cd6a4aa3"), looks := true }, kinds := [], alts := [], laidByText := true, laidKinds := [.handle], laidTests := true, laidLooks := .later }
def CodeGathersUptoCardSaid : Prop := Claim7.holds Tryd.pinned (.plain (OpenSpec.upto codeGathersSpec)) codeGathersUptoCard
end Rows
end Go.Proofs.YtalbmcidlalicaaDoor
