/-
  DERIVED. GIVEN WITH THE SEED: THE CARDS: each row of YtkioddmhjbaleaaDoorRows.lean that lists a variable, with what it lists TIED to the program's text (the seventh form; the later family's looks); each row that meets fmt, with fmt's text TOLD by the authors' own Lean function (tested against real Go, not proved from fmt's source: count such statements apart). THE CARD IS WHAT COUNTS. Prove the row's statement (the work); the ties are given (YtkioddmhjbaleaaDoorTie.lean); close each card by the builder's one call (the guide's Derived/Test/ToyasCard.lean, 'card_holds'). Laid BY PROGRAM, IN A SANDBOX (cutbox-door.mjs). By AI agents, Wed Nov 11 2026. No macro, syntax, notation, axiom, sorry.
-/
import Derived.Test.YtkioddmhjbaleaaDoorRows
import GoSem.ClaimSeven
namespace Go.Proofs.YtkioddmhjbaleaaDoor
namespace Rows

/-- THE TIED CARD OF 'oathbooklaw2.StampOthers'. -/
def stampOthersCard : Claim7 := { stood := { row := stampOthersRow, standIns := [], harness := (true, "4217d634fd497304c4c9b362b9b2f4a24703606a484f8eaaf8eb436b2e24aad0"), looks := true }, kinds := [], alts := [], laidByText := true, laidKinds := [.data], laidTests := true, laidLooks := .later }
def StampOthersCardSaid : Prop := Claim7.holds Tryd.pinned (.plain (OpenSpec.ofChange stampOthersSpec)) stampOthersCard

/-- THE TIED CARD OF 'oathbooklaw2.StampTells'. -/
def stampTellsCard : Claim7 := { stood := { row := stampTellsRow, standIns := [], harness := (true, "4217d634fd497304c4c9b362b9b2f4a24703606a484f8eaaf8eb436b2e24aad0"), looks := true }, kinds := [], alts := [], laidByText := true, laidKinds := [.data, .handle], laidTests := true, laidLooks := .later }
def StampTellsCardSaid : Prop := Claim7.holds Tryd.pinned (.plain (OpenSpec.ofChange stampTellsSpec)) stampTellsCard

/-- THE TIED CARD OF 'oathbooklaw2.StampSigned'. -/
def stampSignedCard : Claim7 := { stood := { row := stampSignedRow, standIns := [], harness := (true, "4217d634fd497304c4c9b362b9b2f4a24703606a484f8eaaf8eb436b2e24aad0"), looks := true }, kinds := [], alts := [], laidByText := true, laidKinds := [.data, .handle], laidTests := true, laidLooks := .later }
def StampSignedCardSaid : Prop := Claim7.holds Tryd.pinned (.plain (OpenSpec.ofChange stampSignedSpec)) stampSignedCard

/-- THE TIED CARD OF 'oathbooklaw4.HyperSigned'. -/
def hyperSignedCard : Claim7 := { stood := { row := hyperSignedRow, standIns := [], harness := (true, "4217d634fd497304c4c9b362b9b2f4a24703606a484f8eaaf8eb436b2e24aad0"), looks := true }, kinds := [], alts := [], laidByText := true, laidKinds := [.data, .handle], laidTests := true, laidLooks := .later }
def HyperSignedCardSaid : Prop := Claim7.holds Tryd.pinned (.plain (OpenSpec.ofChange hyperSignedSpec)) hyperSignedCard

/-- THE TIED CARD OF 'oathbooktop.TopBackup'. -/
def topBackupCard : Claim7 := { stood := { row := topBackupRow, standIns := [], harness := (true, "4217d634fd497304c4c9b362b9b2f4a24703606a484f8eaaf8eb436b2e24aad0"), looks := true }, kinds := [], alts := [], laidByText := true, laidKinds := [.data], laidTests := true, laidLooks := .later }
def TopBackupCardSaid : Prop := Claim7.holds Tryd.pinned (.plain (OpenSpec.ofChange topBackupSpec)) topBackupCard

/-- THE TIED CARD OF 'oathbooktop.TopWitness'. -/
def topWitnessCard : Claim7 := { stood := { row := topWitnessRow, standIns := [], harness := (true, "4217d634fd497304c4c9b362b9b2f4a24703606a484f8eaaf8eb436b2e24aad0"), looks := true }, kinds := [], alts := [], laidByText := true, laidKinds := [.data], laidTests := true, laidLooks := .later }
def TopWitnessCardSaid : Prop := Claim7.holds Tryd.pinned (.plain (OpenSpec.ofChange topWitnessSpec)) topWitnessCard

/-- THE SECOND FORM's CARD OF 'oathbooklaw2.StampOthers'. -/
def stampOthersUptoCard : Claim7 := { stood := { row := stampOthersUptoRow, standIns := [], harness := (true, "4217d634fd497304c4c9b362b9b2f4a24703606a484f8eaaf8eb436b2e24aad0"), looks := true }, kinds := [], alts := [], laidByText := true, laidKinds := [.data], laidTests := true, laidLooks := .later }
def StampOthersUptoCardSaid : Prop := Claim7.holds Tryd.pinned (.plain (OpenSpec.upto stampOthersSpec)) stampOthersUptoCard

/-- THE SECOND FORM's CARD OF 'oathbooklaw2.StampTells'. -/
def stampTellsUptoCard : Claim7 := { stood := { row := stampTellsUptoRow, standIns := [], harness := (true, "4217d634fd497304c4c9b362b9b2f4a24703606a484f8eaaf8eb436b2e24aad0"), looks := true }, kinds := [], alts := [], laidByText := true, laidKinds := [.data, .handle], laidTests := true, laidLooks := .later }
def StampTellsUptoCardSaid : Prop := Claim7.holds Tryd.pinned (.plain (OpenSpec.upto stampTellsSpec)) stampTellsUptoCard

/-- THE SECOND FORM's CARD OF 'oathbooklaw2.StampSigned'. -/
def stampSignedUptoCard : Claim7 := { stood := { row := stampSignedUptoRow, standIns := [], harness := (true, "4217d634fd497304c4c9b362b9b2f4a24703606a484f8eaaf8eb436b2e24aad0"), looks := true }, kinds := [], alts := [], laidByText := true, laidKinds := [.data, .handle], laidTests := true, laidLooks := .later }
def StampSignedUptoCardSaid : Prop := Claim7.holds Tryd.pinned (.plain (OpenSpec.upto stampSignedSpec)) stampSignedUptoCard

/-- THE SECOND FORM's CARD OF 'oathbooklaw4.HyperSigned'. -/
def hyperSignedUptoCard : Claim7 := { stood := { row := hyperSignedUptoRow, standIns := [], harness := (true, "4217d634fd497304c4c9b362b9b2f4a24703606a484f8eaaf8eb436b2e24aad0"), looks := true }, kinds := [], alts := [], laidByText := true, laidKinds := [.data, .handle], laidTests := true, laidLooks := .later }
def HyperSignedUptoCardSaid : Prop := Claim7.holds Tryd.pinned (.plain (OpenSpec.upto hyperSignedSpec)) hyperSignedUptoCard

/-- THE SECOND FORM's CARD OF 'oathbooktop.TopBackup'. -/
def topBackupUptoCard : Claim7 := { stood := { row := topBackupUptoRow, standIns := [], harness := (true, "4217d634fd497304c4c9b362b9b2f4a24703606a484f8eaaf8eb436b2e24aad0"), looks := true }, kinds := [], alts := [], laidByText := true, laidKinds := [.data], laidTests := true, laidLooks := .later }
def TopBackupUptoCardSaid : Prop := Claim7.holds Tryd.pinned (.plain (OpenSpec.upto topBackupSpec)) topBackupUptoCard

/-- THE SECOND FORM's CARD OF 'oathbooktop.TopWitness'. -/
def topWitnessUptoCard : Claim7 := { stood := { row := topWitnessUptoRow, standIns := [], harness := (true, "4217d634fd497304c4c9b362b9b2f4a24703606a484f8eaaf8eb436b2e24aad0"), looks := true }, kinds := [], alts := [], laidByText := true, laidKinds := [.data], laidTests := true, laidLooks := .later }
def TopWitnessUptoCardSaid : Prop := Claim7.holds Tryd.pinned (.plain (OpenSpec.upto topWitnessSpec)) topWitnessUptoCard
end Rows
end Go.Proofs.YtkioddmhjbaleaaDoor
