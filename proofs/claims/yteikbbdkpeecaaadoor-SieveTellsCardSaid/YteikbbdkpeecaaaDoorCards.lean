/-
  DERIVED. GIVEN WITH THE SEED: THE CARDS: each row of YteikbbdkpeecaaaDoorRows.lean that lists a variable, with what it lists TIED to the program's text (the seventh form; the later family's looks); each row that meets fmt, with fmt's text TOLD by the authors' own Lean function (tested against real Go, not proved from fmt's source: count such statements apart). THE CARD IS WHAT COUNTS. Prove the row's statement (the work); the ties are given (YteikbbdkpeecaaaDoorTie.lean); close each card by the builder's one call (the guide's Derived/Test/ToyasCard.lean, 'card_holds'). Laid BY PROGRAM, IN A SANDBOX (cutbox-door.mjs). By AI agents, Wed Nov 11 2026. No macro, syntax, notation, axiom, sorry.
-/
import Derived.Test.YteikbbdkpeecaaaDoorRows
import GoSem.ClaimSeven
namespace Go.Proofs.YteikbbdkpeecaaaDoor
namespace Rows

/-- THE TIED CARD OF 'oathbooklaw4.SieveTells'. -/
def sieveTellsCard : Claim7 := { stood := { row := sieveTellsRow, standIns := [], harness := (true, "4f0e9677fe1ccb776bf052845ca0f76ca72d0c0d325736eacb132d69b7600c21"), looks := true }, kinds := [], alts := [], laidByText := true, laidKinds := [.data, .handle], laidTests := true, laidLooks := .later }
def SieveTellsCardSaid : Prop := Claim7.holds Tryd.pinned (.plain (OpenSpec.ofChange sieveTellsSpec)) sieveTellsCard

/-- THE TIED CARD OF 'oathbooklaw4.BidTruth'. -/
def bidTruthCard : Claim7 := { stood := { row := bidTruthRow, standIns := [], harness := (true, "4f0e9677fe1ccb776bf052845ca0f76ca72d0c0d325736eacb132d69b7600c21"), looks := true }, kinds := [], alts := [], laidByText := true, laidKinds := [.data], laidTests := true, laidLooks := .later }
def BidTruthCardSaid : Prop := Claim7.holds Tryd.pinned (.plain (OpenSpec.ofChange bidTruthSpec)) bidTruthCard

/-- THE TIED CARD OF 'oathbooklaw4.BidPaid'. -/
def bidPaidCard : Claim7 := { stood := { row := bidPaidRow, standIns := [], harness := (true, "4f0e9677fe1ccb776bf052845ca0f76ca72d0c0d325736eacb132d69b7600c21"), looks := true }, kinds := [], alts := [], laidByText := true, laidKinds := [.data], laidTests := true, laidLooks := .later }
def BidPaidCardSaid : Prop := Claim7.holds Tryd.pinned (.plain (OpenSpec.ofChange bidPaidSpec)) bidPaidCard

/-- THE TIED CARD OF 'oathbooklaw4.BidAwards'. -/
def bidAwardsCard : Claim7 := { stood := { row := bidAwardsRow, standIns := [], harness := (true, "4f0e9677fe1ccb776bf052845ca0f76ca72d0c0d325736eacb132d69b7600c21"), looks := true }, kinds := [], alts := [], laidByText := true, laidKinds := [.data, .handle], laidTests := true, laidLooks := .later }
def BidAwardsCardSaid : Prop := Claim7.holds Tryd.pinned (.plain (OpenSpec.ofChange bidAwardsSpec)) bidAwardsCard

/-- THE TIED CARD OF 'oathbooklaw4.BidOrder'. -/
def bidOrderCard : Claim7 := { stood := { row := bidOrderRow, standIns := [], harness := (true, "4f0e9677fe1ccb776bf052845ca0f76ca72d0c0d325736eacb132d69b7600c21"), looks := true }, kinds := [], alts := [], laidByText := true, laidKinds := [.data, .handle], laidTests := true, laidLooks := .later }
def BidOrderCardSaid : Prop := Claim7.holds Tryd.pinned (.plain (OpenSpec.ofChange bidOrderSpec)) bidOrderCard

/-- THE SECOND FORM's CARD OF 'oathbooklaw4.SieveTells'. -/
def sieveTellsUptoCard : Claim7 := { stood := { row := sieveTellsUptoRow, standIns := [], harness := (true, "4f0e9677fe1ccb776bf052845ca0f76ca72d0c0d325736eacb132d69b7600c21"), looks := true }, kinds := [], alts := [], laidByText := true, laidKinds := [.data, .handle], laidTests := true, laidLooks := .later }
def SieveTellsUptoCardSaid : Prop := Claim7.holds Tryd.pinned (.plain (OpenSpec.upto sieveTellsSpec)) sieveTellsUptoCard

/-- THE SECOND FORM's CARD OF 'oathbooklaw4.BidTruth'. -/
def bidTruthUptoCard : Claim7 := { stood := { row := bidTruthUptoRow, standIns := [], harness := (true, "4f0e9677fe1ccb776bf052845ca0f76ca72d0c0d325736eacb132d69b7600c21"), looks := true }, kinds := [], alts := [], laidByText := true, laidKinds := [.data], laidTests := true, laidLooks := .later }
def BidTruthUptoCardSaid : Prop := Claim7.holds Tryd.pinned (.plain (OpenSpec.upto bidTruthSpec)) bidTruthUptoCard

/-- THE SECOND FORM's CARD OF 'oathbooklaw4.BidPaid'. -/
def bidPaidUptoCard : Claim7 := { stood := { row := bidPaidUptoRow, standIns := [], harness := (true, "4f0e9677fe1ccb776bf052845ca0f76ca72d0c0d325736eacb132d69b7600c21"), looks := true }, kinds := [], alts := [], laidByText := true, laidKinds := [.data], laidTests := true, laidLooks := .later }
def BidPaidUptoCardSaid : Prop := Claim7.holds Tryd.pinned (.plain (OpenSpec.upto bidPaidSpec)) bidPaidUptoCard

/-- THE SECOND FORM's CARD OF 'oathbooklaw4.BidAwards'. -/
def bidAwardsUptoCard : Claim7 := { stood := { row := bidAwardsUptoRow, standIns := [], harness := (true, "4f0e9677fe1ccb776bf052845ca0f76ca72d0c0d325736eacb132d69b7600c21"), looks := true }, kinds := [], alts := [], laidByText := true, laidKinds := [.data, .handle], laidTests := true, laidLooks := .later }
def BidAwardsUptoCardSaid : Prop := Claim7.holds Tryd.pinned (.plain (OpenSpec.upto bidAwardsSpec)) bidAwardsUptoCard

/-- THE SECOND FORM's CARD OF 'oathbooklaw4.BidOrder'. -/
def bidOrderUptoCard : Claim7 := { stood := { row := bidOrderUptoRow, standIns := [], harness := (true, "4f0e9677fe1ccb776bf052845ca0f76ca72d0c0d325736eacb132d69b7600c21"), looks := true }, kinds := [], alts := [], laidByText := true, laidKinds := [.data, .handle], laidTests := true, laidLooks := .later }
def BidOrderUptoCardSaid : Prop := Claim7.holds Tryd.pinned (.plain (OpenSpec.upto bidOrderSpec)) bidOrderUptoCard
end Rows
end Go.Proofs.YteikbbdkpeecaaaDoor
