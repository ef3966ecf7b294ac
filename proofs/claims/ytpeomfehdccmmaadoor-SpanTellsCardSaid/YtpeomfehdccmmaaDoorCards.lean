/-
  DERIVED. GIVEN WITH THE SEED: THE CARDS: each row of YtpeomfehdccmmaaDoorRows.lean that lists a variable, with what it lists TIED to the program's text (the seventh form; the later family's looks); each row that meets fmt, with fmt's text TOLD by the authors' own Lean function (tested against real Go, not proved from fmt's source: count such statements apart). THE CARD IS WHAT COUNTS. Prove the row's statement (the work); the ties are given (YtpeomfehdccmmaaDoorTie.lean); close each card by the builder's one call (the guide's Derived/Test/ToyasCard.lean, 'card_holds'). Laid BY PROGRAM, IN A SANDBOX (cutbox-door.mjs). By AI agents, Wed Nov 11 2026. No macro, syntax, notation, axiom, sorry.
-/
import Derived.Test.YtpeomfehdccmmaaDoorRows
import GoSem.ClaimSeven
namespace Go.Proofs.YtpeomfehdccmmaaDoor
namespace Rows

/-- THE TIED CARD OF 'oathbooklaw2.TrieFolds'. -/
def trieFoldsCard : Claim7 := { stood := { row := trieFoldsRow, standIns := [], harness := (true, "dc8737acee50ade5d9e6156f300c62d149993f3a6545deb441f0e2b50ff31829"), looks := true }, kinds := [], alts := [], laidByText := true, laidKinds := [.data, .handle], laidTests := true, laidLooks := .later }
def TrieFoldsCardSaid : Prop := Claim7.holds Tryd.pinned (.plain (OpenSpec.ofChange trieFoldsSpec)) trieFoldsCard

/-- THE TIED CARD OF 'oathbooklaw2.TrieSound'. -/
def trieSoundCard : Claim7 := { stood := { row := trieSoundRow, standIns := [], harness := (true, "dc8737acee50ade5d9e6156f300c62d149993f3a6545deb441f0e2b50ff31829"), looks := true }, kinds := [], alts := [], laidByText := true, laidKinds := [.data], laidTests := true, laidLooks := .later }
def TrieSoundCardSaid : Prop := Claim7.holds Tryd.pinned (.plain (OpenSpec.ofChange trieSoundSpec)) trieSoundCard

/-- THE TIED CARD OF 'oathbooklaw2.TrieBinds'. -/
def trieBindsCard : Claim7 := { stood := { row := trieBindsRow, standIns := [], harness := (true, "dc8737acee50ade5d9e6156f300c62d149993f3a6545deb441f0e2b50ff31829"), looks := true }, kinds := [], alts := [], laidByText := true, laidKinds := [.data], laidTests := true, laidLooks := .later }
def TrieBindsCardSaid : Prop := Claim7.holds Tryd.pinned (.plain (OpenSpec.ofChange trieBindsSpec)) trieBindsCard

/-- THE TIED CARD OF 'oathbooklaw2.TrieEmpty'. -/
def trieEmptyCard : Claim7 := { stood := { row := trieEmptyRow, standIns := [], harness := (true, "dc8737acee50ade5d9e6156f300c62d149993f3a6545deb441f0e2b50ff31829"), looks := true }, kinds := [], alts := [], laidByText := true, laidKinds := [.data], laidTests := true, laidLooks := .later }
def TrieEmptyCardSaid : Prop := Claim7.holds Tryd.pinned (.plain (OpenSpec.ofChange trieEmptySpec)) trieEmptyCard

/-- THE TIED CARD OF 'oathbooklaw2.TrieProves'. -/
def trieProvesCard : Claim7 := { stood := { row := trieProvesRow, standIns := [], harness := (true, "dc8737acee50ade5d9e6156f300c62d149993f3a6545deb441f0e2b50ff31829"), looks := true }, kinds := [], alts := [], laidByText := true, laidKinds := [.data], laidTests := true, laidLooks := .later }
def TrieProvesCardSaid : Prop := Claim7.holds Tryd.pinned (.plain (OpenSpec.ofChange trieProvesSpec)) trieProvesCard

/-- THE TIED CARD OF 'oathbooklaw2.TrieOrder'. -/
def trieOrderCard : Claim7 := { stood := { row := trieOrderRow, standIns := [], harness := (true, "dc8737acee50ade5d9e6156f300c62d149993f3a6545deb441f0e2b50ff31829"), looks := true }, kinds := [], alts := [], laidByText := true, laidKinds := [.data, .handle], laidTests := true, laidLooks := .later }
def TrieOrderCardSaid : Prop := Claim7.holds Tryd.pinned (.plain (OpenSpec.ofChange trieOrderSpec)) trieOrderCard

/-- THE TIED CARD OF 'oathbooklaw2.TrieRoots'. -/
def trieRootsCard : Claim7 := { stood := { row := trieRootsRow, standIns := [], harness := (true, "dc8737acee50ade5d9e6156f300c62d149993f3a6545deb441f0e2b50ff31829"), looks := true }, kinds := [], alts := [], laidByText := true, laidKinds := [.data, .handle], laidTests := true, laidLooks := .later }
def TrieRootsCardSaid : Prop := Claim7.holds Tryd.pinned (.plain (OpenSpec.ofChange trieRootsSpec)) trieRootsCard

/-- THE TIED CARD OF 'oathbooklaw2.TrieSets'. -/
def trieSetsCard : Claim7 := { stood := { row := trieSetsRow, standIns := [], harness := (true, "dc8737acee50ade5d9e6156f300c62d149993f3a6545deb441f0e2b50ff31829"), looks := true }, kinds := [], alts := [], laidByText := true, laidKinds := [.data, .handle], laidTests := true, laidLooks := .later }
def TrieSetsCardSaid : Prop := Claim7.holds Tryd.pinned (.plain (OpenSpec.ofChange trieSetsSpec)) trieSetsCard

/-- THE TIED CARD OF 'oathbooklaw4.SpanSound'. -/
def spanSoundCard : Claim7 := { stood := { row := spanSoundRow, standIns := [], harness := (true, "dc8737acee50ade5d9e6156f300c62d149993f3a6545deb441f0e2b50ff31829"), looks := true }, kinds := [], alts := [], laidByText := true, laidKinds := [.data], laidTests := true, laidLooks := .later }
def SpanSoundCardSaid : Prop := Claim7.holds Tryd.pinned (.plain (OpenSpec.ofChange spanSoundSpec)) spanSoundCard

/-- THE TIED CARD OF 'oathbooklaw4.SpanProves'. -/
def spanProvesCard : Claim7 := { stood := { row := spanProvesRow, standIns := [], harness := (true, "dc8737acee50ade5d9e6156f300c62d149993f3a6545deb441f0e2b50ff31829"), looks := true }, kinds := [], alts := [], laidByText := true, laidKinds := [.data], laidTests := true, laidLooks := .later }
def SpanProvesCardSaid : Prop := Claim7.holds Tryd.pinned (.plain (OpenSpec.ofChange spanProvesSpec)) spanProvesCard

/-- THE TIED CARD OF 'oathbooklaw4.SpanTells'. -/
def spanTellsCard : Claim7 := { stood := { row := spanTellsRow, standIns := [], harness := (true, "dc8737acee50ade5d9e6156f300c62d149993f3a6545deb441f0e2b50ff31829"), looks := true }, kinds := [], alts := [], laidByText := true, laidKinds := [.data, .handle], laidTests := true, laidLooks := .later }
def SpanTellsCardSaid : Prop := Claim7.holds Tryd.pinned (.plain (OpenSpec.ofChange spanTellsSpec)) spanTellsCard

/-- THE SECOND FORM's CARD OF 'oathbooklaw2.TrieFolds'. -/
def trieFoldsUptoCard : Claim7 := { stood := { row := trieFoldsUptoRow, standIns := [], harness := (true, "dc8737acee50ade5d9e6156f300c62d149993f3a6545deb441f0e2b50ff31829"), looks := true }, kinds := [], alts := [], laidByText := true, laidKinds := [.data, .handle], laidTests := true, laidLooks := .later }
def TrieFoldsUptoCardSaid : Prop := Claim7.holds Tryd.pinned (.plain (OpenSpec.upto trieFoldsSpec)) trieFoldsUptoCard

/-- THE SECOND FORM's CARD OF 'oathbooklaw2.TrieSound'. -/
def trieSoundUptoCard : Claim7 := { stood := { row := trieSoundUptoRow, standIns := [], harness := (true, "dc8737acee50ade5d9e6156f300c62d149993f3a6545deb441f0e2b50ff31829"), looks := true }, kinds := [], alts := [], laidByText := true, laidKinds := [.data], laidTests := true, laidLooks := .later }
def TrieSoundUptoCardSaid : Prop := Claim7.holds Tryd.pinned (.plain (OpenSpec.upto trieSoundSpec)) trieSoundUptoCard

/-- THE SECOND FORM's CARD OF 'oathbooklaw2.TrieBinds'. -/
def trieBindsUptoCard : Claim7 := { stood := { row := trieBindsUptoRow, standIns := [], harness := (true, "dc8737acee50ade5d9e6156f300c62d149993f3a6545deb441f0e2b50ff31829"), looks := true }, kinds := [], alts := [], laidByText := true, laidKinds := [.data], laidTests := true, laidLooks := .later }
def TrieBindsUptoCardSaid : Prop := Claim7.holds Tryd.pinned (.plain (OpenSpec.upto trieBindsSpec)) trieBindsUptoCard

/-- THE SECOND FORM's CARD OF 'oathbooklaw2.TrieEmpty'. -/
def trieEmptyUptoCard : Claim7 := { stood := { row := trieEmptyUptoRow, standIns := [], harness := (true, "dc8737acee50ade5d9e6156f300c62d149993f3a6545deb441f0e2b50ff31829"), looks := true }, kinds := [], alts := [], laidByText := true, laidKinds := [.data], laidTests := true, laidLooks := .later }
def TrieEmptyUptoCardSaid : Prop := Claim7.holds Tryd.pinned (.plain (OpenSpec.upto trieEmptySpec)) trieEmptyUptoCard

/-- THE SECOND FORM's CARD OF 'oathbooklaw2.TrieProves'. -/
def trieProvesUptoCard : Claim7 := { stood := { row := trieProvesUptoRow, standIns := [], harness := (true, "dc8737acee50ade5d9e6156f300c62d149993f3a6545deb441f0e2b50ff31829"), looks := true }, kinds := [], alts := [], laidByText := true, laidKinds := [.data], laidTests := true, laidLooks := .later }
def TrieProvesUptoCardSaid : Prop := Claim7.holds Tryd.pinned (.plain (OpenSpec.upto trieProvesSpec)) trieProvesUptoCard

/-- THE SECOND FORM's CARD OF 'oathbooklaw2.TrieOrder'. -/
def trieOrderUptoCard : Claim7 := { stood := { row := trieOrderUptoRow, standIns := [], harness := (true, "dc8737acee50ade5d9e6156f300c62d149993f3a6545deb441f0e2b50ff31829"), looks := true }, kinds := [], alts := [], laidByText := true, laidKinds := [.data, .handle], laidTests := true, laidLooks := .later }
def TrieOrderUptoCardSaid : Prop := Claim7.holds Tryd.pinned (.plain (OpenSpec.upto trieOrderSpec)) trieOrderUptoCard

/-- THE SECOND FORM's CARD OF 'oathbooklaw2.TrieRoots'. -/
def trieRootsUptoCard : Claim7 := { stood := { row := trieRootsUptoRow, standIns := [], harness := (true, "dc8737acee50ade5d9e6156f300c62d149993f3a6545deb441f0e2b50ff31829"), looks := true }, kinds := [], alts := [], laidByText := true, laidKinds := [.data, .handle], laidTests := true, laidLooks := .later }
def TrieRootsUptoCardSaid : Prop := Claim7.holds Tryd.pinned (.plain (OpenSpec.upto trieRootsSpec)) trieRootsUptoCard

/-- THE SECOND FORM's CARD OF 'oathbooklaw2.TrieSets'. -/
def trieSetsUptoCard : Claim7 := { stood := { row := trieSetsUptoRow, standIns := [], harness := (true, "dc8737acee50ade5d9e6156f300c62d149993f3a6545deb441f0e2b50ff31829"), looks := true }, kinds := [], alts := [], laidByText := true, laidKinds := [.data, .handle], laidTests := true, laidLooks := .later }
def TrieSetsUptoCardSaid : Prop := Claim7.holds Tryd.pinned (.plain (OpenSpec.upto trieSetsSpec)) trieSetsUptoCard

/-- THE SECOND FORM's CARD OF 'oathbooklaw4.SpanSound'. -/
def spanSoundUptoCard : Claim7 := { stood := { row := spanSoundUptoRow, standIns := [], harness := (true, "dc8737acee50ade5d9e6156f300c62d149993f3a6545deb441f0e2b50ff31829"), looks := true }, kinds := [], alts := [], laidByText := true, laidKinds := [.data], laidTests := true, laidLooks := .later }
def SpanSoundUptoCardSaid : Prop := Claim7.holds Tryd.pinned (.plain (OpenSpec.upto spanSoundSpec)) spanSoundUptoCard

/-- THE SECOND FORM's CARD OF 'oathbooklaw4.SpanProves'. -/
def spanProvesUptoCard : Claim7 := { stood := { row := spanProvesUptoRow, standIns := [], harness := (true, "dc8737acee50ade5d9e6156f300c62d149993f3a6545deb441f0e2b50ff31829"), looks := true }, kinds := [], alts := [], laidByText := true, laidKinds := [.data], laidTests := true, laidLooks := .later }
def SpanProvesUptoCardSaid : Prop := Claim7.holds Tryd.pinned (.plain (OpenSpec.upto spanProvesSpec)) spanProvesUptoCard

/-- THE SECOND FORM's CARD OF 'oathbooklaw4.SpanTells'. -/
def spanTellsUptoCard : Claim7 := { stood := { row := spanTellsUptoRow, standIns := [], harness := (true, "dc8737acee50ade5d9e6156f300c62d149993f3a6545deb441f0e2b50ff31829"), looks := true }, kinds := [], alts := [], laidByText := true, laidKinds := [.data, .handle], laidTests := true, laidLooks := .later }
def SpanTellsUptoCardSaid : Prop := Claim7.holds Tryd.pinned (.plain (OpenSpec.upto spanTellsSpec)) spanTellsUptoCard
end Rows
end Go.Proofs.YtpeomfehdccmmaaDoor
