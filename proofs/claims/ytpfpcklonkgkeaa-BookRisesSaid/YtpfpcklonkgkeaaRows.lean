/-
  No cell of these rows narrows 'for every input' (looked for: loops, veiled, ifaces, maps, wideKeys, modest, calm, conditions, laid).
  DERIVED. THE GIVEN ROWS OF THIS SEAT. 6 by the template 'for every input the law returns true; each argument reads behind the call as it read before'; 0 by the template 'total and deterministic' (their statements: YtpfpcklonkgkeaaTotals.lean).
  GIVEN WITH THE SEED: the statements are not yours to turn. If you find one false, say at which input.
  Laid BY PROGRAM, IN A SANDBOX (cutbox-rows.mjs): the forced cells as the released guide's own fill.sh prints them over the translation f4875d012c1a20e1… (all of the seat's roots in one cut). By AI agents, Wed Nov 11 2026. No macro, syntax, notation, axiom, sorry.
-/
import Derived.Test.YtpfpcklonkgkeaaChecked
import GoSem.Claim
import GoSem.ClaimJoined
import GoSem.ClaimMapViews
import Derived.JoinedTies
import Derived.KernelRfl
namespace Go.Proofs.Ytpfpcklonkgkeaa
/- THE CELL 'sum', in the pinned program and in every row, IS THE sha256 OF THE DUMP (.gsa) THAT YtpfpcklonkgkeaaProg.lean LOADS. Nothing in Lean hashes anything: it is a label: what it is worth is what the hold of that sum in a sandbox is worth. -/
noncomputable def Try.pinned : Pinned := { name := "ytpfpcklonkgkeaa", sum := "f4875d012c1a20e1d2ff6ec83bd35d5d61e2e9b84a22969f81b4eae984f03f95", checked := Try.checked }
namespace Rows
def none {H : Type} : Left H := { results := [], args := [] }

/-- 'oathbooklaw4.LotFair': WHATEVER THE INPUT: true; the input reads as it did. -/
def lotFairSpec : ChangeSpec := { name := "lotFair", fn := fun _ => fun
  | [d1, d2, d3, d4] => { results := [.lit (.bool true)], args := [d1, d2, d3, d4] }
  | _ => none }
def lotFairRow : OpenClaim := { program := "ytpfpcklonkgkeaa", sum := "f4875d012c1a20e1d2ff6ec83bd35d5d61e2e9b84a22969f81b4eae984f03f95", func := "oathbook/oathbooklaw4.LotFair", spec := "lotFair", apart := false }
def LotFairSaid : Prop := lotFairRow.holds Try.pinned (OpenSpec.ofChange lotFairSpec)

/-- ITS FALSE NEIGHBOUR: 'it returns false'. Refute it at one input. -/
def lotFairWrong : ChangeSpec := { name := "lotFair", fn := fun _ => fun
  | [d1, d2, d3, d4] => { results := [.lit (.bool false)], args := [d1, d2, d3, d4] }
  | _ => none }
def LotFairWrongFalsely : Prop := lotFairRow.holds Try.pinned (OpenSpec.ofChange lotFairWrong)

/-- 'oathbooklaw2.BookJoins': WHATEVER THE INPUT: true; the input reads as it did. -/
def bookJoinsSpec : ChangeSpec := { name := "bookJoins", fn := fun _ => fun
  | [d1, d2, d3] => { results := [.lit (.bool true)], args := [d1, d2, d3] }
  | _ => none }
def bookJoinsRow : OpenClaim := { program := "ytpfpcklonkgkeaa", sum := "f4875d012c1a20e1d2ff6ec83bd35d5d61e2e9b84a22969f81b4eae984f03f95", func := "oathbook/oathbooklaw2.BookJoins", spec := "bookJoins", inPlace := ["internal/bytealg.abigen_runtime_cmpstring"], unfollowed := true, recurses := true, apart := false }
def BookJoinsSaid : Prop := bookJoinsRow.holds Try.pinned (OpenSpec.ofChange bookJoinsSpec)

/-- ITS FALSE NEIGHBOUR: 'it returns false'. Refute it at one input. -/
def bookJoinsWrong : ChangeSpec := { name := "bookJoins", fn := fun _ => fun
  | [d1, d2, d3] => { results := [.lit (.bool false)], args := [d1, d2, d3] }
  | _ => none }
def BookJoinsWrongFalsely : Prop := bookJoinsRow.holds Try.pinned (OpenSpec.ofChange bookJoinsWrong)

/-- 'oathbooklaw2.BookRises': WHATEVER THE INPUT: true; the input reads as it did. -/
def bookRisesSpec : ChangeSpec := { name := "bookRises", fn := fun _ => fun
  | [d1, d2, d3, d4] => { results := [.lit (.bool true)], args := [d1, d2, d3, d4] }
  | _ => none }
def bookRisesRow : OpenClaim := { program := "ytpfpcklonkgkeaa", sum := "f4875d012c1a20e1d2ff6ec83bd35d5d61e2e9b84a22969f81b4eae984f03f95", func := "oathbook/oathbooklaw2.BookRises", spec := "bookRises", inPlace := ["internal/bytealg.abigen_runtime_cmpstring"], unfollowed := true, recurses := true, apart := false }
def BookRisesSaid : Prop := bookRisesRow.holds Try.pinned (OpenSpec.ofChange bookRisesSpec)

/-- ITS FALSE NEIGHBOUR: 'it returns false'. Refute it at one input. -/
def bookRisesWrong : ChangeSpec := { name := "bookRises", fn := fun _ => fun
  | [d1, d2, d3, d4] => { results := [.lit (.bool false)], args := [d1, d2, d3, d4] }
  | _ => none }
def BookRisesWrongFalsely : Prop := bookRisesRow.holds Try.pinned (OpenSpec.ofChange bookRisesWrong)

/-- 'oathbooklaw2.NoteApart': WHATEVER THE INPUT: true; the input reads as it did. -/
def noteApartSpec : ChangeSpec := { name := "noteApart", fn := fun _ => fun
  | [d1, d2] => { results := [.lit (.bool true)], args := [d1, d2] }
  | _ => none }
def noteApartRow : OpenClaim := { program := "ytpfpcklonkgkeaa", sum := "f4875d012c1a20e1d2ff6ec83bd35d5d61e2e9b84a22969f81b4eae984f03f95", func := "oathbook/oathbooklaw2.NoteApart", spec := "noteApart", unfollowed := true, recurses := true, apart := false }
def NoteApartSaid : Prop := noteApartRow.holds Try.pinned (OpenSpec.ofChange noteApartSpec)

/-- ITS FALSE NEIGHBOUR: 'it returns false'. Refute it at one input. -/
def noteApartWrong : ChangeSpec := { name := "noteApart", fn := fun _ => fun
  | [d1, d2] => { results := [.lit (.bool false)], args := [d1, d2] }
  | _ => none }
def NoteApartWrongFalsely : Prop := noteApartRow.holds Try.pinned (OpenSpec.ofChange noteApartWrong)

/-- 'oathbooklaw2.NoteBack': WHATEVER THE INPUT: true; the input reads as it did. -/
def noteBackSpec : ChangeSpec := { name := "noteBack", fn := fun _ => fun
  | [d1, d2] => { results := [.lit (.bool true)], args := [d1, d2] }
  | _ => none }
def noteBackRow : OpenClaim := { program := "ytpfpcklonkgkeaa", sum := "f4875d012c1a20e1d2ff6ec83bd35d5d61e2e9b84a22969f81b4eae984f03f95", func := "oathbook/oathbooklaw2.NoteBack", spec := "noteBack", unfollowed := true, recurses := true, apart := false }
def NoteBackSaid : Prop := noteBackRow.holds Try.pinned (OpenSpec.ofChange noteBackSpec)

/-- ITS FALSE NEIGHBOUR: 'it returns false'. Refute it at one input. -/
def noteBackWrong : ChangeSpec := { name := "noteBack", fn := fun _ => fun
  | [d1, d2] => { results := [.lit (.bool false)], args := [d1, d2] }
  | _ => none }
def NoteBackWrongFalsely : Prop := noteBackRow.holds Try.pinned (OpenSpec.ofChange noteBackWrong)

/-- 'oathbooktop.TopRows': WHATEVER THE INPUT: true; the input reads as it did. -/
def topRowsSpec : ChangeSpec := { name := "topRows", fn := fun _ => fun
  | [d1, d2, d3] => { results := [.lit (.bool true)], args := [d1, d2, d3] }
  | _ => none }
def topRowsRow : OpenClaim := { program := "ytpfpcklonkgkeaa", sum := "f4875d012c1a20e1d2ff6ec83bd35d5d61e2e9b84a22969f81b4eae984f03f95", func := "oathbook/oathbooktop.TopRows", spec := "topRows", unfollowed := true, recurses := true, apart := false }
def TopRowsSaid : Prop := topRowsRow.holds Try.pinned (OpenSpec.ofChange topRowsSpec)

/-- ITS FALSE NEIGHBOUR: 'it returns false'. Refute it at one input. -/
def topRowsWrong : ChangeSpec := { name := "topRows", fn := fun _ => fun
  | [d1, d2, d3] => { results := [.lit (.bool false)], args := [d1, d2, d3] }
  | _ => none }
def TopRowsWrongFalsely : Prop := topRowsRow.holds Try.pinned (OpenSpec.ofChange topRowsWrong)

/- THE SECOND FORM. 'bulk': how many values and letters a reading holds, each counted each time it is reached (what is shared counts as often as it is met; a slice's spare places count too). A statement '..UptoSaid' is the law's where the arguments, and the package variables that the reading takes, are together of bulk at most 1048576: NARROWER than '..Said'. Prove '..Said' where nothing that the law and all that it calls make is longer than what came in: it says more and counts as full. Else prove '..UptoSaid'. A law counts once. -/
mutual
def uptoBulk {H : Type} : DataW H → Nat
  | .lit (.string bytes) => bytes.length + 1
  | .lit _ => 1
  | .nil => 1
  | .ptr d => uptoBulk d + 1
  | .slice elems spare => uptoBulkAll elems + uptoBulkAll spare + 1
  | .agg parts => uptoBulkAll parts + 1
  | .iface _ d => uptoBulk d + 1
  | .map entries => uptoBulkEntries entries + 1
  | .held _ => 1
def uptoBulkAll {H : Type} : List (DataW H) → Nat
  | [] => 0
  | d :: r => uptoBulk d + uptoBulkAll r
def uptoBulkEntries {H : Type} : List (Lit × DataW H) → Nat
  | [] => 0
  | x :: r => uptoBulkEntry x + uptoBulkEntries r
def uptoBulkEntry {H : Type} : Lit × DataW H → Nat
  | (.string bytes, d) => bytes.length + uptoBulk d + 1
  | (_, d) => uptoBulk d + 1
 end
def uptoSmall : (H : Type) → List (DataW H) → Bool := fun _ ds => decide (uptoBulkAll ds ≤ 1048576)
def OpenSpec.upto (s : _root_.Go.ChangeSpec) : _root_.Go.OpenSpec := { _root_.Go.OpenSpec.ofChange s with cond := some uptoSmall }

/-- 'oathbooklaw4.LotFair', WHERE WHAT IT READS IS OF BULK AT MOST 1048576: true; the input reads as it did. -/
def lotFairUptoRow : OpenClaim := { program := "ytpfpcklonkgkeaa", sum := "f4875d012c1a20e1d2ff6ec83bd35d5d61e2e9b84a22969f81b4eae984f03f95", func := "oathbook/oathbooklaw4.LotFair", spec := "lotFair", apart := false, narrowed := true }
def LotFairUptoSaid : Prop := lotFairUptoRow.holds Try.pinned (OpenSpec.upto lotFairSpec)

/-- 'oathbooklaw2.BookJoins', WHERE WHAT IT READS IS OF BULK AT MOST 1048576: true; the input reads as it did. -/
def bookJoinsUptoRow : OpenClaim := { program := "ytpfpcklonkgkeaa", sum := "f4875d012c1a20e1d2ff6ec83bd35d5d61e2e9b84a22969f81b4eae984f03f95", func := "oathbook/oathbooklaw2.BookJoins", spec := "bookJoins", inPlace := ["internal/bytealg.abigen_runtime_cmpstring"], unfollowed := true, recurses := true, apart := false, narrowed := true }
def BookJoinsUptoSaid : Prop := bookJoinsUptoRow.holds Try.pinned (OpenSpec.upto bookJoinsSpec)

/-- 'oathbooklaw2.BookRises', WHERE WHAT IT READS IS OF BULK AT MOST 1048576: true; the input reads as it did. -/
def bookRisesUptoRow : OpenClaim := { program := "ytpfpcklonkgkeaa", sum := "f4875d012c1a20e1d2ff6ec83bd35d5d61e2e9b84a22969f81b4eae984f03f95", func := "oathbook/oathbooklaw2.BookRises", spec := "bookRises", inPlace := ["internal/bytealg.abigen_runtime_cmpstring"], unfollowed := true, recurses := true, apart := false, narrowed := true }
def BookRisesUptoSaid : Prop := bookRisesUptoRow.holds Try.pinned (OpenSpec.upto bookRisesSpec)

/-- 'oathbooklaw2.NoteApart', WHERE WHAT IT READS IS OF BULK AT MOST 1048576: true; the input reads as it did. -/
def noteApartUptoRow : OpenClaim := { program := "ytpfpcklonkgkeaa", sum := "f4875d012c1a20e1d2ff6ec83bd35d5d61e2e9b84a22969f81b4eae984f03f95", func := "oathbook/oathbooklaw2.NoteApart", spec := "noteApart", unfollowed := true, recurses := true, apart := false, narrowed := true }
def NoteApartUptoSaid : Prop := noteApartUptoRow.holds Try.pinned (OpenSpec.upto noteApartSpec)

/-- 'oathbooklaw2.NoteBack', WHERE WHAT IT READS IS OF BULK AT MOST 1048576: true; the input reads as it did. -/
def noteBackUptoRow : OpenClaim := { program := "ytpfpcklonkgkeaa", sum := "f4875d012c1a20e1d2ff6ec83bd35d5d61e2e9b84a22969f81b4eae984f03f95", func := "oathbook/oathbooklaw2.NoteBack", spec := "noteBack", unfollowed := true, recurses := true, apart := false, narrowed := true }
def NoteBackUptoSaid : Prop := noteBackUptoRow.holds Try.pinned (OpenSpec.upto noteBackSpec)

/-- 'oathbooktop.TopRows', WHERE WHAT IT READS IS OF BULK AT MOST 1048576: true; the input reads as it did. -/
def topRowsUptoRow : OpenClaim := { program := "ytpfpcklonkgkeaa", sum := "f4875d012c1a20e1d2ff6ec83bd35d5d61e2e9b84a22969f81b4eae984f03f95", func := "oathbook/oathbooktop.TopRows", spec := "topRows", unfollowed := true, recurses := true, apart := false, narrowed := true }
def TopRowsUptoSaid : Prop := topRowsUptoRow.holds Try.pinned (OpenSpec.upto topRowsSpec)

end Rows
end Go.Proofs.Ytpfpcklonkgkeaa
