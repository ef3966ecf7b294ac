/-
  NARROWER THAN 'FOR EVERY INPUT', by the rows' own cells (each row's printed sentence says how): StampOthers: laid · StampTells: laid · StampSigned: laid · HyperSigned: laid · TopBackup: laid · TopWitness: laid.
  DERIVED. THE GIVEN ROWS OF THIS SEAT. 6 by the template 'for every input the law returns true; each argument reads behind the call as it read before'; 0 by the template 'total and deterministic' (their statements: YtkioddmhjbaleaaDoorTotals.lean).
  GIVEN WITH THE SEED: the statements are not yours to turn. If you find one false, say at which input.
  Laid BY PROGRAM, IN A SANDBOX (cutbox-rows.mjs): the forced cells as the released guide's own fill.sh prints them over the translation e4d7b8e0c3f639b5… (all of the seat's roots in one cut). By AI agents, Wed Nov 11 2026. No macro, syntax, notation, axiom, sorry.
-/
import Derived.Test.YtkioddmhjbaleaaDoorChecked
import GoSem.Claim
import GoSem.ClaimJoined
import GoSem.ClaimMapViews
import Derived.JoinedTies
import Derived.KernelRfl
namespace Go.Proofs.YtkioddmhjbaleaaDoor
/- THE CELL 'sum', in the pinned program and in every row, IS THE sha256 OF THE DUMP (.gsa) THAT YtkioddmhjbaleaaDoorProg.lean LOADS. Nothing in Lean hashes anything: it is a label: what it is worth is what the hold of that sum in a sandbox is worth. -/
noncomputable def Tryd.pinned : Pinned := { name := "ytkioddmhjbaleaadoor", sum := "e4d7b8e0c3f639b5cb953b82388b415e79dc877a1b255216f58a909ed2718b92", checked := Tryd.checked }
namespace Rows
def none {H : Type} : Left H := { results := [], args := [] }

/- WHAT THE LISTED PACKAGE-LEVEL VARIABLES READ AS WHEN THE CALL BEGINS. Each datum BY PROGRAM (the guide's laid-datum.mjs) off the statement by which the dump's own 'gosem.cut.vars' lays the variable. In a bare row this is a premise. The card (YtkioddmhjbaleaaDoorCards.lean) ties it to the program's text. -/
def laid_oathbook_sha_rounds {H : Type} : DataW H := .agg [.lit (.int .u32 1116352408), .lit (.int .u32 1899447441), .lit (.int .u32 3049323471), .lit (.int .u32 3921009573), .lit (.int .u32 961987163), .lit (.int .u32 1508970993), .lit (.int .u32 2453635748), .lit (.int .u32 2870763221), .lit (.int .u32 3624381080), .lit (.int .u32 310598401), .lit (.int .u32 607225278), .lit (.int .u32 1426881987), .lit (.int .u32 1925078388), .lit (.int .u32 2162078206), .lit (.int .u32 2614888103), .lit (.int .u32 3248222580), .lit (.int .u32 3835390401), .lit (.int .u32 4022224774), .lit (.int .u32 264347078), .lit (.int .u32 604807628), .lit (.int .u32 770255983), .lit (.int .u32 1249150122), .lit (.int .u32 1555081692), .lit (.int .u32 1996064986), .lit (.int .u32 2554220882), .lit (.int .u32 2821834349), .lit (.int .u32 2952996808), .lit (.int .u32 3210313671), .lit (.int .u32 3336571891), .lit (.int .u32 3584528711), .lit (.int .u32 113926993), .lit (.int .u32 338241895), .lit (.int .u32 666307205), .lit (.int .u32 773529912), .lit (.int .u32 1294757372), .lit (.int .u32 1396182291), .lit (.int .u32 1695183700), .lit (.int .u32 1986661051), .lit (.int .u32 2177026350), .lit (.int .u32 2456956037), .lit (.int .u32 2730485921), .lit (.int .u32 2820302411), .lit (.int .u32 3259730800), .lit (.int .u32 3345764771), .lit (.int .u32 3516065817), .lit (.int .u32 3600352804), .lit (.int .u32 4094571909), .lit (.int .u32 275423344), .lit (.int .u32 430227734), .lit (.int .u32 506948616), .lit (.int .u32 659060556), .lit (.int .u32 883997877), .lit (.int .u32 958139571), .lit (.int .u32 1322822218), .lit (.int .u32 1537002063), .lit (.int .u32 1747873779), .lit (.int .u32 1955562222), .lit (.int .u32 2024104815), .lit (.int .u32 2227730452), .lit (.int .u32 2361852424), .lit (.int .u32 2428436474), .lit (.int .u32 2756734187), .lit (.int .u32 3204031479), .lit (.int .u32 3329325298)]
def laid_errors_errorType {H : Type} : DataW H := .iface "internal/reflectlite.rtype" (.agg [.ptr (.lit (.string [101, 114, 114, 111, 114]))])

/-- 'oathbooklaw2.StampOthers': WHATEVER THE INPUT: true; the input reads as it did. -/
def stampOthersSpec : ChangeSpec := { name := "stampOthers", fn := fun _ => fun
  | [d1, d2, d3] => { results := [.lit (.bool true)], args := [d1, d2, d3] }
  | _ => none }
def stampOthersRow : OpenClaim := { program := "ytkioddmhjbaleaadoor", sum := "e4d7b8e0c3f639b5cb953b82388b415e79dc877a1b255216f58a909ed2718b92", func := "oathbook/oathbooklaw2.StampOthers", spec := "stampOthers", unfollowed := true, recurses := true, named := ["oathbook/sha.rounds"], apart := false, laid := [("oathbook/sha.rounds", laid_oathbook_sha_rounds)] }
def StampOthersSaid : Prop := stampOthersRow.holds Tryd.pinned (OpenSpec.ofChange stampOthersSpec)

/-- ITS FALSE NEIGHBOUR: 'it returns false'. Refute it at one input. -/
def stampOthersWrong : ChangeSpec := { name := "stampOthers", fn := fun _ => fun
  | [d1, d2, d3] => { results := [.lit (.bool false)], args := [d1, d2, d3] }
  | _ => none }
def StampOthersWrongFalsely : Prop := stampOthersRow.holds Tryd.pinned (OpenSpec.ofChange stampOthersWrong)

/-- 'oathbooklaw2.StampTells': WHATEVER THE INPUT: true; the input reads as it did. -/
def stampTellsSpec : ChangeSpec := { name := "stampTells", fn := fun _ => fun
  | [d1, d2, d3, d4, d5] => { results := [.lit (.bool true)], args := [d1, d2, d3, d4, d5] }
  | _ => none }
def stampTellsRow : OpenClaim := { program := "ytkioddmhjbaleaadoor", sum := "e4d7b8e0c3f639b5cb953b82388b415e79dc877a1b255216f58a909ed2718b92", func := "oathbook/oathbooklaw2.StampTells", spec := "stampTells", inPlace := ["internal/reflectlite.ValueOf", "(internal/reflectlite.Value).Type", "(internal/reflectlite.Value).IsNil", "internal/reflectlite.TypeOf", "(internal/reflectlite.Value).Elem", "(internal/reflectlite.Value).Set"], unfollowed := true, recurses := true, named := ["oathbook/sha.rounds", "errors.errorType"], apart := false, laid := [("oathbook/sha.rounds", laid_oathbook_sha_rounds), ("errors.errorType", laid_errors_errorType)] }
def StampTellsSaid : Prop := stampTellsRow.holds Tryd.pinned (OpenSpec.ofChange stampTellsSpec)

/-- ITS FALSE NEIGHBOUR: 'it returns false'. Refute it at one input. -/
def stampTellsWrong : ChangeSpec := { name := "stampTells", fn := fun _ => fun
  | [d1, d2, d3, d4, d5] => { results := [.lit (.bool false)], args := [d1, d2, d3, d4, d5] }
  | _ => none }
def StampTellsWrongFalsely : Prop := stampTellsRow.holds Tryd.pinned (OpenSpec.ofChange stampTellsWrong)

/-- 'oathbooklaw2.StampSigned': WHATEVER THE INPUT: true; the input reads as it did. -/
def stampSignedSpec : ChangeSpec := { name := "stampSigned", fn := fun _ => fun
  | [d1, d2, d3] => { results := [.lit (.bool true)], args := [d1, d2, d3] }
  | _ => none }
def stampSignedRow : OpenClaim := { program := "ytkioddmhjbaleaadoor", sum := "e4d7b8e0c3f639b5cb953b82388b415e79dc877a1b255216f58a909ed2718b92", func := "oathbook/oathbooklaw2.StampSigned", spec := "stampSigned", inPlace := ["internal/reflectlite.ValueOf", "(internal/reflectlite.Value).Type", "(internal/reflectlite.Value).IsNil", "internal/reflectlite.TypeOf", "(internal/reflectlite.Value).Elem", "(internal/reflectlite.Value).Set"], unfollowed := true, recurses := true, named := ["oathbook/sha.rounds", "errors.errorType"], apart := false, laid := [("oathbook/sha.rounds", laid_oathbook_sha_rounds), ("errors.errorType", laid_errors_errorType)] }
def StampSignedSaid : Prop := stampSignedRow.holds Tryd.pinned (OpenSpec.ofChange stampSignedSpec)

/-- ITS FALSE NEIGHBOUR: 'it returns false'. Refute it at one input. -/
def stampSignedWrong : ChangeSpec := { name := "stampSigned", fn := fun _ => fun
  | [d1, d2, d3] => { results := [.lit (.bool false)], args := [d1, d2, d3] }
  | _ => none }
def StampSignedWrongFalsely : Prop := stampSignedRow.holds Tryd.pinned (OpenSpec.ofChange stampSignedWrong)

/-- 'oathbooklaw4.HyperSigned': WHATEVER THE INPUT: true; the input reads as it did. -/
def hyperSignedSpec : ChangeSpec := { name := "hyperSigned", fn := fun _ => fun
  | [d1, d2, d3] => { results := [.lit (.bool true)], args := [d1, d2, d3] }
  | _ => none }
def hyperSignedRow : OpenClaim := { program := "ytkioddmhjbaleaadoor", sum := "e4d7b8e0c3f639b5cb953b82388b415e79dc877a1b255216f58a909ed2718b92", func := "oathbook/oathbooklaw4.HyperSigned", spec := "hyperSigned", inPlace := ["internal/reflectlite.ValueOf", "(internal/reflectlite.Value).Type", "(internal/reflectlite.Value).IsNil", "internal/reflectlite.TypeOf", "(internal/reflectlite.Value).Elem", "(internal/reflectlite.Value).Set"], unfollowed := true, recurses := true, named := ["oathbook/sha.rounds", "errors.errorType"], apart := false, laid := [("oathbook/sha.rounds", laid_oathbook_sha_rounds), ("errors.errorType", laid_errors_errorType)] }
def HyperSignedSaid : Prop := hyperSignedRow.holds Tryd.pinned (OpenSpec.ofChange hyperSignedSpec)

/-- ITS FALSE NEIGHBOUR: 'it returns false'. Refute it at one input. -/
def hyperSignedWrong : ChangeSpec := { name := "hyperSigned", fn := fun _ => fun
  | [d1, d2, d3] => { results := [.lit (.bool false)], args := [d1, d2, d3] }
  | _ => none }
def HyperSignedWrongFalsely : Prop := hyperSignedRow.holds Tryd.pinned (OpenSpec.ofChange hyperSignedWrong)

/-- 'oathbooktop.TopBackup': WHATEVER THE INPUT: true; the input reads as it did. -/
def topBackupSpec : ChangeSpec := { name := "topBackup", fn := fun _ => fun
  | [d1, d2, d3, d4, d5, d6] => { results := [.lit (.bool true)], args := [d1, d2, d3, d4, d5, d6] }
  | _ => none }
def topBackupRow : OpenClaim := { program := "ytkioddmhjbaleaadoor", sum := "e4d7b8e0c3f639b5cb953b82388b415e79dc877a1b255216f58a909ed2718b92", func := "oathbook/oathbooktop.TopBackup", spec := "topBackup", unfollowed := true, recurses := true, named := ["oathbook/sha.rounds"], apart := false, laid := [("oathbook/sha.rounds", laid_oathbook_sha_rounds)] }
def TopBackupSaid : Prop := topBackupRow.holds Tryd.pinned (OpenSpec.ofChange topBackupSpec)

/-- ITS FALSE NEIGHBOUR: 'it returns false'. Refute it at one input. -/
def topBackupWrong : ChangeSpec := { name := "topBackup", fn := fun _ => fun
  | [d1, d2, d3, d4, d5, d6] => { results := [.lit (.bool false)], args := [d1, d2, d3, d4, d5, d6] }
  | _ => none }
def TopBackupWrongFalsely : Prop := topBackupRow.holds Tryd.pinned (OpenSpec.ofChange topBackupWrong)

/-- 'oathbooktop.TopWitness': WHATEVER THE INPUT: true; the input reads as it did. -/
def topWitnessSpec : ChangeSpec := { name := "topWitness", fn := fun _ => fun
  | [d1, d2, d3, d4, d5, d6, d7, d8] => { results := [.lit (.bool true)], args := [d1, d2, d3, d4, d5, d6, d7, d8] }
  | _ => none }
def topWitnessRow : OpenClaim := { program := "ytkioddmhjbaleaadoor", sum := "e4d7b8e0c3f639b5cb953b82388b415e79dc877a1b255216f58a909ed2718b92", func := "oathbook/oathbooktop.TopWitness", spec := "topWitness", unfollowed := true, recurses := true, named := ["oathbook/sha.rounds"], apart := false, laid := [("oathbook/sha.rounds", laid_oathbook_sha_rounds)] }
def TopWitnessSaid : Prop := topWitnessRow.holds Tryd.pinned (OpenSpec.ofChange topWitnessSpec)

/-- ITS FALSE NEIGHBOUR: 'it returns false'. Refute it at one input. -/
def topWitnessWrong : ChangeSpec := { name := "topWitness", fn := fun _ => fun
  | [d1, d2, d3, d4, d5, d6, d7, d8] => { results := [.lit (.bool false)], args := [d1, d2, d3, d4, d5, d6, d7, d8] }
  | _ => none }
def TopWitnessWrongFalsely : Prop := topWitnessRow.holds Tryd.pinned (OpenSpec.ofChange topWitnessWrong)

/- THE SECOND FORM. 'bulk': how many values and letters a reading holds, each counted each time it is reached (what is shared counts as often as it is met; a slice's spare places count too). A statement '..UptoSaid' is the law's where the arguments, and the package variables that the reading takes, are together of bulk at most 1048576: NARROWER than '..Said'. Prove '..Said' where nothing that the law and all that it calls make is longer than what came in: it says more and counts as full. Else prove '..UptoSaid'. A law counts once. -/
mutual
def uptoBulk {H : Type} : DataW H → Nat
  | .lit (.string bytes) => bytes.length + 1
  | .lit _ => 1
  | .nil => 1
  | .ptr d => uptoBulk d + 1
  | .slice elems spare => uptoBulkAll elems + uptoBulkAll spare + 1
  | .agg parts => uptoBulkAll parts + 1
  | .iface _ d => uptoBulk d + 1
  | .map entries => uptoBulkEntries entries + 1
  | .held _ => 1
def uptoBulkAll {H : Type} : List (DataW H) → Nat
  | [] => 0
  | d :: r => uptoBulk d + uptoBulkAll r
def uptoBulkEntries {H : Type} : List (Lit × DataW H) → Nat
  | [] => 0
  | x :: r => uptoBulkEntry x + uptoBulkEntries r
def uptoBulkEntry {H : Type} : Lit × DataW H → Nat
  | (.string bytes, d) => bytes.length + uptoBulk d + 1
  | (_, d) => uptoBulk d + 1
 end
def uptoSmall : (H : Type) → List (DataW H) → Bool := fun _ ds => decide (uptoBulkAll ds ≤ 1048576)
def OpenSpec.upto (s : _root_.Go.ChangeSpec) : _root_.Go.OpenSpec := { _root_.Go.OpenSpec.ofChange s with cond := some uptoSmall }

/-- 'oathbooklaw2.StampOthers', WHERE WHAT IT READS IS OF BULK AT MOST 1048576: true; the input reads as it did. -/
def stampOthersUptoRow : OpenClaim := { program := "ytkioddmhjbaleaadoor", sum := "e4d7b8e0c3f639b5cb953b82388b415e79dc877a1b255216f58a909ed2718b92", func := "oathbook/oathbooklaw2.StampOthers", spec := "stampOthers", unfollowed := true, recurses := true, named := ["oathbook/sha.rounds"], apart := false, laid := [("oathbook/sha.rounds", laid_oathbook_sha_rounds)], narrowed := true }
def StampOthersUptoSaid : Prop := stampOthersUptoRow.holds Tryd.pinned (OpenSpec.upto stampOthersSpec)

/-- 'oathbooklaw2.StampTells', WHERE WHAT IT READS IS OF BULK AT MOST 1048576: true; the input reads as it did. -/
def stampTellsUptoRow : OpenClaim := { program := "ytkioddmhjbaleaadoor", sum := "e4d7b8e0c3f639b5cb953b82388b415e79dc877a1b255216f58a909ed2718b92", func := "oathbook/oathbooklaw2.StampTells", spec := "stampTells", inPlace := ["internal/reflectlite.ValueOf", "(internal/reflectlite.Value).Type", "(internal/reflectlite.Value).IsNil", "internal/reflectlite.TypeOf", "(internal/reflectlite.Value).Elem", "(internal/reflectlite.Value).Set"], unfollowed := true, recurses := true, named := ["oathbook/sha.rounds", "errors.errorType"], apart := false, laid := [("oathbook/sha.rounds", laid_oathbook_sha_rounds), ("errors.errorType", laid_errors_errorType)], narrowed := true }
def StampTellsUptoSaid : Prop := stampTellsUptoRow.holds Tryd.pinned (OpenSpec.upto stampTellsSpec)

/-- 'oathbooklaw2.StampSigned', WHERE WHAT IT READS IS OF BULK AT MOST 1048576: true; the input reads as it did. -/
def stampSignedUptoRow : OpenClaim := { program := "ytkioddmhjbaleaadoor", sum := "e4d7b8e0c3f639b5cb953b82388b415e79dc877a1b255216f58a909ed2718b92", func := "oathbook/oathbooklaw2.StampSigned", spec := "stampSigned", inPlace := ["internal/reflectlite.ValueOf", "(internal/reflectlite.Value).Type", "(internal/reflectlite.Value).IsNil", "internal/reflectlite.TypeOf", "(internal/reflectlite.Value).Elem", "(internal/reflectlite.Value).Set"], unfollowed := true, recurses := true, named := ["oathbook/sha.rounds", "errors.errorType"], apart := false, laid := [("oathbook/sha.rounds", laid_oathbook_sha_rounds), ("errors.errorType", laid_errors_errorType)], narrowed := true }
def StampSignedUptoSaid : Prop := stampSignedUptoRow.holds Tryd.pinned (OpenSpec.upto stampSignedSpec)

/-- 'oathbooklaw4.HyperSigned', WHERE WHAT IT READS IS OF BULK AT MOST 1048576: true; the input reads as it did. -/
def hyperSignedUptoRow : OpenClaim := { program := "ytkioddmhjbaleaadoor", sum := "e4d7b8e0c3f639b5cb953b82388b415e79dc877a1b255216f58a909ed2718b92", func := "oathbook/oathbooklaw4.HyperSigned", spec := "hyperSigned", inPlace := ["internal/reflectlite.ValueOf", "(internal/reflectlite.Value).Type", "(internal/reflectlite.Value).IsNil", "internal/reflectlite.TypeOf", "(internal/reflectlite.Value).Elem", "(internal/reflectlite.Value).Set"], unfollowed := true, recurses := true, named := ["oathbook/sha.rounds", "errors.errorType"], apart := false, laid := [("oathbook/sha.rounds", laid_oathbook_sha_rounds), ("errors.errorType", laid_errors_errorType)], narrowed := true }
def HyperSignedUptoSaid : Prop := hyperSignedUptoRow.holds Tryd.pinned (OpenSpec.upto hyperSignedSpec)

/-- 'oathbooktop.TopBackup', WHERE WHAT IT READS IS OF BULK AT MOST 1048576: true; the input reads as it did. -/
def topBackupUptoRow : OpenClaim := { program := "ytkioddmhjbaleaadoor", sum := "e4d7b8e0c3f639b5cb953b82388b415e79dc877a1b255216f58a909ed2718b92", func := "oathbook/oathbooktop.TopBackup", spec := "topBackup", unfollowed := true, recurses := true, named := ["oathbook/sha.rounds"], apart := false, laid := [("oathbook/sha.rounds", laid_oathbook_sha_rounds)], narrowed := true }
def TopBackupUptoSaid : Prop := topBackupUptoRow.holds Tryd.pinned (OpenSpec.upto topBackupSpec)

/-- 'oathbooktop.TopWitness', WHERE WHAT IT READS IS OF BULK AT MOST 1048576: true; the input reads as it did. -/
def topWitnessUptoRow : OpenClaim := { program := "ytkioddmhjbaleaadoor", sum := "e4d7b8e0c3f639b5cb953b82388b415e79dc877a1b255216f58a909ed2718b92", func := "oathbook/oathbooktop.TopWitness", spec := "topWitness", unfollowed := true, recurses := true, named := ["oathbook/sha.rounds"], apart := false, laid := [("oathbook/sha.rounds", laid_oathbook_sha_rounds)], narrowed := true }
def TopWitnessUptoSaid : Prop := topWitnessUptoRow.holds Tryd.pinned (OpenSpec.upto topWitnessSpec)

end Rows
end Go.Proofs.YtkioddmhjbaleaaDoor
