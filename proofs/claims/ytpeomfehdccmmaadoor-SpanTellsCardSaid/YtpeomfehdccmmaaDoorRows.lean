/-
  NARROWER THAN 'FOR EVERY INPUT', by the rows' own cells (each row's printed sentence says how): TrieFolds: laid · TrieSound: laid · TrieBinds: laid · TrieEmpty: laid · TrieProves: laid · TrieOrder: laid · TrieRoots: laid · TrieSets: laid · SpanSound: laid · SpanProves: laid · SpanTells: laid.
  DERIVED. THE GIVEN ROWS OF THIS SEAT. 11 by the template 'for every input the law returns true; each argument reads behind the call as it read before'; 0 by the template 'total and deterministic' (their statements: YtpeomfehdccmmaaDoorTotals.lean).
  GIVEN WITH THE SEED: the statements are not yours to turn. If you find one false, say at which input.
  Laid BY PROGRAM, IN A SANDBOX (cutbox-rows.mjs): the forced cells as the released guide's own fill.sh prints them over the translation 9f96e5a6f0469919… (all of the seat's roots in one cut). By AI agents, Wed Nov 11 2026. No macro, syntax, notation, axiom, sorry.
-/
import Derived.Test.YtpeomfehdccmmaaDoorChecked
import GoSem.Claim
import GoSem.ClaimJoined
import GoSem.ClaimMapViews
import Derived.JoinedTies
import Derived.KernelRfl
namespace Go.Proofs.YtpeomfehdccmmaaDoor
/- THE CELL 'sum', in the pinned program and in every row, IS THE sha256 OF THE DUMP (.gsa) THAT YtpeomfehdccmmaaDoorProg.lean LOADS. Nothing in Lean hashes anything: it is a label: what it is worth is what the hold of that sum in a sandbox is worth. -/
noncomputable def Tryd.pinned : Pinned := { name := "ytpeomfehdccmmaadoor", sum := "9f96e5a6f04699193eb315eea12c58a89f02b976a2432d9462f22db2ad170362", checked := Tryd.checked }
namespace Rows
def none {H : Type} : Left H := { results := [], args := [] }

/- WHAT THE LISTED PACKAGE-LEVEL VARIABLES READ AS WHEN THE CALL BEGINS. Each datum BY PROGRAM (the guide's laid-datum.mjs) off the statement by which the dump's own 'gosem.cut.vars' lays the variable. In a bare row this is a premise. The card (YtpeomfehdccmmaaDoorCards.lean) ties it to the program's text. -/
def laid_oathbook_sha_rounds {H : Type} : DataW H := .agg [.lit (.int .u32 1116352408), .lit (.int .u32 1899447441), .lit (.int .u32 3049323471), .lit (.int .u32 3921009573), .lit (.int .u32 961987163), .lit (.int .u32 1508970993), .lit (.int .u32 2453635748), .lit (.int .u32 2870763221), .lit (.int .u32 3624381080), .lit (.int .u32 310598401), .lit (.int .u32 607225278), .lit (.int .u32 1426881987), .lit (.int .u32 1925078388), .lit (.int .u32 2162078206), .lit (.int .u32 2614888103), .lit (.int .u32 3248222580), .lit (.int .u32 3835390401), .lit (.int .u32 4022224774), .lit (.int .u32 264347078), .lit (.int .u32 604807628), .lit (.int .u32 770255983), .lit (.int .u32 1249150122), .lit (.int .u32 1555081692), .lit (.int .u32 1996064986), .lit (.int .u32 2554220882), .lit (.int .u32 2821834349), .lit (.int .u32 2952996808), .lit (.int .u32 3210313671), .lit (.int .u32 3336571891), .lit (.int .u32 3584528711), .lit (.int .u32 113926993), .lit (.int .u32 338241895), .lit (.int .u32 666307205), .lit (.int .u32 773529912), .lit (.int .u32 1294757372), .lit (.int .u32 1396182291), .lit (.int .u32 1695183700), .lit (.int .u32 1986661051), .lit (.int .u32 2177026350), .lit (.int .u32 2456956037), .lit (.int .u32 2730485921), .lit (.int .u32 2820302411), .lit (.int .u32 3259730800), .lit (.int .u32 3345764771), .lit (.int .u32 3516065817), .lit (.int .u32 3600352804), .lit (.int .u32 4094571909), .lit (.int .u32 275423344), .lit (.int .u32 430227734), .lit (.int .u32 506948616), .lit (.int .u32 659060556), .lit (.int .u32 883997877), .lit (.int .u32 958139571), .lit (.int .u32 1322822218), .lit (.int .u32 1537002063), .lit (.int .u32 1747873779), .lit (.int .u32 1955562222), .lit (.int .u32 2024104815), .lit (.int .u32 2227730452), .lit (.int .u32 2361852424), .lit (.int .u32 2428436474), .lit (.int .u32 2756734187), .lit (.int .u32 3204031479), .lit (.int .u32 3329325298)]
def laid_errors_errorType {H : Type} : DataW H := .iface "internal/reflectlite.rtype" (.agg [.ptr (.lit (.string [101, 114, 114, 111, 114]))])

/-- 'oathbooklaw2.TrieFolds': WHATEVER THE INPUT: true; the input reads as it did. -/
def trieFoldsSpec : ChangeSpec := { name := "trieFolds", fn := fun _ => fun
  | [d1, d2, d3] => { results := [.lit (.bool true)], args := [d1, d2, d3] }
  | _ => none }
def trieFoldsRow : OpenClaim := { program := "ytpeomfehdccmmaadoor", sum := "9f96e5a6f04699193eb315eea12c58a89f02b976a2432d9462f22db2ad170362", func := "oathbook/oathbooklaw2.TrieFolds", spec := "trieFolds", inPlace := ["internal/reflectlite.ValueOf", "(internal/reflectlite.Value).Type", "(internal/reflectlite.Value).IsNil", "internal/reflectlite.TypeOf", "(internal/reflectlite.Value).Elem", "(internal/reflectlite.Value).Set"], unfollowed := true, recurses := true, named := ["oathbook/sha.rounds", "errors.errorType"], apart := false, laid := [("oathbook/sha.rounds", laid_oathbook_sha_rounds), ("errors.errorType", laid_errors_errorType)] }
def TrieFoldsSaid : Prop := trieFoldsRow.holds Tryd.pinned (OpenSpec.ofChange trieFoldsSpec)

/-- ITS FALSE NEIGHBOUR: 'it returns false'. Refute it at one input. -/
def trieFoldsWrong : ChangeSpec := { name := "trieFolds", fn := fun _ => fun
  | [d1, d2, d3] => { results := [.lit (.bool false)], args := [d1, d2, d3] }
  | _ => none }
def TrieFoldsWrongFalsely : Prop := trieFoldsRow.holds Tryd.pinned (OpenSpec.ofChange trieFoldsWrong)

/-- 'oathbooklaw2.TrieSound': WHATEVER THE INPUT: true; the input reads as it did. -/
def trieSoundSpec : ChangeSpec := { name := "trieSound", fn := fun _ => fun
  | [d1, d2, d3, d4, d5] => { results := [.lit (.bool true)], args := [d1, d2, d3, d4, d5] }
  | _ => none }
def trieSoundRow : OpenClaim := { program := "ytpeomfehdccmmaadoor", sum := "9f96e5a6f04699193eb315eea12c58a89f02b976a2432d9462f22db2ad170362", func := "oathbook/oathbooklaw2.TrieSound", spec := "trieSound", unfollowed := true, recurses := true, named := ["oathbook/sha.rounds"], apart := false, laid := [("oathbook/sha.rounds", laid_oathbook_sha_rounds)] }
def TrieSoundSaid : Prop := trieSoundRow.holds Tryd.pinned (OpenSpec.ofChange trieSoundSpec)

/-- ITS FALSE NEIGHBOUR: 'it returns false'. Refute it at one input. -/
def trieSoundWrong : ChangeSpec := { name := "trieSound", fn := fun _ => fun
  | [d1, d2, d3, d4, d5] => { results := [.lit (.bool false)], args := [d1, d2, d3, d4, d5] }
  | _ => none }
def TrieSoundWrongFalsely : Prop := trieSoundRow.holds Tryd.pinned (OpenSpec.ofChange trieSoundWrong)

/-- 'oathbooklaw2.TrieBinds': WHATEVER THE INPUT: true; the input reads as it did. -/
def trieBindsSpec : ChangeSpec := { name := "trieBinds", fn := fun _ => fun
  | [d1, d2, d3] => { results := [.lit (.bool true)], args := [d1, d2, d3] }
  | _ => none }
def trieBindsRow : OpenClaim := { program := "ytpeomfehdccmmaadoor", sum := "9f96e5a6f04699193eb315eea12c58a89f02b976a2432d9462f22db2ad170362", func := "oathbook/oathbooklaw2.TrieBinds", spec := "trieBinds", unfollowed := true, recurses := true, named := ["oathbook/sha.rounds"], apart := false, laid := [("oathbook/sha.rounds", laid_oathbook_sha_rounds)] }
def TrieBindsSaid : Prop := trieBindsRow.holds Tryd.pinned (OpenSpec.ofChange trieBindsSpec)

/-- ITS FALSE NEIGHBOUR: 'it returns false'. Refute it at one input. -/
def trieBindsWrong : ChangeSpec := { name := "trieBinds", fn := fun _ => fun
  | [d1, d2, d3] => { results := [.lit (.bool false)], args := [d1, d2, d3] }
  | _ => none }
def TrieBindsWrongFalsely : Prop := trieBindsRow.holds Tryd.pinned (OpenSpec.ofChange trieBindsWrong)

/-- 'oathbooklaw2.TrieEmpty': WHATEVER THE INPUT: true; the input reads as it did. -/
def trieEmptySpec : ChangeSpec := { name := "trieEmpty", fn := fun _ => fun
  | [d1, d2] => { results := [.lit (.bool true)], args := [d1, d2] }
  | _ => none }
def trieEmptyRow : OpenClaim := { program := "ytpeomfehdccmmaadoor", sum := "9f96e5a6f04699193eb315eea12c58a89f02b976a2432d9462f22db2ad170362", func := "oathbook/oathbooklaw2.TrieEmpty", spec := "trieEmpty", unfollowed := true, recurses := true, named := ["oathbook/sha.rounds"], apart := false, laid := [("oathbook/sha.rounds", laid_oathbook_sha_rounds)] }
def TrieEmptySaid : Prop := trieEmptyRow.holds Tryd.pinned (OpenSpec.ofChange trieEmptySpec)

/-- ITS FALSE NEIGHBOUR: 'it returns false'. Refute it at one input. -/
def trieEmptyWrong : ChangeSpec := { name := "trieEmpty", fn := fun _ => fun
  | [d1, d2] => { results := [.lit (.bool false)], args := [d1, d2] }
  | _ => none }
def TrieEmptyWrongFalsely : Prop := trieEmptyRow.holds Tryd.pinned (OpenSpec.ofChange trieEmptyWrong)

/-- 'oathbooklaw2.TrieProves': WHATEVER THE INPUT: true; the input reads as it did. -/
def trieProvesSpec : ChangeSpec := { name := "trieProves", fn := fun _ => fun
  | [d1, d2] => { results := [.lit (.bool true)], args := [d1, d2] }
  | _ => none }
def trieProvesRow : OpenClaim := { program := "ytpeomfehdccmmaadoor", sum := "9f96e5a6f04699193eb315eea12c58a89f02b976a2432d9462f22db2ad170362", func := "oathbook/oathbooklaw2.TrieProves", spec := "trieProves", unfollowed := true, recurses := true, named := ["oathbook/sha.rounds"], apart := false, laid := [("oathbook/sha.rounds", laid_oathbook_sha_rounds)] }
def TrieProvesSaid : Prop := trieProvesRow.holds Tryd.pinned (OpenSpec.ofChange trieProvesSpec)

/-- ITS FALSE NEIGHBOUR: 'it returns false'. Refute it at one input. -/
def trieProvesWrong : ChangeSpec := { name := "trieProves", fn := fun _ => fun
  | [d1, d2] => { results := [.lit (.bool false)], args := [d1, d2] }
  | _ => none }
def TrieProvesWrongFalsely : Prop := trieProvesRow.holds Tryd.pinned (OpenSpec.ofChange trieProvesWrong)

/-- 'oathbooklaw2.TrieOrder': WHATEVER THE INPUT: true; the input reads as it did. -/
def trieOrderSpec : ChangeSpec := { name := "trieOrder", fn := fun _ => fun
  | [d1, d2] => { results := [.lit (.bool true)], args := [d1, d2] }
  | _ => none }
def trieOrderRow : OpenClaim := { program := "ytpeomfehdccmmaadoor", sum := "9f96e5a6f04699193eb315eea12c58a89f02b976a2432d9462f22db2ad170362", func := "oathbook/oathbooklaw2.TrieOrder", spec := "trieOrder", inPlace := ["internal/reflectlite.ValueOf", "(internal/reflectlite.Value).Type", "(internal/reflectlite.Value).IsNil", "internal/reflectlite.TypeOf", "(internal/reflectlite.Value).Elem", "(internal/reflectlite.Value).Set"], unfollowed := true, recurses := true, named := ["oathbook/sha.rounds", "errors.errorType"], apart := false, laid := [("oathbook/sha.rounds", laid_oathbook_sha_rounds), ("errors.errorType", laid_errors_errorType)] }
def TrieOrderSaid : Prop := trieOrderRow.holds Tryd.pinned (OpenSpec.ofChange trieOrderSpec)

/-- ITS FALSE NEIGHBOUR: 'it returns false'. Refute it at one input. -/
def trieOrderWrong : ChangeSpec := { name := "trieOrder", fn := fun _ => fun
  | [d1, d2] => { results := [.lit (.bool false)], args := [d1, d2] }
  | _ => none }
def TrieOrderWrongFalsely : Prop := trieOrderRow.holds Tryd.pinned (OpenSpec.ofChange trieOrderWrong)

/-- 'oathbooklaw2.TrieRoots': WHATEVER THE INPUT: true; the input reads as it did. -/
def trieRootsSpec : ChangeSpec := { name := "trieRoots", fn := fun _ => fun
  | [d1, d2, d3] => { results := [.lit (.bool true)], args := [d1, d2, d3] }
  | _ => none }
def trieRootsRow : OpenClaim := { program := "ytpeomfehdccmmaadoor", sum := "9f96e5a6f04699193eb315eea12c58a89f02b976a2432d9462f22db2ad170362", func := "oathbook/oathbooklaw2.TrieRoots", spec := "trieRoots", inPlace := ["internal/reflectlite.ValueOf", "(internal/reflectlite.Value).Type", "(internal/reflectlite.Value).IsNil", "internal/reflectlite.TypeOf", "(internal/reflectlite.Value).Elem", "(internal/reflectlite.Value).Set"], unfollowed := true, recurses := true, named := ["oathbook/sha.rounds", "errors.errorType"], apart := false, laid := [("oathbook/sha.rounds", laid_oathbook_sha_rounds), ("errors.errorType", laid_errors_errorType)] }
def TrieRootsSaid : Prop := trieRootsRow.holds Tryd.pinned (OpenSpec.ofChange trieRootsSpec)

/-- ITS FALSE NEIGHBOUR: 'it returns false'. Refute it at one input. -/
def trieRootsWrong : ChangeSpec := { name := "trieRoots", fn := fun _ => fun
  | [d1, d2, d3] => { results := [.lit (.bool false)], args := [d1, d2, d3] }
  | _ => none }
def TrieRootsWrongFalsely : Prop := trieRootsRow.holds Tryd.pinned (OpenSpec.ofChange trieRootsWrong)

/-- 'oathbooklaw2.TrieSets': WHATEVER THE INPUT: true; the input reads as it did. -/
def trieSetsSpec : ChangeSpec := { name := "trieSets", fn := fun _ => fun
  | [d1, d2, d3, d4] => { results := [.lit (.bool true)], args := [d1, d2, d3, d4] }
  | _ => none }
def trieSetsRow : OpenClaim := { program := "ytpeomfehdccmmaadoor", sum := "9f96e5a6f04699193eb315eea12c58a89f02b976a2432d9462f22db2ad170362", func := "oathbook/oathbooklaw2.TrieSets", spec := "trieSets", inPlace := ["internal/reflectlite.ValueOf", "(internal/reflectlite.Value).Type", "(internal/reflectlite.Value).IsNil", "internal/reflectlite.TypeOf", "(internal/reflectlite.Value).Elem", "(internal/reflectlite.Value).Set"], unfollowed := true, recurses := true, named := ["oathbook/sha.rounds", "errors.errorType"], apart := false, laid := [("oathbook/sha.rounds", laid_oathbook_sha_rounds), ("errors.errorType", laid_errors_errorType)] }
def TrieSetsSaid : Prop := trieSetsRow.holds Tryd.pinned (OpenSpec.ofChange trieSetsSpec)

/-- ITS FALSE NEIGHBOUR: 'it returns false'. Refute it at one input. -/
def trieSetsWrong : ChangeSpec := { name := "trieSets", fn := fun _ => fun
  | [d1, d2, d3, d4] => { results := [.lit (.bool false)], args := [d1, d2, d3, d4] }
  | _ => none }
def TrieSetsWrongFalsely : Prop := trieSetsRow.holds Tryd.pinned (OpenSpec.ofChange trieSetsWrong)

/-- 'oathbooklaw4.SpanSound': WHATEVER THE INPUT: true; the input reads as it did. -/
def spanSoundSpec : ChangeSpec := { name := "spanSound", fn := fun _ => fun
  | [d1, d2, d3, d4] => { results := [.lit (.bool true)], args := [d1, d2, d3, d4] }
  | _ => none }
def spanSoundRow : OpenClaim := { program := "ytpeomfehdccmmaadoor", sum := "9f96e5a6f04699193eb315eea12c58a89f02b976a2432d9462f22db2ad170362", func := "oathbook/oathbooklaw4.SpanSound", spec := "spanSound", unfollowed := true, recurses := true, named := ["oathbook/sha.rounds"], apart := false, laid := [("oathbook/sha.rounds", laid_oathbook_sha_rounds)] }
def SpanSoundSaid : Prop := spanSoundRow.holds Tryd.pinned (OpenSpec.ofChange spanSoundSpec)

/-- ITS FALSE NEIGHBOUR: 'it returns false'. Refute it at one input. -/
def spanSoundWrong : ChangeSpec := { name := "spanSound", fn := fun _ => fun
  | [d1, d2, d3, d4] => { results := [.lit (.bool false)], args := [d1, d2, d3, d4] }
  | _ => none }
def SpanSoundWrongFalsely : Prop := spanSoundRow.holds Tryd.pinned (OpenSpec.ofChange spanSoundWrong)

/-- 'oathbooklaw4.SpanProves': WHATEVER THE INPUT: true; the input reads as it did. -/
def spanProvesSpec : ChangeSpec := { name := "spanProves", fn := fun _ => fun
  | [d1, d2, d3] => { results := [.lit (.bool true)], args := [d1, d2, d3] }
  | _ => none }
def spanProvesRow : OpenClaim := { program := "ytpeomfehdccmmaadoor", sum := "9f96e5a6f04699193eb315eea12c58a89f02b976a2432d9462f22db2ad170362", func := "oathbook/oathbooklaw4.SpanProves", spec := "spanProves", unfollowed := true, recurses := true, named := ["oathbook/sha.rounds"], apart := false, laid := [("oathbook/sha.rounds", laid_oathbook_sha_rounds)] }
def SpanProvesSaid : Prop := spanProvesRow.holds Tryd.pinned (OpenSpec.ofChange spanProvesSpec)

/-- ITS FALSE NEIGHBOUR: 'it returns false'. Refute it at one input. -/
def spanProvesWrong : ChangeSpec := { name := "spanProves", fn := fun _ => fun
  | [d1, d2, d3] => { results := [.lit (.bool false)], args := [d1, d2, d3] }
  | _ => none }
def SpanProvesWrongFalsely : Prop := spanProvesRow.holds Tryd.pinned (OpenSpec.ofChange spanProvesWrong)

/-- 'oathbooklaw4.SpanTells': WHATEVER THE INPUT: true; the input reads as it did. -/
def spanTellsSpec : ChangeSpec := { name := "spanTells", fn := fun _ => fun
  | [d1, d2, d3, d4, d5, d6] => { results := [.lit (.bool true)], args := [d1, d2, d3, d4, d5, d6] }
  | _ => none }
def spanTellsRow : OpenClaim := { program := "ytpeomfehdccmmaadoor", sum := "9f96e5a6f04699193eb315eea12c58a89f02b976a2432d9462f22db2ad170362", func := "oathbook/oathbooklaw4.SpanTells", spec := "spanTells", inPlace := ["internal/reflectlite.ValueOf", "(internal/reflectlite.Value).Type", "(internal/reflectlite.Value).IsNil", "internal/reflectlite.TypeOf", "(internal/reflectlite.Value).Elem", "(internal/reflectlite.Value).Set"], unfollowed := true, recurses := true, named := ["oathbook/sha.rounds", "errors.errorType"], apart := false, laid := [("oathbook/sha.rounds", laid_oathbook_sha_rounds), ("errors.errorType", laid_errors_errorType)] }
def SpanTellsSaid : Prop := spanTellsRow.holds Tryd.pinned (OpenSpec.ofChange spanTellsSpec)

/-- ITS FALSE NEIGHBOUR: 'it returns false'. Refute it at one input. -/
def spanTellsWrong : ChangeSpec := { name := "spanTells", fn := fun _ => fun
  | [d1, d2, d3, d4, d5, d6] => { results := [.lit (.bool false)], args := [d1, d2, d3, d4, d5, d6] }
  | _ => none }
def SpanTellsWrongFalsely : Prop := spanTellsRow.holds Tryd.pinned (OpenSpec.ofChange spanTellsWrong)

/- THE SECOND FORM. 'bulk': how many values and letters a reading holds, each counted each time it is reached (what is shared counts as often as it is met; a slice's spare places count too). A statement '..UptoSaid' is the law's where the arguments, and the package variables that the reading takes, are together of bulk at most 1048576: NARROWER than '..Said'. Prove '..Said' where nothing that the law and all that it calls make is longer than what came in: it says more and counts as full. Else prove '..UptoSaid'. A law counts once. -/
mutual
def uptoBulk {H : Type} : DataW H → Nat
  | .lit (.string bytes) => bytes.length + 1
  | .lit _ => 1
  | .nil => 1
  | .ptr d => uptoBulk d + 1
  | .slice elems spare => uptoBulkAll elems + uptoBulkAll spare + 1
  | .agg parts => uptoBulkAll parts + 1
  | .iface _ d => uptoBulk d + 1
  | .map entries => uptoBulkEntries entries + 1
  | .held _ => 1
def uptoBulkAll {H : Type} : List (DataW H) → Nat
  | [] => 0
  | d :: r => uptoBulk d + uptoBulkAll r
def uptoBulkEntries {H : Type} : List (Lit × DataW H) → Nat
  | [] => 0
  | x :: r => uptoBulkEntry x + uptoBulkEntries r
def uptoBulkEntry {H : Type} : Lit × DataW H → Nat
  | (.string bytes, d) => bytes.length + uptoBulk d + 1
  | (_, d) => uptoBulk d + 1
 end
def uptoSmall : (H : Type) → List (DataW H) → Bool := fun _ ds => decide (uptoBulkAll ds ≤ 1048576)
def OpenSpec.upto (s : _root_.Go.ChangeSpec) : _root_.Go.OpenSpec := { _root_.Go.OpenSpec.ofChange s with cond := some uptoSmall }

/-- 'oathbooklaw2.TrieFolds', WHERE WHAT IT READS IS OF BULK AT MOST 1048576: true; the input reads as it did. -/
def trieFoldsUptoRow : OpenClaim := { program := "ytpeomfehdccmmaadoor", sum := "9f96e5a6f04699193eb315eea12c58a89f02b976a2432d9462f22db2ad170362", func := "oathbook/oathbooklaw2.TrieFolds", spec := "trieFolds", inPlace := ["internal/reflectlite.ValueOf", "(internal/reflectlite.Value).Type", "(internal/reflectlite.Value).IsNil", "internal/reflectlite.TypeOf", "(internal/reflectlite.Value).Elem", "(internal/reflectlite.Value).Set"], unfollowed := true, recurses := true, named := ["oathbook/sha.rounds", "errors.errorType"], apart := false, laid := [("oathbook/sha.rounds", laid_oathbook_sha_rounds), ("errors.errorType", laid_errors_errorType)], narrowed := true }
def TrieFoldsUptoSaid : Prop := trieFoldsUptoRow.holds Tryd.pinned (OpenSpec.upto trieFoldsSpec)

/-- 'oathbooklaw2.TrieSound', WHERE WHAT IT READS IS OF BULK AT MOST 1048576: true; the input reads as it did. -/
def trieSoundUptoRow : OpenClaim := { program := "ytpeomfehdccmmaadoor", sum := "9f96e5a6f04699193eb315eea12c58a89f02b976a2432d9462f22db2ad170362", func := "oathbook/oathbooklaw2.TrieSound", spec := "trieSound", unfollowed := true, recurses := true, named := ["oathbook/sha.rounds"], apart := false, laid := [("oathbook/sha.rounds", laid_oathbook_sha_rounds)], narrowed := true }
def TrieSoundUptoSaid : Prop := trieSoundUptoRow.holds Tryd.pinned (OpenSpec.upto trieSoundSpec)

/-- 'oathbooklaw2.TrieBinds', WHERE WHAT IT READS IS OF BULK AT MOST 1048576: true; the input reads as it did. -/
def trieBindsUptoRow : OpenClaim := { program := "ytpeomfehdccmmaadoor", sum := "9f96e5a6f04699193eb315eea12c58a89f02b976a2432d9462f22db2ad170362", func := "oathbook/oathbooklaw2.TrieBinds", spec := "trieBinds", unfollowed := true, recurses := true, named := ["oathbook/sha.rounds"], apart := false, laid := [("oathbook/sha.rounds", laid_oathbook_sha_rounds)], narrowed := true }
def TrieBindsUptoSaid : Prop := trieBindsUptoRow.holds Tryd.pinned (OpenSpec.upto trieBindsSpec)

/-- 'oathbooklaw2.TrieEmpty', WHERE WHAT IT READS IS OF BULK AT MOST 1048576: true; the input reads as it did. -/
def trieEmptyUptoRow : OpenClaim := { program := "ytpeomfehdccmmaadoor", sum := "9f96e5a6f04699193eb315eea12c58a89f02b976a2432d9462f22db2ad170362", func := "oathbook/oathbooklaw2.TrieEmpty", spec := "trieEmpty", unfollowed := true, recurses := true, named := ["oathbook/sha.rounds"], apart := false, laid := [("oathbook/sha.rounds", laid_oathbook_sha_rounds)], narrowed := true }
def TrieEmptyUptoSaid : Prop := trieEmptyUptoRow.holds Tryd.pinned (OpenSpec.upto trieEmptySpec)

/-- 'oathbooklaw2.TrieProves', WHERE WHAT IT READS IS OF BULK AT MOST 1048576: true; the input reads as it did. -/
def trieProvesUptoRow : OpenClaim := { program := "ytpeomfehdccmmaadoor", sum := "9f96e5a6f04699193eb315eea12c58a89f02b976a2432d9462f22db2ad170362", func := "oathbook/oathbooklaw2.TrieProves", spec := "trieProves", unfollowed := true, recurses := true, named := ["oathbook/sha.rounds"], apart := false, laid := [("oathbook/sha.rounds", laid_oathbook_sha_rounds)], narrowed := true }
def TrieProvesUptoSaid : Prop := trieProvesUptoRow.holds Tryd.pinned (OpenSpec.upto trieProvesSpec)

/-- 'oathbooklaw2.TrieOrder', WHERE WHAT IT READS IS OF BULK AT MOST 1048576: true; the input reads as it did. -/
def trieOrderUptoRow : OpenClaim := { program := "ytpeomfehdccmmaadoor", sum := "9f96e5a6f04699193eb315eea12c58a89f02b976a2432d9462f22db2ad170362", func := "oathbook/oathbooklaw2.TrieOrder", spec := "trieOrder", inPlace := ["internal/reflectlite.ValueOf", "(internal/reflectlite.Value).Type", "(internal/reflectlite.Value).IsNil", "internal/reflectlite.TypeOf", "(internal/reflectlite.Value).Elem", "(internal/reflectlite.Value).Set"], unfollowed := true, recurses := true, named := ["oathbook/sha.rounds", "errors.errorType"], apart := false, laid := [("oathbook/sha.rounds", laid_oathbook_sha_rounds), ("errors.errorType", laid_errors_errorType)], narrowed := true }
def TrieOrderUptoSaid : Prop := trieOrderUptoRow.holds Tryd.pinned (OpenSpec.upto trieOrderSpec)

/-- 'oathbooklaw2.TrieRoots', WHERE WHAT IT READS IS OF BULK AT MOST 1048576: true; the input reads as it did. -/
def trieRootsUptoRow : OpenClaim := { program := "ytpeomfehdccmmaadoor", sum := "9f96e5a6f04699193eb315eea12c58a89f02b976a2432d9462f22db2ad170362", func := "oathbook/oathbooklaw2.TrieRoots", spec := "trieRoots", inPlace := ["internal/reflectlite.ValueOf", "(internal/reflectlite.Value).Type", "(internal/reflectlite.Value).IsNil", "internal/reflectlite.TypeOf", "(internal/reflectlite.Value).Elem", "(internal/reflectlite.Value).Set"], unfollowed := true, recurses := true, named := ["oathbook/sha.rounds", "errors.errorType"], apart := false, laid := [("oathbook/sha.rounds", laid_oathbook_sha_rounds), ("errors.errorType", laid_errors_errorType)], narrowed := true }
def TrieRootsUptoSaid : Prop := trieRootsUptoRow.holds Tryd.pinned (OpenSpec.upto trieRootsSpec)

/-- 'oathbooklaw2.TrieSets', WHERE WHAT IT READS IS OF BULK AT MOST 1048576: true; the input reads as it did. -/
def trieSetsUptoRow : OpenClaim := { program := "ytpeomfehdccmmaadoor", sum := "9f96e5a6f04699193eb315eea12c58a89f02b976a2432d9462f22db2ad170362", func := "oathbook/oathbooklaw2.TrieSets", spec := "trieSets", inPlace := ["internal/reflectlite.ValueOf", "(internal/reflectlite.Value).Type", "(internal/reflectlite.Value).IsNil", "internal/reflectlite.TypeOf", "(internal/reflectlite.Value).Elem", "(internal/reflectlite.Value).Set"], unfollowed := true, recurses := true, named := ["oathbook/sha.rounds", "errors.errorType"], apart := false, laid := [("oathbook/sha.rounds", laid_oathbook_sha_rounds), ("errors.errorType", laid_errors_errorType)], narrowed := true }
def TrieSetsUptoSaid : Prop := trieSetsUptoRow.holds Tryd.pinned (OpenSpec.upto trieSetsSpec)

/-- 'oathbooklaw4.SpanSound', WHERE WHAT IT READS IS OF BULK AT MOST 1048576: true; the input reads as it did. -/
def spanSoundUptoRow : OpenClaim := { program := "ytpeomfehdccmmaadoor", sum := "9f96e5a6f04699193eb315eea12c58a89f02b976a2432d9462f22db2ad170362", func := "oathbook/oathbooklaw4.SpanSound", spec := "spanSound", unfollowed := true, recurses := true, named := ["oathbook/sha.rounds"], apart := false, laid := [("oathbook/sha.rounds", laid_oathbook_sha_rounds)], narrowed := true }
def SpanSoundUptoSaid : Prop := spanSoundUptoRow.holds Tryd.pinned (OpenSpec.upto spanSoundSpec)

/-- 'oathbooklaw4.SpanProves', WHERE WHAT IT READS IS OF BULK AT MOST 1048576: true; the input reads as it did. -/
def spanProvesUptoRow : OpenClaim := { program := "ytpeomfehdccmmaadoor", sum := "9f96e5a6f04699193eb315eea12c58a89f02b976a2432d9462f22db2ad170362", func := "oathbook/oathbooklaw4.SpanProves", spec := "spanProves", unfollowed := true, recurses := true, named := ["oathbook/sha.rounds"], apart := false, laid := [("oathbook/sha.rounds", laid_oathbook_sha_rounds)], narrowed := true }
def SpanProvesUptoSaid : Prop := spanProvesUptoRow.holds Tryd.pinned (OpenSpec.upto spanProvesSpec)

/-- 'oathbooklaw4.SpanTells', WHERE WHAT IT READS IS OF BULK AT MOST 1048576: true; the input reads as it did. -/
def spanTellsUptoRow : OpenClaim := { program := "ytpeomfehdccmmaadoor", sum := "9f96e5a6f04699193eb315eea12c58a89f02b976a2432d9462f22db2ad170362", func := "oathbook/oathbooklaw4.SpanTells", spec := "spanTells", inPlace := ["internal/reflectlite.ValueOf", "(internal/reflectlite.Value).Type", "(internal/reflectlite.Value).IsNil", "internal/reflectlite.TypeOf", "(internal/reflectlite.Value).Elem", "(internal/reflectlite.Value).Set"], unfollowed := true, recurses := true, named := ["oathbook/sha.rounds", "errors.errorType"], apart := false, laid := [("oathbook/sha.rounds", laid_oathbook_sha_rounds), ("errors.errorType", laid_errors_errorType)], narrowed := true }
def SpanTellsUptoSaid : Prop := spanTellsUptoRow.holds Tryd.pinned (OpenSpec.upto spanTellsSpec)

end Rows
end Go.Proofs.YtpeomfehdccmmaaDoor
