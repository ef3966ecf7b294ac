/- The seeds of a key of two storeys: plain. No walk is here. -/
import Derived.Test.YtkioddmhjbaleaaDoorWotsLaw
namespace Go.Proofs.YtkioddmhjbaleaaDoor
set_option linter.unusedVariables false
def hup (seed : List UInt8) : List UInt8 := macOf seed [19]
def hlow (seed : List UInt8) (j : Nat) : List UInt8 := macOf seed [18, UInt8.ofNat j]
theorem hup_length (seed : List UInt8) : (hup seed).length = 32 := macOf_length _ _
theorem hlow_length (seed : List UInt8) (j : Nat) : (hlow seed j).length = 32 := macOf_length _ _
end Go.Proofs.YtkioddmhjbaleaaDoor
