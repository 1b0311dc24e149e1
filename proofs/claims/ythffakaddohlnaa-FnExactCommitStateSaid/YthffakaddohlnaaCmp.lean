/- Contracts of Go's cmp functions at the types that the program uses: a number less than, equal to or above 0. -/
import Derived.Test.YthffakaddohlnaaOk
import Derived.Deep.RegionHeld3
namespace Go.Proofs.Ythffakaddohlnaa
set_option linter.unusedVariables false
open Go.RowKit
def cmpI (a b : Int) : Int := if a < b then -1 else if b < a then 1 else 0
def cmpS (a b : ByteArray) : Int := if strLt a b then -1 else if strLt b a then 1 else 0
end Go.Proofs.Ythffakaddohlnaa
