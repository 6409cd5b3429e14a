/- What a spot is: both sides compute the same. -/
import Derived.Test.YtgjcmfacdnngjaaRows
import Derived.Test.YtgjcmfacdnngjaaIn
import Derived.Test.YtgjcmfacdnngjaaCopyInts
namespace Go.Proofs.Ytgjcmfacdnngjaa
open Go.ChangeShapes Go.WideShapes Go.ChangeAt Go.RowKit Go.Deep Go.Joins
set_option linter.unusedVariables false
set_option maxRecDepth 100000
set_option linter.unusedSimpArgs false
def weightB (n : Int) : Bool := (n != 0) && inB n (-1000) 1000
def spotB (x : Spot) : Bool := inB x.angle 0 359 && weightB x.weight
end Go.Proofs.Ytgjcmfacdnngjaa
