/- Valid lists of Spot: both sides compute the same. -/
import Derived.Test.YtgjcmfacdnngjaaRows
import Derived.Test.YtgjcmfacdnngjaaHSpot
import Derived.Test.YtgjcmfacdnngjaaOneSpot
import Derived.Test.YtgjcmfacdnngjaaSteps
namespace Go.Proofs.Ytgjcmfacdnngjaa
open Go.ChangeShapes Go.WideShapes Go.ChangeAt Go.RowKit Go.Deep Go.Joins
set_option linter.unusedVariables false
set_option maxRecDepth 100000
set_option linter.unusedSimpArgs false
def ltKSpot (y x : Spot) : Bool := decide (y.angle < x.angle)
def validSpotS (xs : List Spot) : Bool := allK (stepB spotB ltKSpot xs) xs.length && decide (xs.length ≤ 16)

theorem ltKSpot_spec_f {y x : Spot} (h : ltKSpot y x = false) : decide (x.angle ≤ y.angle) = true := by
  simp [ltKSpot] at h ⊢; omega
theorem ltKSpot_spec_t {y x : Spot} (h : ltKSpot y x = true) : decide (x.angle ≤ y.angle) = false := by
  simp [ltKSpot] at h ⊢; omega
end Go.Proofs.Ytgjcmfacdnngjaa
