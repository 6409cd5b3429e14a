/- Binary search: Spot. -/
import Derived.Test.YtldbahcpjhmhpaaDoorRows
import Derived.Test.YtldbahcpjhmhpaaDoorHSpot
import Derived.Test.YtldbahcpjhmhpaaDoorLaw
import Derived.Test.YtldbahcpjhmhpaaDoorSearch
import Derived.Test.YtldbahcpjhmhpaaDoorCmpInt
namespace Go.Proofs.YtldbahcpjhmhpaaDoor
open Go.ChangeShapes Go.WideShapes Go.ChangeAt Go.RowKit Go.Deep Go.Joins
set_option linter.unusedVariables false
set_option maxRecDepth 100000
set_option linter.unusedSimpArgs false
def cmpSpot (xs : List Spot) (t : Spot) (k : Nat) : Int := (xs[k]?).elim 1 fun x => cmpI x.angle t.angle
theorem cmpSpot_at {xs : List Spot} {t : Spot} {k : Nat} (h : k < xs.length) : cmpSpot xs t k = (fun x : Spot => cmpI x.angle t.angle) xs[k] := by
  unfold cmpSpot
  rw [List.getElem?_eq_getElem h]
  rfl
end Go.Proofs.YtldbahcpjhmhpaaDoor
