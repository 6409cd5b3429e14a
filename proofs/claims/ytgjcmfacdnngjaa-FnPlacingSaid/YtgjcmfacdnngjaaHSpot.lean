/- The helpers of the laws at Spot: copies, comparisons, sizes. -/
import Derived.Test.YtgjcmfacdnngjaaRows
import Derived.Test.YtgjcmfacdnngjaaCopyInts
namespace Go.Proofs.Ytgjcmfacdnngjaa
open Go.ChangeShapes Go.WideShapes Go.ChangeAt Go.RowKit Go.Deep Go.Joins
set_option linter.unusedVariables false
set_option maxRecDepth 100000
set_option linter.unusedSimpArgs false
theorem Spot_len (xs : List Spot) : (xs.flatMap Spot.put).length = xs.length * 2 := flat_len xs (fun _ _ => rfl)
theorem Spot_get0 (xs : List Spot) (k : Nat) (h : k < xs.length) : (xs.flatMap Spot.put)[k * 2 + 0]? = some (.int .i64 xs[k].angle) := by
  rw [flat_get (f := Spot.put) (s := 2) xs (fun _ _ => rfl) (j := 0) (by omega) k, List.getElem?_eq_getElem h]
  rfl
theorem Spot_get1 (xs : List Spot) (k : Nat) (h : k < xs.length) : (xs.flatMap Spot.put)[k * 2 + 1]? = some (.int .i64 xs[k].weight) := by
  rw [flat_get (f := Spot.put) (s := 2) xs (fun _ _ => rfl) (j := 1) (by omega) k, List.getElem?_eq_getElem h]
  rfl
end Go.Proofs.Ytgjcmfacdnngjaa
