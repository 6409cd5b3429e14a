/- The helpers of the laws at Ring: copies, comparisons, sizes. -/
import Derived.Test.YtgjcmfacdnngjaaRows
import Derived.Test.YtgjcmfacdnngjaaCopyInts
namespace Go.Proofs.Ytgjcmfacdnngjaa
open Go.ChangeShapes Go.WideShapes Go.ChangeAt Go.RowKit Go.Deep Go.Joins
set_option linter.unusedVariables false
set_option maxRecDepth 100000
set_option linter.unusedSimpArgs false
theorem Ring_len (xs : List Ring) : (xs.flatMap Ring.put).length = xs.length * 3 := flat_len xs (fun _ _ => rfl)
theorem Ring_get0 (xs : List Ring) (k : Nat) (h : k < xs.length) : (xs.flatMap Ring.put)[k * 3 + 0]? = some (.int .i64 xs[k].outer) := by
  rw [flat_get (f := Ring.put) (s := 3) xs (fun _ _ => rfl) (j := 0) (by omega) k, List.getElem?_eq_getElem h]
  rfl
theorem Ring_get1 (xs : List Ring) (k : Nat) (h : k < xs.length) : (xs.flatMap Ring.put)[k * 3 + 1]? = some (.int .i64 xs[k].inner) := by
  rw [flat_get (f := Ring.put) (s := 3) xs (fun _ _ => rfl) (j := 1) (by omega) k, List.getElem?_eq_getElem h]
  rfl
theorem Ring_get2 (xs : List Ring) (k : Nat) (h : k < xs.length) : (xs.flatMap Ring.put)[k * 3 + 2]? = some (.int .i64 xs[k].height) := by
  rw [flat_get (f := Ring.put) (s := 3) xs (fun _ _ => rfl) (j := 2) (by omega) k, List.getElem?_eq_getElem h]
  rfl
theorem Ring_info : (Try.prog.info? 60).map (fun i => (i.zero, i.size, i.bytes)) = some (some (.agg #[.int .i64 0, .int .i64 0, .int .i64 0]), 3, 24) := by kernel_rfl
end Go.Proofs.Ytgjcmfacdnngjaa
