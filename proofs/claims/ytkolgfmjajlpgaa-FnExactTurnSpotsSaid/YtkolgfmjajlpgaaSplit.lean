/- The split of a partial: both sides compute the same. -/
import Derived.Test.YtkolgfmjajlpgaaRows
import Derived.Test.YtkolgfmjajlpgaaSplitS
namespace Go.Proofs.Ytkolgfmjajlpgaa
open Go.ChangeShapes Go.WideShapes Go.ChangeAt Go.RowKit Go.Deep Go.Joins
set_option linter.unusedVariables false
set_option maxRecDepth 100000
set_option linter.unusedSimpArgs false
theorem spec_l12Ok_is {r : Bool} (w : World) (v : Value) (xs : List Spot) (h : Rd w.heap.size w v 2 xs.length (xs.flatMap Spot.put)) (hn : xs.length ≤ 1048576) (hok : ∀ x ∈ xs, x.ok) (hr : validSpotS xs = r) :
    Calls Try.prog 61 #[v] w fun e w' => e = .returned (.bool r) ∧ Below w.heap.size w w' := by
  subst hr; exact spec_validSpot w v xs h hn hok
theorem impl_ValidSpots_is {r : Bool} (w : World) (v : Value) (xs : List Spot) (h : Rd w.heap.size w v 2 xs.length (xs.flatMap Spot.put)) (hn : xs.length ≤ 1048576) (hok : ∀ x ∈ xs, x.ok) (hr : validSpotS xs = r) :
    Calls Try.prog 64 #[v] w fun e w' => e = .returned (.bool r) ∧ Below w.heap.size w w' := by
  subst hr; exact impl_validSpot w v xs h hn hok
end Go.Proofs.Ytkolgfmjajlpgaa
