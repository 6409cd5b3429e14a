/- What isPart computes. -/
import Derived.Test.YtdliabgdgjboiaaRows
import Derived.Test.YtdliabgdgjboiaaIn
namespace Go.Proofs.Ytdliabgdgjboiaa
open Go.ChangeShapes Go.WideShapes Go.ChangeAt Go.RowKit Go.Deep Go.Joins
set_option linter.unusedVariables false
set_option maxRecDepth 100000
set_option linter.unusedSimpArgs false
theorem impl_isPart (n : Int) (w : World) : Calls Try.prog 166 #[.int .i64 n] w fun e w' => e = .returned (.bool (inB n 0 1000000)) ∧ w = w' := by
  go_enter Try.func166, Try.ntmps166
  go_wp2_with (go_at_call 127; refine (within _ _ _ _).mono ?_; rintro e w' ⟨rfl, rfl⟩)
  go_ret
  exact ⟨rfl, rfl⟩
theorem impl_isPart_is {b : Bool} (n : Int) (w : World) (h : inB n 0 1000000 = b) : Calls Try.prog 166 #[.int .i64 n] w fun e w' => e = .returned (.bool b) ∧ w = w' := by
  rw [← h]; exact impl_isPart n w
end Go.Proofs.Ytdliabgdgjboiaa
