/- LayersFor: both sides compute the same. -/
import Derived.Test.YtnbodmbagendnaaRows
import Derived.Test.YtnbodmbagendnaaIn
namespace Go.Proofs.Ytnbodmbagendnaa
open Go.ChangeShapes Go.WideShapes Go.ChangeAt Go.RowKit Go.Deep Go.Joins
set_option linter.unusedVariables false
set_option maxRecDepth 100000
set_option linter.unusedSimpArgs false
def layersS (a b : Int) : Int × Int := if inB a 1 150000 && inB b 1 a then (if 40 < (a + b - 1) / b then (0, 5) else ((a + b - 1) / b, 0)) else (0, 2)

theorem impl_LayersFor (a b : Int) (w : World) : Calls Try.prog 16 #[.int .i64 a, .int .i64 b] w fun e w' => e = .returned (.tuple #[.int .i64 (layersS a b).1, .int .i64 (layersS a b).2]) ∧ w = w' := by
  unfold layersS
  cases hA : inB a 1 150000
  · go_enter Try.func16, Try.ntmps16
    go_wp2_with (first | (go_at_call 56; refine (within _ _ _ _).mono ?_; rintro e w' ⟨rfl, rfl⟩) | go_in)
    go_ret2
    exact ⟨rfl, rfl⟩
  · cases hB : inB b 1 a
    · go_enter Try.func16, Try.ntmps16
      go_wp2_with (first | (go_at_call 56; refine (within _ _ _ _).mono ?_; rintro e w' ⟨rfl, rfl⟩) | go_in)
      go_ret2
      exact ⟨rfl, rfl⟩
    · obtain ⟨h1, h2⟩ := inB_true hA
      obtain ⟨h3, h4⟩ := inB_true hB
      by_cases h5 : 40 < (a + b - 1) / b
      all_goals
        simp only [h5, if_true, if_false]
        go_enter Try.func16, Try.ntmps16
        go_wp2_with (first | (go_at_call 56; refine (within _ _ _ _).mono ?_; rintro e w' ⟨rfl, rfl⟩) | go_in)
        go_ret2
        exact ⟨rfl, rfl⟩
end Go.Proofs.Ytnbodmbagendnaa
