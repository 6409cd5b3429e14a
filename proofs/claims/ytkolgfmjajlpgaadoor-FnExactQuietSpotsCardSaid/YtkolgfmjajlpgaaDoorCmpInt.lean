/- Numbers in order: cmp.Compare at int64. -/
import Derived.Test.YtkolgfmjajlpgaaDoorRows
import Derived.Test.YtkolgfmjajlpgaaDoorLaw
namespace Go.Proofs.YtkolgfmjajlpgaaDoor
open Go.ChangeShapes Go.WideShapes Go.ChangeAt Go.RowKit Go.Deep Go.Joins
set_option linter.unusedVariables false
set_option maxRecDepth 100000
set_option linter.unusedSimpArgs false
def cmpI (x y : Int) : Int := if x < y then -1 else if y < x then 1 else 0
theorem cmp_isNaN_int (x : Int) (w : World) : Calls Tryd.prog 53 #[.int .i64 x] w fun e w' => e = .returned (.bool false) ∧ w = w' := by
  go_enter Tryd.func53, Tryd.ntmps53
  go_wp2
  go_ret
  exact ⟨by first | rfl | simp, rfl⟩
theorem cmp_Compare_int (x y : Int) (w : World) : Calls Tryd.prog 47 #[.int .i64 x, .int .i64 y] w fun e w' => e = .returned (.int .i64 (cmpI x y)) ∧ w = w' := by
  by_cases h1 : x < y
  · have e : Hid (cmpI x y = -1) := (by unfold cmpI; rw [if_pos h1] : cmpI x y = -1)
    go_enter Tryd.func47, Tryd.ntmps47
    go_wp2_with (first | (go_at_call 53; refine (cmp_isNaN_int _ _).mono ?_; rintro e w' ⟨rfl, rfl⟩))
    go_ret
    exact ⟨by rw [e.out]; rfl, rfl⟩
  by_cases h2 : y < x
  · have e : Hid (cmpI x y = 1) := (by unfold cmpI; rw [if_neg h1, if_pos h2] : cmpI x y = 1)
    go_enter Tryd.func47, Tryd.ntmps47
    go_wp2_with (first | (go_at_call 53; refine (cmp_isNaN_int _ _).mono ?_; rintro e w' ⟨rfl, rfl⟩))
    go_ret
    exact ⟨by rw [e.out]; rfl, rfl⟩
  · have e : Hid (cmpI x y = 0) := (by unfold cmpI; rw [if_neg h1, if_neg h2] : cmpI x y = 0)
    go_enter Tryd.func47, Tryd.ntmps47
    go_wp2_with (first | (go_at_call 53; refine (cmp_isNaN_int _ _).mono ?_; rintro e w' ⟨rfl, rfl⟩))
    go_ret
    exact ⟨by rw [e.out]; rfl, rfl⟩
end Go.Proofs.YtkolgfmjajlpgaaDoor
