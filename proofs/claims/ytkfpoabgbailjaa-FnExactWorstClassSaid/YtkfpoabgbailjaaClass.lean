/- ClassOf: both sides compute the same. -/
import Derived.Test.YtkfpoabgbailjaaRows
import Derived.Test.YtkfpoabgbailjaaIn
namespace Go.Proofs.Ytkfpoabgbailjaa
open Go.ChangeShapes Go.WideShapes Go.ChangeAt Go.RowKit Go.Deep Go.Joins
set_option linter.unusedVariables false
set_option linter.unusedSimpArgs false
def classS (t : Int) : Int := if inB t (-20) 20 then 1 else if inB t (-50) 50 then 2 else if inB t (-100) 100 then 3 else 4
theorem classS_bd (t : Int) : 1 ≤ classS t ∧ classS t ≤ 4 := by
  unfold classS
  split
  · omega
  · split
    · omega
    · split <;> omega

theorem impl_ClassOf (t : Int) (w : World) : Calls Try.prog 78 #[.int .i64 t] w fun e w' => e = .returned (.int .i64 (classS t)) ∧ Below w.heap.size w w' := by
  unfold classS
  cases hA : inB t (-20) 20
  case true =>
    go_enter Try.func78, Try.ntmps78
    go_wp2
    refine wp_loop_rounds 1 ?_
    rw [rounds_succ]
    go_wp2_with (go_at_call 63; refine (within_is _ _ _ _ (by assumption)).mono ?_; rintro e w' ⟨rfl, rfl⟩)
    go_ret
    exact ⟨rfl, by (repeat' (first | (with_reducible exact Below.refl _ _) | (with_reducible assumption) | (with_reducible refine below_dn ?_ _) | (with_reducible refine Below.drew ?_) | (with_reducible refine Below.alloc ?_ ?_ _) | (with_reducible refine Below.setCell ?_ ?_ _) | go_size))⟩
  cases hB : inB t (-50) 50
  case true =>
    go_enter Try.func78, Try.ntmps78
    go_wp2
    refine wp_loop_rounds 2 ?_
    repeat (rw [rounds_succ]; go_wp2_with (go_at_call 63; refine (within_is _ _ _ _ (by assumption)).mono ?_; rintro e w' ⟨rfl, rfl⟩))
    go_ret
    exact ⟨rfl, by (repeat' (first | (with_reducible exact Below.refl _ _) | (with_reducible assumption) | (with_reducible refine below_dn ?_ _) | (with_reducible refine Below.drew ?_) | (with_reducible refine Below.alloc ?_ ?_ _) | (with_reducible refine Below.setCell ?_ ?_ _) | go_size))⟩
  cases hC : inB t (-100) 100
  case true =>
    go_enter Try.func78, Try.ntmps78
    go_wp2
    refine wp_loop_rounds 3 ?_
    repeat (rw [rounds_succ]; go_wp2_with (go_at_call 63; refine (within_is _ _ _ _ (by assumption)).mono ?_; rintro e w' ⟨rfl, rfl⟩))
    go_ret
    exact ⟨rfl, by (repeat' (first | (with_reducible exact Below.refl _ _) | (with_reducible assumption) | (with_reducible refine below_dn ?_ _) | (with_reducible refine Below.drew ?_) | (with_reducible refine Below.alloc ?_ ?_ _) | (with_reducible refine Below.setCell ?_ ?_ _) | go_size))⟩
  case false =>
    go_enter Try.func78, Try.ntmps78
    go_wp2
    refine wp_loop_rounds 4 ?_
    repeat (rw [rounds_succ]; go_wp2_with (go_at_call 63; refine (within_is _ _ _ _ (by assumption)).mono ?_; rintro e w' ⟨rfl, rfl⟩))
    go_ret
    exact ⟨rfl, by (repeat' (first | (with_reducible exact Below.refl _ _) | (with_reducible assumption) | (with_reducible refine below_dn ?_ _) | (with_reducible refine Below.drew ?_) | (with_reducible refine Below.alloc ?_ ?_ _) | (with_reducible refine Below.setCell ?_ ?_ _) | go_size))⟩

theorem spec_l11Class (t : Int) (w : World) : Calls Try.prog 77 #[.int .i64 t] w fun e w' => e = .returned (.int .i64 (classS t)) ∧ w = w' := by
  unfold classS
  cases hA : inB t (-20) 20 <;> cases hB : inB t (-50) 50 <;> cases hC : inB t (-100) 100
  all_goals
    go_enter Try.func77, Try.ntmps77
    go_wp2_with (go_at_call 60; refine (l00In_is _ _ _ _ (by assumption)).mono ?_; rintro e w' ⟨rfl, rfl⟩)
    go_ret
    exact ⟨rfl, rfl⟩
end Go.Proofs.Ytkfpoabgbailjaa
