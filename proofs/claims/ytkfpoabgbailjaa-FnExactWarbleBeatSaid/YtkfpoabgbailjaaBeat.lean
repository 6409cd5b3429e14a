/- WarbleBeat: both sides compute the same. -/
import Derived.Test.YtkfpoabgbailjaaRows
import Derived.Test.YtkfpoabgbailjaaRound
namespace Go.Proofs.Ytkfpoabgbailjaa
open Go.ChangeShapes Go.WideShapes Go.ChangeAt Go.RowKit Go.Deep Go.Joins
set_option linter.unusedVariables false
set_option linter.unusedSimpArgs false
def beatS (f s : Int) : Int × Int := if inB f 10000 20000000 && inB s 0 100000000 then (divR (f * s) 100000000, 0) else (0, 2)
theorem beat_bd (f s : Int) (h1 : 10000 ≤ f ∧ f ≤ 20000000) (h2 : 0 ≤ s ∧ s ≤ 100000000) : 0 ≤ f * s ∧ f * s ≤ 2000000000000000 := by
  refine ⟨Int.mul_nonneg (by omega) (by omega), ?_⟩
  have h := Int.mul_le_mul h1.2 h2.2 h2.1 (by omega)
  omega

theorem spec_WarbleBeat (f s : Int) (w : World) : Calls Try.prog 19 #[.int .i64 f, .int .i64 s] w fun e w' => e = .returned (.tuple #[.int .i64 (beatS f s).1, .int .i64 (beatS f s).2]) ∧ w = w' := by
  unfold beatS
  cases hA : inB f 10000 20000000
  case false =>
    go_enter Try.func19, Try.ntmps19
    go_wp2_with (first | (go_at_call 60; refine (l00In_is _ _ _ _ (by assumption)).mono ?_; rintro e w' ⟨rfl, rfl⟩) | go_in)
    go_ret2
    exact ⟨rfl, rfl⟩
  cases hB : inB s 0 100000000
  case false =>
    go_enter Try.func19, Try.ntmps19
    go_wp2_with (first | (go_at_call 60; refine (l00In_is _ _ _ _ (by assumption)).mono ?_; rintro e w' ⟨rfl, rfl⟩) | (go_at_call 59; go_in))
    go_ret2
    exact ⟨rfl, rfl⟩
  obtain ⟨h1, h2⟩ := beat_bd f s (inB_true hA) (inB_true hB)
  go_enter Try.func19, Try.ntmps19
  go_wp2_with (first | (go_at_call 60; refine (l00In_is _ _ _ _ (by assumption)).mono ?_; rintro e w' ⟨rfl, rfl⟩) | (go_at_call 61; refine (spec_l01Div _ _ _ (by omega) (by omega) (by omega) (by omega)).mono ?_; rintro e w' ⟨rfl, rfl⟩) | (go_at_call 59; go_in))
  go_ret2
  exact ⟨rfl, rfl⟩

theorem impl_WarbleBeat (f s : Int) (w : World) : Calls Try.prog 20 #[.int .i64 f, .int .i64 s] w fun e w' => e = .returned (.tuple #[.int .i64 (beatS f s).1, .int .i64 (beatS f s).2]) ∧ Drew w w' := by
  unfold beatS
  cases hA : inB f 10000 20000000
  case false =>
    go_enter Try.func20, Try.ntmps20
    go_wp2_with (first | (go_at_call 63; refine (within_is _ _ _ _ (by assumption)).mono ?_; rintro e w' ⟨rfl, rfl⟩) | (go_at_call 62; go_in))
    go_ret2
    exact ⟨rfl, 0, rfl⟩
  cases hB : inB s 0 100000000
  case false =>
    go_enter Try.func20, Try.ntmps20
    go_wp2_with (first | (go_at_call 63; refine (within_is _ _ _ _ (by assumption)).mono ?_; rintro e w' ⟨rfl, rfl⟩) | (go_at_call 62; go_in))
    go_ret2
    exact ⟨rfl, 0, rfl⟩
  obtain ⟨h1, h2⟩ := beat_bd f s (inB_true hA) (inB_true hB)
  go_enter Try.func20, Try.ntmps20
  go_wp2_with (first | (go_at_call 63; refine (within_is _ _ _ _ (by assumption)).mono ?_; rintro e w' ⟨rfl, rfl⟩) | (go_at_call 64; refine (impl_nearest _ _ _ (by omega) (by omega) (by omega) (by omega)).mono ?_; rintro e w' ⟨rfl, n, rfl⟩) | (go_at_call 62; go_in))
  go_ret2
  exact ⟨rfl, _, rfl⟩

theorem FnExactWarbleBeat_walk (w : World) (f : Int) (hf : I64 f) (s : Int) (hs : I64 s) : Calls Try.prog 4 #[.int .i64 f, .int .i64 s] w fun e w' => e = .returned (.bool true) ∧ Below w.heap.size w w' := by
  go_enter Try.func4, Try.ntmps4
  go_wp2_with (first | (go_at_call 19; refine (spec_WarbleBeat _ _ _).mono ?_; rintro e w' ⟨rfl, rfl⟩) | (go_at_call 20; refine (impl_WarbleBeat _ _ _).mono ?_; rintro e w' ⟨rfl, n, rfl⟩))
  all_goals go_ret
  all_goals exact ⟨rfl, by (repeat' (first | (with_reducible exact Below.refl _ _) | (with_reducible assumption) | (with_reducible refine below_dn ?_ _) | (with_reducible refine Below.drew ?_) | (with_reducible refine Below.alloc ?_ ?_ _) | (with_reducible refine Below.setCell ?_ ?_ _) | go_size))⟩
end Go.Proofs.Ytkfpoabgbailjaa
