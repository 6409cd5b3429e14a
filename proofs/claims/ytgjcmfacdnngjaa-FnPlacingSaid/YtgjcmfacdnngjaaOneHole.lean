/- What a hole is: both sides compute the same. -/
import Derived.Test.YtgjcmfacdnngjaaRows
import Derived.Test.YtgjcmfacdnngjaaNameIs
namespace Go.Proofs.Ytgjcmfacdnngjaa
open Go.ChangeShapes Go.WideShapes Go.ChangeAt Go.RowKit Go.Deep Go.Joins
set_option linter.unusedVariables false
set_option maxRecDepth 100000
set_option linter.unusedSimpArgs false
def holeB (x : Hole) : Bool := nameB x.name && (inB x.radius 1 300000 && inB x.depth 1 600000)

theorem impl_validHole_is {b : Bool} (x : Hole) (w : World) (h : holeB x = b) (hx : x.ok) :
    Calls Try.prog 23 #[.agg #[.string x.name, .int .i64 x.radius, .int .i64 x.depth]] w fun e w' => e = .returned (.bool b) ∧ Below w.heap.size w w' := by
  subst h
  have hn := Lib.hid hx.1
  clear hx
  unfold holeB
  cases hN : nameB x.name
  case false =>
    go_enter Try.func23, Try.ntmps23
    go_wp2_with fail
    refine (impl_IsName_is _ _ hn.out (by assumption)).mono ?_; rintro e w1 ⟨rfl, b1⟩
    go_wp2_with fail
    go_ret
    exact ⟨rfl, Below.trans (by (repeat' (first | (with_reducible exact Below.refl _ _) | (with_reducible assumption) | (with_reducible refine below_dn ?_ _) | (with_reducible refine Below.drew ?_) | (with_reducible refine Below.alloc ?_ ?_ _) | (with_reducible refine Below.setCell ?_ ?_ _) | go_size))) (b1.mono (by simp))⟩
  cases hA : inB x.radius 1 300000
  case false =>
    go_enter Try.func23, Try.ntmps23
    go_wp2_with fail
    refine (impl_IsName_is _ _ hn.out (by assumption)).mono ?_; rintro e w1 ⟨rfl, b1⟩
    obtain ⟨hc, hf⟩ := bcell b1
    go_wp2_with (go_at_call 33; refine (within_is _ _ _ _ (by assumption)).mono ?_; rintro e w' ⟨rfl, rfl⟩)
    go_ret
    exact ⟨rfl, Below.trans (by (repeat' (first | (with_reducible exact Below.refl _ _) | (with_reducible assumption) | (with_reducible refine below_dn ?_ _) | (with_reducible refine Below.drew ?_) | (with_reducible refine Below.alloc ?_ ?_ _) | (with_reducible refine Below.setCell ?_ ?_ _) | go_size))) (b1.mono (by simp))⟩
  go_enter Try.func23, Try.ntmps23
  go_wp2_with fail
  refine (impl_IsName_is _ _ hn.out (by assumption)).mono ?_; rintro e w1 ⟨rfl, b1⟩
  obtain ⟨hc, hf⟩ := bcell b1
  go_wp2_with (first | (go_at_call 33; refine (within_is _ _ _ _ (by assumption)).mono ?_; rintro e w' ⟨rfl, rfl⟩) | (go_at_call 33; refine (within _ _ _ _).mono ?_; rintro e w' ⟨rfl, rfl⟩))
  go_ret
  exact ⟨by simp, Below.trans (by (repeat' (first | (with_reducible exact Below.refl _ _) | (with_reducible assumption) | (with_reducible refine below_dn ?_ _) | (with_reducible refine Below.drew ?_) | (with_reducible refine Below.alloc ?_ ?_ _) | (with_reducible refine Below.setCell ?_ ?_ _) | go_size))) (b1.mono (by simp))⟩
end Go.Proofs.Ytgjcmfacdnngjaa
