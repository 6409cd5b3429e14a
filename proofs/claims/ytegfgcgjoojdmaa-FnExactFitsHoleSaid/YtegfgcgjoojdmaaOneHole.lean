/- What a hole is: both sides compute the same. -/
import Derived.Test.YtegfgcgjoojdmaaRows
import Derived.Test.YtegfgcgjoojdmaaNameIs
namespace Go.Proofs.Ytegfgcgjoojdmaa
open Go.ChangeShapes Go.WideShapes Go.ChangeAt Go.RowKit Go.Deep Go.Joins
set_option linter.unusedVariables false
set_option maxRecDepth 100000
set_option linter.unusedSimpArgs false
def holeB (x : Hole) : Bool := nameB x.name && (inB x.radius 1 300000 && inB x.depth 1 600000)

theorem spec_l15Hole_is {b : Bool} (x : Hole) (a o : Nat) (w : World) (h : holeB x = b) (h0 : w.cell? ⟨a, o, none⟩ = some (.string x.name)) (h1 : w.cell? ⟨a, o + 1, none⟩ = some (.int .i64 x.radius)) (h2 : w.cell? ⟨a, o + 2, none⟩ = some (.int .i64 x.depth)) (hx : x.ok) :
    Calls Try.prog 94 #[.pointer (some ⟨a, o, none⟩)] w fun e w' => e = .returned (.bool b) ∧ Below w.heap.size w w' := by
  subst h
  have hn := Lib.hid hx.1
  clear hx
  unfold holeB
  cases hN : nameB x.name
  case false =>
    go_enter Try.func94, Try.ntmps94
    go_wp2_with (first | (go_at_call 155; refine (spec_l01Name_is _ _ hn.out (by assumption)).mono ?_; rintro e w' ⟨rfl, rfl⟩) | (go_at_call 93; refine (l00In_is _ _ _ _ (by assumption)).mono ?_; rintro e w' ⟨rfl, rfl⟩))
    go_ret
    exact ⟨rfl, by (repeat' (first | (with_reducible exact Below.refl _ _) | (with_reducible assumption) | (with_reducible refine below_dn ?_ _) | (with_reducible refine Below.drew ?_) | (with_reducible refine Below.alloc ?_ ?_ _) | (with_reducible refine Below.setCell ?_ ?_ _) | go_size))⟩
  cases hA : inB x.radius 1 300000
  case false =>
    go_enter Try.func94, Try.ntmps94
    go_wp2_with (first | (go_at_call 155; refine (spec_l01Name_is _ _ hn.out (by assumption)).mono ?_; rintro e w' ⟨rfl, rfl⟩) | (go_at_call 93; refine (l00In_is _ _ _ _ (by assumption)).mono ?_; rintro e w' ⟨rfl, rfl⟩))
    go_ret
    exact ⟨rfl, by (repeat' (first | (with_reducible exact Below.refl _ _) | (with_reducible assumption) | (with_reducible refine below_dn ?_ _) | (with_reducible refine Below.drew ?_) | (with_reducible refine Below.alloc ?_ ?_ _) | (with_reducible refine Below.setCell ?_ ?_ _) | go_size))⟩
  go_enter Try.func94, Try.ntmps94
  go_wp2_with (first | (go_at_call 155; refine (spec_l01Name_is _ _ hn.out (by assumption)).mono ?_; rintro e w' ⟨rfl, rfl⟩) | (go_at_call 93; refine (l00In_is _ _ _ _ (by assumption)).mono ?_; rintro e w' ⟨rfl, rfl⟩) | (go_at_call 93; refine (l00In _ _ _ _).mono ?_; rintro e w' ⟨rfl, rfl⟩))
  go_ret
  exact ⟨by simp, by (repeat' (first | (with_reducible exact Below.refl _ _) | (with_reducible assumption) | (with_reducible refine below_dn ?_ _) | (with_reducible refine Below.drew ?_) | (with_reducible refine Below.alloc ?_ ?_ _) | (with_reducible refine Below.setCell ?_ ?_ _) | go_size))⟩
theorem impl_validHole_is {b : Bool} (x : Hole) (w : World) (h : holeB x = b) (hx : x.ok) :
    Calls Try.prog 84 #[.agg #[.string x.name, .int .i64 x.radius, .int .i64 x.depth]] w fun e w' => e = .returned (.bool b) ∧ Below w.heap.size w w' := by
  subst h
  have hn := Lib.hid hx.1
  clear hx
  unfold holeB
  cases hN : nameB x.name
  case false =>
    go_enter Try.func84, Try.ntmps84
    go_wp2_with fail
    refine (impl_IsName_is _ _ hn.out (by assumption)).mono ?_; rintro e w1 ⟨rfl, b1⟩
    go_wp2_with fail
    go_ret
    exact ⟨rfl, Below.trans (by (repeat' (first | (with_reducible exact Below.refl _ _) | (with_reducible assumption) | (with_reducible refine below_dn ?_ _) | (with_reducible refine Below.drew ?_) | (with_reducible refine Below.alloc ?_ ?_ _) | (with_reducible refine Below.setCell ?_ ?_ _) | go_size))) (b1.mono (by simp))⟩
  cases hA : inB x.radius 1 300000
  case false =>
    go_enter Try.func84, Try.ntmps84
    go_wp2_with fail
    refine (impl_IsName_is _ _ hn.out (by assumption)).mono ?_; rintro e w1 ⟨rfl, b1⟩
    obtain ⟨hc, hf⟩ := bcell b1
    go_wp2_with (go_at_call 116; refine (within_is _ _ _ _ (by assumption)).mono ?_; rintro e w' ⟨rfl, rfl⟩)
    go_ret
    exact ⟨rfl, Below.trans (by (repeat' (first | (with_reducible exact Below.refl _ _) | (with_reducible assumption) | (with_reducible refine below_dn ?_ _) | (with_reducible refine Below.drew ?_) | (with_reducible refine Below.alloc ?_ ?_ _) | (with_reducible refine Below.setCell ?_ ?_ _) | go_size))) (b1.mono (by simp))⟩
  go_enter Try.func84, Try.ntmps84
  go_wp2_with fail
  refine (impl_IsName_is _ _ hn.out (by assumption)).mono ?_; rintro e w1 ⟨rfl, b1⟩
  obtain ⟨hc, hf⟩ := bcell b1
  go_wp2_with (first | (go_at_call 116; refine (within_is _ _ _ _ (by assumption)).mono ?_; rintro e w' ⟨rfl, rfl⟩) | (go_at_call 116; refine (within _ _ _ _).mono ?_; rintro e w' ⟨rfl, rfl⟩))
  go_ret
  exact ⟨by simp, Below.trans (by (repeat' (first | (with_reducible exact Below.refl _ _) | (with_reducible assumption) | (with_reducible refine below_dn ?_ _) | (with_reducible refine Below.drew ?_) | (with_reducible refine Below.alloc ?_ ?_ _) | (with_reducible refine Below.setCell ?_ ?_ _) | go_size))) (b1.mono (by simp))⟩
end Go.Proofs.Ytegfgcgjoojdmaa
