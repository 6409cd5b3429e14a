/- What a spot is: both sides compute the same. -/
import Derived.Test.YtldbahcpjhmhpaaDoorRows
import Derived.Test.YtldbahcpjhmhpaaDoorIn
import Derived.Test.YtldbahcpjhmhpaaDoorCopyInts
namespace Go.Proofs.YtldbahcpjhmhpaaDoor
open Go.ChangeShapes Go.WideShapes Go.ChangeAt Go.RowKit Go.Deep Go.Joins
set_option linter.unusedVariables false
set_option maxRecDepth 100000
set_option linter.unusedSimpArgs false
def weightB (n : Int) : Bool := (n != 0) && inB n (-1000) 1000
def spotB (x : Spot) : Bool := inB x.angle 0 359 && weightB x.weight

theorem spec_l12Weight (n : Int) (w : World) : Calls Tryd.prog 91 #[.int .i64 n] w fun e w' => e = .returned (.bool (weightB n)) ∧ w = w' := by
  unfold weightB
  by_cases h : n = 0
  · subst h
    go_enter Tryd.func91, Tryd.ntmps91
    go_wp2_with (go_at_call 84; refine (l00In _ _ _ _).mono ?_; rintro e w' ⟨rfl, rfl⟩)
    go_ret
    exact ⟨rfl, rfl⟩
  · have hz : (n != 0) = true := by simpa using h
    go_enter Tryd.func91, Tryd.ntmps91
    go_wp2_with (go_at_call 84; refine (l00In _ _ _ _).mono ?_; rintro e w' ⟨rfl, rfl⟩)
    go_ret
    exact ⟨by simp [h], rfl⟩
theorem impl_isWeight (n : Int) (w : World) : Calls Tryd.prog 100 #[.int .i64 n] w fun e w' => e = .returned (.bool (weightB n)) ∧ w = w' := by
  unfold weightB
  by_cases h : n = 0
  · subst h
    go_enter Tryd.func100, Tryd.ntmps100
    go_wp2_with (go_at_call 70; refine (within _ _ _ _).mono ?_; rintro e w' ⟨rfl, rfl⟩)
    go_ret
    exact ⟨rfl, rfl⟩
  · have hz : (n != 0) = true := by simpa using h
    go_enter Tryd.func100, Tryd.ntmps100
    go_wp2_with (go_at_call 70; refine (within _ _ _ _).mono ?_; rintro e w' ⟨rfl, rfl⟩)
    go_ret
    exact ⟨by simp [h], rfl⟩
theorem spec_l12One_is {b : Bool} (x : Spot) (a o : Nat) (w : World) (h : spotB x = b) (h0 : w.cell? ⟨a, o, none⟩ = some (.int .i64 x.angle)) (h1 : w.cell? ⟨a, o + 1, none⟩ = some (.int .i64 x.weight)) :
    Calls Tryd.prog 60 #[.pointer (some ⟨a, o, none⟩)] w fun e w' => e = .returned (.bool b) ∧ Below w.heap.size w w' := by
  subst h
  unfold spotB
  cases hA : inB x.angle 0 359
  · go_enter Tryd.func60, Tryd.ntmps60
    go_wp2_with (go_at_call 84; refine (l00In_is _ _ _ _ (by assumption)).mono ?_; rintro e w' ⟨rfl, rfl⟩)
    go_ret
    exact ⟨rfl, by (repeat' (first | (with_reducible exact Below.refl _ _) | (with_reducible assumption) | (with_reducible refine below_dn ?_ _) | (with_reducible refine Below.drew ?_) | (with_reducible refine Below.alloc ?_ ?_ _) | (with_reducible refine Below.setCell ?_ ?_ _) | go_size))⟩
  · go_enter Tryd.func60, Tryd.ntmps60
    go_wp2_with (first | (go_at_call 84; refine (l00In_is _ _ _ _ (by assumption)).mono ?_; rintro e w' ⟨rfl, rfl⟩) | (go_at_call 91; refine (spec_l12Weight _ _).mono ?_; rintro e w' ⟨rfl, rfl⟩))
    go_ret
    exact ⟨by simp, by (repeat' (first | (with_reducible exact Below.refl _ _) | (with_reducible assumption) | (with_reducible refine below_dn ?_ _) | (with_reducible refine Below.drew ?_) | (with_reducible refine Below.alloc ?_ ?_ _) | (with_reducible refine Below.setCell ?_ ?_ _) | go_size))⟩
theorem impl_isSpot_is {b : Bool} (x : Spot) (w : World) (h : spotB x = b) (hx : x.ok) :
    Calls Tryd.prog 66 #[.agg #[.int .i64 x.angle, .int .i64 x.weight]] w fun e w' => e = .returned (.bool b) ∧ Below w.heap.size w w' := by
  subst h
  unfold spotB
  cases hA : inB x.angle 0 359
  · go_enter Tryd.func66, Tryd.ntmps66
    go_wp2_with (go_at_call 70; refine (within_is _ _ _ _ (by assumption)).mono ?_; rintro e w' ⟨rfl, rfl⟩)
    go_ret
    exact ⟨rfl, by (repeat' (first | (with_reducible exact Below.refl _ _) | (with_reducible assumption) | (with_reducible refine below_dn ?_ _) | (with_reducible refine Below.drew ?_) | (with_reducible refine Below.alloc ?_ ?_ _) | (with_reducible refine Below.setCell ?_ ?_ _) | go_size))⟩
  · go_enter Tryd.func66, Tryd.ntmps66
    go_wp2_with (first | (go_at_call 70; refine (within_is _ _ _ _ (by assumption)).mono ?_; rintro e w' ⟨rfl, rfl⟩) | (go_at_call 100; refine (impl_isWeight _ _).mono ?_; rintro e w' ⟨rfl, rfl⟩))
    go_ret
    exact ⟨by simp, by (repeat' (first | (with_reducible exact Below.refl _ _) | (with_reducible assumption) | (with_reducible refine below_dn ?_ _) | (with_reducible refine Below.drew ?_) | (with_reducible refine Below.alloc ?_ ?_ _) | (with_reducible refine Below.setCell ?_ ?_ _) | go_size))⟩
end Go.Proofs.YtldbahcpjhmhpaaDoor
