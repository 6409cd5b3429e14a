/- What a spot is: both sides compute the same. -/
import Derived.Test.YtkolgfmjajlpgaaDoorRows
import Derived.Test.YtkolgfmjajlpgaaDoorIn
import Derived.Test.YtkolgfmjajlpgaaDoorCopyInts
namespace Go.Proofs.YtkolgfmjajlpgaaDoor
open Go.ChangeShapes Go.WideShapes Go.ChangeAt Go.RowKit Go.Deep Go.Joins
set_option linter.unusedVariables false
set_option maxRecDepth 100000
set_option linter.unusedSimpArgs false
def weightB (n : Int) : Bool := (n != 0) && inB n (-1000) 1000
def spotB (x : Spot) : Bool := inB x.angle 0 359 && weightB x.weight

theorem spec_l12Weight (n : Int) (w : World) : Calls Tryd.prog 16 #[.int .i64 n] w fun e w' => e = .returned (.bool (weightB n)) ∧ w = w' := by
  unfold weightB
  by_cases h : n = 0
  · subst h
    go_enter Tryd.func16, Tryd.ntmps16
    go_wp2_with (go_at_call 24; refine (l00In _ _ _ _).mono ?_; rintro e w' ⟨rfl, rfl⟩)
    go_ret
    exact ⟨rfl, rfl⟩
  · have hz : (n != 0) = true := by simpa using h
    go_enter Tryd.func16, Tryd.ntmps16
    go_wp2_with (go_at_call 24; refine (l00In _ _ _ _).mono ?_; rintro e w' ⟨rfl, rfl⟩)
    go_ret
    exact ⟨by simp [h], rfl⟩
theorem impl_isWeight (n : Int) (w : World) : Calls Tryd.prog 21 #[.int .i64 n] w fun e w' => e = .returned (.bool (weightB n)) ∧ w = w' := by
  unfold weightB
  by_cases h : n = 0
  · subst h
    go_enter Tryd.func21, Tryd.ntmps21
    go_wp2_with (go_at_call 27; refine (within _ _ _ _).mono ?_; rintro e w' ⟨rfl, rfl⟩)
    go_ret
    exact ⟨rfl, rfl⟩
  · have hz : (n != 0) = true := by simpa using h
    go_enter Tryd.func21, Tryd.ntmps21
    go_wp2_with (go_at_call 27; refine (within _ _ _ _).mono ?_; rintro e w' ⟨rfl, rfl⟩)
    go_ret
    exact ⟨by simp [h], rfl⟩
theorem spec_l12One_is {b : Bool} (x : Spot) (a o : Nat) (w : World) (h : spotB x = b) (h0 : w.cell? ⟨a, o, none⟩ = some (.int .i64 x.angle)) (h1 : w.cell? ⟨a, o + 1, none⟩ = some (.int .i64 x.weight)) :
    Calls Tryd.prog 30 #[.pointer (some ⟨a, o, none⟩)] w fun e w' => e = .returned (.bool b) ∧ Below w.heap.size w w' := by
  subst h
  unfold spotB
  cases hA : inB x.angle 0 359
  · go_enter Tryd.func30, Tryd.ntmps30
    go_wp2_with (go_at_call 24; refine (l00In_is _ _ _ _ (by assumption)).mono ?_; rintro e w' ⟨rfl, rfl⟩)
    go_ret
    exact ⟨rfl, by (repeat' (first | (with_reducible exact Below.refl _ _) | (with_reducible assumption) | (with_reducible refine below_dn ?_ _) | (with_reducible refine Below.drew ?_) | (with_reducible refine Below.alloc ?_ ?_ _) | (with_reducible refine Below.setCell ?_ ?_ _) | go_size))⟩
  · go_enter Tryd.func30, Tryd.ntmps30
    go_wp2_with (first | (go_at_call 24; refine (l00In_is _ _ _ _ (by assumption)).mono ?_; rintro e w' ⟨rfl, rfl⟩) | (go_at_call 16; refine (spec_l12Weight _ _).mono ?_; rintro e w' ⟨rfl, rfl⟩))
    go_ret
    exact ⟨by simp, by (repeat' (first | (with_reducible exact Below.refl _ _) | (with_reducible assumption) | (with_reducible refine below_dn ?_ _) | (with_reducible refine Below.drew ?_) | (with_reducible refine Below.alloc ?_ ?_ _) | (with_reducible refine Below.setCell ?_ ?_ _) | go_size))⟩
theorem impl_isSpot_is {b : Bool} (x : Spot) (w : World) (h : spotB x = b) (hx : x.ok) :
    Calls Tryd.prog 37 #[.agg #[.int .i64 x.angle, .int .i64 x.weight]] w fun e w' => e = .returned (.bool b) ∧ Below w.heap.size w w' := by
  subst h
  unfold spotB
  cases hA : inB x.angle 0 359
  · go_enter Tryd.func37, Tryd.ntmps37
    go_wp2_with (go_at_call 27; refine (within_is _ _ _ _ (by assumption)).mono ?_; rintro e w' ⟨rfl, rfl⟩)
    go_ret
    exact ⟨rfl, by (repeat' (first | (with_reducible exact Below.refl _ _) | (with_reducible assumption) | (with_reducible refine below_dn ?_ _) | (with_reducible refine Below.drew ?_) | (with_reducible refine Below.alloc ?_ ?_ _) | (with_reducible refine Below.setCell ?_ ?_ _) | go_size))⟩
  · go_enter Tryd.func37, Tryd.ntmps37
    go_wp2_with (first | (go_at_call 27; refine (within_is _ _ _ _ (by assumption)).mono ?_; rintro e w' ⟨rfl, rfl⟩) | (go_at_call 21; refine (impl_isWeight _ _).mono ?_; rintro e w' ⟨rfl, rfl⟩))
    go_ret
    exact ⟨by simp, by (repeat' (first | (with_reducible exact Below.refl _ _) | (with_reducible assumption) | (with_reducible refine below_dn ?_ _) | (with_reducible refine Below.drew ?_) | (with_reducible refine Below.alloc ?_ ?_ _) | (with_reducible refine Below.setCell ?_ ?_ _) | go_size))⟩
end Go.Proofs.YtkolgfmjajlpgaaDoor
