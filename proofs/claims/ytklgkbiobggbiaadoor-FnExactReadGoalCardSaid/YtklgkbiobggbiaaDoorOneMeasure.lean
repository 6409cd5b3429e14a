/- What a measurement is: both sides compute the same. -/
import Derived.Test.YtklgkbiobggbiaaDoorRows
import Derived.Test.YtklgkbiobggbiaaDoorNameIs
import Derived.Test.YtklgkbiobggbiaaDoorIn
namespace Go.Proofs.YtklgkbiobggbiaaDoor
open Go.ChangeShapes Go.WideShapes Go.ChangeAt Go.RowKit Go.Deep Go.Joins
set_option linter.unusedVariables false
set_option maxRecDepth 100000
set_option linter.unusedSimpArgs false
def measureB (x : Measure) : Bool := nameB x.bell && (inB x.part 1 5 && inB x.value 10000 20000000)

theorem spec_l04Partial_is {b : Bool} (n : Int) (w : World) (h : inB n 1 5 = b) : Calls Tryd.prog 107 #[.int .i64 n] w fun e w' => e = .returned (.bool b) ∧ w = w' := by
  go_enter Tryd.func107, Tryd.ntmps107
  go_wp2_with (go_at_call 87; refine (l00In_is _ _ _ _ (by assumption)).mono ?_; rintro e w' ⟨rfl, rfl⟩)
  go_ret
  exact ⟨rfl, rfl⟩
theorem spec_l02Ok_is {b : Bool} (n : Int) (w : World) (h : inB n 10000 20000000 = b) : Calls Tryd.prog 106 #[.int .i64 n] w fun e w' => e = .returned (.bool b) ∧ w = w' := by
  go_enter Tryd.func106, Tryd.ntmps106
  go_wp2_with (go_at_call 87; refine (l00In_is _ _ _ _ (by assumption)).mono ?_; rintro e w' ⟨rfl, rfl⟩)
  go_ret
  exact ⟨rfl, rfl⟩
theorem impl_isPartial_is {b : Bool} (n : Int) (w : World) (h : inB n 1 5 = b) : Calls Tryd.prog 75 #[.int .i64 n] w fun e w' => e = .returned (.bool b) ∧ w = w' := by
  go_enter Tryd.func75, Tryd.ntmps75
  go_wp2_with (go_at_call 70; refine (within_is _ _ _ _ (by assumption)).mono ?_; rintro e w' ⟨rfl, rfl⟩)
  go_ret
  exact ⟨rfl, rfl⟩
theorem impl_IsFrequency_is {b : Bool} (n : Int) (w : World) (h : inB n 10000 20000000 = b) : Calls Tryd.prog 77 #[.int .i64 n] w fun e w' => e = .returned (.bool b) ∧ w = w' := by
  go_enter Tryd.func77, Tryd.ntmps77
  go_wp2_with (go_at_call 70; refine (within_is _ _ _ _ (by assumption)).mono ?_; rintro e w' ⟨rfl, rfl⟩)
  go_ret
  exact ⟨rfl, rfl⟩

theorem spec_l11One_is {b : Bool} (x : Measure) (a o : Nat) (w : World) (h : measureB x = b) (h0 : w.cell? ⟨a, o, none⟩ = some (.string x.bell)) (h1 : w.cell? ⟨a, o + 1, none⟩ = some (.int .i64 x.part)) (h2 : w.cell? ⟨a, o + 2, none⟩ = some (.int .i64 x.value)) (hx : x.ok) :
    Calls Tryd.prog 73 #[.pointer (some ⟨a, o, none⟩)] w fun e w' => e = .returned (.bool b) ∧ Below w.heap.size w w' := by
  subst h
  have hn := Lib.hid hx.1
  clear hx
  unfold measureB
  cases hN : nameB x.bell
  case false =>
    go_enter Tryd.func73, Tryd.ntmps73
    go_wp2_with (first | (go_at_call 103; refine (spec_l01Name_is _ _ hn.out (by assumption)).mono ?_; rintro e w' ⟨rfl, rfl⟩))
    go_ret
    exact ⟨rfl, by (repeat' (first | (with_reducible exact Below.refl _ _) | (with_reducible assumption) | (with_reducible refine below_dn ?_ _) | (with_reducible refine Below.drew ?_) | (with_reducible refine Below.alloc ?_ ?_ _) | (with_reducible refine Below.setCell ?_ ?_ _) | go_size))⟩
  cases hA : inB x.part 1 5
  case false =>
    go_enter Tryd.func73, Tryd.ntmps73
    go_wp2_with (first | (go_at_call 103; refine (spec_l01Name_is _ _ hn.out (by assumption)).mono ?_; rintro e w' ⟨rfl, rfl⟩) | (go_at_call 107; refine (spec_l04Partial_is _ _ (by assumption)).mono ?_; rintro e w' ⟨rfl, rfl⟩))
    go_ret
    exact ⟨rfl, by (repeat' (first | (with_reducible exact Below.refl _ _) | (with_reducible assumption) | (with_reducible refine below_dn ?_ _) | (with_reducible refine Below.drew ?_) | (with_reducible refine Below.alloc ?_ ?_ _) | (with_reducible refine Below.setCell ?_ ?_ _) | go_size))⟩
  cases hV : inB x.value 10000 20000000
  all_goals
    go_enter Tryd.func73, Tryd.ntmps73
    go_wp2_with (first | (go_at_call 103; refine (spec_l01Name_is _ _ hn.out (by assumption)).mono ?_; rintro e w' ⟨rfl, rfl⟩) | (go_at_call 107; refine (spec_l04Partial_is _ _ (by assumption)).mono ?_; rintro e w' ⟨rfl, rfl⟩) | (go_at_call 106; refine (spec_l02Ok_is _ _ (by assumption)).mono ?_; rintro e w' ⟨rfl, rfl⟩))
    go_ret
    exact ⟨rfl, by (repeat' (first | (with_reducible exact Below.refl _ _) | (with_reducible assumption) | (with_reducible refine below_dn ?_ _) | (with_reducible refine Below.drew ?_) | (with_reducible refine Below.alloc ?_ ?_ _) | (with_reducible refine Below.setCell ?_ ?_ _) | go_size))⟩

theorem impl_validMeasure_is {b : Bool} (x : Measure) (w : World) (h : measureB x = b) (hx : x.ok) :
    Calls Tryd.prog 39 #[.agg #[.string x.bell, .int .i64 x.part, .int .i64 x.value]] w fun e w' => e = .returned (.bool b) ∧ Below w.heap.size w w' := by
  subst h
  have hn := Lib.hid hx.1
  clear hx
  unfold measureB
  cases hN : nameB x.bell
  case false =>
    go_enter Tryd.func39, Tryd.ntmps39
    go_wp2_with fail
    refine (impl_IsName_is _ _ hn.out (by assumption)).mono ?_; rintro e w1 ⟨rfl, b1⟩
    go_wp2_with fail
    go_ret
    exact ⟨rfl, Below.trans (by (repeat' (first | (with_reducible exact Below.refl _ _) | (with_reducible assumption) | (with_reducible refine below_dn ?_ _) | (with_reducible refine Below.drew ?_) | (with_reducible refine Below.alloc ?_ ?_ _) | (with_reducible refine Below.setCell ?_ ?_ _) | go_size))) (b1.mono (by simp))⟩
  cases hA : inB x.part 1 5
  case false =>
    go_enter Tryd.func39, Tryd.ntmps39
    go_wp2_with fail
    refine (impl_IsName_is _ _ hn.out (by assumption)).mono ?_; rintro e w1 ⟨rfl, b1⟩
    obtain ⟨hc, hf⟩ := bcell b1
    go_wp2_with (go_at_call 75; refine (impl_isPartial_is _ _ (by assumption)).mono ?_; rintro e w' ⟨rfl, rfl⟩)
    go_ret
    exact ⟨rfl, Below.trans (by (repeat' (first | (with_reducible exact Below.refl _ _) | (with_reducible assumption) | (with_reducible refine below_dn ?_ _) | (with_reducible refine Below.drew ?_) | (with_reducible refine Below.alloc ?_ ?_ _) | (with_reducible refine Below.setCell ?_ ?_ _) | go_size))) (b1.mono (by simp))⟩
  cases hV : inB x.value 10000 20000000
  all_goals
    go_enter Tryd.func39, Tryd.ntmps39
    go_wp2_with fail
    refine (impl_IsName_is _ _ hn.out (by assumption)).mono ?_; rintro e w1 ⟨rfl, b1⟩
    obtain ⟨hc, hf⟩ := bcell b1
    go_wp2_with (first | (go_at_call 75; refine (impl_isPartial_is _ _ (by assumption)).mono ?_; rintro e w' ⟨rfl, rfl⟩) | (go_at_call 77; refine (impl_IsFrequency_is _ _ (by assumption)).mono ?_; rintro e w' ⟨rfl, rfl⟩))
    go_ret
    exact ⟨rfl, Below.trans (by (repeat' (first | (with_reducible exact Below.refl _ _) | (with_reducible assumption) | (with_reducible refine below_dn ?_ _) | (with_reducible refine Below.drew ?_) | (with_reducible refine Below.alloc ?_ ?_ _) | (with_reducible refine Below.setCell ?_ ?_ _) | go_size))) (b1.mono (by simp))⟩
end Go.Proofs.YtklgkbiobggbiaaDoor
