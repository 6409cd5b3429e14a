/- ValidAlloy: both sides compute the same. -/
import Derived.Test.YtklgkbiobggbiaaDoorRows
import Derived.Test.YtklgkbiobggbiaaDoorPart
namespace Go.Proofs.YtklgkbiobggbiaaDoor
open Go.ChangeShapes Go.WideShapes Go.ChangeAt Go.RowKit Go.Deep Go.Joins
set_option linter.unusedVariables false
set_option maxRecDepth 100000
set_option linter.unusedSimpArgs false
def alloyB (x : Alloy) : Bool := inB x.copper 0 1000000 && (inB x.tin 0 1000000 && (inB x.other 0 1000000 && decide (x.copper + x.tin + x.other = 1000000)))

theorem spec_l13Alloy (x : Alloy) (a : Nat) (w : World) (h0 : w.cell? ⟨a, 0, none⟩ = some (.int .i64 x.copper)) (h1 : w.cell? ⟨a, 1, none⟩ = some (.int .i64 x.tin)) (h2 : w.cell? ⟨a, 2, none⟩ = some (.int .i64 x.other)) :
    Calls Tryd.prog 65 #[.pointer (some ⟨a, 0, none⟩)] w fun e w' => e = .returned (.bool (alloyB x)) ∧ Drew w w' := by
  unfold alloyB
  cases hA : inB x.copper 0 1000000
  · go_enter Tryd.func65, Tryd.ntmps65
    go_wp2_with fail
    go_quiet ((go_at_call 87; exact quietE (l00In_is _ _ _ _ (by assumption))))
    go_wp2_with fail
    go_ret
    exact ⟨rfl, _, rfl⟩
  · cases hB : inB x.tin 0 1000000
    · go_enter Tryd.func65, Tryd.ntmps65
      go_wp2_with fail
      go_quiet ((go_at_call 87; exact quietE (l00In_is _ _ _ _ (by assumption))))
      go_wp2_with fail
      go_ret
      exact ⟨rfl, _, rfl⟩
    · cases hC : inB x.other 0 1000000
      · go_enter Tryd.func65, Tryd.ntmps65
        go_wp2_with fail
        go_quiet ((go_at_call 87; exact quietE (l00In_is _ _ _ _ (by assumption))))
        go_wp2_with fail
        go_ret
        exact ⟨rfl, _, rfl⟩
      · have a1 := inB_true hA
        have a2 := inB_true hB
        have a3 := inB_true hC
        go_enter Tryd.func65, Tryd.ntmps65
        go_wp2_with fail
        go_quiet ((go_at_call 87; exact quietE (l00In_is _ _ _ _ (by assumption))))
        go_wp2_with fail
        go_ret
        exact ⟨by simp [Bool.beq_eq_decide_eq]; try rfl, _, rfl⟩

theorem spec_ValidAlloy (x : Alloy) (w : World) :
    Calls Tryd.prog 29 #[.agg #[.int .i64 x.copper, .int .i64 x.tin, .int .i64 x.other]] w fun e w' => e = .returned (.bool (alloyB x)) ∧ Below w.heap.size w w' := by
  go_enter Tryd.func29, Tryd.ntmps29
  go_wp2_with (go_at_call 65; go_call (spec_l13Alloy x) as e w' ⟨rfl, n, rfl⟩)
  go_ret
  exact ⟨rfl, by (repeat' (first | (with_reducible exact Below.refl _ _) | (with_reducible assumption) | (with_reducible refine below_dn ?_ _) | (with_reducible refine Below.drew ?_) | (with_reducible refine Below.alloc ?_ ?_ _) | (with_reducible refine Below.setCell ?_ ?_ _) | go_size))⟩
theorem impl_ValidAlloy (x : Alloy) (w : World) :
    Calls Tryd.prog 64 #[.agg #[.int .i64 x.copper, .int .i64 x.tin, .int .i64 x.other]] w fun e w' => e = .returned (.bool (alloyB x)) ∧ Below w.heap.size w w' := by
  unfold alloyB
  go_enter Tryd.func64, Tryd.ntmps64
  cases hA : inB x.copper 0 1000000
  · go_wp2_with (go_at_call 102; refine (impl_isPart_is _ _ (by assumption)).mono ?_; rintro e w' ⟨rfl, rfl⟩)
    go_ret
    exact ⟨rfl, by (repeat' (first | (with_reducible exact Below.refl _ _) | (with_reducible assumption) | (with_reducible refine below_dn ?_ _) | (with_reducible refine Below.drew ?_) | (with_reducible refine Below.alloc ?_ ?_ _) | (with_reducible refine Below.setCell ?_ ?_ _) | go_size))⟩
  · cases hB : inB x.tin 0 1000000
    · go_wp2_with (go_at_call 102; refine (impl_isPart_is _ _ (by assumption)).mono ?_; rintro e w' ⟨rfl, rfl⟩)
      go_ret
      exact ⟨rfl, by (repeat' (first | (with_reducible exact Below.refl _ _) | (with_reducible assumption) | (with_reducible refine below_dn ?_ _) | (with_reducible refine Below.drew ?_) | (with_reducible refine Below.alloc ?_ ?_ _) | (with_reducible refine Below.setCell ?_ ?_ _) | go_size))⟩
    · cases hC : inB x.other 0 1000000
      · go_wp2_with (go_at_call 102; refine (impl_isPart_is _ _ (by assumption)).mono ?_; rintro e w' ⟨rfl, rfl⟩)
        go_ret
        exact ⟨rfl, by (repeat' (first | (with_reducible exact Below.refl _ _) | (with_reducible assumption) | (with_reducible refine below_dn ?_ _) | (with_reducible refine Below.drew ?_) | (with_reducible refine Below.alloc ?_ ?_ _) | (with_reducible refine Below.setCell ?_ ?_ _) | go_size))⟩
      · have a1 := inB_true hA
        have a2 := inB_true hB
        have a3 := inB_true hC
        go_wp2_with (go_at_call 102; refine (impl_isPart_is _ _ (by assumption)).mono ?_; rintro e w' ⟨rfl, rfl⟩)
        go_ret
        exact ⟨by simp [Bool.beq_eq_decide_eq]; try rfl, by (repeat' (first | (with_reducible exact Below.refl _ _) | (with_reducible assumption) | (with_reducible refine below_dn ?_ _) | (with_reducible refine Below.drew ?_) | (with_reducible refine Below.alloc ?_ ?_ _) | (with_reducible refine Below.setCell ?_ ?_ _) | go_size))⟩
end Go.Proofs.YtklgkbiobggbiaaDoor
