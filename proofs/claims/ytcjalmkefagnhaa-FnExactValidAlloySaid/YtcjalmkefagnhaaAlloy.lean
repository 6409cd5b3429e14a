/- ValidAlloy: both sides compute the same. -/
import Derived.Test.YtcjalmkefagnhaaRows
import Derived.Test.YtcjalmkefagnhaaPart
namespace Go.Proofs.Ytcjalmkefagnhaa
open Go.ChangeShapes Go.WideShapes Go.ChangeAt Go.RowKit Go.Deep Go.Joins
set_option linter.unusedVariables false
set_option linter.unusedSimpArgs false
def alloyB (x : Alloy) : Bool := inB x.copper 0 1000000 && (inB x.tin 0 1000000 && (inB x.other 0 1000000 && decide (x.copper + x.tin + x.other = 1000000)))

theorem spec_l13Alloy (x : Alloy) (a : Nat) (w : World) (h0 : w.cell? ⟨a, 0, none⟩ = some (.int .i64 x.copper)) (h1 : w.cell? ⟨a, 1, none⟩ = some (.int .i64 x.tin)) (h2 : w.cell? ⟨a, 2, none⟩ = some (.int .i64 x.other)) :
    Calls Try.prog 21 #[.pointer (some ⟨a, 0, none⟩)] w fun e w' => e = .returned (.bool (alloyB x)) ∧ Drew w w' := by
  unfold alloyB
  cases hA : inB x.copper 0 1000000
  · go_enter Try.func21, Try.ntmps21
    go_wp2_with fail
    go_quiet ((go_at_call 30; exact quietE (l00In_is _ _ _ _ (by assumption))))
    go_wp2_with fail
    go_ret
    exact ⟨rfl, _, rfl⟩
  · cases hB : inB x.tin 0 1000000
    · go_enter Try.func21, Try.ntmps21
      go_wp2_with fail
      go_quiet ((go_at_call 30; exact quietE (l00In_is _ _ _ _ (by assumption))))
      go_wp2_with fail
      go_ret
      exact ⟨rfl, _, rfl⟩
    · cases hC : inB x.other 0 1000000
      · go_enter Try.func21, Try.ntmps21
        go_wp2_with fail
        go_quiet ((go_at_call 30; exact quietE (l00In_is _ _ _ _ (by assumption))))
        go_wp2_with fail
        go_ret
        exact ⟨rfl, _, rfl⟩
      · have a1 := inB_true hA
        have a2 := inB_true hB
        have a3 := inB_true hC
        go_enter Try.func21, Try.ntmps21
        go_wp2_with fail
        go_quiet ((go_at_call 30; exact quietE (l00In_is _ _ _ _ (by assumption))))
        go_wp2_with fail
        go_ret
        exact ⟨by simp [Bool.beq_eq_decide_eq]; try rfl, _, rfl⟩

theorem spec_ValidAlloy (x : Alloy) (w : World) :
    Calls Try.prog 8 #[.agg #[.int .i64 x.copper, .int .i64 x.tin, .int .i64 x.other]] w fun e w' => e = .returned (.bool (alloyB x)) ∧ Below w.heap.size w w' := by
  go_enter Try.func8, Try.ntmps8
  go_wp2_with (go_at_call 21; go_call (spec_l13Alloy x) as e w' ⟨rfl, n, rfl⟩)
  go_ret
  exact ⟨rfl, by (repeat' (first | (with_reducible exact Below.refl _ _) | (with_reducible assumption) | (with_reducible refine below_dn ?_ _) | (with_reducible refine Below.drew ?_) | (with_reducible refine Below.alloc ?_ ?_ _) | (with_reducible refine Below.setCell ?_ ?_ _) | go_size))⟩
theorem toAlloy (x : Alloy) (w : World) :
    Calls Try.prog 9 #[.agg #[.int .i64 x.copper, .int .i64 x.tin, .int .i64 x.other]] w fun e w' => e = .returned (.agg #[.int .i64 x.copper, .int .i64 x.tin, .int .i64 x.other]) ∧ Below w.heap.size w w' := by
  go_enter Try.func9, Try.ntmps9
  go_wp2
  go_returns
  refine ⟨rfl, ?_⟩
  go_grown
theorem impl_ValidAlloy (x : Alloy) (w : World) :
    Calls Try.prog 10 #[.agg #[.int .i64 x.copper, .int .i64 x.tin, .int .i64 x.other]] w fun e w' => e = .returned (.bool (alloyB x)) ∧ Below w.heap.size w w' := by
  unfold alloyB
  go_enter Try.func10, Try.ntmps10
  cases hA : inB x.copper 0 1000000
  · go_wp2_with (go_at_call 22; refine (impl_isPart_is _ _ (by assumption)).mono ?_; rintro e w' ⟨rfl, rfl⟩)
    go_ret
    exact ⟨rfl, by (repeat' (first | (with_reducible exact Below.refl _ _) | (with_reducible assumption) | (with_reducible refine below_dn ?_ _) | (with_reducible refine Below.drew ?_) | (with_reducible refine Below.alloc ?_ ?_ _) | (with_reducible refine Below.setCell ?_ ?_ _) | go_size))⟩
  · cases hB : inB x.tin 0 1000000
    · go_wp2_with (go_at_call 22; refine (impl_isPart_is _ _ (by assumption)).mono ?_; rintro e w' ⟨rfl, rfl⟩)
      go_ret
      exact ⟨rfl, by (repeat' (first | (with_reducible exact Below.refl _ _) | (with_reducible assumption) | (with_reducible refine below_dn ?_ _) | (with_reducible refine Below.drew ?_) | (with_reducible refine Below.alloc ?_ ?_ _) | (with_reducible refine Below.setCell ?_ ?_ _) | go_size))⟩
    · cases hC : inB x.other 0 1000000
      · go_wp2_with (go_at_call 22; refine (impl_isPart_is _ _ (by assumption)).mono ?_; rintro e w' ⟨rfl, rfl⟩)
        go_ret
        exact ⟨rfl, by (repeat' (first | (with_reducible exact Below.refl _ _) | (with_reducible assumption) | (with_reducible refine below_dn ?_ _) | (with_reducible refine Below.drew ?_) | (with_reducible refine Below.alloc ?_ ?_ _) | (with_reducible refine Below.setCell ?_ ?_ _) | go_size))⟩
      · have a1 := inB_true hA
        have a2 := inB_true hB
        have a3 := inB_true hC
        go_wp2_with (go_at_call 22; refine (impl_isPart_is _ _ (by assumption)).mono ?_; rintro e w' ⟨rfl, rfl⟩)
        go_ret
        exact ⟨by simp [Bool.beq_eq_decide_eq]; try rfl, by (repeat' (first | (with_reducible exact Below.refl _ _) | (with_reducible assumption) | (with_reducible refine below_dn ?_ _) | (with_reducible refine Below.drew ?_) | (with_reducible refine Below.alloc ?_ ?_ _) | (with_reducible refine Below.setCell ?_ ?_ _) | go_size))⟩

theorem FnExactValidAlloy_walk (w : World) (x : Alloy) (hx : x.ok) :
    Calls Try.prog 3 #[.agg #[.int .i64 x.copper, .int .i64 x.tin, .int .i64 x.other]] w fun e w' => e = .returned (.bool true) ∧ Below w.heap.size w w' := by
  go_enter Try.func3, Try.ntmps3
  go_wp2_with fail
  refine (toAlloy x _).mono ?_; rintro e w1 ⟨rfl, b1⟩
  obtain ⟨hc, hf⟩ := bcell b1
  go_wp2_with fail
  clear hc hf
  refine (spec_ValidAlloy x _).mono ?_; rintro e w2 ⟨rfl, b2⟩
  have B2 := bnext b1 b2; clear b1 b2
  obtain ⟨hc, hf⟩ := bcell B2
  go_wp2_with fail
  clear hc hf
  refine (toAlloy x _).mono ?_; rintro e w3 ⟨rfl, b3⟩
  have B3 := bnext B2 b3; clear B2 b3
  go_wp2_with fail
  refine (impl_ValidAlloy x _).mono ?_; rintro e w4 ⟨rfl, b4⟩
  have B4 := bnext B3 b4; clear B3 b4
  go_wp2_with fail
  all_goals go_ret
  all_goals exact ⟨rfl, Below.trans (by (repeat' (first | (with_reducible exact Below.refl _ _) | (with_reducible assumption) | (with_reducible refine below_dn ?_ _) | (with_reducible refine Below.drew ?_) | (with_reducible refine Below.alloc ?_ ?_ _) | (with_reducible refine Below.setCell ?_ ?_ _) | go_size))) (B4.mono (by simp))⟩
end Go.Proofs.Ytcjalmkefagnhaa
