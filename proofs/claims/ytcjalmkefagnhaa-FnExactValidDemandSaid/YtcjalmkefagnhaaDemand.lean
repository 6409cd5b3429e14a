/- ValidDemand: both sides compute the same. -/
import Derived.Test.YtcjalmkefagnhaaRows
import Derived.Test.YtcjalmkefagnhaaPart
namespace Go.Proofs.Ytcjalmkefagnhaa
open Go.ChangeShapes Go.WideShapes Go.ChangeAt Go.RowKit Go.Deep Go.Joins
set_option linter.unusedVariables false
set_option linter.unusedSimpArgs false
def demandB (x : Demand) : Bool := inB x.least 1 x.most && (decide (x.most ≤ 320000000) && (inB x.minTin 0 x.maxTin && (decide (x.maxTin ≤ 1000000) && inB x.other 0 1000000)))

theorem spec_l13Demand (x : Demand) (a : Nat) (w : World) (h0 : w.cell? ⟨a, 0, none⟩ = some (.int .i64 x.least)) (h1 : w.cell? ⟨a, 1, none⟩ = some (.int .i64 x.most)) (h2 : w.cell? ⟨a, 2, none⟩ = some (.int .i64 x.minTin))
    (h3 : w.cell? ⟨a, 3, none⟩ = some (.int .i64 x.maxTin)) (h4 : w.cell? ⟨a, 4, none⟩ = some (.int .i64 x.other)) :
    Calls Try.prog 23 #[.pointer (some ⟨a, 0, none⟩)] w fun e w' => e = .returned (.bool (demandB x)) ∧ Drew w w' := by
  unfold demandB
  cases hA : inB x.least 1 x.most
  case false =>
    go_enter Try.func23, Try.ntmps23
    go_wp2_with fail
    go_quiet ((go_at_call 30; exact quietE (l00In_is _ _ _ _ (by assumption))))
    go_wp2_with fail
    go_ret
    exact ⟨rfl, _, rfl⟩
  by_cases h5 : x.most ≤ 320000000
  case neg =>
    have h5' : decide (x.most ≤ 320000000) = false := by simpa using h5
    go_enter Try.func23, Try.ntmps23
    go_wp2_with fail
    go_quiet ((go_at_call 30; exact quietE (l00In_is _ _ _ _ (by assumption))))
    go_wp2_with fail
    go_ret
    exact ⟨by simp [h5'], _, rfl⟩
  cases hB : inB x.minTin 0 x.maxTin
  case false =>
    go_enter Try.func23, Try.ntmps23
    go_wp2_with fail
    go_quiet ((go_at_call 30; exact quietE (l00In_is _ _ _ _ (by assumption))))
    go_wp2_with fail
    go_ret
    exact ⟨by simp, _, rfl⟩
  by_cases h6 : x.maxTin ≤ 1000000
  case neg =>
    have h6' : decide (x.maxTin ≤ 1000000) = false := by simpa using h6
    go_enter Try.func23, Try.ntmps23
    go_wp2_with fail
    go_quiet ((go_at_call 30; exact quietE (l00In_is _ _ _ _ (by assumption))))
    go_wp2_with fail
    go_ret
    exact ⟨by simp [h6'], _, rfl⟩
  go_enter Try.func23, Try.ntmps23
  go_wp2_with fail
  go_quiet ((go_at_call 30; exact quietE (l00In _ _ _ _)))
  go_wp2_with fail
  go_ret
  exact ⟨by simp [h5, h6], _, rfl⟩

theorem spec_ValidDemand (x : Demand) (w : World) :
    Calls Try.prog 11 #[.agg #[.int .i64 x.least, .int .i64 x.most, .int .i64 x.minTin, .int .i64 x.maxTin, .int .i64 x.other]] w fun e w' => e = .returned (.bool (demandB x)) ∧ Below w.heap.size w w' := by
  go_enter Try.func11, Try.ntmps11
  go_wp2_with (go_at_call 23; go_call (spec_l13Demand x) as e w' ⟨rfl, n, rfl⟩)
  go_ret
  exact ⟨rfl, by (repeat' (first | (with_reducible exact Below.refl _ _) | (with_reducible assumption) | (with_reducible refine below_dn ?_ _) | (with_reducible refine Below.drew ?_) | (with_reducible refine Below.alloc ?_ ?_ _) | (with_reducible refine Below.setCell ?_ ?_ _) | go_size))⟩
theorem toDemand (x : Demand) (w : World) :
    Calls Try.prog 12 #[.agg #[.int .i64 x.least, .int .i64 x.most, .int .i64 x.minTin, .int .i64 x.maxTin, .int .i64 x.other]] w fun e w' => e = .returned (.agg #[.int .i64 x.least, .int .i64 x.most, .int .i64 x.minTin, .int .i64 x.maxTin, .int .i64 x.other]) ∧ Below w.heap.size w w' := by
  go_enter Try.func12, Try.ntmps12
  go_wp2
  go_returns
  exact ⟨rfl, by (repeat' (first | (with_reducible exact Below.refl _ _) | (with_reducible assumption) | (with_reducible refine below_dn ?_ _) | (with_reducible refine Below.drew ?_) | (with_reducible refine Below.alloc ?_ ?_ _) | (with_reducible refine Below.setCell ?_ ?_ _) | go_size))⟩
theorem impl_ValidDemand (x : Demand) (w : World) :
    Calls Try.prog 13 #[.agg #[.int .i64 x.least, .int .i64 x.most, .int .i64 x.minTin, .int .i64 x.maxTin, .int .i64 x.other]] w fun e w' => e = .returned (.bool (demandB x)) ∧ Below w.heap.size w w' := by
  unfold demandB
  go_enter Try.func13, Try.ntmps13
  cases hA : inB x.least 1 x.most
  case false =>
    go_wp2_with (go_at_call 24; refine (within_is _ _ _ _ (by assumption)).mono ?_; rintro e w' ⟨rfl, rfl⟩)
    go_ret
    exact ⟨rfl, by (repeat' (first | (with_reducible exact Below.refl _ _) | (with_reducible assumption) | (with_reducible refine below_dn ?_ _) | (with_reducible refine Below.drew ?_) | (with_reducible refine Below.alloc ?_ ?_ _) | (with_reducible refine Below.setCell ?_ ?_ _) | go_size))⟩
  by_cases h5 : x.most ≤ 320000000
  case neg =>
    have h5' : decide (x.most ≤ 320000000) = false := by simpa using h5
    go_wp2_with (go_at_call 24; refine (within_is _ _ _ _ (by assumption)).mono ?_; rintro e w' ⟨rfl, rfl⟩)
    go_ret
    exact ⟨by simp [h5'], by (repeat' (first | (with_reducible exact Below.refl _ _) | (with_reducible assumption) | (with_reducible refine below_dn ?_ _) | (with_reducible refine Below.drew ?_) | (with_reducible refine Below.alloc ?_ ?_ _) | (with_reducible refine Below.setCell ?_ ?_ _) | go_size))⟩
  cases hB : inB x.minTin 0 x.maxTin
  case false =>
    go_wp2_with (go_at_call 24; refine (within_is _ _ _ _ (by assumption)).mono ?_; rintro e w' ⟨rfl, rfl⟩)
    go_ret
    exact ⟨by simp, by (repeat' (first | (with_reducible exact Below.refl _ _) | (with_reducible assumption) | (with_reducible refine below_dn ?_ _) | (with_reducible refine Below.drew ?_) | (with_reducible refine Below.alloc ?_ ?_ _) | (with_reducible refine Below.setCell ?_ ?_ _) | go_size))⟩
  by_cases h6 : x.maxTin ≤ 1000000
  case neg =>
    have h6' : decide (x.maxTin ≤ 1000000) = false := by simpa using h6
    go_wp2_with (go_at_call 24; refine (within_is _ _ _ _ (by assumption)).mono ?_; rintro e w' ⟨rfl, rfl⟩)
    go_ret
    exact ⟨by simp [h6'], by (repeat' (first | (with_reducible exact Below.refl _ _) | (with_reducible assumption) | (with_reducible refine below_dn ?_ _) | (with_reducible refine Below.drew ?_) | (with_reducible refine Below.alloc ?_ ?_ _) | (with_reducible refine Below.setCell ?_ ?_ _) | go_size))⟩
  go_wp2_with (first | (go_at_call 22; refine (impl_isPart _ _).mono ?_; rintro e w' ⟨rfl, rfl⟩) | (go_at_call 24; refine (within_is _ _ _ _ (by assumption)).mono ?_; rintro e w' ⟨rfl, rfl⟩))
  go_ret
  exact ⟨by simp [h5, h6], by (repeat' (first | (with_reducible exact Below.refl _ _) | (with_reducible assumption) | (with_reducible refine below_dn ?_ _) | (with_reducible refine Below.drew ?_) | (with_reducible refine Below.alloc ?_ ?_ _) | (with_reducible refine Below.setCell ?_ ?_ _) | go_size))⟩

theorem FnExactValidDemand_walk (w : World) (x : Demand) (hx : x.ok) :
    Calls Try.prog 4 #[.agg #[.int .i64 x.least, .int .i64 x.most, .int .i64 x.minTin, .int .i64 x.maxTin, .int .i64 x.other]] w fun e w' => e = .returned (.bool true) ∧ Below w.heap.size w w' := by
  go_enter Try.func4, Try.ntmps4
  go_wp2_with fail
  refine (toDemand x _).mono ?_; rintro e w1 ⟨rfl, b1⟩
  obtain ⟨hc, hf⟩ := bcell b1
  go_wp2_with fail
  clear hc hf
  refine (spec_ValidDemand x _).mono ?_; rintro e w2 ⟨rfl, b2⟩
  have B2 := bnext b1 b2; clear b1 b2
  obtain ⟨hc, hf⟩ := bcell B2
  go_wp2_with fail
  clear hc hf
  refine (toDemand x _).mono ?_; rintro e w3 ⟨rfl, b3⟩
  have B3 := bnext B2 b3; clear B2 b3
  go_wp2_with fail
  refine (impl_ValidDemand x _).mono ?_; rintro e w4 ⟨rfl, b4⟩
  have B4 := bnext B3 b4; clear B3 b4
  go_wp2_with fail
  all_goals go_ret
  all_goals exact ⟨rfl, Below.trans (by (repeat' (first | (with_reducible exact Below.refl _ _) | (with_reducible assumption) | (with_reducible refine below_dn ?_ _) | (with_reducible refine Below.drew ?_) | (with_reducible refine Below.alloc ?_ ?_ _) | (with_reducible refine Below.setCell ?_ ?_ _) | go_size))) (B4.mono (by simp))⟩
end Go.Proofs.Ytcjalmkefagnhaa
