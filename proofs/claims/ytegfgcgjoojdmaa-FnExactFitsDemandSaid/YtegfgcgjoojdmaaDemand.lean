/- ValidDemand: both sides compute the same. -/
import Derived.Test.YtegfgcgjoojdmaaRows
import Derived.Test.YtegfgcgjoojdmaaPart
namespace Go.Proofs.Ytegfgcgjoojdmaa
open Go.ChangeShapes Go.WideShapes Go.ChangeAt Go.RowKit Go.Deep Go.Joins
set_option linter.unusedVariables false
set_option maxRecDepth 100000
set_option linter.unusedSimpArgs false
def demandB (x : Demand) : Bool := inB x.least 1 x.most && (decide (x.most ≤ 320000000) && (inB x.minTin 0 x.maxTin && (decide (x.maxTin ≤ 1000000) && inB x.other 0 1000000)))

theorem spec_l13Demand (x : Demand) (a : Nat) (w : World) (h0 : w.cell? ⟨a, 0, none⟩ = some (.int .i64 x.least)) (h1 : w.cell? ⟨a, 1, none⟩ = some (.int .i64 x.most)) (h2 : w.cell? ⟨a, 2, none⟩ = some (.int .i64 x.minTin))
    (h3 : w.cell? ⟨a, 3, none⟩ = some (.int .i64 x.maxTin)) (h4 : w.cell? ⟨a, 4, none⟩ = some (.int .i64 x.other)) :
    Calls Try.prog 100 #[.pointer (some ⟨a, 0, none⟩)] w fun e w' => e = .returned (.bool (demandB x)) ∧ Drew w w' := by
  unfold demandB
  cases hA : inB x.least 1 x.most
  case false =>
    go_enter Try.func100, Try.ntmps100
    go_wp2_with fail
    go_quiet ((go_at_call 93; exact quietE (l00In_is _ _ _ _ (by assumption))))
    go_wp2_with fail
    go_ret
    exact ⟨rfl, _, rfl⟩
  by_cases h5 : x.most ≤ 320000000
  case neg =>
    have h5' : decide (x.most ≤ 320000000) = false := by simpa using h5
    go_enter Try.func100, Try.ntmps100
    go_wp2_with fail
    go_quiet ((go_at_call 93; exact quietE (l00In_is _ _ _ _ (by assumption))))
    go_wp2_with fail
    go_ret
    exact ⟨by simp [h5'], _, rfl⟩
  cases hB : inB x.minTin 0 x.maxTin
  case false =>
    go_enter Try.func100, Try.ntmps100
    go_wp2_with fail
    go_quiet ((go_at_call 93; exact quietE (l00In_is _ _ _ _ (by assumption))))
    go_wp2_with fail
    go_ret
    exact ⟨by simp, _, rfl⟩
  by_cases h6 : x.maxTin ≤ 1000000
  case neg =>
    have h6' : decide (x.maxTin ≤ 1000000) = false := by simpa using h6
    go_enter Try.func100, Try.ntmps100
    go_wp2_with fail
    go_quiet ((go_at_call 93; exact quietE (l00In_is _ _ _ _ (by assumption))))
    go_wp2_with fail
    go_ret
    exact ⟨by simp [h6'], _, rfl⟩
  go_enter Try.func100, Try.ntmps100
  go_wp2_with fail
  go_quiet ((go_at_call 93; exact quietE (l00In _ _ _ _)))
  go_wp2_with fail
  go_ret
  exact ⟨by simp [h5, h6], _, rfl⟩

theorem toDemand (x : Demand) (w : World) :
    Calls Try.prog 38 #[.agg #[.int .i64 x.least, .int .i64 x.most, .int .i64 x.minTin, .int .i64 x.maxTin, .int .i64 x.other]] w fun e w' => e = .returned (.agg #[.int .i64 x.least, .int .i64 x.most, .int .i64 x.minTin, .int .i64 x.maxTin, .int .i64 x.other]) ∧ Below w.heap.size w w' := by
  go_enter Try.func38, Try.ntmps38
  go_wp2
  go_returns
  exact ⟨rfl, by (repeat' (first | (with_reducible exact Below.refl _ _) | (with_reducible assumption) | (with_reducible refine below_dn ?_ _) | (with_reducible refine Below.drew ?_) | (with_reducible refine Below.alloc ?_ ?_ _) | (with_reducible refine Below.setCell ?_ ?_ _) | go_size))⟩
theorem impl_ValidDemand (x : Demand) (w : World) :
    Calls Try.prog 106 #[.agg #[.int .i64 x.least, .int .i64 x.most, .int .i64 x.minTin, .int .i64 x.maxTin, .int .i64 x.other]] w fun e w' => e = .returned (.bool (demandB x)) ∧ Below w.heap.size w w' := by
  unfold demandB
  go_enter Try.func106, Try.ntmps106
  cases hA : inB x.least 1 x.most
  case false =>
    go_wp2_with (go_at_call 116; refine (within_is _ _ _ _ (by assumption)).mono ?_; rintro e w' ⟨rfl, rfl⟩)
    go_ret
    exact ⟨rfl, by (repeat' (first | (with_reducible exact Below.refl _ _) | (with_reducible assumption) | (with_reducible refine below_dn ?_ _) | (with_reducible refine Below.drew ?_) | (with_reducible refine Below.alloc ?_ ?_ _) | (with_reducible refine Below.setCell ?_ ?_ _) | go_size))⟩
  by_cases h5 : x.most ≤ 320000000
  case neg =>
    have h5' : decide (x.most ≤ 320000000) = false := by simpa using h5
    go_wp2_with (go_at_call 116; refine (within_is _ _ _ _ (by assumption)).mono ?_; rintro e w' ⟨rfl, rfl⟩)
    go_ret
    exact ⟨by simp [h5'], by (repeat' (first | (with_reducible exact Below.refl _ _) | (with_reducible assumption) | (with_reducible refine below_dn ?_ _) | (with_reducible refine Below.drew ?_) | (with_reducible refine Below.alloc ?_ ?_ _) | (with_reducible refine Below.setCell ?_ ?_ _) | go_size))⟩
  cases hB : inB x.minTin 0 x.maxTin
  case false =>
    go_wp2_with (go_at_call 116; refine (within_is _ _ _ _ (by assumption)).mono ?_; rintro e w' ⟨rfl, rfl⟩)
    go_ret
    exact ⟨by simp, by (repeat' (first | (with_reducible exact Below.refl _ _) | (with_reducible assumption) | (with_reducible refine below_dn ?_ _) | (with_reducible refine Below.drew ?_) | (with_reducible refine Below.alloc ?_ ?_ _) | (with_reducible refine Below.setCell ?_ ?_ _) | go_size))⟩
  by_cases h6 : x.maxTin ≤ 1000000
  case neg =>
    have h6' : decide (x.maxTin ≤ 1000000) = false := by simpa using h6
    go_wp2_with (go_at_call 116; refine (within_is _ _ _ _ (by assumption)).mono ?_; rintro e w' ⟨rfl, rfl⟩)
    go_ret
    exact ⟨by simp [h6'], by (repeat' (first | (with_reducible exact Below.refl _ _) | (with_reducible assumption) | (with_reducible refine below_dn ?_ _) | (with_reducible refine Below.drew ?_) | (with_reducible refine Below.alloc ?_ ?_ _) | (with_reducible refine Below.setCell ?_ ?_ _) | go_size))⟩
  go_wp2_with (first | (go_at_call 165; refine (impl_isPart _ _).mono ?_; rintro e w' ⟨rfl, rfl⟩) | (go_at_call 116; refine (within_is _ _ _ _ (by assumption)).mono ?_; rintro e w' ⟨rfl, rfl⟩))
  go_ret
  exact ⟨by simp [h5, h6], by (repeat' (first | (with_reducible exact Below.refl _ _) | (with_reducible assumption) | (with_reducible refine below_dn ?_ _) | (with_reducible refine Below.drew ?_) | (with_reducible refine Below.alloc ?_ ?_ _) | (with_reducible refine Below.setCell ?_ ?_ _) | go_size))⟩
end Go.Proofs.Ytegfgcgjoojdmaa
