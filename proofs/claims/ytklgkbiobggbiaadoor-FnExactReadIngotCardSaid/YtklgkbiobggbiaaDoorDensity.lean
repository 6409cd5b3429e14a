/- DensityOf: both sides compute the same. -/
import Derived.Test.YtklgkbiobggbiaaDoorRows
import Derived.Test.YtklgkbiobggbiaaDoorAlloy
import Derived.Test.YtklgkbiobggbiaaDoorRound
namespace Go.Proofs.YtklgkbiobggbiaaDoor
open Go.ChangeShapes Go.WideShapes Go.ChangeAt Go.RowKit Go.Deep Go.Joins
set_option linter.unusedVariables false
set_option maxRecDepth 100000
set_option linter.unusedSimpArgs false
def densS (x : Alloy) : Int × Int := if alloyB x then (divR (8960 * x.copper + 7310 * x.tin + 8000 * x.other) 1000000, 0) else (0, 1)
theorem alloyB_true {x : Alloy} (h : alloyB x = true) : (0 ≤ x.copper ∧ x.copper ≤ 1000000) ∧ (0 ≤ x.tin ∧ x.tin ≤ 1000000) ∧ (0 ≤ x.other ∧ x.other ≤ 1000000) ∧ x.copper + x.tin + x.other = 1000000 := by
  simp only [alloyB, Bool.and_eq_true, decide_eq_true_eq] at h
  exact ⟨inB_true h.1, inB_true h.2.1, inB_true h.2.2.1, h.2.2.2⟩
theorem impl_ValidAlloy_is {b : Bool} (x : Alloy) (w : World) (h : alloyB x = b) :
    Calls Tryd.prog 64 #[.agg #[.int .i64 x.copper, .int .i64 x.tin, .int .i64 x.other]] w fun e w' => e = .returned (.bool b) ∧ Below w.heap.size w w' := by
  rw [← h]; exact impl_ValidAlloy x w
theorem spec_l13Alloy_is {b : Bool} (x : Alloy) (a : Nat) (w : World) (h : alloyB x = b) (h0 : w.cell? ⟨a, 0, none⟩ = some (.int .i64 x.copper)) (h1 : w.cell? ⟨a, 1, none⟩ = some (.int .i64 x.tin)) (h2 : w.cell? ⟨a, 2, none⟩ = some (.int .i64 x.other)) :
    Calls Tryd.prog 65 #[.pointer (some ⟨a, 0, none⟩)] w fun e w' => e = .returned (.bool b) ∧ Drew w w' := by
  rw [← h]; exact spec_l13Alloy x a w h0 h1 h2

theorem impl_DensityOf (x : Alloy) (w : World) : Calls Tryd.prog 28 #[.agg #[.int .i64 x.copper, .int .i64 x.tin, .int .i64 x.other]] w fun e w' => e = .returned (.tuple #[.int .i64 (densS x).1, .int .i64 (densS x).2]) ∧ Below w.heap.size w w' := by
  unfold densS
  cases h : alloyB x
  · go_enter Tryd.func28, Tryd.ntmps28
    go_wp2_with fail
    refine (impl_ValidAlloy_is x _ h).mono ?_; rintro e w1 ⟨rfl, b1⟩
    go_wp2_with fail
    go_ret2
    exact ⟨rfl, Below.trans (by (repeat' (first | (with_reducible exact Below.refl _ _) | (with_reducible assumption) | (with_reducible refine below_dn ?_ _) | (with_reducible refine Below.drew ?_) | (with_reducible refine Below.alloc ?_ ?_ _) | (with_reducible refine Below.setCell ?_ ?_ _) | go_size))) (b1.mono (by simp))⟩
  · obtain ⟨⟨a1, a2⟩, ⟨a3, a4⟩, ⟨a5, a6⟩, a7⟩ := alloyB_true h
    go_enter Tryd.func28, Tryd.ntmps28
    clear a7
    go_wp2_with fail
    refine (impl_ValidAlloy_is x _ h).mono ?_; rintro e w1 ⟨rfl, b1⟩
    obtain ⟨hc, hf⟩ := bcell b1
    go_wp2_with (go_at_call 59; refine (impl_nearest _ _ _ (by omega) (by omega) (by omega) (by omega)).mono ?_; rintro e w' ⟨rfl, n, rfl⟩)
    go_ret2
    exact ⟨rfl, below_dn (Below.trans (by (repeat' (first | (with_reducible exact Below.refl _ _) | (with_reducible assumption) | (with_reducible refine below_dn ?_ _) | (with_reducible refine Below.drew ?_) | (with_reducible refine Below.alloc ?_ ?_ _) | (with_reducible refine Below.setCell ?_ ?_ _) | go_size))) (b1.mono (by simp))) _⟩
end Go.Proofs.YtklgkbiobggbiaaDoor
