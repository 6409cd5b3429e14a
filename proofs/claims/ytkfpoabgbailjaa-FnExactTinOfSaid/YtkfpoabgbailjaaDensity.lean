/- DensityOf: both sides compute the same. -/
import Derived.Test.YtkfpoabgbailjaaRows
import Derived.Test.YtkfpoabgbailjaaAlloy
import Derived.Test.YtkfpoabgbailjaaRound
namespace Go.Proofs.Ytkfpoabgbailjaa
open Go.ChangeShapes Go.WideShapes Go.ChangeAt Go.RowKit Go.Deep Go.Joins
set_option linter.unusedVariables false
set_option maxRecDepth 100000
set_option linter.unusedSimpArgs false
def densS (x : Alloy) : Int × Int := if alloyB x then (divR (8960 * x.copper + 7310 * x.tin + 8000 * x.other) 1000000, 0) else (0, 1)
theorem alloyB_true {x : Alloy} (h : alloyB x = true) : (0 ≤ x.copper ∧ x.copper ≤ 1000000) ∧ (0 ≤ x.tin ∧ x.tin ≤ 1000000) ∧ (0 ≤ x.other ∧ x.other ≤ 1000000) ∧ x.copper + x.tin + x.other = 1000000 := by
  simp only [alloyB, Bool.and_eq_true, decide_eq_true_eq] at h
  exact ⟨inB_true h.1, inB_true h.2.1, inB_true h.2.2.1, h.2.2.2⟩
theorem impl_ValidAlloy_is {b : Bool} (x : Alloy) (w : World) (h : alloyB x = b) :
    Calls Try.prog 70 #[.agg #[.int .i64 x.copper, .int .i64 x.tin, .int .i64 x.other]] w fun e w' => e = .returned (.bool b) ∧ Below w.heap.size w w' := by
  rw [← h]; exact impl_ValidAlloy x w
theorem spec_l13Alloy_is {b : Bool} (x : Alloy) (a : Nat) (w : World) (h : alloyB x = b) (h0 : w.cell? ⟨a, 0, none⟩ = some (.int .i64 x.copper)) (h1 : w.cell? ⟨a, 1, none⟩ = some (.int .i64 x.tin)) (h2 : w.cell? ⟨a, 2, none⟩ = some (.int .i64 x.other)) :
    Calls Try.prog 69 #[.pointer (some ⟨a, 0, none⟩)] w fun e w' => e = .returned (.bool b) ∧ Drew w w' := by
  rw [← h]; exact spec_l13Alloy x a w h0 h1 h2

theorem spec_DensityOf (x : Alloy) (w : World) : Calls Try.prog 23 #[.agg #[.int .i64 x.copper, .int .i64 x.tin, .int .i64 x.other]] w fun e w' => e = .returned (.tuple #[.int .i64 (densS x).1, .int .i64 (densS x).2]) ∧ Below w.heap.size w w' := by
  unfold densS
  cases h : alloyB x
  · go_enter Try.func23, Try.ntmps23
    go_wp2_with (go_at_call 69; go_call (spec_l13Alloy_is x _ _ h) as e w' ⟨rfl, n, rfl⟩)
    go_ret2
    exact ⟨rfl, by (repeat' (first | (with_reducible exact Below.refl _ _) | (with_reducible assumption) | (with_reducible refine below_dn ?_ _) | (with_reducible refine Below.drew ?_) | (with_reducible refine Below.alloc ?_ ?_ _) | (with_reducible refine Below.setCell ?_ ?_ _) | go_size))⟩
  · obtain ⟨⟨a1, a2⟩, ⟨a3, a4⟩, ⟨a5, a6⟩, a7⟩ := alloyB_true h
    go_enter Try.func23, Try.ntmps23
    clear a7
    go_wp2_with (first | (go_at_call 69; go_call (spec_l13Alloy_is x _ _ h) as e w' ⟨rfl, n, rfl⟩) | (go_at_call 61; refine (spec_l01Div _ _ _ (by omega) (by omega) (by omega) (by omega)).mono ?_; rintro e w' ⟨rfl, rfl⟩))
    go_ret2
    exact ⟨rfl, by (repeat' (first | (with_reducible exact Below.refl _ _) | (with_reducible assumption) | (with_reducible refine below_dn ?_ _) | (with_reducible refine Below.drew ?_) | (with_reducible refine Below.alloc ?_ ?_ _) | (with_reducible refine Below.setCell ?_ ?_ _) | go_size))⟩

theorem impl_DensityOf (x : Alloy) (w : World) : Calls Try.prog 25 #[.agg #[.int .i64 x.copper, .int .i64 x.tin, .int .i64 x.other]] w fun e w' => e = .returned (.tuple #[.int .i64 (densS x).1, .int .i64 (densS x).2]) ∧ Below w.heap.size w w' := by
  unfold densS
  cases h : alloyB x
  · go_enter Try.func25, Try.ntmps25
    go_wp2_with fail
    refine (impl_ValidAlloy_is x _ h).mono ?_; rintro e w1 ⟨rfl, b1⟩
    go_wp2_with fail
    go_ret2
    exact ⟨rfl, Below.trans (by (repeat' (first | (with_reducible exact Below.refl _ _) | (with_reducible assumption) | (with_reducible refine below_dn ?_ _) | (with_reducible refine Below.drew ?_) | (with_reducible refine Below.alloc ?_ ?_ _) | (with_reducible refine Below.setCell ?_ ?_ _) | go_size))) (b1.mono (by simp))⟩
  · obtain ⟨⟨a1, a2⟩, ⟨a3, a4⟩, ⟨a5, a6⟩, a7⟩ := alloyB_true h
    go_enter Try.func25, Try.ntmps25
    clear a7
    go_wp2_with fail
    refine (impl_ValidAlloy_is x _ h).mono ?_; rintro e w1 ⟨rfl, b1⟩
    obtain ⟨hc, hf⟩ := bcell b1
    go_wp2_with (go_at_call 64; refine (impl_nearest _ _ _ (by omega) (by omega) (by omega) (by omega)).mono ?_; rintro e w' ⟨rfl, n, rfl⟩)
    go_ret2
    exact ⟨rfl, below_dn (Below.trans (by (repeat' (first | (with_reducible exact Below.refl _ _) | (with_reducible assumption) | (with_reducible refine below_dn ?_ _) | (with_reducible refine Below.drew ?_) | (with_reducible refine Below.alloc ?_ ?_ _) | (with_reducible refine Below.setCell ?_ ?_ _) | go_size))) (b1.mono (by simp))) _⟩

theorem FnExactDensityOf_walk (w : World) (x : Alloy) (hx : x.ok) :
    Calls Try.prog 6 #[.agg #[.int .i64 x.copper, .int .i64 x.tin, .int .i64 x.other]] w fun e w' => e = .returned (.bool true) ∧ Below w.heap.size w w' := by
  go_enter Try.func6, Try.ntmps6
  go_wp2_with fail
  refine (toAlloy x _).mono ?_; rintro e w1 ⟨rfl, b1⟩
  obtain ⟨hc, hf⟩ := bcell b1
  go_wp2_with fail
  clear hc hf
  refine (spec_DensityOf x _).mono ?_; rintro e w2 ⟨rfl, b2⟩
  have B2 := bnext b1 b2; clear b1 b2
  obtain ⟨hc, hf⟩ := bcell B2
  go_wp2_with fail
  clear hc hf
  refine (toAlloy x _).mono ?_; rintro e w3 ⟨rfl, b3⟩
  have B3 := bnext B2 b3; clear B2 b3
  go_wp2_with fail
  refine (impl_DensityOf x _).mono ?_; rintro e w4 ⟨rfl, b4⟩
  have B4 := bnext B3 b4; clear B3 b4
  go_wp2_with fail
  all_goals go_ret
  all_goals exact ⟨rfl, Below.trans (by (repeat' (first | (with_reducible exact Below.refl _ _) | (with_reducible assumption) | (with_reducible refine below_dn ?_ _) | (with_reducible refine Below.drew ?_) | (with_reducible refine Below.alloc ?_ ?_ _) | (with_reducible refine Below.setCell ?_ ?_ _) | go_size))) (B4.mono (by simp))⟩
end Go.Proofs.Ytkfpoabgbailjaa
