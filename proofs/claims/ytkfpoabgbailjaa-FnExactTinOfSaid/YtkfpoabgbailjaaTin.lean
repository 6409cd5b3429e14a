/- TinOf: both sides compute the same. -/
import Derived.Test.YtkfpoabgbailjaaRows
import Derived.Test.YtkfpoabgbailjaaOneIngot
import Derived.Test.YtkfpoabgbailjaaHIngot
namespace Go.Proofs.Ytkfpoabgbailjaa
open Go.ChangeShapes Go.WideShapes Go.ChangeAt Go.RowKit Go.Deep Go.Joins
set_option linter.unusedVariables false
set_option maxRecDepth 100000
set_option linter.unusedSimpArgs false
def tinS (x : Ingot) : Int × Int := if ingotB x then (divR (x.mass * x.alloy.tin) 1000000, 0) else (0, 1)
theorem ingotB_true {x : Ingot} (h : ingotB x = true) : nameB x.id = true ∧ (1 ≤ x.mass ∧ x.mass ≤ 20000000) ∧ alloyB x.alloy = true := by
  simp only [ingotB, Bool.and_eq_true] at h
  exact ⟨h.1, inB_true h.2.1, h.2.2⟩
theorem tin_bd {x : Ingot} (h : ingotB x = true) : 0 ≤ x.mass * x.alloy.tin ∧ x.mass * x.alloy.tin ≤ 20000000000000 := by
  obtain ⟨_, h1, h2⟩ := ingotB_true h
  obtain ⟨_, h3, _⟩ := alloyB_true h2
  refine ⟨Int.mul_nonneg (by omega) (by omega), ?_⟩
  have := Int.mul_le_mul h1.2 h3.2 h3.1 (by omega)
  omega

theorem spec_TinOf (x : Ingot) (hx : x.ok) (w : World) : Calls Try.prog 36 #[.agg #[.string x.id, .int .i64 x.mass, .int .i64 x.alloy.copper, .int .i64 x.alloy.tin, .int .i64 x.alloy.other]] w fun e w' => e = .returned (.tuple #[.int .i64 (tinS x).1, .int .i64 (tinS x).2]) ∧ Below w.heap.size w w' := by
  have Hx := Lib.hid hx; clear hx
  unfold tinS
  cases h : ingotB x
  · go_enter Try.func36, Try.ntmps36
    go_wp2_with fail
    refine (spec_l13One_is x _ 0 _ h (by go_cell) (by go_cell) (by go_cell) (by go_cell) (by go_cell) Hx.out).mono ?_; rintro e w1 ⟨rfl, b1⟩
    go_wp2_with fail
    go_ret2
    exact ⟨rfl, Below.trans (by (repeat' (first | (with_reducible exact Below.refl _ _) | (with_reducible assumption) | (with_reducible refine below_dn ?_ _) | (with_reducible refine Below.drew ?_) | (with_reducible refine Below.alloc ?_ ?_ _) | (with_reducible refine Below.setCell ?_ ?_ _) | go_size))) (b1.mono (by simp))⟩
  · obtain ⟨hb1, hb2⟩ := tin_bd h
    go_enter Try.func36, Try.ntmps36
    go_wp2_with fail
    refine (spec_l13One_is x _ 0 _ h (by go_cell) (by go_cell) (by go_cell) (by go_cell) (by go_cell) Hx.out).mono ?_; rintro e w1 ⟨rfl, b1⟩
    obtain ⟨hc, hf⟩ := bcell b1
    go_wp2_with (go_at_call 61; refine (spec_l01Div _ _ _ (by omega) (by omega) (by omega) (by omega)).mono ?_; rintro e w' ⟨rfl, rfl⟩)
    go_ret2
    exact ⟨rfl, Below.trans (by (repeat' (first | (with_reducible exact Below.refl _ _) | (with_reducible assumption) | (with_reducible refine below_dn ?_ _) | (with_reducible refine Below.drew ?_) | (with_reducible refine Below.alloc ?_ ?_ _) | (with_reducible refine Below.setCell ?_ ?_ _) | go_size))) (b1.mono (by simp))⟩
theorem impl_TinOf (x : Ingot) (hx : x.ok) (w : World) : Calls Try.prog 38 #[.agg #[.string x.id, .int .i64 x.mass, .int .i64 x.alloy.copper, .int .i64 x.alloy.tin, .int .i64 x.alloy.other]] w fun e w' => e = .returned (.tuple #[.int .i64 (tinS x).1, .int .i64 (tinS x).2]) ∧ Below w.heap.size w w' := by
  have Hx := Lib.hid hx; clear hx
  unfold tinS
  cases h : ingotB x
  · go_enter Try.func38, Try.ntmps38
    go_wp2_with fail
    refine (impl_validIngot_is x _ h Hx.out).mono ?_; rintro e w1 ⟨rfl, b1⟩
    go_wp2_with fail
    go_ret2
    exact ⟨rfl, Below.trans (by (repeat' (first | (with_reducible exact Below.refl _ _) | (with_reducible assumption) | (with_reducible refine below_dn ?_ _) | (with_reducible refine Below.drew ?_) | (with_reducible refine Below.alloc ?_ ?_ _) | (with_reducible refine Below.setCell ?_ ?_ _) | go_size))) (b1.mono (by simp))⟩
  · obtain ⟨hb1, hb2⟩ := tin_bd h
    go_enter Try.func38, Try.ntmps38
    go_wp2_with fail
    refine (impl_validIngot_is x _ h Hx.out).mono ?_; rintro e w1 ⟨rfl, b1⟩
    obtain ⟨hc, hf⟩ := bcell b1
    go_wp2_with (go_at_call 64; refine (impl_nearest _ _ _ (by omega) (by omega) (by omega) (by omega)).mono ?_; rintro e w' ⟨rfl, n, rfl⟩)
    go_ret2
    exact ⟨rfl, below_dn (Below.trans (by (repeat' (first | (with_reducible exact Below.refl _ _) | (with_reducible assumption) | (with_reducible refine below_dn ?_ _) | (with_reducible refine Below.drew ?_) | (with_reducible refine Below.alloc ?_ ?_ _) | (with_reducible refine Below.setCell ?_ ?_ _) | go_size))) (b1.mono (by simp))) _⟩

theorem FnExactTinOf_walk (w : World) (x : Ingot) (hx : x.ok) :
    Calls Try.prog 10 #[.agg #[.string x.id, .int .i64 x.mass, .int .i64 x.alloy.copper, .int .i64 x.alloy.tin, .int .i64 x.alloy.other]] w fun e w' => e = .returned (.bool true) ∧ Below w.heap.size w w' := by
  have Hx := Lib.hid hx; clear hx
  by_cases hn : x.id.size ≤ 1048576
  case neg =>
    have e0 : Hid (szR 1048576 x.id.size = -1) := (if_neg (by omega) : szR 1048576 x.id.size = -1)
    go_enter Try.func10, Try.ntmps10
    go_wp2_with fail
    refine (szIngot x 1048576 _ (by omega) (by omega) Hx.out.1).mono ?_; rw [e0.out]; rintro e w1 ⟨rfl, b1⟩
    go_wp2_with fail
    go_ret
    exact ⟨rfl, Below.trans (by (repeat' (first | (with_reducible exact Below.refl _ _) | (with_reducible assumption) | (with_reducible refine below_dn ?_ _) | (with_reducible refine Below.drew ?_) | (with_reducible refine Below.alloc ?_ ?_ _) | (with_reducible refine Below.setCell ?_ ?_ _) | go_size))) (b1.mono (by simp))⟩
  obtain ⟨z, hz, hz0⟩ : ∃ z : Int, szR 1048576 x.id.size = z ∧ 0 ≤ z := ⟨_, rfl, by unfold szR; rw [if_pos (by omega)]; omega⟩
  have Hz := Lib.hid hz; clear hz hn
  go_enter Try.func10, Try.ntmps10
  go_wp2_with fail
  refine (szIngot x 1048576 _ (by omega) (by omega) Hx.out.1).mono ?_; rw [Hz.out]; rintro e w1 ⟨rfl, b1⟩
  obtain ⟨hc, hf⟩ := bcell b1
  go_wp2_with fail
  clear hc hf
  refine (toIngot x _).mono ?_; rintro e w2 ⟨rfl, b2⟩
  have B2 := bnext b1 b2; clear b1 b2
  obtain ⟨hc, hf⟩ := bcell B2
  go_wp2_with fail
  clear hc hf
  refine (spec_TinOf x Hx.out _).mono ?_; rintro e w3 ⟨rfl, b3⟩
  have B3 := bnext B2 b3; clear B2 b3
  obtain ⟨hc, hf⟩ := bcell B3
  go_wp2_with fail
  clear hc hf
  refine (toIngot x _).mono ?_; rintro e w4 ⟨rfl, b4⟩
  have B4 := bnext B3 b4; clear B3 b4
  go_wp2_with fail
  refine (impl_TinOf x Hx.out _).mono ?_; rintro e w5 ⟨rfl, b5⟩
  have B5 := bnext B4 b5; clear B4 b5
  go_wp2_with fail
  all_goals go_ret
  all_goals exact ⟨rfl, Below.trans (by (repeat' (first | (with_reducible exact Below.refl _ _) | (with_reducible assumption) | (with_reducible refine below_dn ?_ _) | (with_reducible refine Below.drew ?_) | (with_reducible refine Below.alloc ?_ ?_ _) | (with_reducible refine Below.setCell ?_ ?_ _) | go_size))) (B5.mono (by simp))⟩
end Go.Proofs.Ytkfpoabgbailjaa
