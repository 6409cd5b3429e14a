/- FnExactBestSpot: the law. -/
import Derived.Test.YtkolgfmjajlpgaaDoorRows
import Derived.Test.YtkolgfmjajlpgaaDoorLaw
import Derived.Test.YtkolgfmjajlpgaaDoorBestP
import Derived.Test.YtkolgfmjajlpgaaDoorSineLaid
namespace Go.Proofs.YtkolgfmjajlpgaaDoor
open Go.ChangeShapes Go.WideShapes Go.ChangeAt Go.RowKit Go.Deep Go.Joins
set_option linter.unusedVariables false
set_option maxRecDepth 100000
set_option linter.unusedSimpArgs false
set_option maxHeartbeats 1000000 in
theorem FnExactBestSpot_walk (w : World) (v0 : Value) (x0 : List Spot) (k0 : Rd w.heap.size w v0 2 x0.length (x0.flatMap Spot.put) ∧ x0.length ≤ maxLen ∧ ∀ x ∈ x0, x.ok) (a1 : Int) (k1 : I64 a1) (a2 : Int) (k2 : I64 a2) (hL : laidMetH Tryd.prog Rows.fnExactBestSpotRow.laid w) (hS : w.ShapedOpen Tryd.prog) :
    Calls Tryd.prog 3 #[v0, .int .i64 a1, .int .i64 a2] w fun e w' => e = .returned (.bool true) ∧ Below w.heap.size w w' := by
  obtain ⟨h0, hm0, hok0⟩ := k0
  have H0 := Lib.hid h0; clear h0
  have Hok0 := Lib.hid hok0; clear hok0
  have hs : Hid (Sines w) := sines_of (rest := []) hL
  have HSI := Lib.hid hs.out
  have HG : Hid (0 < w.heap.size) := sines_lt hs.out
  clear hs hL hS
  by_cases hq0 : x0.length ≤ 1048576
  case neg =>
    have e0 : Hid (szR 1048576 x0.length = -1) := (if_neg (by omega) : szR 1048576 x0.length = -1)
    go_enter Tryd.func3, Tryd.ntmps3
    go_wp2_with fail
    refine (toB (szSpotS _ _ x0 1048576 _ (by exact H0.out.up (by (repeat' (first | (with_reducible exact Below.refl _ _) | (with_reducible assumption) | (with_reducible refine below_dn ?_ _) | (with_reducible refine Below.drew ?_) | (with_reducible refine Below.alloc ?_ ?_ _) | (with_reducible refine Below.setCell ?_ ?_ _) | go_size)))) hm0 (by omega) (by omega))).mono ?_; rw [e0.out]; rintro e w1 ⟨rfl, b1⟩
    have B1 : Below w.heap.size w w1 := Below.trans (by (repeat' (first | (with_reducible exact Below.refl _ _) | (with_reducible assumption) | (with_reducible refine below_dn ?_ _) | (with_reducible refine Below.drew ?_) | (with_reducible refine Below.alloc ?_ ?_ _) | (with_reducible refine Below.setCell ?_ ?_ _) | go_size))) (b1.mono (by simp <;> omega))
    clear b1
    go_wp2_with fail
    go_ret
    exact ⟨rfl, B1⟩
  obtain ⟨z0, hz0, hy0, hy0_⟩ : ∃ z : Int, szR 1048576 x0.length = z ∧ (0 ≤ z ∧ z ≤ 1048576) ∧ z = 1048576 - ((x0.length : Nat) : Int) := ⟨_, rfl, by unfold szR; rw [if_pos (by omega)]; omega, by unfold szR; rw [if_pos (by omega)]⟩
  have Hy0 := Lib.hid hy0_; clear hy0_
  have Hz0 := Lib.hid hz0; clear hz0
  have hn0 : x0.length ≤ 1048576 := by omega
  go_enter Tryd.func3, Tryd.ntmps3
  go_wp2_with fail
  refine (toB (szSpotS _ _ x0 1048576 _ (by exact H0.out.up (by (repeat' (first | (with_reducible exact Below.refl _ _) | (with_reducible assumption) | (with_reducible refine below_dn ?_ _) | (with_reducible refine Below.drew ?_) | (with_reducible refine Below.alloc ?_ ?_ _) | (with_reducible refine Below.setCell ?_ ?_ _) | go_size)))) hm0 (by omega) (by omega))).mono ?_; rw [Hz0.out]; rintro e w1 ⟨rfl, b1⟩
  have B1 : Below w.heap.size w w1 := Below.trans (by (repeat' (first | (with_reducible exact Below.refl _ _) | (with_reducible assumption) | (with_reducible refine below_dn ?_ _) | (with_reducible refine Below.drew ?_) | (with_reducible refine Below.alloc ?_ ?_ _) | (with_reducible refine Below.setCell ?_ ?_ _) | go_size))) (b1.mono (by simp <;> omega))
  clear b1
  clear Hz0 hq0 Hy0
  go_wp2_with fail
  refine (toSpotS _ _ x0 (by exact H0.out.up B1) hn0).mono ?_; rintro e w2 ⟨g2, rfl, hg2, o2, b2⟩
  have B2 := bnext B1 b2
  clear B1
  have O2 := Lib.hid o2; clear o2 hg2
  clear b2
  go_wp2_with fail
  refine (spec_BestSpot _ _ x0 a1 a2 (O2.out.rd O2.out.lt (Spot_len x0) (by unfold maxLen; omega) _ (Nat.le_refl _) (by unfold maxLen; omega)) hn0 Hok0.out).mono ?_; rintro e w3 ⟨rfl, b3⟩
  have B3 := bnext B2 b3
  have O2' := Lib.hid (O2.out.below b3 O2.out.lt); clear O2; have O2 := O2'; clear O2'
  clear B2
  clear b3
  clear O2
  go_wp2_with fail
  refine (toSpotS _ _ x0 (by exact H0.out.up B3) hn0).mono ?_; rintro e w4 ⟨g4, rfl, hg4, o4, b4⟩
  have B4 := bnext B3 b4
  clear B3
  have O4 := Lib.hid o4; clear o4 hg4
  clear b4
  go_wp2_with fail
  refine (impl_BestSpot _ _ x0 a1 a2 (HSI.out.below B4 HG.out) (Nat.lt_of_lt_of_le HG.out B4.size) (O4.out.rd O4.out.lt (Spot_len x0) (by unfold maxLen; omega) _ (Nat.le_refl _) (by unfold maxLen; omega)) hn0 Hok0.out).mono ?_; rintro e w5 ⟨rfl, b5⟩
  have B5 := bnext B4 b5
  have O4' := Lib.hid (O4.out.below b5 O4.out.lt); clear O4; have O4 := O4'; clear O4'
  clear B4
  clear b5
  go_wp2_with fail
  refine (toSpotS _ _ x0 (by exact H0.out.up B5) hn0).mono ?_; rintro e w6 ⟨g6, rfl, hg6, o6, b6⟩
  have B6 := bnext B5 b6
  have O4' := Lib.hid (O4.out.below b6 O4.out.lt); clear O4; have O4 := O4'; clear O4'
  clear B5
  have O6 := Lib.hid o6; clear o6 hg6
  clear b6
  go_wp2_with fail
  refine (eqSpotS _ _ _ x0 (O4.out.rd O4.out.lt (Spot_len x0) (by unfold maxLen; omega) _ (Nat.le_refl _) (by unfold maxLen; omega)) (O6.out.rd O6.out.lt (Spot_len x0) (by unfold maxLen; omega) _ (Nat.le_refl _) (by unfold maxLen; omega)) hn0).mono ?_; rintro e w7 ⟨rfl, b7⟩
  have B7 := bnext B6 b7
  have O4' := Lib.hid (O4.out.below b7 O4.out.lt); clear O4; have O4 := O4'; clear O4'
  have O6' := Lib.hid (O6.out.below b7 O6.out.lt); clear O6; have O6 := O6'; clear O6'
  clear B6
  clear b7
  clear O4 O6
  go_wp2_with fail
  all_goals go_ret
  all_goals exact ⟨rfl, B7⟩
end Go.Proofs.YtkolgfmjajlpgaaDoor
