/- FnExactSameSpots: the law. -/
import Derived.Test.YtkfpoabgbailjaaRows
import Derived.Test.YtkfpoabgbailjaaSameSpots
import Derived.Test.YtkfpoabgbailjaaHSpot
namespace Go.Proofs.Ytkfpoabgbailjaa
open Go.ChangeShapes Go.WideShapes Go.ChangeAt Go.RowKit Go.Deep Go.Joins
set_option linter.unusedVariables false
set_option maxRecDepth 100000
set_option linter.unusedSimpArgs false
set_option maxHeartbeats 400000 in
theorem FnExactSameSpots_walk (w : World) (v1 : Value) (xs : List Spot) (h1 : Rd w.heap.size w v1 2 xs.length (xs.flatMap Spot.put) ∧ xs.length ≤ maxLen ∧ ∀ x ∈ xs, x.ok) (v2 : Value) (ys : List Spot) (h2 : Rd w.heap.size w v2 2 ys.length (ys.flatMap Spot.put) ∧ ys.length ≤ maxLen ∧ ∀ x ∈ ys, x.ok) :
    Calls Try.prog 7 #[v1, v2] w fun e w' => e = .returned (.bool true) ∧ Below w.heap.size w w' := by
  obtain ⟨h1, hm1, hok1⟩ := h1
  obtain ⟨h2, hm2, hok2⟩ := h2
  have HZ := Lib.hid (szSpotS w _ xs 1048576 _ h1 hm1 (by omega) (by omega))
  have HZ2 := Lib.hid (fun z h0 h1 => szSpotS w _ ys z _ h2 hm2 h0 h1)
  have H1 := Lib.hid h1; clear h1
  have H2 := Lib.hid h2; clear h2
  clear hok1 hok2
  by_cases hn : xs.length ≤ 1048576
  case neg =>
    have e0 : Hid (szR 1048576 xs.length = -1) := (if_neg (by omega) : szR 1048576 xs.length = -1)
    go_enter Try.func7, Try.ntmps7
    go_wp2_with fail
    refine HZ.out.mono ?_; rw [e0.out]; rintro e w0 ⟨rfl, rfl⟩
    go_wp2_with fail
    go_ret
    exact ⟨rfl, (Below.refl _ _)⟩
  have hn1 : xs.length ≤ 1048576 := by omega
  have e0 : Hid (szR 1048576 xs.length = 1048576 - (xs.length : Nat)) := (if_pos (by omega) : szR 1048576 xs.length = 1048576 - (xs.length : Nat))
  obtain ⟨z, hz, hz0, hz1, hz2⟩ : ∃ z : Int, szR 1048576 xs.length = z ∧ 0 ≤ z ∧ z ≤ 1048576 ∧ z = 1048576 - (xs.length : Nat) := ⟨_, rfl, by rw [e0.out]; omega, by rw [e0.out]; omega, e0.out⟩
  have Hz := Lib.hid hz; clear hz e0
  by_cases hm : xs.length + ys.length ≤ 1048576
  case neg =>
    have e1 : Hid (szR z ys.length = -1) := (if_neg (by omega) : szR z ys.length = -1)
    clear hz2
    go_enter Try.func7, Try.ntmps7
    go_wp2_with fail
    refine HZ.out.mono ?_; rw [Hz.out]; rintro e w0 ⟨rfl, rfl⟩
    go_wp2_with fail
    refine (HZ2.out z (by omega) (by omega)).mono ?_; rw [e1.out]; rintro e w0 ⟨rfl, rfl⟩
    go_wp2_with fail
    go_ret
    exact ⟨rfl, (Below.refl _ _)⟩
  have hn2 : ys.length ≤ 1048576 := by omega
  have e1 : Hid (szR z ys.length = z - (ys.length : Nat)) := (if_pos (by omega) : szR z ys.length = z - (ys.length : Nat))
  obtain ⟨y, hy, hy0⟩ : ∃ y : Int, szR z ys.length = y ∧ 0 ≤ y := ⟨_, rfl, by rw [e1.out]; omega⟩
  have Hy := Lib.hid hy; clear hy e1 hz2
  go_enter Try.func7, Try.ntmps7
  go_wp2_with fail
  refine HZ.out.mono ?_; rw [Hz.out]; rintro e w0 ⟨rfl, rfl⟩
  go_wp2_with fail
  refine (HZ2.out z (by omega) (by omega)).mono ?_; rw [Hy.out]; rintro e w0 ⟨rfl, rfl⟩
  have B0 : Below w.heap.size w _ := (Below.refl _ _)
  clear HZ HZ2
  go_wp2_with fail
  refine (toSpotS _ _ xs ((H1.out.below B0).mono B0.size) hn1).mono ?_; rintro e w1 ⟨g1, rfl, hg1, o1, b1⟩
  have B1 := bnext B0 b1; clear b1
  have O1 := Lib.hid o1; clear o1
  go_wp2_with fail
  refine (toSpotS _ _ ys ((H2.out.below B1).mono B1.size) hn2).mono ?_; rintro e w2 ⟨g2, rfl, hg2, o2, b2⟩
  have B2 := bnext B1 b2; clear B1
  have P2 := Lib.hid o2; clear o2
  have O2 := Lib.hid (O1.out.below b2 O1.out.lt); clear O1 b2
  go_wp2_with fail
  refine (spec_SameSpots _ _ _ xs ys (O2.out.rd O2.out.lt (Spot_len xs) (by unfold maxLen; omega) _ (Nat.le_refl _) (by unfold maxLen; omega)) (P2.out.rd P2.out.lt (Spot_len ys) (by unfold maxLen; omega) _ (Nat.le_refl _) (by unfold maxLen; omega)) hn1 hn2).mono ?_; rintro e w3 ⟨rfl, b3⟩
  have B3 := bnext B2 b3; clear B2 b3 O2 P2
  go_wp2_with fail
  refine (toSpotS _ _ xs ((H1.out.below B3).mono B3.size) hn1).mono ?_; rintro e w4 ⟨g4, rfl, hg4, o4, b4⟩
  have B4 := bnext B3 b4; clear b4 B3
  have O4 := Lib.hid o4; clear o4
  go_wp2_with fail
  refine (toSpotS _ _ ys ((H2.out.below B4).mono B4.size) hn2).mono ?_; rintro e w5 ⟨g5, rfl, hg5, o5, b5⟩
  have B5 := bnext B4 b5; clear B4
  have P5 := Lib.hid o5; clear o5
  have O5 := Lib.hid (O4.out.below b5 O4.out.lt); clear O4 b5
  go_wp2_with fail
  refine (impl_SameSpots _ _ _ xs ys (O5.out.rd O5.out.lt (Spot_len xs) (by unfold maxLen; omega) _ (Nat.le_refl _) (by unfold maxLen; omega)) (P5.out.rd P5.out.lt (Spot_len ys) (by unfold maxLen; omega) _ (Nat.le_refl _) (by unfold maxLen; omega)) hn1 hn2).mono ?_; rintro e w6 ⟨rfl, b6⟩
  have B6 := bnext B5 b6; clear B5
  have P6 := Lib.hid (P5.out.below b6 P5.out.lt); clear P5
  have O6 := Lib.hid (O5.out.below b6 O5.out.lt); clear O5 b6
  go_wp2_with fail
  refine (toSpotS _ _ xs ((H1.out.below B6).mono B6.size) hn1).mono ?_; rintro e w7 ⟨g7, rfl, hg7, o7, b7⟩
  have B7 := bnext B6 b7; clear B6
  have Q7 := Lib.hid o7; clear o7
  have P7 := Lib.hid (P6.out.below b7 P6.out.lt); clear P6
  have O7 := Lib.hid (O6.out.below b7 O6.out.lt); clear O6 b7
  go_wp2_with fail
  refine (eqSpotS _ _ _ xs (O7.out.rd O7.out.lt (Spot_len xs) (by unfold maxLen; omega) _ (Nat.le_refl _) (by unfold maxLen; omega)) (Q7.out.rd Q7.out.lt (Spot_len xs) (by unfold maxLen; omega) _ (Nat.le_refl _) (by unfold maxLen; omega)) hn1).mono ?_; rintro e w8 ⟨rfl, b8⟩
  have B8 := bnext B7 b8; clear B7
  have P8 := Lib.hid (P7.out.below b8 P7.out.lt); clear P7 b8 O7 Q7
  go_wp2_with fail
  refine (toSpotS _ _ ys ((H2.out.below B8).mono B8.size) hn2).mono ?_; rintro e w9 ⟨g9, rfl, hg9, o9, b9⟩
  have B9 := bnext B8 b9; clear B8
  have Q9 := Lib.hid o9; clear o9
  have P9 := Lib.hid (P8.out.below b9 P8.out.lt); clear P8 b9
  go_wp2_with fail
  refine (eqSpotS _ _ _ ys (P9.out.rd P9.out.lt (Spot_len ys) (by unfold maxLen; omega) _ (Nat.le_refl _) (by unfold maxLen; omega)) (Q9.out.rd Q9.out.lt (Spot_len ys) (by unfold maxLen; omega) _ (Nat.le_refl _) (by unfold maxLen; omega)) hn2).mono ?_; rintro e w10 ⟨rfl, b10⟩
  have B10 := bnext B9 b10; clear B9 b10
  go_wp2_with fail
  go_ret
  exact ⟨rfl, B10⟩
end Go.Proofs.Ytkfpoabgbailjaa
