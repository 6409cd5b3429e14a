/- FnExactQuietSpots: the law. -/
import Derived.Test.YtkolgfmjajlpgaaDoorRows
import Derived.Test.YtkolgfmjajlpgaaDoorLaw
import Derived.Test.YtkolgfmjajlpgaaDoorQuietP
import Derived.Test.YtkolgfmjajlpgaaDoorSineLaid
import Derived.Test.YtkolgfmjajlpgaaDoorMarkSpot
namespace Go.Proofs.YtkolgfmjajlpgaaDoor
open Go.ChangeShapes Go.WideShapes Go.ChangeAt Go.RowKit Go.Deep Go.Joins
set_option linter.unusedVariables false
set_option maxRecDepth 100000
set_option linter.unusedSimpArgs false
set_option maxHeartbeats 1000000 in
theorem FnExactQuietSpots_walk (w : World) (v0 : Value) (x0 : List Spot) (k0 : Rd w.heap.size w v0 2 x0.length (x0.flatMap Spot.put) ∧ x0.length ≤ maxLen ∧ ∀ x ∈ x0, x.ok) (a1 : Int) (k1 : I64 a1) (a2 : Int) (k2 : I64 a2) (a3 : Int) (k3 : I64 a3) (hL : laidMetH Tryd.prog Rows.fnExactQuietSpotsRow.laid w) (hS : w.ShapedOpen Tryd.prog) :
    Calls Tryd.prog 4 #[v0, .int .i64 a1, .int .i64 a2, .int .i64 a3] w fun e w' => e = .returned (.bool true) ∧ Below w.heap.size w w' := by
  obtain ⟨h0, hm0, hok0⟩ := k0
  have H0 := Lib.hid h0; clear h0
  have Hok0 := Lib.hid hok0; clear hok0
  have hs : Hid (Sines w) := sines_of (rest := []) hL
  have HSI := Lib.hid hs.out
  have HG : Hid (0 < w.heap.size) := sines_lt hs.out
  clear hs hL hS
  by_cases hq0 : x0.length ≤ 1048576
  case neg =>
    have e0 : Hid (szR 1048576 x0.length = -1) := (if_neg (by omega) : szR 1048576 x0.length = -1)
    go_enter Tryd.func4, Tryd.ntmps4
    go_wp2_with fail
    refine (toB (szSpotS _ _ x0 1048576 _ (by exact H0.out.up (by (repeat' (first | (with_reducible exact Below.refl _ _) | (with_reducible assumption) | (with_reducible refine below_dn ?_ _) | (with_reducible refine Below.drew ?_) | (with_reducible refine Below.alloc ?_ ?_ _) | (with_reducible refine Below.setCell ?_ ?_ _) | go_size)))) hm0 (by omega) (by omega))).mono ?_; rw [e0.out]; rintro e w1 ⟨rfl, b1⟩
    have B1 : Below w.heap.size w w1 := Below.trans (by (repeat' (first | (with_reducible exact Below.refl _ _) | (with_reducible assumption) | (with_reducible refine below_dn ?_ _) | (with_reducible refine Below.drew ?_) | (with_reducible refine Below.alloc ?_ ?_ _) | (with_reducible refine Below.setCell ?_ ?_ _) | go_size))) (b1.mono (by simp <;> omega))
    have sz1 : w.heap.size ≤ w1.heap.size := B1.size
    clear b1
    go_wp2_with fail
    go_ret
    exact ⟨rfl, B1⟩
  obtain ⟨z0, hz0, hy0, hy0_⟩ : ∃ z : Int, szR 1048576 x0.length = z ∧ (0 ≤ z ∧ z ≤ 1048576) ∧ z = 1048576 - ((x0.length : Nat) : Int) := ⟨_, rfl, by unfold szR; rw [if_pos (by omega)]; omega, by unfold szR; rw [if_pos (by omega)]⟩
  have Hy0 := Lib.hid hy0_; clear hy0_
  have Hz0 := Lib.hid hz0; clear hz0
  have hn0 : x0.length ≤ 1048576 := by omega
  have hnR : (quietS x0 a1 a2 a3).length ≤ 1048576 := by have := quietS_len x0 a1 a2 a3; omega
  go_enter Tryd.func4, Tryd.ntmps4
  go_wp2_with fail
  refine (toB (szSpotS _ _ x0 1048576 _ (by exact H0.out.up (by (repeat' (first | (with_reducible exact Below.refl _ _) | (with_reducible assumption) | (with_reducible refine below_dn ?_ _) | (with_reducible refine Below.drew ?_) | (with_reducible refine Below.alloc ?_ ?_ _) | (with_reducible refine Below.setCell ?_ ?_ _) | go_size)))) hm0 (by omega) (by omega))).mono ?_; rw [Hz0.out]; rintro e w1 ⟨rfl, b1⟩
  have B1 : Below w.heap.size w w1 := Below.trans (by (repeat' (first | (with_reducible exact Below.refl _ _) | (with_reducible assumption) | (with_reducible refine below_dn ?_ _) | (with_reducible refine Below.drew ?_) | (with_reducible refine Below.alloc ?_ ?_ _) | (with_reducible refine Below.setCell ?_ ?_ _) | go_size))) (b1.mono (by simp <;> omega))
  have sz1 : w.heap.size ≤ w1.heap.size := B1.size
  clear b1
  clear Hz0 hq0 Hy0
  go_wp2_with fail
  refine (toSpotS _ _ x0 (by exact H0.out.up B1) hn0).mono ?_; rintro e w2 ⟨g2, rfl, hg2, o2, b2⟩
  have B2 := bnext B1 b2
  clear B1
  have sz2 : w1.heap.size ≤ w2.heap.size := b2.size
  have ga2 : w1.heap.size ≤ g2 := hg2
  have gb2 : g2 < w2.heap.size := o2.lt
  have O2 := Lib.hid o2; clear o2 hg2
  clear b2
  go_wp2_with fail
  refine (spec_QuietSpots _ _ x0 a1 a2 a3 (O2.out.rd O2.out.lt (Spot_len x0) (by unfold maxLen; omega) _ (Nat.le_refl _) (by unfold maxLen; omega)) hn0 Hok0.out).mono ?_; rintro e w3 ⟨r3, rfl, o3, b3⟩
  have B3 := bnext B2 b3
  have O2' := Lib.hid (O2.out.below b3 O2.out.lt); clear O2; have O2 := O2'; clear O2'
  clear B2
  have sz3 : w2.heap.size ≤ w3.heap.size := b3.size
  obtain ⟨ra3, rc3, rfl⟩ := (own_rd o3).form
  have R3 := Lib.hid (Held.of_row o3); clear o3
  clear b3
  clear O2
  go_wp2_with fail
  refine (toSpotS _ _ x0 (by exact H0.out.up B3) hn0).mono ?_; rintro e w4 ⟨g4, rfl, hg4, o4, b4⟩
  have B4 := bnext B3 b4
  have R3' := Lib.hid (R3.out.below b4); clear R3; have R3 := R3'; clear R3'
  clear B3
  have sz4 : w3.heap.size ≤ w4.heap.size := b4.size
  have ga4 : w3.heap.size ≤ g4 := hg4
  have gb4 : g4 < w4.heap.size := o4.lt
  have O4 := Lib.hid o4; clear o4 hg4
  clear b4
  go_wp2_with fail
  refine (impl_QuietSpots _ _ x0 a1 a2 a3 (HSI.out.below B4 HG.out) (Nat.lt_of_lt_of_le HG.out B4.size) (O4.out.rd O4.out.lt (Spot_len x0) (by unfold maxLen; omega) _ (Nat.le_refl _) (by unfold maxLen; omega)) hn0 Hok0.out).mono ?_; rintro e w5 ⟨r5, rfl, o5, b5⟩
  have B5 := bnext B4 b5
  have R3' := Lib.hid (R3.out.below b5); clear R3; have R3 := R3'; clear R3'
  have O4' := Lib.hid (O4.out.below b5 O4.out.lt); clear O4; have O4 := O4'; clear O4'
  clear B4
  have sz5 : w4.heap.size ≤ w5.heap.size := b5.size
  obtain ⟨ra5, rc5, rfl⟩ := (own_rd o5).form
  have R5 := Lib.hid (Held.of_row o5); clear o5
  clear b5
  go_wp2_with fail
  refine (eqSpotS _ _ _ (quietS x0 a1 a2 a3) (by exact R5.out.rd) (by exact R3.out.rd) hnR).mono ?_; rintro e w6 ⟨rfl, b6⟩
  have B6 := bnext B5 b6
  have R3' := Lib.hid (R3.out.below b6); clear R3; have R3 := R3'; clear R3'
  have O4' := Lib.hid (O4.out.below b6 O4.out.lt); clear O4; have O4 := O4'; clear O4'
  have R5' := Lib.hid (R5.out.below b6); clear R5; have R5 := R5'; clear R5'
  clear B5
  have sz6 : w5.heap.size ≤ w6.heap.size := b6.size
  clear b6
  go_wp2_with fail
  refine (toSpotS _ _ x0 (by exact H0.out.up B6) hn0).mono ?_; rintro e w7 ⟨g7, rfl, hg7, o7, b7⟩
  have B7 := bnext B6 b7
  have R3' := Lib.hid (R3.out.below b7); clear R3; have R3 := R3'; clear R3'
  have O4' := Lib.hid (O4.out.below b7 O4.out.lt); clear O4; have O4 := O4'; clear O4'
  have R5' := Lib.hid (R5.out.below b7); clear R5; have R5 := R5'; clear R5'
  clear B6
  have sz7 : w6.heap.size ≤ w7.heap.size := b7.size
  have ga7 : w6.heap.size ≤ g7 := hg7
  have gb7 : g7 < w7.heap.size := o7.lt
  have O7 := Lib.hid o7; clear o7 hg7
  clear b7
  go_wp2_with fail
  refine (eqSpotS _ _ _ x0 (O4.out.rd O4.out.lt (Spot_len x0) (by unfold maxLen; omega) _ (Nat.le_refl _) (by unfold maxLen; omega)) (O7.out.rd O7.out.lt (Spot_len x0) (by unfold maxLen; omega) _ (Nat.le_refl _) (by unfold maxLen; omega)) hn0).mono ?_; rintro e w8 ⟨rfl, b8⟩
  have B8 := bnext B7 b8
  have R3' := Lib.hid (R3.out.below b8); clear R3; have R3 := R3'; clear R3'
  have O4' := Lib.hid (O4.out.below b8 O4.out.lt); clear O4; have O4 := O4'; clear O4'
  have R5' := Lib.hid (R5.out.below b8); clear R5; have R5 := R5'; clear R5'
  have O7' := Lib.hid (O7.out.below b8 O7.out.lt); clear O7; have O7 := O7'; clear O7'
  clear B7
  have sz8 : w7.heap.size ≤ w8.heap.size := b8.size
  clear b8
  clear O7
  go_wp2_with fail
  refine (mA3 (c := 5242881) (markSpotS _ _ g4 (g4 + 1) _ _ _ (Held.of_own (by exact O4.out) (Spot_len x0) (by unfold maxLen; omega)) hn0 (by omega) (by omega)) (by omega) (by omega)).mono ?_; rintro e w9 ⟨q9, rfl, qa9, qb9, t9⟩
  have B9 := B8.trans (t9.below (B := w.heap.size) (by omega) (by omega))
  have sz9 := t9.size
  have R3' := Lib.hid (R3.out.turn t9 (by omega)); clear R3; have R3 := R3'; clear R3'
  have R5' := Lib.hid (R5.out.turn t9 (by omega)); clear R5; have R5 := R5'; clear R5'
  clear t9 B8 O4
  have tk : decide (q9 < (0 : Int)) = false := decide_eq_false (by omega)
  go_wp2_with fail
  refine (eqSpotS _ _ _ (quietS x0 a1 a2 a3) (by exact R5.out.rd) (by exact R3.out.rd) hnR).mono ?_; rintro e w10 ⟨rfl, b10⟩
  have B10 := bnext B9 b10
  have R3' := Lib.hid (R3.out.below b10); clear R3; have R3 := R3'; clear R3'
  have R5' := Lib.hid (R5.out.below b10); clear R5; have R5 := R5'; clear R5'
  clear B9
  have sz10 : w9.heap.size ≤ w10.heap.size := b10.size
  clear b10
  obtain ⟨mm, hmm, hm1⟩ : ∃ mm : Int, 1 + 2 * (((quietS x0 a1 a2 a3).length : Nat) : Int) = mm ∧ 1 ≤ mm := ⟨_, rfl, by omega⟩
  have tm : decide (mm < (0 : Int)) = false := decide_eq_false (by omega)
  have HMM := Lib.hid hmm; clear hmm
  go_wp2_with fail
  refine (toM (markSpotS _ _ _ _ _ _ _ (by exact R5.out) hnR (by omega) (by omega)) HMM.out).mono ?_; rintro e w11 ⟨rfl, t11, o11⟩
  have B11 := B10.trans (t11.below (B := w.heap.size) (by omega) (by omega))
  have sz11 := t11.size
  have R3' := Lib.hid (R3.out.turn t11 (by omega)); clear R3; have R3 := R3'; clear R3'
  have R11 := Lib.hid o11; clear o11
  clear t11 B10 R5
  go_wp2_with fail
  refine (toM (heldSpotS _ _ _ _ (by exact R11.out.rd) hnR (by omega) (by omega)) HMM.out).mono ?_; rintro e w12 ⟨rfl, b12⟩
  have B12 := bnext B11 b12
  have R3' := Lib.hid (R3.out.below b12); clear R3; have R3 := R3'; clear R3'
  have R11' := Lib.hid (R11.out.below b12); clear R11; have R11 := R11'; clear R11'
  clear B11
  have sz12 : w11.heap.size ≤ w12.heap.size := b12.size
  clear b12
  go_wp2_with fail
  refine (toSpotS _ _ x0 (by exact H0.out.up B12) hn0).mono ?_; rintro e w13 ⟨g13, rfl, hg13, o13, b13⟩
  have B13 := bnext B12 b13
  have R3' := Lib.hid (R3.out.below b13); clear R3; have R3 := R3'; clear R3'
  have R11' := Lib.hid (R11.out.below b13); clear R11; have R11 := R11'; clear R11'
  clear B12
  have sz13 : w12.heap.size ≤ w13.heap.size := b13.size
  have ga13 : w12.heap.size ≤ g13 := hg13
  have gb13 : g13 < w13.heap.size := o13.lt
  have O13 := Lib.hid o13; clear o13 hg13
  clear b13
  go_wp2_with fail
  refine (impl_QuietSpots _ _ x0 a1 a2 a3 (HSI.out.below B13 HG.out) (Nat.lt_of_lt_of_le HG.out B13.size) (O13.out.rd O13.out.lt (Spot_len x0) (by unfold maxLen; omega) _ (Nat.le_refl _) (by unfold maxLen; omega)) hn0 Hok0.out).mono ?_; rintro e w14 ⟨r14, rfl, o14, b14⟩
  have B14 := bnext B13 b14
  have R3' := Lib.hid (R3.out.below b14); clear R3; have R3 := R3'; clear R3'
  have R11' := Lib.hid (R11.out.below b14); clear R11; have R11 := R11'; clear R11'
  have O13' := Lib.hid (O13.out.below b14 O13.out.lt); clear O13; have O13 := O13'; clear O13'
  clear B13
  have sz14 : w13.heap.size ≤ w14.heap.size := b14.size
  obtain ⟨ra14, rc14, rfl⟩ := (own_rd o14).form
  have R14 := Lib.hid (Held.of_row o14); clear o14
  clear b14
  clear O13
  go_wp2_with fail
  refine (eqSpotS _ _ _ (quietS x0 a1 a2 a3) (by exact R14.out.rd) (by exact R3.out.rd) hnR).mono ?_; rintro e w15 ⟨rfl, b15⟩
  have B15 := bnext B14 b15
  have R3' := Lib.hid (R3.out.below b15); clear R3; have R3 := R3'; clear R3'
  have R11' := Lib.hid (R11.out.below b15); clear R11; have R11 := R11'; clear R11'
  have R14' := Lib.hid (R14.out.below b15); clear R14; have R14 := R14'; clear R14'
  clear B14
  have sz15 : w14.heap.size ≤ w15.heap.size := b15.size
  clear b15
  go_wp2_with fail
  refine (toM (heldSpotS _ _ _ _ (by exact R11.out.rd) hnR (by omega) (by omega)) HMM.out).mono ?_; rintro e w16 ⟨rfl, b16⟩
  have B16 := bnext B15 b16
  have R3' := Lib.hid (R3.out.below b16); clear R3; have R3 := R3'; clear R3'
  have R11' := Lib.hid (R11.out.below b16); clear R11; have R11 := R11'; clear R11'
  have R14' := Lib.hid (R14.out.below b16); clear R14; have R14 := R14'; clear R14'
  clear B15
  have sz16 : w15.heap.size ≤ w16.heap.size := b16.size
  clear b16
  go_wp2_with fail
  all_goals go_ret
  all_goals exact ⟨rfl, B16⟩
end Go.Proofs.YtkolgfmjajlpgaaDoor
