/- FnExactAddSpot: the law. -/
import Derived.Test.YtkolgfmjajlpgaaRows
import Derived.Test.YtkolgfmjajlpgaaLaw
import Derived.Test.YtkolgfmjajlpgaaAddTop
import Derived.Test.YtkolgfmjajlpgaaMarkSpot
import Derived.Deep.RegionHeld3
namespace Go.Proofs.Ytkolgfmjajlpgaa
open Go.ChangeShapes Go.WideShapes Go.ChangeAt Go.RowKit Go.Deep Go.Joins
set_option linter.unusedVariables false
set_option maxRecDepth 100000
set_option linter.unusedSimpArgs false
set_option maxHeartbeats 1000000 in
theorem FnExactAddSpot_walk (w : World) (v0 : Value) (x0 : List Spot) (k0 : Rd w.heap.size w v0 2 x0.length (x0.flatMap Spot.put) ∧ x0.length ≤ maxLen ∧ ∀ x ∈ x0, x.ok) (a1 : Spot) (k1 : a1.ok) :
    Calls Try.prog 4 #[v0, .agg #[.int .i64 a1.angle, .int .i64 a1.weight]] w fun e w' => e = .returned (.bool true) ∧ Below w.heap.size w w' := by
  obtain ⟨h0, hm0, hok0⟩ := k0
  have H0 := Lib.hid h0; clear h0
  have Hok0 := Lib.hid hok0; clear hok0
  have Hk1 := Lib.hid k1; clear k1
  by_cases hq0 : x0.length ≤ 1048576
  case neg =>
    have e0 : Hid (szR 1048576 x0.length = -1) := (if_neg (by omega) : szR 1048576 x0.length = -1)
    go_enter Try.func4, Try.ntmps4
    go_wp2_with fail
    refine (toB (szSpotS _ _ x0 1048576 _ (by exact H0.out.up (by (repeat' (first | (with_reducible exact Below.refl _ _) | (with_reducible assumption) | (with_reducible refine below_dn ?_ _) | (with_reducible refine Below.drew ?_) | (with_reducible refine Below.alloc ?_ ?_ _) | (with_reducible refine Below.setCell ?_ ?_ _) | go_size)))) hm0 (by omega) (by omega))).mono ?_; rw [e0.out]; rintro e w1 ⟨rfl, b1⟩
    have B1 : Below w.heap.size w w1 := Below.trans (by (repeat' (first | (with_reducible exact Below.refl _ _) | (with_reducible assumption) | (with_reducible refine below_dn ?_ _) | (with_reducible refine Below.drew ?_) | (with_reducible refine Below.alloc ?_ ?_ _) | (with_reducible refine Below.setCell ?_ ?_ _) | go_size))) (b1.mono (by simp <;> omega))
    have VaS : Hid (Own w1 (w.heap.size) 32 [.int .i64 a1.angle, .int .i64 a1.weight]) := Lib.hid ((Own.newAt 32 [.int .i64 a1.angle, .int .i64 a1.weight] (by simp)).below b1 (by simp <;> omega))
    have sz1 : w.heap.size ≤ w1.heap.size := B1.size
    clear b1
    go_wp2_with fail
    go_ret
    exact ⟨rfl, B1⟩
  obtain ⟨z0, hz0, hy0, hy0_⟩ : ∃ z : Int, szR 1048576 x0.length = z ∧ (0 ≤ z ∧ z ≤ 1048576) ∧ z = 1048576 - ((x0.length : Nat) : Int) := ⟨_, rfl, by unfold szR; rw [if_pos (by omega)]; omega, by unfold szR; rw [if_pos (by omega)]⟩
  have Hy0 := Lib.hid hy0_; clear hy0_
  have Hz0 := Lib.hid hz0; clear hz0
  have hn0 : x0.length ≤ 1048576 := by omega
  have hnR : (addR x0 a1).length ≤ 1048576 := by have := addR_len x0 a1; omega
  go_enter Try.func4, Try.ntmps4
  go_wp2_with fail
  refine (toB (szSpotS _ _ x0 1048576 _ (by exact H0.out.up (by (repeat' (first | (with_reducible exact Below.refl _ _) | (with_reducible assumption) | (with_reducible refine below_dn ?_ _) | (with_reducible refine Below.drew ?_) | (with_reducible refine Below.alloc ?_ ?_ _) | (with_reducible refine Below.setCell ?_ ?_ _) | go_size)))) hm0 (by omega) (by omega))).mono ?_; rw [Hz0.out]; rintro e w1 ⟨rfl, b1⟩
  have B1 : Below w.heap.size w w1 := Below.trans (by (repeat' (first | (with_reducible exact Below.refl _ _) | (with_reducible assumption) | (with_reducible refine below_dn ?_ _) | (with_reducible refine Below.drew ?_) | (with_reducible refine Below.alloc ?_ ?_ _) | (with_reducible refine Below.setCell ?_ ?_ _) | go_size))) (b1.mono (by simp <;> omega))
  have VaS : Hid (Own w1 (w.heap.size) 32 [.int .i64 a1.angle, .int .i64 a1.weight]) := Lib.hid ((Own.newAt 32 [.int .i64 a1.angle, .int .i64 a1.weight] (by simp)).below b1 (by simp <;> omega))
  have sz1 : w.heap.size ≤ w1.heap.size := B1.size
  clear b1
  clear Hz0 hq0 Hy0
  have naS0 : w1.cell? ⟨w.heap.size, 0, none⟩ = some (.int .i64 a1.angle) := VaS.out.cell 0
  have naS1 : w1.cell? ⟨w.heap.size, 1, none⟩ = some (.int .i64 a1.weight) := VaS.out.cell 1
  have laS : w.heap.size < w1.heap.size := VaS.out.lt
  go_wp2_with fail
  go_region_held3 (fun w' => w'.cell? ⟨w.heap.size, 0, none⟩ = some (.int .i64 a1.angle) ∧ w'.cell? ⟨w.heap.size, 1, none⟩ = some (.int .i64 a1.weight)) (first | assumption | go_keep) (first
    | (go_at_call 12
       refine (toSpotS _ _ x0 (by exact H0.out.up (B1.drew)) hn0).mono ?_; rintro e w2 ⟨g2, rfl, hg2, o2, b2⟩
       have b2' : Below w1.heap.size w1 w2 := Below.trans (by (repeat' (first | (with_reducible exact Below.refl _ _) | (with_reducible assumption) | (with_reducible refine below_dn ?_ _) | (with_reducible refine Below.drew ?_) | (with_reducible refine Below.alloc ?_ ?_ _) | (with_reducible refine Below.setCell ?_ ?_ _) | go_size))) (b2.mono (by simp <;> omega))
       clear b2
       have b2 := b2'; clear b2'
       have B2 := bnext B1 b2
       have VaS' := Lib.hid (VaS.out.below b2 VaS.out.lt); clear VaS; have VaS := VaS'; clear VaS'
       clear B1
       have sz2 : w1.heap.size ≤ w2.heap.size := b2.size
       have ga2 : w1.heap.size ≤ g2 := hg2
       have gb2 : g2 < w2.heap.size := o2.lt
       have O2 := Lib.hid o2; clear o2 hg2
       clear b2
       have HS2 : w2.cell? ⟨w.heap.size, 0, none⟩ = some (.int .i64 a1.angle) ∧ w2.cell? ⟨w.heap.size, 1, none⟩ = some (.int .i64 a1.weight) := ⟨VaS.out.cell 0, VaS.out.cell 1⟩)
    | (go_at_call 18
       refine (toSpot a1 _).mono ?_; rintro e w3 ⟨rfl, b3⟩
       have B3 := bnext B2 b3
       have VaS' := Lib.hid (VaS.out.below b3 VaS.out.lt); clear VaS; have VaS := VaS'; clear VaS'
       have O2' := Lib.hid (O2.out.below b3 O2.out.lt); clear O2; have O2 := O2'; clear O2'
       clear B2
       have sz3 : w2.heap.size ≤ w3.heap.size := b3.size
       clear b3
       have HS3 : w3.cell? ⟨w.heap.size, 0, none⟩ = some (.int .i64 a1.angle) ∧ w3.cell? ⟨w.heap.size, 1, none⟩ = some (.int .i64 a1.weight) := ⟨VaS.out.cell 0, VaS.out.cell 1⟩)
    | (go_at_call 17
       refine (spec_AddSpot _ _ x0 a1 (O2.out.rd O2.out.lt (Spot_len x0) (by unfold maxLen; omega) _ (Nat.le_refl _) (by unfold maxLen; omega)) hn0 Hok0.out).mono ?_; rintro e w4 ⟨r4, rfl, o4, b4⟩
       have B4 := bnext B3 b4
       have VaS' := Lib.hid (VaS.out.below b4 VaS.out.lt); clear VaS; have VaS := VaS'; clear VaS'
       have O2' := Lib.hid (O2.out.below b4 O2.out.lt); clear O2; have O2 := O2'; clear O2'
       clear B3
       have sz4 : w3.heap.size ≤ w4.heap.size := b4.size
       obtain ⟨ra4, rc4, rfl⟩ := (own_rd o4).form
       have R4 := Lib.hid (Held.of_row o4); clear o4
       clear b4
       have HS4 : w4.cell? ⟨w.heap.size, 0, none⟩ = some (.int .i64 a1.angle) ∧ w4.cell? ⟨w.heap.size, 1, none⟩ = some (.int .i64 a1.weight) := ⟨VaS.out.cell 0, VaS.out.cell 1⟩))
  clear naS0 naS1 laS HS4
  clear O2
  go_wp2_with fail
  refine (toSpotS _ _ x0 (by exact H0.out.up B4) hn0).mono ?_; rintro e w5 ⟨g5, rfl, hg5, o5, b5⟩
  have B5 := bnext B4 b5
  have VaS' := Lib.hid (VaS.out.below b5 VaS.out.lt); clear VaS; have VaS := VaS'; clear VaS'
  have R4' := Lib.hid (R4.out.below b5); clear R4; have R4 := R4'; clear R4'
  clear B4
  have sz5 : w4.heap.size ≤ w5.heap.size := b5.size
  have ga5 : w4.heap.size ≤ g5 := hg5
  have gb5 : g5 < w5.heap.size := o5.lt
  have O5 := Lib.hid o5; clear o5 hg5
  clear b5
  have naS0 : w5.cell? ⟨w.heap.size, 0, none⟩ = some (.int .i64 a1.angle) := VaS.out.cell 0
  have naS1 : w5.cell? ⟨w.heap.size, 1, none⟩ = some (.int .i64 a1.weight) := VaS.out.cell 1
  have laS : w.heap.size < w5.heap.size := VaS.out.lt
  go_wp2_with fail
  refine (toSpot a1 _).mono ?_; rintro e w6 ⟨rfl, b6⟩
  clear naS0 naS1 laS
  have B6 := bnext B5 b6
  have VaS' := Lib.hid (VaS.out.below b6 VaS.out.lt); clear VaS; have VaS := VaS'; clear VaS'
  have R4' := Lib.hid (R4.out.below b6); clear R4; have R4 := R4'; clear R4'
  have O5' := Lib.hid (O5.out.below b6 O5.out.lt); clear O5; have O5 := O5'; clear O5'
  clear B5
  have sz6 : w5.heap.size ≤ w6.heap.size := b6.size
  clear b6
  have naS0 : w6.cell? ⟨w.heap.size, 0, none⟩ = some (.int .i64 a1.angle) := VaS.out.cell 0
  have naS1 : w6.cell? ⟨w.heap.size, 1, none⟩ = some (.int .i64 a1.weight) := VaS.out.cell 1
  have laS : w.heap.size < w6.heap.size := VaS.out.lt
  go_wp2_with fail
  refine (impl_AddSpot _ _ x0 a1 (O5.out.rd O5.out.lt (Spot_len x0) (by unfold maxLen; omega) _ (Nat.le_refl _) (by unfold maxLen; omega)) hn0 Hok0.out Hk1.out).mono ?_; rintro e w7 ⟨r7, rfl, o7, b7⟩
  clear naS0 naS1 laS
  have B7 := bnext B6 b7
  have VaS' := Lib.hid (VaS.out.below b7 VaS.out.lt); clear VaS; have VaS := VaS'; clear VaS'
  have R4' := Lib.hid (R4.out.below b7); clear R4; have R4 := R4'; clear R4'
  have O5' := Lib.hid (O5.out.below b7 O5.out.lt); clear O5; have O5 := O5'; clear O5'
  clear B6
  have sz7 : w6.heap.size ≤ w7.heap.size := b7.size
  obtain ⟨ra7, rc7, rfl⟩ := (own_rd o7).form
  have R7 := Lib.hid (Held.of_row o7); clear o7
  clear b7
  go_wp2_with fail
  refine (eqSpotS _ _ _ (addR x0 a1) (by exact R7.out.rd) (by exact R4.out.rd) hnR).mono ?_; rintro e w8 ⟨rfl, b8⟩
  have B8 := bnext B7 b8
  have VaS' := Lib.hid (VaS.out.below b8 VaS.out.lt); clear VaS; have VaS := VaS'; clear VaS'
  have R4' := Lib.hid (R4.out.below b8); clear R4; have R4 := R4'; clear R4'
  have O5' := Lib.hid (O5.out.below b8 O5.out.lt); clear O5; have O5 := O5'; clear O5'
  have R7' := Lib.hid (R7.out.below b8); clear R7; have R7 := R7'; clear R7'
  clear B7
  have sz8 : w7.heap.size ≤ w8.heap.size := b8.size
  clear b8
  go_wp2_with fail
  refine (toSpotS _ _ x0 (by exact H0.out.up B8) hn0).mono ?_; rintro e w9 ⟨g9, rfl, hg9, o9, b9⟩
  have B9 := bnext B8 b9
  have VaS' := Lib.hid (VaS.out.below b9 VaS.out.lt); clear VaS; have VaS := VaS'; clear VaS'
  have R4' := Lib.hid (R4.out.below b9); clear R4; have R4 := R4'; clear R4'
  have O5' := Lib.hid (O5.out.below b9 O5.out.lt); clear O5; have O5 := O5'; clear O5'
  have R7' := Lib.hid (R7.out.below b9); clear R7; have R7 := R7'; clear R7'
  clear B8
  have sz9 : w8.heap.size ≤ w9.heap.size := b9.size
  have ga9 : w8.heap.size ≤ g9 := hg9
  have gb9 : g9 < w9.heap.size := o9.lt
  have O9 := Lib.hid o9; clear o9 hg9
  clear b9
  go_wp2_with fail
  refine (eqSpotS _ _ _ x0 (O5.out.rd O5.out.lt (Spot_len x0) (by unfold maxLen; omega) _ (Nat.le_refl _) (by unfold maxLen; omega)) (O9.out.rd O9.out.lt (Spot_len x0) (by unfold maxLen; omega) _ (Nat.le_refl _) (by unfold maxLen; omega)) hn0).mono ?_; rintro e w10 ⟨rfl, b10⟩
  have B10 := bnext B9 b10
  have VaS' := Lib.hid (VaS.out.below b10 VaS.out.lt); clear VaS; have VaS := VaS'; clear VaS'
  have R4' := Lib.hid (R4.out.below b10); clear R4; have R4 := R4'; clear R4'
  have O5' := Lib.hid (O5.out.below b10 O5.out.lt); clear O5; have O5 := O5'; clear O5'
  have R7' := Lib.hid (R7.out.below b10); clear R7; have R7 := R7'; clear R7'
  have O9' := Lib.hid (O9.out.below b10 O9.out.lt); clear O9; have O9 := O9'; clear O9'
  clear B9
  have sz10 : w9.heap.size ≤ w10.heap.size := b10.size
  clear b10
  clear O9
  go_wp2_with fail
  refine (mA3 (c := 5242881) (markSpotS _ _ g5 (g5 + 1) _ _ _ (Held.of_own (by exact O5.out) (Spot_len x0) (by unfold maxLen; omega)) hn0 (by omega) (by omega)) (by omega) (by omega)).mono ?_; rintro e w11 ⟨q11, rfl, qa11, qb11, t11⟩
  have B11 := B10.trans (t11.below (B := w.heap.size) (by omega) (by omega))
  have sz11 := t11.size
  have VaS' := Lib.hid (VaS.out.turn t11 (by omega)); clear VaS; have VaS := VaS'; clear VaS'
  have R4' := Lib.hid (R4.out.turn t11 (by omega)); clear R4; have R4 := R4'; clear R4'
  have R7' := Lib.hid (R7.out.turn t11 (by omega)); clear R7; have R7 := R7'; clear R7'
  clear t11 B10 O5
  have tk : decide (q11 < (0 : Int)) = false := decide_eq_false (by omega)
  go_wp2_with fail
  refine (eqSpotS _ _ _ (addR x0 a1) (by exact R7.out.rd) (by exact R4.out.rd) hnR).mono ?_; rintro e w12 ⟨rfl, b12⟩
  have B12 := bnext B11 b12
  have VaS' := Lib.hid (VaS.out.below b12 VaS.out.lt); clear VaS; have VaS := VaS'; clear VaS'
  have R4' := Lib.hid (R4.out.below b12); clear R4; have R4 := R4'; clear R4'
  have R7' := Lib.hid (R7.out.below b12); clear R7; have R7 := R7'; clear R7'
  clear B11
  have sz12 : w11.heap.size ≤ w12.heap.size := b12.size
  clear b12
  obtain ⟨mm, hmm, hm1⟩ : ∃ mm : Int, 1 + 2 * (((addR x0 a1).length : Nat) : Int) = mm ∧ 1 ≤ mm := ⟨_, rfl, by omega⟩
  have tm : decide (mm < (0 : Int)) = false := decide_eq_false (by omega)
  have HMM := Lib.hid hmm; clear hmm
  go_wp2_with fail
  refine (toM (markSpotS _ _ _ _ _ _ _ (by exact R7.out) hnR (by omega) (by omega)) HMM.out).mono ?_; rintro e w13 ⟨rfl, t13, o13⟩
  have B13 := B12.trans (t13.below (B := w.heap.size) (by omega) (by omega))
  have sz13 := t13.size
  have VaS' := Lib.hid (VaS.out.turn t13 (by omega)); clear VaS; have VaS := VaS'; clear VaS'
  have R4' := Lib.hid (R4.out.turn t13 (by omega)); clear R4; have R4 := R4'; clear R4'
  have R13 := Lib.hid o13; clear o13
  clear t13 B12 R7
  go_wp2_with fail
  refine (toM (heldSpotS _ _ _ _ (by exact R13.out.rd) hnR (by omega) (by omega)) HMM.out).mono ?_; rintro e w14 ⟨rfl, b14⟩
  have B14 := bnext B13 b14
  have VaS' := Lib.hid (VaS.out.below b14 VaS.out.lt); clear VaS; have VaS := VaS'; clear VaS'
  have R4' := Lib.hid (R4.out.below b14); clear R4; have R4 := R4'; clear R4'
  have R13' := Lib.hid (R13.out.below b14); clear R13; have R13 := R13'; clear R13'
  clear B13
  have sz14 : w13.heap.size ≤ w14.heap.size := b14.size
  clear b14
  have naS0 : w14.cell? ⟨w.heap.size, 0, none⟩ = some (.int .i64 a1.angle) := VaS.out.cell 0
  have naS1 : w14.cell? ⟨w.heap.size, 1, none⟩ = some (.int .i64 a1.weight) := VaS.out.cell 1
  have laS : w.heap.size < w14.heap.size := VaS.out.lt
  go_wp2_with fail
  go_region_held3 (fun w' => w'.cell? ⟨w.heap.size, 0, none⟩ = some (.int .i64 a1.angle) ∧ w'.cell? ⟨w.heap.size, 1, none⟩ = some (.int .i64 a1.weight)) (first | assumption | go_keep) (first
    | (go_at_call 12
       refine (toSpotS _ _ x0 (by exact H0.out.up (B14.drew)) hn0).mono ?_; rintro e w15 ⟨g15, rfl, hg15, o15, b15⟩
       have b15' : Below w14.heap.size w14 w15 := Below.trans (by (repeat' (first | (with_reducible exact Below.refl _ _) | (with_reducible assumption) | (with_reducible refine below_dn ?_ _) | (with_reducible refine Below.drew ?_) | (with_reducible refine Below.alloc ?_ ?_ _) | (with_reducible refine Below.setCell ?_ ?_ _) | go_size))) (b15.mono (by simp <;> omega))
       clear b15
       have b15 := b15'; clear b15'
       have B15 := bnext B14 b15
       have VaS' := Lib.hid (VaS.out.below b15 VaS.out.lt); clear VaS; have VaS := VaS'; clear VaS'
       have R4' := Lib.hid (R4.out.below b15); clear R4; have R4 := R4'; clear R4'
       have R13' := Lib.hid (R13.out.below b15); clear R13; have R13 := R13'; clear R13'
       clear B14
       have sz15 : w14.heap.size ≤ w15.heap.size := b15.size
       have ga15 : w14.heap.size ≤ g15 := hg15
       have gb15 : g15 < w15.heap.size := o15.lt
       have O15 := Lib.hid o15; clear o15 hg15
       clear b15
       have HS15 : w15.cell? ⟨w.heap.size, 0, none⟩ = some (.int .i64 a1.angle) ∧ w15.cell? ⟨w.heap.size, 1, none⟩ = some (.int .i64 a1.weight) := ⟨VaS.out.cell 0, VaS.out.cell 1⟩)
    | (go_at_call 18
       refine (toSpot a1 _).mono ?_; rintro e w16 ⟨rfl, b16⟩
       have B16 := bnext B15 b16
       have VaS' := Lib.hid (VaS.out.below b16 VaS.out.lt); clear VaS; have VaS := VaS'; clear VaS'
       have R4' := Lib.hid (R4.out.below b16); clear R4; have R4 := R4'; clear R4'
       have R13' := Lib.hid (R13.out.below b16); clear R13; have R13 := R13'; clear R13'
       have O15' := Lib.hid (O15.out.below b16 O15.out.lt); clear O15; have O15 := O15'; clear O15'
       clear B15
       have sz16 : w15.heap.size ≤ w16.heap.size := b16.size
       clear b16
       have HS16 : w16.cell? ⟨w.heap.size, 0, none⟩ = some (.int .i64 a1.angle) ∧ w16.cell? ⟨w.heap.size, 1, none⟩ = some (.int .i64 a1.weight) := ⟨VaS.out.cell 0, VaS.out.cell 1⟩)
    | (go_at_call 19
       refine (impl_AddSpot _ _ x0 a1 (O15.out.rd O15.out.lt (Spot_len x0) (by unfold maxLen; omega) _ (Nat.le_refl _) (by unfold maxLen; omega)) hn0 Hok0.out Hk1.out).mono ?_; rintro e w17 ⟨r17, rfl, o17, b17⟩
       have B17 := bnext B16 b17
       have VaS' := Lib.hid (VaS.out.below b17 VaS.out.lt); clear VaS; have VaS := VaS'; clear VaS'
       have R4' := Lib.hid (R4.out.below b17); clear R4; have R4 := R4'; clear R4'
       have R13' := Lib.hid (R13.out.below b17); clear R13; have R13 := R13'; clear R13'
       have O15' := Lib.hid (O15.out.below b17 O15.out.lt); clear O15; have O15 := O15'; clear O15'
       clear B16
       have sz17 : w16.heap.size ≤ w17.heap.size := b17.size
       obtain ⟨ra17, rc17, rfl⟩ := (own_rd o17).form
       have R17 := Lib.hid (Held.of_row o17); clear o17
       clear b17
       have HS17 : w17.cell? ⟨w.heap.size, 0, none⟩ = some (.int .i64 a1.angle) ∧ w17.cell? ⟨w.heap.size, 1, none⟩ = some (.int .i64 a1.weight) := ⟨VaS.out.cell 0, VaS.out.cell 1⟩))
  clear naS0 naS1 laS HS17
  clear O15
  go_wp2_with fail
  refine (eqSpotS _ _ _ (addR x0 a1) (by exact R17.out.rd) (by exact R4.out.rd) hnR).mono ?_; rintro e w18 ⟨rfl, b18⟩
  have B18 := bnext B17 b18
  have VaS' := Lib.hid (VaS.out.below b18 VaS.out.lt); clear VaS; have VaS := VaS'; clear VaS'
  have R4' := Lib.hid (R4.out.below b18); clear R4; have R4 := R4'; clear R4'
  have R13' := Lib.hid (R13.out.below b18); clear R13; have R13 := R13'; clear R13'
  have R17' := Lib.hid (R17.out.below b18); clear R17; have R17 := R17'; clear R17'
  clear B17
  have sz18 : w17.heap.size ≤ w18.heap.size := b18.size
  clear b18
  go_wp2_with fail
  refine (toM (heldSpotS _ _ _ _ (by exact R13.out.rd) hnR (by omega) (by omega)) HMM.out).mono ?_; rintro e w19 ⟨rfl, b19⟩
  have B19 := bnext B18 b19
  have VaS' := Lib.hid (VaS.out.below b19 VaS.out.lt); clear VaS; have VaS := VaS'; clear VaS'
  have R4' := Lib.hid (R4.out.below b19); clear R4; have R4 := R4'; clear R4'
  have R13' := Lib.hid (R13.out.below b19); clear R13; have R13 := R13'; clear R13'
  have R17' := Lib.hid (R17.out.below b19); clear R17; have R17 := R17'; clear R17'
  clear B18
  have sz19 : w18.heap.size ≤ w19.heap.size := b19.size
  clear b19
  go_wp2_with fail
  all_goals go_ret
  all_goals exact ⟨rfl, B19⟩
end Go.Proofs.Ytkolgfmjajlpgaa
