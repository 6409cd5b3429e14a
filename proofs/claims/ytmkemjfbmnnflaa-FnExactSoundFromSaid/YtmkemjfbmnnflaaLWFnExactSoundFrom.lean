/- FnExactSoundFrom: the law. -/
import Derived.Test.YtmkemjfbmnnflaaRows
import Derived.Test.YtmkemjfbmnnflaaLaw
import Derived.Test.YtmkemjfbmnnflaaSoundF
import Derived.Test.YtmkemjfbmnnflaaHSound
namespace Go.Proofs.Ytmkemjfbmnnflaa
open Go.ChangeShapes Go.WideShapes Go.ChangeAt Go.RowKit Go.Deep Go.Joins
set_option linter.unusedVariables false
set_option maxRecDepth 100000
set_option linter.unusedSimpArgs false
set_option maxHeartbeats 1000000 in
theorem FnExactSoundFrom_walk (w : World) (v0 : Value) (x0 : List Measure) (k0 : Rd w.heap.size w v0 3 x0.length (x0.flatMap Measure.put) ∧ x0.length ≤ maxLen ∧ ∀ x ∈ x0, x.ok) (a1 : ByteArray) (k1 : a1.size ≤ maxLen) :
    Calls Try.prog 10 #[v0, .string a1] w fun e w' => e = .returned (.bool true) ∧ Below w.heap.size w w' := by
  obtain ⟨h0, hm0, hok0⟩ := k0
  have H0 := Lib.hid h0; clear h0
  have Hok0 := Lib.hid hok0; clear hok0
  have Hk1 := Lib.hid k1; clear k1
  by_cases hn1 : a1.size ≤ 1048576
  case neg =>
    have hmm := Hk1.out
    unfold maxLen at hmm
    have t1 : decide ((1048576 : Int) < a1.size) = true := decide_eq_true (by omega)
    go_enter Try.func10, Try.ntmps10
    go_wp2_with fail
    go_ret
    exact ⟨rfl, by (repeat' (first | (with_reducible exact Below.refl _ _) | (with_reducible assumption) | (with_reducible refine below_dn ?_ _) | (with_reducible refine Below.drew ?_) | (with_reducible refine Below.alloc ?_ ?_ _) | (with_reducible refine Below.setCell ?_ ?_ _) | go_size))⟩
  have t1 : decide ((1048576 : Int) < a1.size) = false := decide_eq_false (by omega)
  by_cases hq0 : (x0.length + wtMeasure x0) ≤ 1048576
  case neg =>
    have e0 : Hid (szR 1048576 (x0.length + wtMeasure x0) = -1) := (if_neg (by omega) : szR 1048576 (x0.length + wtMeasure x0) = -1)
    go_enter Try.func10, Try.ntmps10
    go_wp2_with fail
    refine (szMeasureS _ _ x0 1048576 (by exact H0.out.up (by (repeat' (first | (with_reducible exact Below.refl _ _) | (with_reducible assumption) | (with_reducible refine below_dn ?_ _) | (with_reducible refine Below.drew ?_) | (with_reducible refine Below.alloc ?_ ?_ _) | (with_reducible refine Below.setCell ?_ ?_ _) | go_size)))) hm0 (fun x hx => (Hok0.out x hx).1) (by omega) (by omega)).mono ?_; rw [e0.out]; rintro e w1 ⟨rfl, b1⟩
    have B1 : Below w.heap.size w w1 := Below.trans (by (repeat' (first | (with_reducible exact Below.refl _ _) | (with_reducible assumption) | (with_reducible refine below_dn ?_ _) | (with_reducible refine Below.drew ?_) | (with_reducible refine Below.alloc ?_ ?_ _) | (with_reducible refine Below.setCell ?_ ?_ _) | go_size))) (b1.mono (by simp <;> omega))
    clear b1
    go_wp2_with fail
    go_ret
    exact ⟨rfl, B1⟩
  obtain ⟨z0, hz0, hy0, hy0_⟩ : ∃ z : Int, szR 1048576 (x0.length + wtMeasure x0) = z ∧ (0 ≤ z ∧ z ≤ 1048576) ∧ z = 1048576 - (((x0.length + wtMeasure x0) : Nat) : Int) := ⟨_, rfl, by unfold szR; rw [if_pos (by omega)]; omega, by unfold szR; rw [if_pos (by omega)]⟩
  have Hy0 := Lib.hid hy0_; clear hy0_
  have Hz0 := Lib.hid hz0; clear hz0
  have hn0 : x0.length ≤ 1048576 := by omega
  go_enter Try.func10, Try.ntmps10
  go_wp2_with fail
  refine (szMeasureS _ _ x0 1048576 (by exact H0.out.up (by (repeat' (first | (with_reducible exact Below.refl _ _) | (with_reducible assumption) | (with_reducible refine below_dn ?_ _) | (with_reducible refine Below.drew ?_) | (with_reducible refine Below.alloc ?_ ?_ _) | (with_reducible refine Below.setCell ?_ ?_ _) | go_size)))) hm0 (fun x hx => (Hok0.out x hx).1) (by omega) (by omega)).mono ?_; rw [Hz0.out]; rintro e w1 ⟨rfl, b1⟩
  have B1 : Below w.heap.size w w1 := Below.trans (by (repeat' (first | (with_reducible exact Below.refl _ _) | (with_reducible assumption) | (with_reducible refine below_dn ?_ _) | (with_reducible refine Below.drew ?_) | (with_reducible refine Below.alloc ?_ ?_ _) | (with_reducible refine Below.setCell ?_ ?_ _) | go_size))) (b1.mono (by simp <;> omega))
  clear b1
  clear Hz0 hq0 Hy0
  go_wp2_with fail
  refine (toMeasureS _ _ x0 (by exact H0.out.up B1) hn0).mono ?_; rintro e w2 ⟨g2, rfl, hg2, o2, b2⟩
  have B2 := bnext B1 b2
  clear B1
  have O2 := Lib.hid o2; clear o2 hg2
  clear b2
  go_wp2_with fail
  refine (spec_SoundFrom _ _ x0 a1 (O2.out.rd O2.out.lt (Measure_len x0) (by unfold maxLen; omega) _ (Nat.le_refl _) (by unfold maxLen; omega)) hn0 Hok0.out).mono ?_; rintro e w3 ⟨rfl, b3⟩
  have B3 := bnext B2 b3
  have O2' := Lib.hid (O2.out.below b3 O2.out.lt); clear O2; have O2 := O2'; clear O2'
  clear B2
  clear b3
  clear O2
  go_wp2_with fail
  refine (toMeasureS _ _ x0 (by exact H0.out.up (B3.alloc B3.size _)) hn0).mono ?_; rintro e w4 ⟨g4, rfl, hg4, o4, b4⟩
  have Vw0 : Hid (Own w4 (w3.heap.size) 47 [.int .i64 (sndV x0 a1 0), .int .i64 (sndV x0 a1 1), .int .i64 (sndV x0 a1 2), .int .i64 (sndV x0 a1 3), .int .i64 (sndV x0 a1 4)]) := Lib.hid ((Own.newAt 47 [.int .i64 (sndV x0 a1 0), .int .i64 (sndV x0 a1 1), .int .i64 (sndV x0 a1 2), .int .i64 (sndV x0 a1 3), .int .i64 (sndV x0 a1 4)] (by simp)).below b4 (by simp <;> omega))
  have b4' : Below w3.heap.size w3 w4 := Below.trans (by (repeat' (first | (with_reducible exact Below.refl _ _) | (with_reducible assumption) | (with_reducible refine below_dn ?_ _) | (with_reducible refine Below.drew ?_) | (with_reducible refine Below.alloc ?_ ?_ _) | (with_reducible refine Below.setCell ?_ ?_ _) | go_size))) (b4.mono (by simp <;> omega))
  clear b4
  have b4 := b4'; clear b4'
  have B4 := bnext B3 b4
  clear B3
  have O4 := Lib.hid o4; clear o4 hg4
  clear b4
  go_wp2_with fail
  refine (impl_SoundFrom _ _ x0 a1 (O4.out.rd O4.out.lt (Measure_len x0) (by unfold maxLen; omega) _ (Nat.le_refl _) (by unfold maxLen; omega)) hn0 Hok0.out).mono ?_; rintro e w5 ⟨rfl, b5⟩
  have B5 := bnext B4 b5
  have Vw0' := Lib.hid (Vw0.out.below b5 Vw0.out.lt); clear Vw0; have Vw0 := Vw0'; clear Vw0'
  have O4' := Lib.hid (O4.out.below b5 O4.out.lt); clear O4; have O4 := O4'; clear O4'
  clear B4
  clear b5
  have nw00 : w5.cell? ⟨w3.heap.size, 0, none⟩ = some (.int .i64 (sndV x0 a1 0)) := Vw0.out.cell 0
  have nw01 : w5.cell? ⟨w3.heap.size, 1, none⟩ = some (.int .i64 (sndV x0 a1 1)) := Vw0.out.cell 1
  have nw02 : w5.cell? ⟨w3.heap.size, 2, none⟩ = some (.int .i64 (sndV x0 a1 2)) := Vw0.out.cell 2
  have nw03 : w5.cell? ⟨w3.heap.size, 3, none⟩ = some (.int .i64 (sndV x0 a1 3)) := Vw0.out.cell 3
  have nw04 : w5.cell? ⟨w3.heap.size, 4, none⟩ = some (.int .i64 (sndV x0 a1 4)) := Vw0.out.cell 4
  have lw0 : w3.heap.size < w5.heap.size := Vw0.out.lt
  go_wp2_with fail
  refine (eqSound (sndV x0 a1 0) (sndV x0 a1 1) (sndV x0 a1 2) (sndV x0 a1 3) (sndV x0 a1 4) _).mono ?_; rintro e w6 ⟨rfl, b6⟩
  clear nw00 nw01 nw02 nw03 nw04 lw0
  have Vg0 : Hid (Own w6 (w5.heap.size) 47 [.int .i64 (sndV x0 a1 0), .int .i64 (sndV x0 a1 1), .int .i64 (sndV x0 a1 2), .int .i64 (sndV x0 a1 3), .int .i64 (sndV x0 a1 4)]) := Lib.hid ((Own.newAt 47 [.int .i64 (sndV x0 a1 0), .int .i64 (sndV x0 a1 1), .int .i64 (sndV x0 a1 2), .int .i64 (sndV x0 a1 3), .int .i64 (sndV x0 a1 4)] (by simp)).below b6 (by simp <;> omega))
  have b6' : Below w5.heap.size w5 w6 := Below.trans (by (repeat' (first | (with_reducible exact Below.refl _ _) | (with_reducible assumption) | (with_reducible refine below_dn ?_ _) | (with_reducible refine Below.drew ?_) | (with_reducible refine Below.alloc ?_ ?_ _) | (with_reducible refine Below.setCell ?_ ?_ _) | go_size))) (b6.mono (by simp <;> omega))
  clear b6
  have b6 := b6'; clear b6'
  have B6 := bnext B5 b6
  have Vw0' := Lib.hid (Vw0.out.below b6 Vw0.out.lt); clear Vw0; have Vw0 := Vw0'; clear Vw0'
  have O4' := Lib.hid (O4.out.below b6 O4.out.lt); clear O4; have O4 := O4'; clear O4'
  clear B5
  clear b6
  go_wp2_with fail
  refine (toMeasureS _ _ x0 (by exact H0.out.up B6) hn0).mono ?_; rintro e w7 ⟨g7, rfl, hg7, o7, b7⟩
  have B7 := bnext B6 b7
  have Vw0' := Lib.hid (Vw0.out.below b7 Vw0.out.lt); clear Vw0; have Vw0 := Vw0'; clear Vw0'
  have O4' := Lib.hid (O4.out.below b7 O4.out.lt); clear O4; have O4 := O4'; clear O4'
  have Vg0' := Lib.hid (Vg0.out.below b7 Vg0.out.lt); clear Vg0; have Vg0 := Vg0'; clear Vg0'
  clear B6
  have O7 := Lib.hid o7; clear o7 hg7
  clear b7
  go_wp2_with fail
  refine (eqMeasureS _ _ _ x0 (O4.out.rd O4.out.lt (Measure_len x0) (by unfold maxLen; omega) _ (Nat.le_refl _) (by unfold maxLen; omega)) (O7.out.rd O7.out.lt (Measure_len x0) (by unfold maxLen; omega) _ (Nat.le_refl _) (by unfold maxLen; omega)) hn0).mono ?_; rintro e w8 ⟨rfl, b8⟩
  have B8 := bnext B7 b8
  have Vw0' := Lib.hid (Vw0.out.below b8 Vw0.out.lt); clear Vw0; have Vw0 := Vw0'; clear Vw0'
  have O4' := Lib.hid (O4.out.below b8 O4.out.lt); clear O4; have O4 := O4'; clear O4'
  have Vg0' := Lib.hid (Vg0.out.below b8 Vg0.out.lt); clear Vg0; have Vg0 := Vg0'; clear Vg0'
  have O7' := Lib.hid (O7.out.below b8 O7.out.lt); clear O7; have O7 := O7'; clear O7'
  clear B7
  clear b8
  clear O4 O7
  go_wp2_with fail
  all_goals go_ret
  all_goals exact ⟨rfl, B8⟩
end Go.Proofs.Ytmkemjfbmnnflaa
