/- FnExactMixOf: the law. -/
import Derived.Test.YtegfgcgjoojdmaaRows
import Derived.Test.YtegfgcgjoojdmaaLaw
import Derived.Test.YtegfgcgjoojdmaaMix
namespace Go.Proofs.Ytegfgcgjoojdmaa
open Go.ChangeShapes Go.WideShapes Go.ChangeAt Go.RowKit Go.Deep Go.Joins
set_option linter.unusedVariables false
set_option maxRecDepth 100000
set_option linter.unusedSimpArgs false
set_option maxHeartbeats 1000000 in
theorem FnExactMixOf_walk (w : World) (v0 : Value) (x0 : List Ingot) (k0 : Rd w.heap.size w v0 5 x0.length (x0.flatMap Ingot.put) ∧ x0.length ≤ maxLen ∧ ∀ x ∈ x0, x.ok) (v1 : Value) (x1 : List Int) (k1 : Rd w.heap.size w v1 1 x1.length (x1.flatMap putI) ∧ x1.length ≤ maxLen ∧ ∀ x ∈ x1, I64 x) :
    Calls Try.prog 8 #[v0, v1] w fun e w' => e = .returned (.bool true) ∧ Below w.heap.size w w' := by
  obtain ⟨h0, hm0, hok0⟩ := k0
  have H0 := Lib.hid h0; clear h0
  have Hok0 := Lib.hid hok0; clear hok0
  obtain ⟨h1, hm1, hok1⟩ := k1
  obtain ⟨lo1, lc1, rfl⟩ := h1.form
  have H1 := Lib.hid h1; clear h1
  have Hok1 := Lib.hid hok1; clear hok1
  by_cases hn1 : x1.length ≤ 1048576
  case neg =>
    have hmm := hm1
    unfold maxLen at hmm
    have t1 : decide ((1048576 : Int) < x1.length) = true := decide_eq_true (by omega)
    go_enter Try.func8, Try.ntmps8
    go_wp2_with fail
    go_ret
    exact ⟨rfl, by (repeat' (first | (with_reducible exact Below.refl _ _) | (with_reducible assumption) | (with_reducible refine below_dn ?_ _) | (with_reducible refine Below.drew ?_) | (with_reducible refine Below.alloc ?_ ?_ _) | (with_reducible refine Below.setCell ?_ ?_ _) | go_size))⟩
  have t1 : decide ((1048576 : Int) < x1.length) = false := decide_eq_false (by omega)
  by_cases hq0 : (x0.length + wtIngot x0) ≤ 1048576
  case neg =>
    have e0 : Hid (szR 1048576 (x0.length + wtIngot x0) = -1) := (if_neg (by omega) : szR 1048576 (x0.length + wtIngot x0) = -1)
    go_enter Try.func8, Try.ntmps8
    go_wp2_with fail
    refine (szIngotS _ _ x0 1048576 (by exact H0.out.up (by (repeat' (first | (with_reducible exact Below.refl _ _) | (with_reducible assumption) | (with_reducible refine below_dn ?_ _) | (with_reducible refine Below.drew ?_) | (with_reducible refine Below.alloc ?_ ?_ _) | (with_reducible refine Below.setCell ?_ ?_ _) | go_size)))) hm0 (fun x hx => (Hok0.out x hx).1) (by omega) (by omega)).mono ?_; rw [e0.out]; rintro e w1 ⟨rfl, b1⟩
    have B1 : Below w.heap.size w w1 := Below.trans (by (repeat' (first | (with_reducible exact Below.refl _ _) | (with_reducible assumption) | (with_reducible refine below_dn ?_ _) | (with_reducible refine Below.drew ?_) | (with_reducible refine Below.alloc ?_ ?_ _) | (with_reducible refine Below.setCell ?_ ?_ _) | go_size))) (b1.mono (by simp <;> omega))
    clear b1
    go_wp2_with fail
    go_ret
    exact ⟨rfl, B1⟩
  obtain ⟨z0, hz0, hy0, hy0_⟩ : ∃ z : Int, szR 1048576 (x0.length + wtIngot x0) = z ∧ (0 ≤ z ∧ z ≤ 1048576) ∧ z = 1048576 - (((x0.length + wtIngot x0) : Nat) : Int) := ⟨_, rfl, by unfold szR; rw [if_pos (by omega)]; omega, by unfold szR; rw [if_pos (by omega)]⟩
  have Hy0 := Lib.hid hy0_; clear hy0_
  have Hz0 := Lib.hid hz0; clear hz0
  have hn0 : x0.length ≤ 1048576 := by omega
  go_enter Try.func8, Try.ntmps8
  go_wp2_with fail
  refine (szIngotS _ _ x0 1048576 (by exact H0.out.up (by (repeat' (first | (with_reducible exact Below.refl _ _) | (with_reducible assumption) | (with_reducible refine below_dn ?_ _) | (with_reducible refine Below.drew ?_) | (with_reducible refine Below.alloc ?_ ?_ _) | (with_reducible refine Below.setCell ?_ ?_ _) | go_size)))) hm0 (fun x hx => (Hok0.out x hx).1) (by omega) (by omega)).mono ?_; rw [Hz0.out]; rintro e w1 ⟨rfl, b1⟩
  have B1 : Below w.heap.size w w1 := Below.trans (by (repeat' (first | (with_reducible exact Below.refl _ _) | (with_reducible assumption) | (with_reducible refine below_dn ?_ _) | (with_reducible refine Below.drew ?_) | (with_reducible refine Below.alloc ?_ ?_ _) | (with_reducible refine Below.setCell ?_ ?_ _) | go_size))) (b1.mono (by simp <;> omega))
  clear b1
  clear Hz0 hq0 Hy0
  go_wp2_with fail
  refine (toIngotS _ _ x0 (by exact H0.out.up B1) hn0).mono ?_; rintro e w2 ⟨g2, rfl, hg2, o2, b2⟩
  have B2 := bnext B1 b2
  clear B1
  have O2 := Lib.hid o2; clear o2 hg2
  clear b2
  go_wp2_with fail
  refine (toInt64S _ _ x1 (by exact H1.out.up B2) hn1).mono ?_; rintro e w3 ⟨g3, rfl, hg3, o3, b3⟩
  have B3 := bnext B2 b3
  have O2' := Lib.hid (O2.out.below b3 O2.out.lt); clear O2; have O2 := O2'; clear O2'
  clear B2
  have O3 := Lib.hid o3; clear o3 hg3
  clear b3
  go_wp2_with fail
  refine (spec_MixOf _ _ _ x0 x1 (O2.out.rd O2.out.lt (Ingot_len x0) (by unfold maxLen; omega) _ (Nat.le_refl _) (by unfold maxLen; omega)) (O3.out.rd O3.out.lt (putI_len x1) (by unfold maxLen; omega) _ (Nat.le_refl _) (by unfold maxLen; omega)) hn0 hn1 Hok0.out Hok1.out).mono ?_; rintro e w4 ⟨rfl, b4⟩
  have B4 := bnext B3 b4
  have O2' := Lib.hid (O2.out.below b4 O2.out.lt); clear O2; have O2 := O2'; clear O2'
  have O3' := Lib.hid (O3.out.below b4 O3.out.lt); clear O3; have O3 := O3'; clear O3'
  clear B3
  clear b4
  clear O2 O3
  go_wp2_with fail
  refine (toIngotS _ _ x0 (by exact H0.out.up (B4.alloc B4.size _)) hn0).mono ?_; rintro e w5 ⟨g5, rfl, hg5, o5, b5⟩
  have Vw0 : Hid (Own w5 (w4.heap.size) 73 [.int .i64 (mixS x0 x1).1.copper, .int .i64 (mixS x0 x1).1.tin, .int .i64 (mixS x0 x1).1.other]) := Lib.hid ((Own.newAt 73 [.int .i64 (mixS x0 x1).1.copper, .int .i64 (mixS x0 x1).1.tin, .int .i64 (mixS x0 x1).1.other] (by simp)).below b5 (by simp <;> omega))
  have b5' : Below w4.heap.size w4 w5 := Below.trans (by (repeat' (first | (with_reducible exact Below.refl _ _) | (with_reducible assumption) | (with_reducible refine below_dn ?_ _) | (with_reducible refine Below.drew ?_) | (with_reducible refine Below.alloc ?_ ?_ _) | (with_reducible refine Below.setCell ?_ ?_ _) | go_size))) (b5.mono (by simp <;> omega))
  clear b5
  have b5 := b5'; clear b5'
  have B5 := bnext B4 b5
  clear B4
  have O5 := Lib.hid o5; clear o5 hg5
  clear b5
  go_wp2_with fail
  refine (toInt64S _ _ x1 (by exact H1.out.up B5) hn1).mono ?_; rintro e w6 ⟨g6, rfl, hg6, o6, b6⟩
  have B6 := bnext B5 b6
  have Vw0' := Lib.hid (Vw0.out.below b6 Vw0.out.lt); clear Vw0; have Vw0 := Vw0'; clear Vw0'
  have O5' := Lib.hid (O5.out.below b6 O5.out.lt); clear O5; have O5 := O5'; clear O5'
  clear B5
  have O6 := Lib.hid o6; clear o6 hg6
  clear b6
  go_wp2_with fail
  refine (impl_MixOf _ _ _ x0 x1 (O5.out.rd O5.out.lt (Ingot_len x0) (by unfold maxLen; omega) _ (Nat.le_refl _) (by unfold maxLen; omega)) (O6.out.rd O6.out.lt (putI_len x1) (by unfold maxLen; omega) _ (Nat.le_refl _) (by unfold maxLen; omega)) hn0 hn1 Hok0.out Hok1.out).mono ?_; rintro e w7 ⟨rfl, b7⟩
  have B7 := bnext B6 b7
  have Vw0' := Lib.hid (Vw0.out.below b7 Vw0.out.lt); clear Vw0; have Vw0 := Vw0'; clear Vw0'
  have O5' := Lib.hid (O5.out.below b7 O5.out.lt); clear O5; have O5 := O5'; clear O5'
  have O6' := Lib.hid (O6.out.below b7 O6.out.lt); clear O6; have O6 := O6'; clear O6'
  clear B6
  clear b7
  have nw00 : w7.cell? ⟨w4.heap.size, 0, none⟩ = some (.int .i64 (mixS x0 x1).1.copper) := Vw0.out.cell 0
  have nw01 : w7.cell? ⟨w4.heap.size, 1, none⟩ = some (.int .i64 (mixS x0 x1).1.tin) := Vw0.out.cell 1
  have nw02 : w7.cell? ⟨w4.heap.size, 2, none⟩ = some (.int .i64 (mixS x0 x1).1.other) := Vw0.out.cell 2
  have lw0 : w4.heap.size < w7.heap.size := Vw0.out.lt
  go_wp2_with fail
  refine (eqAlloy (mixS x0 x1).1 _).mono ?_; rintro e w8 ⟨rfl, b8⟩
  clear nw00 nw01 nw02 lw0
  have Vg0 : Hid (Own w8 (w7.heap.size) 73 [.int .i64 (mixS x0 x1).1.copper, .int .i64 (mixS x0 x1).1.tin, .int .i64 (mixS x0 x1).1.other]) := Lib.hid ((Own.newAt 73 [.int .i64 (mixS x0 x1).1.copper, .int .i64 (mixS x0 x1).1.tin, .int .i64 (mixS x0 x1).1.other] (by simp)).below b8 (by simp <;> omega))
  have b8' : Below w7.heap.size w7 w8 := Below.trans (by (repeat' (first | (with_reducible exact Below.refl _ _) | (with_reducible assumption) | (with_reducible refine below_dn ?_ _) | (with_reducible refine Below.drew ?_) | (with_reducible refine Below.alloc ?_ ?_ _) | (with_reducible refine Below.setCell ?_ ?_ _) | go_size))) (b8.mono (by simp <;> omega))
  clear b8
  have b8 := b8'; clear b8'
  have B8 := bnext B7 b8
  have Vw0' := Lib.hid (Vw0.out.below b8 Vw0.out.lt); clear Vw0; have Vw0 := Vw0'; clear Vw0'
  have O5' := Lib.hid (O5.out.below b8 O5.out.lt); clear O5; have O5 := O5'; clear O5'
  have O6' := Lib.hid (O6.out.below b8 O6.out.lt); clear O6; have O6 := O6'; clear O6'
  clear B7
  clear b8
  go_wp2_with fail
  refine (toIngotS _ _ x0 (by exact H0.out.up B8) hn0).mono ?_; rintro e w9 ⟨g9, rfl, hg9, o9, b9⟩
  have B9 := bnext B8 b9
  have Vw0' := Lib.hid (Vw0.out.below b9 Vw0.out.lt); clear Vw0; have Vw0 := Vw0'; clear Vw0'
  have O5' := Lib.hid (O5.out.below b9 O5.out.lt); clear O5; have O5 := O5'; clear O5'
  have O6' := Lib.hid (O6.out.below b9 O6.out.lt); clear O6; have O6 := O6'; clear O6'
  have Vg0' := Lib.hid (Vg0.out.below b9 Vg0.out.lt); clear Vg0; have Vg0 := Vg0'; clear Vg0'
  clear B8
  have O9 := Lib.hid o9; clear o9 hg9
  clear b9
  go_wp2_with fail
  refine (eqIngotS _ _ _ x0 (O5.out.rd O5.out.lt (Ingot_len x0) (by unfold maxLen; omega) _ (Nat.le_refl _) (by unfold maxLen; omega)) (O9.out.rd O9.out.lt (Ingot_len x0) (by unfold maxLen; omega) _ (Nat.le_refl _) (by unfold maxLen; omega)) hn0).mono ?_; rintro e w10 ⟨rfl, b10⟩
  have B10 := bnext B9 b10
  have Vw0' := Lib.hid (Vw0.out.below b10 Vw0.out.lt); clear Vw0; have Vw0 := Vw0'; clear Vw0'
  have O5' := Lib.hid (O5.out.below b10 O5.out.lt); clear O5; have O5 := O5'; clear O5'
  have O6' := Lib.hid (O6.out.below b10 O6.out.lt); clear O6; have O6 := O6'; clear O6'
  have Vg0' := Lib.hid (Vg0.out.below b10 Vg0.out.lt); clear Vg0; have Vg0 := Vg0'; clear Vg0'
  have O9' := Lib.hid (O9.out.below b10 O9.out.lt); clear O9; have O9 := O9'; clear O9'
  clear B9
  clear b10
  clear O5 O9
  go_wp2_with fail
  refine (toInt64S _ _ x1 (by exact H1.out.up B10) hn1).mono ?_; rintro e w11 ⟨g11, rfl, hg11, o11, b11⟩
  have B11 := bnext B10 b11
  have Vw0' := Lib.hid (Vw0.out.below b11 Vw0.out.lt); clear Vw0; have Vw0 := Vw0'; clear Vw0'
  have O6' := Lib.hid (O6.out.below b11 O6.out.lt); clear O6; have O6 := O6'; clear O6'
  have Vg0' := Lib.hid (Vg0.out.below b11 Vg0.out.lt); clear Vg0; have Vg0 := Vg0'; clear Vg0'
  clear B10
  have O11 := Lib.hid o11; clear o11 hg11
  clear b11
  go_wp2_with fail
  refine (dB (eqInt64S _ _ _ _ _ x1 x1 (O6.out.rd O6.out.lt (putI_len x1) (by unfold maxLen; omega) _ (Nat.le_refl _) (by unfold maxLen; omega)) (O11.out.rd O11.out.lt (putI_len x1) (by unfold maxLen; omega) _ (Nat.le_refl _) (by unfold maxLen; omega)) hn1 hn1 rfl)).mono ?_; rintro e w12 ⟨rfl, b12⟩
  have B12 := bnext B11 b12
  have Vw0' := Lib.hid (Vw0.out.below b12 Vw0.out.lt); clear Vw0; have Vw0 := Vw0'; clear Vw0'
  have O6' := Lib.hid (O6.out.below b12 O6.out.lt); clear O6; have O6 := O6'; clear O6'
  have Vg0' := Lib.hid (Vg0.out.below b12 Vg0.out.lt); clear Vg0; have Vg0 := Vg0'; clear Vg0'
  have O11' := Lib.hid (O11.out.below b12 O11.out.lt); clear O11; have O11 := O11'; clear O11'
  clear B11
  clear b12
  clear O6 O11
  go_wp2_with fail
  all_goals go_ret
  all_goals exact ⟨rfl, B12⟩
end Go.Proofs.Ytegfgcgjoojdmaa
