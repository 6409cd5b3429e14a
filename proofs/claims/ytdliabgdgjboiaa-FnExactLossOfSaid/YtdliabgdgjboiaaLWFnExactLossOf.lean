/- FnExactLossOf: the law. -/
import Derived.Test.YtdliabgdgjboiaaRows
import Derived.Test.YtdliabgdgjboiaaLaw
import Derived.Test.YtdliabgdgjboiaaLossOf
namespace Go.Proofs.Ytdliabgdgjboiaa
open Go.ChangeShapes Go.WideShapes Go.ChangeAt Go.RowKit Go.Deep Go.Joins
set_option linter.unusedVariables false
set_option maxRecDepth 100000
set_option linter.unusedSimpArgs false
set_option maxHeartbeats 1000000 in
theorem FnExactLossOf_walk (w : World) (v0 : Value) (x0 : List Ingot) (k0 : Rd w.heap.size w v0 5 x0.length (x0.flatMap Ingot.put) ∧ x0.length ≤ maxLen ∧ ∀ x ∈ x0, x.ok) (v1 : Value) (x1 : List Melt) (k1 : Rd w.heap.size w v1 3 x1.length (x1.flatMap Melt.put) ∧ x1.length ≤ maxLen ∧ ∀ x ∈ x1, x.ok w) :
    Calls Try.prog 7 #[v0, v1] w fun e w' => e = .returned (.bool true) ∧ Below w.heap.size w w' := by
  obtain ⟨h0, hm0, hok0⟩ := k0
  have H0 := Lib.hid h0; clear h0
  have Hok0 := Lib.hid hok0; clear hok0
  obtain ⟨h1, hm1, hok1⟩ := k1
  have H1 := Lib.hid h1; clear h1
  have Hok1 := Lib.hid hok1; clear hok1
  by_cases hq0 : (x0.length + wtIngot x0) ≤ 1048576
  case neg =>
    have e0 : Hid (szR 1048576 (x0.length + wtIngot x0) = -1) := (if_neg (by omega) : szR 1048576 (x0.length + wtIngot x0) = -1)
    go_enter Try.func7, Try.ntmps7
    go_wp2_with fail
    refine (szIngotS _ _ x0 1048576 (by exact H0.out.up (by (repeat' (first | (with_reducible exact Below.refl _ _) | (with_reducible assumption) | (with_reducible refine below_dn ?_ _) | (with_reducible refine Below.drew ?_) | (with_reducible refine Below.alloc ?_ ?_ _) | (with_reducible refine Below.setCell ?_ ?_ _) | go_size)))) hm0 (fun x hx => (Hok0.out x hx).1) (by omega) (by omega)).mono ?_; rw [e0.out]; rintro e w1 ⟨rfl, b1⟩
    have B1 : Below w.heap.size w w1 := Below.trans (by (repeat' (first | (with_reducible exact Below.refl _ _) | (with_reducible assumption) | (with_reducible refine below_dn ?_ _) | (with_reducible refine Below.drew ?_) | (with_reducible refine Below.alloc ?_ ?_ _) | (with_reducible refine Below.setCell ?_ ?_ _) | go_size))) (b1.mono (by simp <;> omega))
    clear b1
    go_wp2_with fail
    go_ret
    exact ⟨rfl, B1⟩
  obtain ⟨z0, hz0, hy0, hy0_⟩ : ∃ z : Int, szR 1048576 (x0.length + wtIngot x0) = z ∧ (0 ≤ z ∧ z ≤ 1048576) ∧ z = 1048576 - (((x0.length + wtIngot x0) : Nat) : Int) := ⟨_, rfl, by unfold szR; rw [if_pos (by omega)]; omega, by unfold szR; rw [if_pos (by omega)]⟩
  have Hy0 := Lib.hid hy0_; clear hy0_
  have Hz0 := Lib.hid hz0; clear hz0
  have hn0 : x0.length ≤ 1048576 := by omega
  by_cases hq1 : (x0.length + wtIngot x0) + (x1.length + wtMelt x1) ≤ 1048576
  case neg =>
    have e0 : Hid (szR z0 (x1.length + wtMelt x1) = -1) := (if_neg (by have := Hy0.out; omega) : szR z0 (x1.length + wtMelt x1) = -1)
    go_enter Try.func7, Try.ntmps7
    go_wp2_with fail
    refine (szIngotS _ _ x0 1048576 (by exact H0.out.up (by (repeat' (first | (with_reducible exact Below.refl _ _) | (with_reducible assumption) | (with_reducible refine below_dn ?_ _) | (with_reducible refine Below.drew ?_) | (with_reducible refine Below.alloc ?_ ?_ _) | (with_reducible refine Below.setCell ?_ ?_ _) | go_size)))) hm0 (fun x hx => (Hok0.out x hx).1) (by omega) (by omega)).mono ?_; rw [Hz0.out]; rintro e w1 ⟨rfl, b1⟩
    have B1 : Below w.heap.size w w1 := Below.trans (by (repeat' (first | (with_reducible exact Below.refl _ _) | (with_reducible assumption) | (with_reducible refine below_dn ?_ _) | (with_reducible refine Below.drew ?_) | (with_reducible refine Below.alloc ?_ ?_ _) | (with_reducible refine Below.setCell ?_ ?_ _) | go_size))) (b1.mono (by simp <;> omega))
    clear b1
    go_wp2_with fail
    refine (szMeltS _ _ x1 z0 (by exact H1.out.up B1) hm1 (by exact fun x hx => (Hok1.out x hx).up B1) (by omega) (by omega)).mono ?_; rw [e0.out]; rintro e w2 ⟨rfl, b2⟩
    have B2 := bnext B1 b2
    clear B1
    clear b2
    go_wp2_with fail
    go_ret
    exact ⟨rfl, B2⟩
  obtain ⟨z1, hz1, hy1, hy1_⟩ : ∃ z : Int, szR z0 (x1.length + wtMelt x1) = z ∧ (0 ≤ z ∧ z ≤ 1048576) ∧ z = z0 - (((x1.length + wtMelt x1) : Nat) : Int) := ⟨_, rfl, by have := Hy0.out; unfold szR; rw [if_pos (by omega)]; omega, by have := Hy0.out; unfold szR; rw [if_pos (by omega)]⟩
  have Hy1 := Lib.hid hy1_; clear hy1_
  have Hz1 := Lib.hid hz1; clear hz1
  have hn1 : x1.length ≤ 1048576 := by omega
  have Hin1 := Lib.hid (fun x (hx : x ∈ x1) => (show x.ingots.length ≤ 1048576 by have := wtMelt_mem x1 x hx; unfold Melt.wt at this; omega))
  have Hf1 := Lib.hid (fun x hx => (⟨(Hok1.out x hx).1, (Hok1.out x hx).2.1.2.2, (Hok1.out x hx).2.2, Hin1.out x hx⟩ : Melt.fine x))
  go_enter Try.func7, Try.ntmps7
  go_wp2_with fail
  refine (szIngotS _ _ x0 1048576 (by exact H0.out.up (by (repeat' (first | (with_reducible exact Below.refl _ _) | (with_reducible assumption) | (with_reducible refine below_dn ?_ _) | (with_reducible refine Below.drew ?_) | (with_reducible refine Below.alloc ?_ ?_ _) | (with_reducible refine Below.setCell ?_ ?_ _) | go_size)))) hm0 (fun x hx => (Hok0.out x hx).1) (by omega) (by omega)).mono ?_; rw [Hz0.out]; rintro e w1 ⟨rfl, b1⟩
  have B1 : Below w.heap.size w w1 := Below.trans (by (repeat' (first | (with_reducible exact Below.refl _ _) | (with_reducible assumption) | (with_reducible refine below_dn ?_ _) | (with_reducible refine Below.drew ?_) | (with_reducible refine Below.alloc ?_ ?_ _) | (with_reducible refine Below.setCell ?_ ?_ _) | go_size))) (b1.mono (by simp <;> omega))
  clear b1
  go_wp2_with fail
  refine (szMeltS _ _ x1 z0 (by exact H1.out.up B1) hm1 (by exact fun x hx => (Hok1.out x hx).up B1) (by omega) (by omega)).mono ?_; rw [Hz1.out]; rintro e w2 ⟨rfl, b2⟩
  have B2 := bnext B1 b2
  clear B1
  clear b2
  clear Hz0 Hz1 hq0 Hy0 hq1 Hy1
  go_wp2_with fail
  refine (toIngotS _ _ x0 (by exact H0.out.up B2) hn0).mono ?_; rintro e w3 ⟨g3, rfl, hg3, o3, b3⟩
  have B3 := bnext B2 b3
  clear B2
  have O3 := Lib.hid o3; clear o3 hg3
  clear b3
  go_wp2_with fail
  refine (toMeltL _ _ x1 (by exact H1.out.up B3) hn1 (by exact fun x hx => ⟨(Hok1.out x hx).up B3, Hin1.out x hx⟩)).mono ?_; rintro e w4 ⟨g4, y4, rfl, hg4, o4, b4⟩
  have B4 := bnext B3 b4
  have O3' := Lib.hid (O3.out.below b4 O3.out.lt); clear O3; have O3 := O3'; clear O3'
  clear B3
  have O4 := Lib.hid o4; clear o4 hg4
  clear b4
  go_wp2_with fail
  refine (spec_LossOf _ _ _ x0 x1 (O3.out.rd O3.out.lt (Ingot_len x0) (by unfold maxLen; omega) _ (Nat.le_refl _) (by unfold maxLen; omega)) hn0 Hok0.out (O4.out.rdm hn1 Hin1.out) hn1 Hf1.out).mono ?_; rintro e w5 ⟨rfl, b5⟩
  have B5 := bnext B4 b5
  have O3' := Lib.hid (O3.out.below b5 O3.out.lt); clear O3; have O3 := O3'; clear O3'
  have O4' := Lib.hid (O4.out.below b5 O4.out.lt); clear O4; have O4 := O4'; clear O4'
  clear B4
  clear b5
  clear O3 O4
  go_wp2_with fail
  refine (toIngotS _ _ x0 (by exact H0.out.up B5) hn0).mono ?_; rintro e w6 ⟨g6, rfl, hg6, o6, b6⟩
  have B6 := bnext B5 b6
  clear B5
  have O6 := Lib.hid o6; clear o6 hg6
  clear b6
  go_wp2_with fail
  refine (toMeltL _ _ x1 (by exact H1.out.up B6) hn1 (by exact fun x hx => ⟨(Hok1.out x hx).up B6, Hin1.out x hx⟩)).mono ?_; rintro e w7 ⟨g7, y7, rfl, hg7, o7, b7⟩
  have B7 := bnext B6 b7
  have O6' := Lib.hid (O6.out.below b7 O6.out.lt); clear O6; have O6 := O6'; clear O6'
  clear B6
  have O7 := Lib.hid o7; clear o7 hg7
  clear b7
  go_wp2_with fail
  refine (impl_LossOf _ _ _ x0 x1 (O6.out.rd O6.out.lt (Ingot_len x0) (by unfold maxLen; omega) _ (Nat.le_refl _) (by unfold maxLen; omega)) hn0 Hok0.out (O7.out.rdm hn1 Hin1.out) hn1 Hf1.out).mono ?_; rintro e w8 ⟨rfl, b8⟩
  have B8 := bnext B7 b8
  have O6' := Lib.hid (O6.out.below b8 O6.out.lt); clear O6; have O6 := O6'; clear O6'
  have O7' := Lib.hid (O7.out.below b8 O7.out.lt); clear O7; have O7 := O7'; clear O7'
  clear B7
  clear b8
  go_wp2_with fail
  refine (toIngotS _ _ x0 (by exact H0.out.up B8) hn0).mono ?_; rintro e w9 ⟨g9, rfl, hg9, o9, b9⟩
  have B9 := bnext B8 b9
  have O6' := Lib.hid (O6.out.below b9 O6.out.lt); clear O6; have O6 := O6'; clear O6'
  have O7' := Lib.hid (O7.out.below b9 O7.out.lt); clear O7; have O7 := O7'; clear O7'
  clear B8
  have O9 := Lib.hid o9; clear o9 hg9
  clear b9
  go_wp2_with fail
  refine (eqIngotS _ _ _ x0 (O6.out.rd O6.out.lt (Ingot_len x0) (by unfold maxLen; omega) _ (Nat.le_refl _) (by unfold maxLen; omega)) (O9.out.rd O9.out.lt (Ingot_len x0) (by unfold maxLen; omega) _ (Nat.le_refl _) (by unfold maxLen; omega)) hn0).mono ?_; rintro e w10 ⟨rfl, b10⟩
  have B10 := bnext B9 b10
  have O6' := Lib.hid (O6.out.below b10 O6.out.lt); clear O6; have O6 := O6'; clear O6'
  have O7' := Lib.hid (O7.out.below b10 O7.out.lt); clear O7; have O7 := O7'; clear O7'
  have O9' := Lib.hid (O9.out.below b10 O9.out.lt); clear O9; have O9 := O9'; clear O9'
  clear B9
  clear b10
  clear O6 O9
  go_wp2_with fail
  refine (toMeltL _ _ x1 (by exact H1.out.up B10) hn1 (by exact fun x hx => ⟨(Hok1.out x hx).up B10, Hin1.out x hx⟩)).mono ?_; rintro e w11 ⟨g11, y11, rfl, hg11, o11, b11⟩
  have B11 := bnext B10 b11
  have O7' := Lib.hid (O7.out.below b11 O7.out.lt); clear O7; have O7 := O7'; clear O7'
  clear B10
  have O11 := Lib.hid o11; clear o11 hg11
  clear b11
  go_wp2_with fail
  refine (eqMeltL _ _ _ _ _ x1 O7.out O11.out hn1 Hin1.out).mono ?_; rintro e w12 ⟨rfl, b12⟩
  have B12 := bnext B11 b12
  have O7' := Lib.hid (O7.out.below b12 O7.out.lt); clear O7; have O7 := O7'; clear O7'
  have O11' := Lib.hid (O11.out.below b12 O11.out.lt); clear O11; have O11 := O11'; clear O11'
  clear B11
  clear b12
  clear O7 O11
  go_wp2_with fail
  all_goals go_ret
  all_goals exact ⟨rfl, B12⟩
end Go.Proofs.Ytdliabgdgjboiaa
