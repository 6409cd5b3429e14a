/- FnExactUnusedIngots: the law. -/
import Derived.Test.YtdliabgdgjboiaaRows
import Derived.Test.YtdliabgdgjboiaaLaw
import Derived.Test.YtdliabgdgjboiaaUnused
import Derived.Test.YtdliabgdgjboiaaMarkIngot
import Derived.Test.YtdliabgdgjboiaaMarkMelt
namespace Go.Proofs.Ytdliabgdgjboiaa
open Go.ChangeShapes Go.WideShapes Go.ChangeAt Go.RowKit Go.Deep Go.Joins
set_option linter.unusedVariables false
set_option maxRecDepth 100000
set_option linter.unusedSimpArgs false
set_option maxHeartbeats 1000000 in
theorem FnExactUnusedIngots_walk (w : World) (v0 : Value) (x0 : List Ingot) (k0 : Rd w.heap.size w v0 5 x0.length (x0.flatMap Ingot.put) ∧ x0.length ≤ maxLen ∧ ∀ x ∈ x0, x.ok) (v1 : Value) (x1 : List Melt) (k1 : Rd w.heap.size w v1 3 x1.length (x1.flatMap Melt.put) ∧ x1.length ≤ maxLen ∧ ∀ x ∈ x1, x.ok w) :
    Calls Try.prog 6 #[v0, v1] w fun e w' => e = .returned (.bool true) ∧ Below w.heap.size w w' := by
  obtain ⟨h0, hm0, hok0⟩ := k0
  have H0 := Lib.hid h0; clear h0
  have Hok0 := Lib.hid hok0; clear hok0
  obtain ⟨h1, hm1, hok1⟩ := k1
  have H1 := Lib.hid h1; clear h1
  have Hok1 := Lib.hid hok1; clear hok1
  by_cases hq0 : (x0.length + wtIngot x0) ≤ 1048576
  case neg =>
    have e0 : Hid (szR 1048576 (x0.length + wtIngot x0) = -1) := (if_neg (by omega) : szR 1048576 (x0.length + wtIngot x0) = -1)
    go_enter Try.func6, Try.ntmps6
    go_wp2_with fail
    refine (szIngotS _ _ x0 1048576 (by exact H0.out.up (by (repeat' (first | (with_reducible exact Below.refl _ _) | (with_reducible assumption) | (with_reducible refine below_dn ?_ _) | (with_reducible refine Below.drew ?_) | (with_reducible refine Below.alloc ?_ ?_ _) | (with_reducible refine Below.setCell ?_ ?_ _) | go_size)))) hm0 (fun x hx => (Hok0.out x hx).1) (by omega) (by omega)).mono ?_; rw [e0.out]; rintro e w1 ⟨rfl, b1⟩
    have B1 : Below w.heap.size w w1 := Below.trans (by (repeat' (first | (with_reducible exact Below.refl _ _) | (with_reducible assumption) | (with_reducible refine below_dn ?_ _) | (with_reducible refine Below.drew ?_) | (with_reducible refine Below.alloc ?_ ?_ _) | (with_reducible refine Below.setCell ?_ ?_ _) | go_size))) (b1.mono (by simp <;> omega))
    have sz1 : w.heap.size ≤ w1.heap.size := B1.size
    clear b1
    go_wp2_with fail
    go_ret
    exact ⟨rfl, B1⟩
  obtain ⟨z0, hz0, hy0, hy0_⟩ : ∃ z : Int, szR 1048576 (x0.length + wtIngot x0) = z ∧ (0 ≤ z ∧ z ≤ 1048576) ∧ z = 1048576 - (((x0.length + wtIngot x0) : Nat) : Int) := ⟨_, rfl, by unfold szR; rw [if_pos (by omega)]; omega, by unfold szR; rw [if_pos (by omega)]⟩
  have Hy0 := Lib.hid hy0_; clear hy0_
  have Hz0 := Lib.hid hz0; clear hz0
  have hn0 : x0.length ≤ 1048576 := by omega
  by_cases hq1 : (x0.length + wtIngot x0) + (x1.length + wtMelt x1) ≤ 1048576
  case neg =>
    have e0 : Hid (szR z0 (x1.length + wtMelt x1) = -1) := (if_neg (by have := Hy0.out; omega) : szR z0 (x1.length + wtMelt x1) = -1)
    go_enter Try.func6, Try.ntmps6
    go_wp2_with fail
    refine (szIngotS _ _ x0 1048576 (by exact H0.out.up (by (repeat' (first | (with_reducible exact Below.refl _ _) | (with_reducible assumption) | (with_reducible refine below_dn ?_ _) | (with_reducible refine Below.drew ?_) | (with_reducible refine Below.alloc ?_ ?_ _) | (with_reducible refine Below.setCell ?_ ?_ _) | go_size)))) hm0 (fun x hx => (Hok0.out x hx).1) (by omega) (by omega)).mono ?_; rw [Hz0.out]; rintro e w1 ⟨rfl, b1⟩
    have B1 : Below w.heap.size w w1 := Below.trans (by (repeat' (first | (with_reducible exact Below.refl _ _) | (with_reducible assumption) | (with_reducible refine below_dn ?_ _) | (with_reducible refine Below.drew ?_) | (with_reducible refine Below.alloc ?_ ?_ _) | (with_reducible refine Below.setCell ?_ ?_ _) | go_size))) (b1.mono (by simp <;> omega))
    have sz1 : w.heap.size ≤ w1.heap.size := B1.size
    clear b1
    go_wp2_with fail
    refine (szMeltS _ _ x1 z0 (by exact H1.out.up B1) hm1 (by exact fun x hx => (Hok1.out x hx).up B1) (by omega) (by omega)).mono ?_; rw [e0.out]; rintro e w2 ⟨rfl, b2⟩
    have B2 := bnext B1 b2
    clear B1
    have sz2 : w1.heap.size ≤ w2.heap.size := b2.size
    clear b2
    go_wp2_with fail
    go_ret
    exact ⟨rfl, B2⟩
  obtain ⟨z1, hz1, hy1, hy1_⟩ : ∃ z : Int, szR z0 (x1.length + wtMelt x1) = z ∧ (0 ≤ z ∧ z ≤ 1048576) ∧ z = z0 - (((x1.length + wtMelt x1) : Nat) : Int) := ⟨_, rfl, by have := Hy0.out; unfold szR; rw [if_pos (by omega)]; omega, by have := Hy0.out; unfold szR; rw [if_pos (by omega)]⟩
  have Hy1 := Lib.hid hy1_; clear hy1_
  have Hz1 := Lib.hid hz1; clear hz1
  have hn1 : x1.length ≤ 1048576 := by omega
  have Hin1 := Lib.hid (fun x (hx : x ∈ x1) => (show x.ingots.length ≤ 1048576 by have := wtMelt_mem x1 x hx; unfold Melt.wt at this; omega))
  have hcnt1 : cntM x1 ≤ 1048576 := by have := cntM_wt x1; omega
  have Hf1 := Lib.hid (fun x hx => (⟨(Hok1.out x hx).1, (Hok1.out x hx).2.1.2.2, (Hok1.out x hx).2.2, Hin1.out x hx⟩ : Melt.fine x))
  have hnR : (unusedS x0 x1).length ≤ 1048576 := by have := unused_len x0 x1; omega
  go_enter Try.func6, Try.ntmps6
  go_wp2_with fail
  refine (szIngotS _ _ x0 1048576 (by exact H0.out.up (by (repeat' (first | (with_reducible exact Below.refl _ _) | (with_reducible assumption) | (with_reducible refine below_dn ?_ _) | (with_reducible refine Below.drew ?_) | (with_reducible refine Below.alloc ?_ ?_ _) | (with_reducible refine Below.setCell ?_ ?_ _) | go_size)))) hm0 (fun x hx => (Hok0.out x hx).1) (by omega) (by omega)).mono ?_; rw [Hz0.out]; rintro e w1 ⟨rfl, b1⟩
  have B1 : Below w.heap.size w w1 := Below.trans (by (repeat' (first | (with_reducible exact Below.refl _ _) | (with_reducible assumption) | (with_reducible refine below_dn ?_ _) | (with_reducible refine Below.drew ?_) | (with_reducible refine Below.alloc ?_ ?_ _) | (with_reducible refine Below.setCell ?_ ?_ _) | go_size))) (b1.mono (by simp <;> omega))
  have sz1 : w.heap.size ≤ w1.heap.size := B1.size
  clear b1
  go_wp2_with fail
  refine (szMeltS _ _ x1 z0 (by exact H1.out.up B1) hm1 (by exact fun x hx => (Hok1.out x hx).up B1) (by omega) (by omega)).mono ?_; rw [Hz1.out]; rintro e w2 ⟨rfl, b2⟩
  have B2 := bnext B1 b2
  clear B1
  have sz2 : w1.heap.size ≤ w2.heap.size := b2.size
  clear b2
  clear Hz0 Hz1 hq0 Hy0 hq1 Hy1
  go_wp2_with fail
  refine (toIngotS _ _ x0 (by exact H0.out.up B2) hn0).mono ?_; rintro e w3 ⟨g3, rfl, hg3, o3, b3⟩
  have B3 := bnext B2 b3
  clear B2
  have sz3 : w2.heap.size ≤ w3.heap.size := b3.size
  have ga3 : w2.heap.size ≤ g3 := hg3
  have gb3 : g3 < w3.heap.size := o3.lt
  have O3 := Lib.hid o3; clear o3 hg3
  clear b3
  go_wp2_with fail
  refine (toMeltL _ _ x1 (by exact H1.out.up B3) hn1 (by exact fun x hx => ⟨(Hok1.out x hx).up B3, Hin1.out x hx⟩)).mono ?_; rintro e w4 ⟨g4, y4, rfl, hg4, o4, b4⟩
  have B4 := bnext B3 b4
  have O3' := Lib.hid (O3.out.below b4 O3.out.lt); clear O3; have O3 := O3'; clear O3'
  clear B3
  have sz4 : w3.heap.size ≤ w4.heap.size := b4.size
  have ga4 : w3.heap.size ≤ g4 := hg4
  have gb4 : g4 < w4.heap.size := o4.lt
  have O4 := Lib.hid (MeltsIn.of o4 hg4); clear o4 hg4
  clear b4
  go_wp2_with fail
  refine (spec_UnusedIngots _ _ _ x0 x1 (O3.out.rd O3.out.lt (Ingot_len x0) (by unfold maxLen; omega) _ (Nat.le_refl _) (by unfold maxLen; omega)) hn0 Hok0.out (O4.out.1.rdm hn1 Hin1.out) hn1 Hf1.out).mono ?_; rintro e w5 ⟨r5, rfl, o5, b5⟩
  have B5 := bnext B4 b5
  have O3' := Lib.hid (O3.out.below b5 O3.out.lt); clear O3; have O3 := O3'; clear O3'
  have O4' := Lib.hid (O4.out.below b5 O4.out.lt); clear O4; have O4 := O4'; clear O4'
  clear B4
  have sz5 : w4.heap.size ≤ w5.heap.size := b5.size
  obtain ⟨ra5, rc5, rfl⟩ := (own_rd o5).form
  have R5 := Lib.hid (Held.of_row o5); clear o5
  clear b5
  clear O3 O4
  go_wp2_with fail
  refine (toIngotS _ _ x0 (by exact H0.out.up B5) hn0).mono ?_; rintro e w6 ⟨g6, rfl, hg6, o6, b6⟩
  have B6 := bnext B5 b6
  have R5' := Lib.hid (R5.out.below b6); clear R5; have R5 := R5'; clear R5'
  clear B5
  have sz6 : w5.heap.size ≤ w6.heap.size := b6.size
  have ga6 : w5.heap.size ≤ g6 := hg6
  have gb6 : g6 < w6.heap.size := o6.lt
  have O6 := Lib.hid o6; clear o6 hg6
  clear b6
  go_wp2_with fail
  refine (toMeltL _ _ x1 (by exact H1.out.up B6) hn1 (by exact fun x hx => ⟨(Hok1.out x hx).up B6, Hin1.out x hx⟩)).mono ?_; rintro e w7 ⟨g7, y7, rfl, hg7, o7, b7⟩
  have B7 := bnext B6 b7
  have R5' := Lib.hid (R5.out.below b7); clear R5; have R5 := R5'; clear R5'
  have O6' := Lib.hid (O6.out.below b7 O6.out.lt); clear O6; have O6 := O6'; clear O6'
  clear B6
  have sz7 : w6.heap.size ≤ w7.heap.size := b7.size
  have ga7 : w6.heap.size ≤ g7 := hg7
  have gb7 : g7 < w7.heap.size := o7.lt
  have O7 := Lib.hid (MeltsIn.of o7 hg7); clear o7 hg7
  clear b7
  go_wp2_with fail
  refine (impl_UnusedIngots _ _ _ x0 x1 (O6.out.rd O6.out.lt (Ingot_len x0) (by unfold maxLen; omega) _ (Nat.le_refl _) (by unfold maxLen; omega)) hn0 Hok0.out (O7.out.1.rdm hn1 Hin1.out) hn1 Hf1.out).mono ?_; rintro e w8 ⟨r8, rfl, o8, b8⟩
  have B8 := bnext B7 b8
  have R5' := Lib.hid (R5.out.below b8); clear R5; have R5 := R5'; clear R5'
  have O6' := Lib.hid (O6.out.below b8 O6.out.lt); clear O6; have O6 := O6'; clear O6'
  have O7' := Lib.hid (O7.out.below b8 O7.out.lt); clear O7; have O7 := O7'; clear O7'
  clear B7
  have sz8 : w7.heap.size ≤ w8.heap.size := b8.size
  obtain ⟨ra8, rc8, rfl⟩ := (own_rd o8).form
  have R8 := Lib.hid (Held.of_row o8); clear o8
  clear b8
  go_wp2_with fail
  refine (dB (eqStringS _ _ _ _ _ (unusedS x0 x1) (by exact R8.out.rd) (by exact R5.out.rd) hnR)).mono ?_; rintro e w9 ⟨rfl, b9⟩
  have B9 := bnext B8 b9
  have R5' := Lib.hid (R5.out.below b9); clear R5; have R5 := R5'; clear R5'
  have O6' := Lib.hid (O6.out.below b9 O6.out.lt); clear O6; have O6 := O6'; clear O6'
  have O7' := Lib.hid (O7.out.below b9 O7.out.lt); clear O7; have O7 := O7'; clear O7'
  have R8' := Lib.hid (R8.out.below b9); clear R8; have R8 := R8'; clear R8'
  clear B8
  have sz9 : w8.heap.size ≤ w9.heap.size := b9.size
  clear b9
  go_wp2_with fail
  refine (toIngotS _ _ x0 (by exact H0.out.up B9) hn0).mono ?_; rintro e w10 ⟨g10, rfl, hg10, o10, b10⟩
  have B10 := bnext B9 b10
  have R5' := Lib.hid (R5.out.below b10); clear R5; have R5 := R5'; clear R5'
  have O6' := Lib.hid (O6.out.below b10 O6.out.lt); clear O6; have O6 := O6'; clear O6'
  have O7' := Lib.hid (O7.out.below b10 O7.out.lt); clear O7; have O7 := O7'; clear O7'
  have R8' := Lib.hid (R8.out.below b10); clear R8; have R8 := R8'; clear R8'
  clear B9
  have sz10 : w9.heap.size ≤ w10.heap.size := b10.size
  have ga10 : w9.heap.size ≤ g10 := hg10
  have gb10 : g10 < w10.heap.size := o10.lt
  have O10 := Lib.hid o10; clear o10 hg10
  clear b10
  go_wp2_with fail
  refine (eqIngotS _ _ _ x0 (O6.out.rd O6.out.lt (Ingot_len x0) (by unfold maxLen; omega) _ (Nat.le_refl _) (by unfold maxLen; omega)) (O10.out.rd O10.out.lt (Ingot_len x0) (by unfold maxLen; omega) _ (Nat.le_refl _) (by unfold maxLen; omega)) hn0).mono ?_; rintro e w11 ⟨rfl, b11⟩
  have B11 := bnext B10 b11
  have R5' := Lib.hid (R5.out.below b11); clear R5; have R5 := R5'; clear R5'
  have O6' := Lib.hid (O6.out.below b11 O6.out.lt); clear O6; have O6 := O6'; clear O6'
  have O7' := Lib.hid (O7.out.below b11 O7.out.lt); clear O7; have O7 := O7'; clear O7'
  have R8' := Lib.hid (R8.out.below b11); clear R8; have R8 := R8'; clear R8'
  have O10' := Lib.hid (O10.out.below b11 O10.out.lt); clear O10; have O10 := O10'; clear O10'
  clear B10
  have sz11 : w10.heap.size ≤ w11.heap.size := b11.size
  clear b11
  clear O10
  go_wp2_with fail
  refine (toMeltL _ _ x1 (by exact H1.out.up B11) hn1 (by exact fun x hx => ⟨(Hok1.out x hx).up B11, Hin1.out x hx⟩)).mono ?_; rintro e w12 ⟨g12, y12, rfl, hg12, o12, b12⟩
  have B12 := bnext B11 b12
  have R5' := Lib.hid (R5.out.below b12); clear R5; have R5 := R5'; clear R5'
  have O6' := Lib.hid (O6.out.below b12 O6.out.lt); clear O6; have O6 := O6'; clear O6'
  have O7' := Lib.hid (O7.out.below b12 O7.out.lt); clear O7; have O7 := O7'; clear O7'
  have R8' := Lib.hid (R8.out.below b12); clear R8; have R8 := R8'; clear R8'
  clear B11
  have sz12 : w11.heap.size ≤ w12.heap.size := b12.size
  have ga12 : w11.heap.size ≤ g12 := hg12
  have gb12 : g12 < w12.heap.size := o12.lt
  have O12 := Lib.hid (MeltsIn.of o12 hg12); clear o12 hg12
  clear b12
  go_wp2_with fail
  refine (eqMeltL _ _ _ _ _ x1 O7.out.1 O12.out.1 hn1 Hin1.out).mono ?_; rintro e w13 ⟨rfl, b13⟩
  have B13 := bnext B12 b13
  have R5' := Lib.hid (R5.out.below b13); clear R5; have R5 := R5'; clear R5'
  have O6' := Lib.hid (O6.out.below b13 O6.out.lt); clear O6; have O6 := O6'; clear O6'
  have O7' := Lib.hid (O7.out.below b13 O7.out.lt); clear O7; have O7 := O7'; clear O7'
  have R8' := Lib.hid (R8.out.below b13); clear R8; have R8 := R8'; clear R8'
  have O12' := Lib.hid (O12.out.below b13 O12.out.lt); clear O12; have O12 := O12'; clear O12'
  clear B12
  have sz13 : w12.heap.size ≤ w13.heap.size := b13.size
  clear b13
  clear O12
  go_wp2_with fail
  refine (mA3 (c := 5242881) (markIngotS _ _ g6 (g6 + 1) _ _ _ (Held.of_own (by exact O6.out) (Ingot_len x0) (by unfold maxLen; omega)) hn0 (by omega) (by omega)) (by omega) (by omega)).mono ?_; rintro e w14 ⟨q14, rfl, qa14, qb14, t14⟩
  have B14 := B13.trans (t14.below (B := w.heap.size) (by omega) (by omega))
  have sz14 := t14.size
  have R5' := Lib.hid (R5.out.turn t14 (by omega)); clear R5; have R5 := R5'; clear R5'
  have O7' := Lib.hid (O7.out.turn t14 (by omega)); clear O7; have O7 := O7'; clear O7'
  have R8' := Lib.hid (R8.out.turn t14 (by omega)); clear R8; have R8 := R8'; clear R8'
  clear t14 B13 O6
  have tk : decide (q14 < (0 : Int)) = false := decide_eq_false (by omega)
  go_wp2_with fail
  refine (mA (c := 8388609) (markMeltS _ _ _ _ _ _ _ (by exact O7.out) hn1 hcnt1 (by omega) (by omega)) (by omega) (by omega)).mono ?_; rintro e w15 ⟨q15, rfl, qa15, qb15, t15⟩
  have B15 := B14.trans (t15.below (B := w.heap.size) (by omega) (by omega))
  have sz15 := t15.size
  have R5' := Lib.hid (R5.out.turn t15 (by omega)); clear R5; have R5 := R5'; clear R5'
  have R8' := Lib.hid (R8.out.turn t15 (by omega)); clear R8; have R8 := R8'; clear R8'
  clear t15 B14 O7
  have tk : decide (q15 < (0 : Int)) = false := decide_eq_false (by omega)
  go_wp2_with fail
  refine (dB (eqStringS _ _ _ _ _ (unusedS x0 x1) (by exact R8.out.rd) (by exact R5.out.rd) hnR)).mono ?_; rintro e w16 ⟨rfl, b16⟩
  have B16 := bnext B15 b16
  have R5' := Lib.hid (R5.out.below b16); clear R5; have R5 := R5'; clear R5'
  have R8' := Lib.hid (R8.out.below b16); clear R8; have R8 := R8'; clear R8'
  clear B15
  have sz16 : w15.heap.size ≤ w16.heap.size := b16.size
  clear b16
  obtain ⟨mm, hmm, hm1⟩ : ∃ mm : Int, 1 + 1 * (((unusedS x0 x1).length : Nat) : Int) = mm ∧ 1 ≤ mm := ⟨_, rfl, by omega⟩
  have tm : decide (mm < (0 : Int)) = false := decide_eq_false (by omega)
  have HMM := Lib.hid hmm; clear hmm
  go_wp2_with fail
  refine (toM (markStringS _ _ _ _ _ _ _ (by exact R8.out) hnR (by omega) (by omega)) HMM.out).mono ?_; rintro e w17 ⟨rfl, t17, o17⟩
  have B17 := B16.trans (t17.below (B := w.heap.size) (by omega) (by omega))
  have sz17 := t17.size
  have R5' := Lib.hid (R5.out.turn t17 (by omega)); clear R5; have R5 := R5'; clear R5'
  have R17 := Lib.hid o17; clear o17
  clear t17 B16 R8
  go_wp2_with fail
  refine (toM (heldStringS _ _ _ _ (by exact R17.out.rd) hnR (by omega) (by omega)) HMM.out).mono ?_; rintro e w18 ⟨rfl, b18⟩
  have B18 := bnext B17 b18
  have R5' := Lib.hid (R5.out.below b18); clear R5; have R5 := R5'; clear R5'
  have R17' := Lib.hid (R17.out.below b18); clear R17; have R17 := R17'; clear R17'
  clear B17
  have sz18 : w17.heap.size ≤ w18.heap.size := b18.size
  clear b18
  go_wp2_with fail
  refine (toIngotS _ _ x0 (by exact H0.out.up B18) hn0).mono ?_; rintro e w19 ⟨g19, rfl, hg19, o19, b19⟩
  have B19 := bnext B18 b19
  have R5' := Lib.hid (R5.out.below b19); clear R5; have R5 := R5'; clear R5'
  have R17' := Lib.hid (R17.out.below b19); clear R17; have R17 := R17'; clear R17'
  clear B18
  have sz19 : w18.heap.size ≤ w19.heap.size := b19.size
  have ga19 : w18.heap.size ≤ g19 := hg19
  have gb19 : g19 < w19.heap.size := o19.lt
  have O19 := Lib.hid o19; clear o19 hg19
  clear b19
  go_wp2_with fail
  refine (toMeltL _ _ x1 (by exact H1.out.up B19) hn1 (by exact fun x hx => ⟨(Hok1.out x hx).up B19, Hin1.out x hx⟩)).mono ?_; rintro e w20 ⟨g20, y20, rfl, hg20, o20, b20⟩
  have B20 := bnext B19 b20
  have R5' := Lib.hid (R5.out.below b20); clear R5; have R5 := R5'; clear R5'
  have R17' := Lib.hid (R17.out.below b20); clear R17; have R17 := R17'; clear R17'
  have O19' := Lib.hid (O19.out.below b20 O19.out.lt); clear O19; have O19 := O19'; clear O19'
  clear B19
  have sz20 : w19.heap.size ≤ w20.heap.size := b20.size
  have ga20 : w19.heap.size ≤ g20 := hg20
  have gb20 : g20 < w20.heap.size := o20.lt
  have O20 := Lib.hid (MeltsIn.of o20 hg20); clear o20 hg20
  clear b20
  go_wp2_with fail
  refine (impl_UnusedIngots _ _ _ x0 x1 (O19.out.rd O19.out.lt (Ingot_len x0) (by unfold maxLen; omega) _ (Nat.le_refl _) (by unfold maxLen; omega)) hn0 Hok0.out (O20.out.1.rdm hn1 Hin1.out) hn1 Hf1.out).mono ?_; rintro e w21 ⟨r21, rfl, o21, b21⟩
  have B21 := bnext B20 b21
  have R5' := Lib.hid (R5.out.below b21); clear R5; have R5 := R5'; clear R5'
  have R17' := Lib.hid (R17.out.below b21); clear R17; have R17 := R17'; clear R17'
  have O19' := Lib.hid (O19.out.below b21 O19.out.lt); clear O19; have O19 := O19'; clear O19'
  have O20' := Lib.hid (O20.out.below b21 O20.out.lt); clear O20; have O20 := O20'; clear O20'
  clear B20
  have sz21 : w20.heap.size ≤ w21.heap.size := b21.size
  obtain ⟨ra21, rc21, rfl⟩ := (own_rd o21).form
  have R21 := Lib.hid (Held.of_row o21); clear o21
  clear b21
  clear O19 O20
  go_wp2_with fail
  refine (dB (eqStringS _ _ _ _ _ (unusedS x0 x1) (by exact R21.out.rd) (by exact R5.out.rd) hnR)).mono ?_; rintro e w22 ⟨rfl, b22⟩
  have B22 := bnext B21 b22
  have R5' := Lib.hid (R5.out.below b22); clear R5; have R5 := R5'; clear R5'
  have R17' := Lib.hid (R17.out.below b22); clear R17; have R17 := R17'; clear R17'
  have R21' := Lib.hid (R21.out.below b22); clear R21; have R21 := R21'; clear R21'
  clear B21
  have sz22 : w21.heap.size ≤ w22.heap.size := b22.size
  clear b22
  go_wp2_with fail
  refine (toM (heldStringS _ _ _ _ (by exact R17.out.rd) hnR (by omega) (by omega)) HMM.out).mono ?_; rintro e w23 ⟨rfl, b23⟩
  have B23 := bnext B22 b23
  have R5' := Lib.hid (R5.out.below b23); clear R5; have R5 := R5'; clear R5'
  have R17' := Lib.hid (R17.out.below b23); clear R17; have R17 := R17'; clear R17'
  have R21' := Lib.hid (R21.out.below b23); clear R21; have R21 := R21'; clear R21'
  clear B22
  have sz23 : w22.heap.size ≤ w23.heap.size := b23.size
  clear b23
  go_wp2_with fail
  all_goals go_ret
  all_goals exact ⟨rfl, B23⟩
end Go.Proofs.Ytdliabgdgjboiaa
