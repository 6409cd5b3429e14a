/- FnExactFitsDemand: the law. -/
import Derived.Test.YtegfgcgjoojdmaaRows
import Derived.Test.YtegfgcgjoojdmaaLaw
import Derived.Test.YtegfgcgjoojdmaaFitsD
import Derived.Deep.RegionHeld3
namespace Go.Proofs.Ytegfgcgjoojdmaa
open Go.ChangeShapes Go.WideShapes Go.ChangeAt Go.RowKit Go.Deep Go.Joins
set_option linter.unusedVariables false
set_option maxRecDepth 100000
set_option linter.unusedSimpArgs false
set_option maxHeartbeats 1000000 in
theorem FnExactFitsDemand_walk (w : World) (v0 : Value) (x0 : List Ingot) (k0 : Rd w.heap.size w v0 5 x0.length (x0.flatMap Ingot.put) ∧ x0.length ≤ maxLen ∧ ∀ x ∈ x0, x.ok) (v1 : Value) (x1 : List Int) (k1 : Rd w.heap.size w v1 1 x1.length (x1.flatMap putI) ∧ x1.length ≤ maxLen ∧ ∀ x ∈ x1, I64 x) (a2 : Demand) (k2 : a2.ok) :
    Calls Try.prog 7 #[v0, v1, .agg #[.int .i64 a2.least, .int .i64 a2.most, .int .i64 a2.minTin, .int .i64 a2.maxTin, .int .i64 a2.other]] w fun e w' => e = .returned (.bool true) ∧ Below w.heap.size w w' := by
  obtain ⟨h0, hm0, hok0⟩ := k0
  have H0 := Lib.hid h0; clear h0
  have Hok0 := Lib.hid hok0; clear hok0
  obtain ⟨h1, hm1, hok1⟩ := k1
  obtain ⟨lo1, lc1, rfl⟩ := h1.form
  have H1 := Lib.hid h1; clear h1
  have Hok1 := Lib.hid hok1; clear hok1
  have Hk2 := Lib.hid k2; clear k2
  by_cases hn1 : x1.length ≤ 1048576
  case neg =>
    have hmm := hm1
    unfold maxLen at hmm
    have t1 : decide ((1048576 : Int) < x1.length) = true := decide_eq_true (by omega)
    go_enter Try.func7, Try.ntmps7
    go_wp2_with fail
    go_ret
    exact ⟨rfl, by (repeat' (first | (with_reducible exact Below.refl _ _) | (with_reducible assumption) | (with_reducible refine below_dn ?_ _) | (with_reducible refine Below.drew ?_) | (with_reducible refine Below.alloc ?_ ?_ _) | (with_reducible refine Below.setCell ?_ ?_ _) | go_size))⟩
  have t1 : decide ((1048576 : Int) < x1.length) = false := decide_eq_false (by omega)
  by_cases hq0 : (x0.length + wtIngot x0) ≤ 1048576
  case neg =>
    have e0 : Hid (szR 1048576 (x0.length + wtIngot x0) = -1) := (if_neg (by omega) : szR 1048576 (x0.length + wtIngot x0) = -1)
    go_enter Try.func7, Try.ntmps7
    go_wp2_with fail
    refine (szIngotS _ _ x0 1048576 (by exact H0.out.up (by (repeat' (first | (with_reducible exact Below.refl _ _) | (with_reducible assumption) | (with_reducible refine below_dn ?_ _) | (with_reducible refine Below.drew ?_) | (with_reducible refine Below.alloc ?_ ?_ _) | (with_reducible refine Below.setCell ?_ ?_ _) | go_size)))) hm0 (fun x hx => (Hok0.out x hx).1) (by omega) (by omega)).mono ?_; rw [e0.out]; rintro e w1 ⟨rfl, b1⟩
    have B1 : Below w.heap.size w w1 := Below.trans (by (repeat' (first | (with_reducible exact Below.refl _ _) | (with_reducible assumption) | (with_reducible refine below_dn ?_ _) | (with_reducible refine Below.drew ?_) | (with_reducible refine Below.alloc ?_ ?_ _) | (with_reducible refine Below.setCell ?_ ?_ _) | go_size))) (b1.mono (by simp <;> omega))
    have VaD : Hid (Own w1 (w.heap.size) 61 [.int .i64 a2.least, .int .i64 a2.most, .int .i64 a2.minTin, .int .i64 a2.maxTin, .int .i64 a2.other]) := Lib.hid ((Own.newAt 61 [.int .i64 a2.least, .int .i64 a2.most, .int .i64 a2.minTin, .int .i64 a2.maxTin, .int .i64 a2.other] (by simp)).below b1 (by simp <;> omega))
    clear b1
    go_wp2_with fail
    go_ret
    exact ⟨rfl, B1⟩
  obtain ⟨z0, hz0, hy0, hy0_⟩ : ∃ z : Int, szR 1048576 (x0.length + wtIngot x0) = z ∧ (0 ≤ z ∧ z ≤ 1048576) ∧ z = 1048576 - (((x0.length + wtIngot x0) : Nat) : Int) := ⟨_, rfl, by unfold szR; rw [if_pos (by omega)]; omega, by unfold szR; rw [if_pos (by omega)]⟩
  have Hy0 := Lib.hid hy0_; clear hy0_
  have Hz0 := Lib.hid hz0; clear hz0
  have hn0 : x0.length ≤ 1048576 := by omega
  go_enter Try.func7, Try.ntmps7
  go_wp2_with fail
  refine (szIngotS _ _ x0 1048576 (by exact H0.out.up (by (repeat' (first | (with_reducible exact Below.refl _ _) | (with_reducible assumption) | (with_reducible refine below_dn ?_ _) | (with_reducible refine Below.drew ?_) | (with_reducible refine Below.alloc ?_ ?_ _) | (with_reducible refine Below.setCell ?_ ?_ _) | go_size)))) hm0 (fun x hx => (Hok0.out x hx).1) (by omega) (by omega)).mono ?_; rw [Hz0.out]; rintro e w1 ⟨rfl, b1⟩
  have B1 : Below w.heap.size w w1 := Below.trans (by (repeat' (first | (with_reducible exact Below.refl _ _) | (with_reducible assumption) | (with_reducible refine below_dn ?_ _) | (with_reducible refine Below.drew ?_) | (with_reducible refine Below.alloc ?_ ?_ _) | (with_reducible refine Below.setCell ?_ ?_ _) | go_size))) (b1.mono (by simp <;> omega))
  have VaD : Hid (Own w1 (w.heap.size) 61 [.int .i64 a2.least, .int .i64 a2.most, .int .i64 a2.minTin, .int .i64 a2.maxTin, .int .i64 a2.other]) := Lib.hid ((Own.newAt 61 [.int .i64 a2.least, .int .i64 a2.most, .int .i64 a2.minTin, .int .i64 a2.maxTin, .int .i64 a2.other] (by simp)).below b1 (by simp <;> omega))
  clear b1
  clear Hz0 hq0 Hy0
  have naD0 : w1.cell? ⟨w.heap.size, 0, none⟩ = some (.int .i64 a2.least) := VaD.out.cell 0
  have naD1 : w1.cell? ⟨w.heap.size, 1, none⟩ = some (.int .i64 a2.most) := VaD.out.cell 1
  have naD2 : w1.cell? ⟨w.heap.size, 2, none⟩ = some (.int .i64 a2.minTin) := VaD.out.cell 2
  have naD3 : w1.cell? ⟨w.heap.size, 3, none⟩ = some (.int .i64 a2.maxTin) := VaD.out.cell 3
  have naD4 : w1.cell? ⟨w.heap.size, 4, none⟩ = some (.int .i64 a2.other) := VaD.out.cell 4
  have laD : w.heap.size < w1.heap.size := VaD.out.lt
  go_wp2_with fail
  go_region_held3 (fun w' => w'.cell? ⟨w.heap.size, 0, none⟩ = some (.int .i64 a2.least) ∧ w'.cell? ⟨w.heap.size, 1, none⟩ = some (.int .i64 a2.most) ∧ w'.cell? ⟨w.heap.size, 2, none⟩ = some (.int .i64 a2.minTin) ∧ w'.cell? ⟨w.heap.size, 3, none⟩ = some (.int .i64 a2.maxTin) ∧ w'.cell? ⟨w.heap.size, 4, none⟩ = some (.int .i64 a2.other)) (first | assumption | go_keep) (first
    | (go_at_call 36
       refine (toIngotS _ _ x0 (by exact H0.out.up (B1.drew)) hn0).mono ?_; rintro e w2 ⟨g2, rfl, hg2, o2, b2⟩
       have b2' : Below w1.heap.size w1 w2 := Below.trans (by (repeat' (first | (with_reducible exact Below.refl _ _) | (with_reducible assumption) | (with_reducible refine below_dn ?_ _) | (with_reducible refine Below.drew ?_) | (with_reducible refine Below.alloc ?_ ?_ _) | (with_reducible refine Below.setCell ?_ ?_ _) | go_size))) (b2.mono (by simp <;> omega))
       clear b2
       have b2 := b2'; clear b2'
       have B2 := bnext B1 b2
       have VaD' := Lib.hid (VaD.out.below b2 VaD.out.lt); clear VaD; have VaD := VaD'; clear VaD'
       clear B1
       have O2 := Lib.hid o2; clear o2 hg2
       clear b2
       have HS2 : w2.cell? ⟨w.heap.size, 0, none⟩ = some (.int .i64 a2.least) ∧ w2.cell? ⟨w.heap.size, 1, none⟩ = some (.int .i64 a2.most) ∧ w2.cell? ⟨w.heap.size, 2, none⟩ = some (.int .i64 a2.minTin) ∧ w2.cell? ⟨w.heap.size, 3, none⟩ = some (.int .i64 a2.maxTin) ∧ w2.cell? ⟨w.heap.size, 4, none⟩ = some (.int .i64 a2.other) := ⟨VaD.out.cell 0, VaD.out.cell 1, VaD.out.cell 2, VaD.out.cell 3, VaD.out.cell 4⟩)
    | (go_at_call 37
       refine (toInt64S _ _ x1 (by exact H1.out.up B2) hn1).mono ?_; rintro e w3 ⟨g3, rfl, hg3, o3, b3⟩
       have B3 := bnext B2 b3
       have VaD' := Lib.hid (VaD.out.below b3 VaD.out.lt); clear VaD; have VaD := VaD'; clear VaD'
       have O2' := Lib.hid (O2.out.below b3 O2.out.lt); clear O2; have O2 := O2'; clear O2'
       clear B2
       have O3 := Lib.hid o3; clear o3 hg3
       clear b3
       have HS3 : w3.cell? ⟨w.heap.size, 0, none⟩ = some (.int .i64 a2.least) ∧ w3.cell? ⟨w.heap.size, 1, none⟩ = some (.int .i64 a2.most) ∧ w3.cell? ⟨w.heap.size, 2, none⟩ = some (.int .i64 a2.minTin) ∧ w3.cell? ⟨w.heap.size, 3, none⟩ = some (.int .i64 a2.maxTin) ∧ w3.cell? ⟨w.heap.size, 4, none⟩ = some (.int .i64 a2.other) := ⟨VaD.out.cell 0, VaD.out.cell 1, VaD.out.cell 2, VaD.out.cell 3, VaD.out.cell 4⟩)
    | (go_at_call 38
       refine (toDemand a2 _).mono ?_; rintro e w4 ⟨rfl, b4⟩
       have B4 := bnext B3 b4
       have VaD' := Lib.hid (VaD.out.below b4 VaD.out.lt); clear VaD; have VaD := VaD'; clear VaD'
       have O2' := Lib.hid (O2.out.below b4 O2.out.lt); clear O2; have O2 := O2'; clear O2'
       have O3' := Lib.hid (O3.out.below b4 O3.out.lt); clear O3; have O3 := O3'; clear O3'
       clear B3
       clear b4
       have HS4 : w4.cell? ⟨w.heap.size, 0, none⟩ = some (.int .i64 a2.least) ∧ w4.cell? ⟨w.heap.size, 1, none⟩ = some (.int .i64 a2.most) ∧ w4.cell? ⟨w.heap.size, 2, none⟩ = some (.int .i64 a2.minTin) ∧ w4.cell? ⟨w.heap.size, 3, none⟩ = some (.int .i64 a2.maxTin) ∧ w4.cell? ⟨w.heap.size, 4, none⟩ = some (.int .i64 a2.other) := ⟨VaD.out.cell 0, VaD.out.cell 1, VaD.out.cell 2, VaD.out.cell 3, VaD.out.cell 4⟩)
    | (go_at_call 35
       refine (spec_FitsDemand a2 _ _ _ x0 x1 (O2.out.rd O2.out.lt (Ingot_len x0) (by unfold maxLen; omega) _ (Nat.le_refl _) (by unfold maxLen; omega)) (O3.out.rd O3.out.lt (putI_len x1) (by unfold maxLen; omega) _ (Nat.le_refl _) (by unfold maxLen; omega)) hn0 hn1 Hok0.out Hok1.out).mono ?_; rintro e w5 ⟨rfl, b5⟩
       have B5 := bnext B4 b5
       have VaD' := Lib.hid (VaD.out.below b5 VaD.out.lt); clear VaD; have VaD := VaD'; clear VaD'
       have O2' := Lib.hid (O2.out.below b5 O2.out.lt); clear O2; have O2 := O2'; clear O2'
       have O3' := Lib.hid (O3.out.below b5 O3.out.lt); clear O3; have O3 := O3'; clear O3'
       clear B4
       clear b5
       have HS5 : w5.cell? ⟨w.heap.size, 0, none⟩ = some (.int .i64 a2.least) ∧ w5.cell? ⟨w.heap.size, 1, none⟩ = some (.int .i64 a2.most) ∧ w5.cell? ⟨w.heap.size, 2, none⟩ = some (.int .i64 a2.minTin) ∧ w5.cell? ⟨w.heap.size, 3, none⟩ = some (.int .i64 a2.maxTin) ∧ w5.cell? ⟨w.heap.size, 4, none⟩ = some (.int .i64 a2.other) := ⟨VaD.out.cell 0, VaD.out.cell 1, VaD.out.cell 2, VaD.out.cell 3, VaD.out.cell 4⟩))
  clear naD0 naD1 naD2 naD3 naD4 laD HS5
  clear O2 O3
  go_wp2_with fail
  refine (toIngotS _ _ x0 (by exact H0.out.up B5) hn0).mono ?_; rintro e w6 ⟨g6, rfl, hg6, o6, b6⟩
  have B6 := bnext B5 b6
  have VaD' := Lib.hid (VaD.out.below b6 VaD.out.lt); clear VaD; have VaD := VaD'; clear VaD'
  clear B5
  have O6 := Lib.hid o6; clear o6 hg6
  clear b6
  go_wp2_with fail
  refine (toInt64S _ _ x1 (by exact H1.out.up B6) hn1).mono ?_; rintro e w7 ⟨g7, rfl, hg7, o7, b7⟩
  have B7 := bnext B6 b7
  have VaD' := Lib.hid (VaD.out.below b7 VaD.out.lt); clear VaD; have VaD := VaD'; clear VaD'
  have O6' := Lib.hid (O6.out.below b7 O6.out.lt); clear O6; have O6 := O6'; clear O6'
  clear B6
  have O7 := Lib.hid o7; clear o7 hg7
  clear b7
  have naD0 : w7.cell? ⟨w.heap.size, 0, none⟩ = some (.int .i64 a2.least) := VaD.out.cell 0
  have naD1 : w7.cell? ⟨w.heap.size, 1, none⟩ = some (.int .i64 a2.most) := VaD.out.cell 1
  have naD2 : w7.cell? ⟨w.heap.size, 2, none⟩ = some (.int .i64 a2.minTin) := VaD.out.cell 2
  have naD3 : w7.cell? ⟨w.heap.size, 3, none⟩ = some (.int .i64 a2.maxTin) := VaD.out.cell 3
  have naD4 : w7.cell? ⟨w.heap.size, 4, none⟩ = some (.int .i64 a2.other) := VaD.out.cell 4
  have laD : w.heap.size < w7.heap.size := VaD.out.lt
  go_wp2_with fail
  refine (toDemand a2 _).mono ?_; rintro e w8 ⟨rfl, b8⟩
  clear naD0 naD1 naD2 naD3 naD4 laD
  have B8 := bnext B7 b8
  have VaD' := Lib.hid (VaD.out.below b8 VaD.out.lt); clear VaD; have VaD := VaD'; clear VaD'
  have O6' := Lib.hid (O6.out.below b8 O6.out.lt); clear O6; have O6 := O6'; clear O6'
  have O7' := Lib.hid (O7.out.below b8 O7.out.lt); clear O7; have O7 := O7'; clear O7'
  clear B7
  clear b8
  have naD0 : w8.cell? ⟨w.heap.size, 0, none⟩ = some (.int .i64 a2.least) := VaD.out.cell 0
  have naD1 : w8.cell? ⟨w.heap.size, 1, none⟩ = some (.int .i64 a2.most) := VaD.out.cell 1
  have naD2 : w8.cell? ⟨w.heap.size, 2, none⟩ = some (.int .i64 a2.minTin) := VaD.out.cell 2
  have naD3 : w8.cell? ⟨w.heap.size, 3, none⟩ = some (.int .i64 a2.maxTin) := VaD.out.cell 3
  have naD4 : w8.cell? ⟨w.heap.size, 4, none⟩ = some (.int .i64 a2.other) := VaD.out.cell 4
  have laD : w.heap.size < w8.heap.size := VaD.out.lt
  go_wp2_with fail
  refine (impl_FitsDemand a2 _ _ _ x0 x1 (O6.out.rd O6.out.lt (Ingot_len x0) (by unfold maxLen; omega) _ (Nat.le_refl _) (by unfold maxLen; omega)) (O7.out.rd O7.out.lt (putI_len x1) (by unfold maxLen; omega) _ (Nat.le_refl _) (by unfold maxLen; omega)) hn0 hn1 Hok0.out Hok1.out).mono ?_; rintro e w9 ⟨rfl, b9⟩
  clear naD0 naD1 naD2 naD3 naD4 laD
  have B9 := bnext B8 b9
  have VaD' := Lib.hid (VaD.out.below b9 VaD.out.lt); clear VaD; have VaD := VaD'; clear VaD'
  have O6' := Lib.hid (O6.out.below b9 O6.out.lt); clear O6; have O6 := O6'; clear O6'
  have O7' := Lib.hid (O7.out.below b9 O7.out.lt); clear O7; have O7 := O7'; clear O7'
  clear B8
  clear b9
  go_wp2_with fail
  refine (toIngotS _ _ x0 (by exact H0.out.up B9) hn0).mono ?_; rintro e w10 ⟨g10, rfl, hg10, o10, b10⟩
  have B10 := bnext B9 b10
  have VaD' := Lib.hid (VaD.out.below b10 VaD.out.lt); clear VaD; have VaD := VaD'; clear VaD'
  have O6' := Lib.hid (O6.out.below b10 O6.out.lt); clear O6; have O6 := O6'; clear O6'
  have O7' := Lib.hid (O7.out.below b10 O7.out.lt); clear O7; have O7 := O7'; clear O7'
  clear B9
  have O10 := Lib.hid o10; clear o10 hg10
  clear b10
  go_wp2_with fail
  refine (eqIngotS _ _ _ x0 (O6.out.rd O6.out.lt (Ingot_len x0) (by unfold maxLen; omega) _ (Nat.le_refl _) (by unfold maxLen; omega)) (O10.out.rd O10.out.lt (Ingot_len x0) (by unfold maxLen; omega) _ (Nat.le_refl _) (by unfold maxLen; omega)) hn0).mono ?_; rintro e w11 ⟨rfl, b11⟩
  have B11 := bnext B10 b11
  have VaD' := Lib.hid (VaD.out.below b11 VaD.out.lt); clear VaD; have VaD := VaD'; clear VaD'
  have O6' := Lib.hid (O6.out.below b11 O6.out.lt); clear O6; have O6 := O6'; clear O6'
  have O7' := Lib.hid (O7.out.below b11 O7.out.lt); clear O7; have O7 := O7'; clear O7'
  have O10' := Lib.hid (O10.out.below b11 O10.out.lt); clear O10; have O10 := O10'; clear O10'
  clear B10
  clear b11
  clear O6 O10
  go_wp2_with fail
  refine (toInt64S _ _ x1 (by exact H1.out.up B11) hn1).mono ?_; rintro e w12 ⟨g12, rfl, hg12, o12, b12⟩
  have B12 := bnext B11 b12
  have VaD' := Lib.hid (VaD.out.below b12 VaD.out.lt); clear VaD; have VaD := VaD'; clear VaD'
  have O7' := Lib.hid (O7.out.below b12 O7.out.lt); clear O7; have O7 := O7'; clear O7'
  clear B11
  have O12 := Lib.hid o12; clear o12 hg12
  clear b12
  go_wp2_with fail
  refine (dB (eqInt64S _ _ _ _ _ x1 x1 (O7.out.rd O7.out.lt (putI_len x1) (by unfold maxLen; omega) _ (Nat.le_refl _) (by unfold maxLen; omega)) (O12.out.rd O12.out.lt (putI_len x1) (by unfold maxLen; omega) _ (Nat.le_refl _) (by unfold maxLen; omega)) hn1 hn1 rfl)).mono ?_; rintro e w13 ⟨rfl, b13⟩
  have B13 := bnext B12 b13
  have VaD' := Lib.hid (VaD.out.below b13 VaD.out.lt); clear VaD; have VaD := VaD'; clear VaD'
  have O7' := Lib.hid (O7.out.below b13 O7.out.lt); clear O7; have O7 := O7'; clear O7'
  have O12' := Lib.hid (O12.out.below b13 O12.out.lt); clear O12; have O12 := O12'; clear O12'
  clear B12
  clear b13
  clear O7 O12
  go_wp2_with fail
  all_goals go_ret
  all_goals exact ⟨rfl, B13⟩
end Go.Proofs.Ytegfgcgjoojdmaa
