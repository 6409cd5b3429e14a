/- FnExactMostFrom: the law. -/
import Derived.Test.YtdliabgdgjboiaaRows
import Derived.Test.YtdliabgdgjboiaaLaw
import Derived.Test.YtdliabgdgjboiaaMostFrom
import Derived.Deep.RegionHeld3
namespace Go.Proofs.Ytdliabgdgjboiaa
open Go.ChangeShapes Go.WideShapes Go.ChangeAt Go.RowKit Go.Deep Go.Joins
set_option linter.unusedVariables false
set_option maxRecDepth 100000
set_option linter.unusedSimpArgs false
set_option maxHeartbeats 1000000 in
theorem FnExactMostFrom_walk (w : World) (v0 : Value) (x0 : List Ingot) (k0 : Rd w.heap.size w v0 5 x0.length (x0.flatMap Ingot.put) ∧ x0.length ≤ maxLen ∧ ∀ x ∈ x0, x.ok) (a1 : Melt) (k1 : a1.ok w) :
    Calls Try.prog 4 #[v0, .agg #[.string a1.id, a1.list, .int .i64 a1.mass]] w fun e w' => e = .returned (.bool true) ∧ Below w.heap.size w w' := by
  obtain ⟨h0, hm0, hok0⟩ := k0
  have H0 := Lib.hid h0; clear h0
  have Hok0 := Lib.hid hok0; clear hok0
  have Hk1 := Lib.hid k1; clear k1
  by_cases hq0 : (x0.length + wtIngot x0) ≤ 1048576
  case neg =>
    have e0 : Hid (szR 1048576 (x0.length + wtIngot x0) = -1) := (if_neg (by omega) : szR 1048576 (x0.length + wtIngot x0) = -1)
    go_enter Try.func4, Try.ntmps4
    go_wp2_with fail
    refine (szIngotS _ _ x0 1048576 (by exact H0.out.up (by (repeat' (first | (with_reducible exact Below.refl _ _) | (with_reducible assumption) | (with_reducible refine below_dn ?_ _) | (with_reducible refine Below.drew ?_) | (with_reducible refine Below.alloc ?_ ?_ _) | (with_reducible refine Below.setCell ?_ ?_ _) | go_size)))) hm0 (fun x hx => (Hok0.out x hx).1) (by omega) (by omega)).mono ?_; rw [e0.out]; rintro e w1 ⟨rfl, b1⟩
    have B1 : Below w.heap.size w w1 := Below.trans (by (repeat' (first | (with_reducible exact Below.refl _ _) | (with_reducible assumption) | (with_reducible refine below_dn ?_ _) | (with_reducible refine Below.drew ?_) | (with_reducible refine Below.alloc ?_ ?_ _) | (with_reducible refine Below.setCell ?_ ?_ _) | go_size))) (b1.mono (by simp <;> omega))
    have VaX : Hid (Own w1 (w.heap.size) 25 [.string a1.id, a1.list, .int .i64 a1.mass]) := Lib.hid ((Own.newAt 25 [.string a1.id, a1.list, .int .i64 a1.mass] (by simp)).below b1 (by simp <;> omega))
    clear b1
    go_wp2_with fail
    go_ret
    exact ⟨rfl, B1⟩
  obtain ⟨z0, hz0, hy0, hy0_⟩ : ∃ z : Int, szR 1048576 (x0.length + wtIngot x0) = z ∧ (0 ≤ z ∧ z ≤ 1048576) ∧ z = 1048576 - (((x0.length + wtIngot x0) : Nat) : Int) := ⟨_, rfl, by unfold szR; rw [if_pos (by omega)]; omega, by unfold szR; rw [if_pos (by omega)]⟩
  have Hy0 := Lib.hid hy0_; clear hy0_
  have Hz0 := Lib.hid hz0; clear hz0
  have hn0 : x0.length ≤ 1048576 := by omega
  by_cases hq1 : (x0.length + wtIngot x0) + (a1.id.size + (a1.ingots.length + wtStr a1.ingots)) ≤ 1048576
  case neg =>
    have e0 : Hid (szR z0 (a1.id.size + (a1.ingots.length + wtStr a1.ingots)) = -1) := (if_neg (by have := Hy0.out; omega) : szR z0 (a1.id.size + (a1.ingots.length + wtStr a1.ingots)) = -1)
    go_enter Try.func4, Try.ntmps4
    go_wp2_with fail
    refine (szIngotS _ _ x0 1048576 (by exact H0.out.up (by (repeat' (first | (with_reducible exact Below.refl _ _) | (with_reducible assumption) | (with_reducible refine below_dn ?_ _) | (with_reducible refine Below.drew ?_) | (with_reducible refine Below.alloc ?_ ?_ _) | (with_reducible refine Below.setCell ?_ ?_ _) | go_size)))) hm0 (fun x hx => (Hok0.out x hx).1) (by omega) (by omega)).mono ?_; rw [Hz0.out]; rintro e w1 ⟨rfl, b1⟩
    have B1 : Below w.heap.size w w1 := Below.trans (by (repeat' (first | (with_reducible exact Below.refl _ _) | (with_reducible assumption) | (with_reducible refine below_dn ?_ _) | (with_reducible refine Below.drew ?_) | (with_reducible refine Below.alloc ?_ ?_ _) | (with_reducible refine Below.setCell ?_ ?_ _) | go_size))) (b1.mono (by simp <;> omega))
    have VaX : Hid (Own w1 (w.heap.size) 25 [.string a1.id, a1.list, .int .i64 a1.mass]) := Lib.hid ((Own.newAt 25 [.string a1.id, a1.list, .int .i64 a1.mass] (by simp)).below b1 (by simp <;> omega))
    clear b1
    have naX0 : w1.cell? ⟨w.heap.size, 0, none⟩ = some (.string a1.id) := VaX.out.cell 0
    have naX1 : w1.cell? ⟨w.heap.size, 1, none⟩ = some (a1.list) := VaX.out.cell 1
    have naX2 : w1.cell? ⟨w.heap.size, 2, none⟩ = some (.int .i64 a1.mass) := VaX.out.cell 2
    have laX : w.heap.size < w1.heap.size := VaX.out.lt
    go_wp2_with fail
    refine (szMelt a1 z0 _ (by exact Hk1.out.up B1) (by omega) (by omega)).mono ?_; rw [e0.out]; rintro e w2 ⟨rfl, b2⟩
    clear naX0 naX1 naX2 laX
    have B2 := bnext B1 b2
    have VaX' := Lib.hid (VaX.out.below b2 VaX.out.lt); clear VaX; have VaX := VaX'; clear VaX'
    clear B1
    clear b2
    go_wp2_with fail
    go_ret
    exact ⟨rfl, B2⟩
  obtain ⟨z1, hz1, hy1, hy1_⟩ : ∃ z : Int, szR z0 (a1.id.size + (a1.ingots.length + wtStr a1.ingots)) = z ∧ (0 ≤ z ∧ z ≤ 1048576) ∧ z = z0 - (((a1.id.size + (a1.ingots.length + wtStr a1.ingots)) : Nat) : Int) := ⟨_, rfl, by have := Hy0.out; unfold szR; rw [if_pos (by omega)]; omega, by have := Hy0.out; unfold szR; rw [if_pos (by omega)]⟩
  have Hy1 := Lib.hid hy1_; clear hy1_
  have Hz1 := Lib.hid hz1; clear hz1
  have hn1 : a1.ingots.length ≤ 1048576 := by omega
  have Hf1 : Hid (Melt.fine a1) := ⟨Hk1.out.1, Hk1.out.2.1.2.2, Hk1.out.2.2, hn1⟩
  go_enter Try.func4, Try.ntmps4
  go_wp2_with fail
  refine (szIngotS _ _ x0 1048576 (by exact H0.out.up (by (repeat' (first | (with_reducible exact Below.refl _ _) | (with_reducible assumption) | (with_reducible refine below_dn ?_ _) | (with_reducible refine Below.drew ?_) | (with_reducible refine Below.alloc ?_ ?_ _) | (with_reducible refine Below.setCell ?_ ?_ _) | go_size)))) hm0 (fun x hx => (Hok0.out x hx).1) (by omega) (by omega)).mono ?_; rw [Hz0.out]; rintro e w1 ⟨rfl, b1⟩
  have B1 : Below w.heap.size w w1 := Below.trans (by (repeat' (first | (with_reducible exact Below.refl _ _) | (with_reducible assumption) | (with_reducible refine below_dn ?_ _) | (with_reducible refine Below.drew ?_) | (with_reducible refine Below.alloc ?_ ?_ _) | (with_reducible refine Below.setCell ?_ ?_ _) | go_size))) (b1.mono (by simp <;> omega))
  have VaX : Hid (Own w1 (w.heap.size) 25 [.string a1.id, a1.list, .int .i64 a1.mass]) := Lib.hid ((Own.newAt 25 [.string a1.id, a1.list, .int .i64 a1.mass] (by simp)).below b1 (by simp <;> omega))
  clear b1
  have naX0 : w1.cell? ⟨w.heap.size, 0, none⟩ = some (.string a1.id) := VaX.out.cell 0
  have naX1 : w1.cell? ⟨w.heap.size, 1, none⟩ = some (a1.list) := VaX.out.cell 1
  have naX2 : w1.cell? ⟨w.heap.size, 2, none⟩ = some (.int .i64 a1.mass) := VaX.out.cell 2
  have laX : w.heap.size < w1.heap.size := VaX.out.lt
  go_wp2_with fail
  refine (szMelt a1 z0 _ (by exact Hk1.out.up B1) (by omega) (by omega)).mono ?_; rw [Hz1.out]; rintro e w2 ⟨rfl, b2⟩
  clear naX0 naX1 naX2 laX
  have B2 := bnext B1 b2
  have VaX' := Lib.hid (VaX.out.below b2 VaX.out.lt); clear VaX; have VaX := VaX'; clear VaX'
  clear B1
  clear b2
  clear Hz0 Hz1 hq0 Hy0 hq1 Hy1
  have naX0 : w2.cell? ⟨w.heap.size, 0, none⟩ = some (.string a1.id) := VaX.out.cell 0
  have naX1 : w2.cell? ⟨w.heap.size, 1, none⟩ = some (a1.list) := VaX.out.cell 1
  have naX2 : w2.cell? ⟨w.heap.size, 2, none⟩ = some (.int .i64 a1.mass) := VaX.out.cell 2
  have laX : w.heap.size < w2.heap.size := VaX.out.lt
  go_wp2_with fail
  go_region_held3 (fun w' => w'.cell? ⟨w.heap.size, 0, none⟩ = some (.string a1.id) ∧ w'.cell? ⟨w.heap.size, 1, none⟩ = some (a1.list) ∧ w'.cell? ⟨w.heap.size, 2, none⟩ = some (.int .i64 a1.mass)) (first | assumption | go_keep) (first
    | (go_at_call 14
       refine (toIngotS _ _ x0 (by exact H0.out.up (B2.drew)) hn0).mono ?_; rintro e w3 ⟨g3, rfl, hg3, o3, b3⟩
       have b3' : Below w2.heap.size w2 w3 := Below.trans (by (repeat' (first | (with_reducible exact Below.refl _ _) | (with_reducible assumption) | (with_reducible refine below_dn ?_ _) | (with_reducible refine Below.drew ?_) | (with_reducible refine Below.alloc ?_ ?_ _) | (with_reducible refine Below.setCell ?_ ?_ _) | go_size))) (b3.mono (by simp <;> omega))
       clear b3
       have b3 := b3'; clear b3'
       have B3 := bnext B2 b3
       have VaX' := Lib.hid (VaX.out.below b3 VaX.out.lt); clear VaX; have VaX := VaX'; clear VaX'
       clear B2
       have O3 := Lib.hid o3; clear o3 hg3
       clear b3
       have HS3 : w3.cell? ⟨w.heap.size, 0, none⟩ = some (.string a1.id) ∧ w3.cell? ⟨w.heap.size, 1, none⟩ = some (a1.list) ∧ w3.cell? ⟨w.heap.size, 2, none⟩ = some (.int .i64 a1.mass) := ⟨VaX.out.cell 0, VaX.out.cell 1, VaX.out.cell 2⟩)
    | (go_at_call 15
       refine (toMelt a1 _ (by exact Hk1.out.2.1.1.up B3) hn1).mono ?_; rintro e w4 ⟨g4, rfl, hg4, o4, b4⟩
       have B4 := bnext B3 b4
       have VaX' := Lib.hid (VaX.out.below b4 VaX.out.lt); clear VaX; have VaX := VaX'; clear VaX'
       have O3' := Lib.hid (O3.out.below b4 O3.out.lt); clear O3; have O3 := O3'; clear O3'
       clear B3
       have O4 := Lib.hid o4; clear o4 hg4
       clear b4
       have HS4 : w4.cell? ⟨w.heap.size, 0, none⟩ = some (.string a1.id) ∧ w4.cell? ⟨w.heap.size, 1, none⟩ = some (a1.list) ∧ w4.cell? ⟨w.heap.size, 2, none⟩ = some (.int .i64 a1.mass) := ⟨VaX.out.cell 0, VaX.out.cell 1, VaX.out.cell 2⟩)
    | (go_at_call 20
       refine (spec_MostFrom _ _ x0 a1 _ _ (O3.out.rd O3.out.lt (Ingot_len x0) (by unfold maxLen; omega) _ (Nat.le_refl _) (by unfold maxLen; omega)) hn0 Hok0.out (O4.out.rd O4.out.lt (putStr_len _) (by unfold maxLen; omega) _ (Nat.le_refl _) (by unfold maxLen; omega)) Hf1.out).mono ?_; rintro e w5 ⟨rfl, b5⟩
       have B5 := bnext B4 b5
       have VaX' := Lib.hid (VaX.out.below b5 VaX.out.lt); clear VaX; have VaX := VaX'; clear VaX'
       have O3' := Lib.hid (O3.out.below b5 O3.out.lt); clear O3; have O3 := O3'; clear O3'
       have O4' := Lib.hid (O4.out.below b5 O4.out.lt); clear O4; have O4 := O4'; clear O4'
       clear B4
       clear b5
       have HS5 : w5.cell? ⟨w.heap.size, 0, none⟩ = some (.string a1.id) ∧ w5.cell? ⟨w.heap.size, 1, none⟩ = some (a1.list) ∧ w5.cell? ⟨w.heap.size, 2, none⟩ = some (.int .i64 a1.mass) := ⟨VaX.out.cell 0, VaX.out.cell 1, VaX.out.cell 2⟩))
  clear naX0 naX1 naX2 laX HS5
  clear O3 O4
  go_wp2_with fail
  refine (toIngotS _ _ x0 (by exact H0.out.up B5) hn0).mono ?_; rintro e w6 ⟨g6, rfl, hg6, o6, b6⟩
  have B6 := bnext B5 b6
  have VaX' := Lib.hid (VaX.out.below b6 VaX.out.lt); clear VaX; have VaX := VaX'; clear VaX'
  clear B5
  have O6 := Lib.hid o6; clear o6 hg6
  clear b6
  have naX0 : w6.cell? ⟨w.heap.size, 0, none⟩ = some (.string a1.id) := VaX.out.cell 0
  have naX1 : w6.cell? ⟨w.heap.size, 1, none⟩ = some (a1.list) := VaX.out.cell 1
  have naX2 : w6.cell? ⟨w.heap.size, 2, none⟩ = some (.int .i64 a1.mass) := VaX.out.cell 2
  have laX : w.heap.size < w6.heap.size := VaX.out.lt
  go_wp2_with fail
  refine (toMelt a1 _ (by exact Hk1.out.2.1.1.up B6) hn1).mono ?_; rintro e w7 ⟨g7, rfl, hg7, o7, b7⟩
  clear naX0 naX1 naX2 laX
  have B7 := bnext B6 b7
  have VaX' := Lib.hid (VaX.out.below b7 VaX.out.lt); clear VaX; have VaX := VaX'; clear VaX'
  have O6' := Lib.hid (O6.out.below b7 O6.out.lt); clear O6; have O6 := O6'; clear O6'
  clear B6
  have O7 := Lib.hid o7; clear o7 hg7
  clear b7
  go_wp2_with fail
  refine (impl_MostFrom _ _ x0 a1 _ _ (by exact (O6.out.rd O6.out.lt (Ingot_len x0) (by unfold maxLen; omega) _ (Nat.le_refl _) (by unfold maxLen; omega)).up (by (repeat' (first | (with_reducible exact Below.refl _ _) | (with_reducible assumption) | (with_reducible refine below_dn ?_ _) | (with_reducible refine Below.drew ?_) | (with_reducible refine Below.alloc ?_ ?_ _) | (with_reducible refine Below.setCell ?_ ?_ _) | go_size)))) hn0 Hok0.out (by exact (O7.out.rd O7.out.lt (putStr_len _) (by unfold maxLen; omega) _ (Nat.le_refl _) (by unfold maxLen; omega)).up (by (repeat' (first | (with_reducible exact Below.refl _ _) | (with_reducible assumption) | (with_reducible refine below_dn ?_ _) | (with_reducible refine Below.drew ?_) | (with_reducible refine Below.alloc ?_ ?_ _) | (with_reducible refine Below.setCell ?_ ?_ _) | go_size)))) Hf1.out).mono ?_; rintro e w8 ⟨rfl, b8⟩
  have Vx1 : Hid (Own w8 (w7.heap.size) 34 [.string a1.id, .slice (some ⟨g7, 0, none⟩) a1.ingots.length a1.ingots.length, .int .i64 a1.mass]) := Lib.hid ((Own.newAt 34 [.string a1.id, .slice (some ⟨g7, 0, none⟩) a1.ingots.length a1.ingots.length, .int .i64 a1.mass] (by simp)).below b8 (by simp <;> omega))
  have b8' : Below w7.heap.size w7 w8 := Below.trans (by (repeat' (first | (with_reducible exact Below.refl _ _) | (with_reducible assumption) | (with_reducible refine below_dn ?_ _) | (with_reducible refine Below.drew ?_) | (with_reducible refine Below.alloc ?_ ?_ _) | (with_reducible refine Below.setCell ?_ ?_ _) | go_size))) (b8.mono (by simp <;> omega))
  clear b8
  have b8 := b8'; clear b8'
  have B8 := bnext B7 b8
  have VaX' := Lib.hid (VaX.out.below b8 VaX.out.lt); clear VaX; have VaX := VaX'; clear VaX'
  have O6' := Lib.hid (O6.out.below b8 O6.out.lt); clear O6; have O6 := O6'; clear O6'
  have O7' := Lib.hid (O7.out.below b8 O7.out.lt); clear O7; have O7 := O7'; clear O7'
  clear B7
  clear b8
  go_wp2_with fail
  refine (toIngotS _ _ x0 (by exact H0.out.up B8) hn0).mono ?_; rintro e w9 ⟨g9, rfl, hg9, o9, b9⟩
  have B9 := bnext B8 b9
  have VaX' := Lib.hid (VaX.out.below b9 VaX.out.lt); clear VaX; have VaX := VaX'; clear VaX'
  have O6' := Lib.hid (O6.out.below b9 O6.out.lt); clear O6; have O6 := O6'; clear O6'
  have O7' := Lib.hid (O7.out.below b9 O7.out.lt); clear O7; have O7 := O7'; clear O7'
  have Vx1' := Lib.hid (Vx1.out.below b9 Vx1.out.lt); clear Vx1; have Vx1 := Vx1'; clear Vx1'
  clear B8
  have O9 := Lib.hid o9; clear o9 hg9
  clear b9
  go_wp2_with fail
  refine (eqIngotS _ _ _ x0 (O6.out.rd O6.out.lt (Ingot_len x0) (by unfold maxLen; omega) _ (Nat.le_refl _) (by unfold maxLen; omega)) (O9.out.rd O9.out.lt (Ingot_len x0) (by unfold maxLen; omega) _ (Nat.le_refl _) (by unfold maxLen; omega)) hn0).mono ?_; rintro e w10 ⟨rfl, b10⟩
  have B10 := bnext B9 b10
  have VaX' := Lib.hid (VaX.out.below b10 VaX.out.lt); clear VaX; have VaX := VaX'; clear VaX'
  have O6' := Lib.hid (O6.out.below b10 O6.out.lt); clear O6; have O6 := O6'; clear O6'
  have O7' := Lib.hid (O7.out.below b10 O7.out.lt); clear O7; have O7 := O7'; clear O7'
  have Vx1' := Lib.hid (Vx1.out.below b10 Vx1.out.lt); clear Vx1; have Vx1 := Vx1'; clear Vx1'
  have O9' := Lib.hid (O9.out.below b10 O9.out.lt); clear O9; have O9 := O9'; clear O9'
  clear B9
  clear b10
  clear O6 O9
  have nx10 : w10.cell? ⟨w7.heap.size, 0, none⟩ = some (.string a1.id) := Vx1.out.cell 0
  have nx11 : w10.cell? ⟨w7.heap.size, 1, none⟩ = some (.slice (some ⟨g7, 0, none⟩) a1.ingots.length a1.ingots.length) := Vx1.out.cell 1
  have nx12 : w10.cell? ⟨w7.heap.size, 2, none⟩ = some (.int .i64 a1.mass) := Vx1.out.cell 2
  have lx1 : w7.heap.size < w10.heap.size := Vx1.out.lt
  have naX0 : w10.cell? ⟨w.heap.size, 0, none⟩ = some (.string a1.id) := VaX.out.cell 0
  have naX1 : w10.cell? ⟨w.heap.size, 1, none⟩ = some (a1.list) := VaX.out.cell 1
  have naX2 : w10.cell? ⟨w.heap.size, 2, none⟩ = some (.int .i64 a1.mass) := VaX.out.cell 2
  have laX : w.heap.size < w10.heap.size := VaX.out.lt
  go_wp2_with fail
  go_region_held3 (fun w' => w'.cell? ⟨w7.heap.size, 0, none⟩ = some (.string a1.id) ∧ w'.cell? ⟨w7.heap.size, 1, none⟩ = some (.slice (some ⟨g7, 0, none⟩) a1.ingots.length a1.ingots.length) ∧ w'.cell? ⟨w7.heap.size, 2, none⟩ = some (.int .i64 a1.mass) ∧ w'.cell? ⟨w.heap.size, 0, none⟩ = some (.string a1.id) ∧ w'.cell? ⟨w.heap.size, 1, none⟩ = some (a1.list) ∧ w'.cell? ⟨w.heap.size, 2, none⟩ = some (.int .i64 a1.mass)) (first | assumption | go_keep) (first
    | (go_at_call 15
       refine (toMelt a1 _ (by exact Hk1.out.2.1.1.up (B10.drew)) hn1).mono ?_; rintro e w11 ⟨g11, rfl, hg11, o11, b11⟩
       have b11' : Below w10.heap.size w10 w11 := Below.trans (by (repeat' (first | (with_reducible exact Below.refl _ _) | (with_reducible assumption) | (with_reducible refine below_dn ?_ _) | (with_reducible refine Below.drew ?_) | (with_reducible refine Below.alloc ?_ ?_ _) | (with_reducible refine Below.setCell ?_ ?_ _) | go_size))) (b11.mono (by simp <;> omega))
       clear b11
       have b11 := b11'; clear b11'
       have B11 := bnext B10 b11
       have VaX' := Lib.hid (VaX.out.below b11 VaX.out.lt); clear VaX; have VaX := VaX'; clear VaX'
       have O7' := Lib.hid (O7.out.below b11 O7.out.lt); clear O7; have O7 := O7'; clear O7'
       have Vx1' := Lib.hid (Vx1.out.below b11 Vx1.out.lt); clear Vx1; have Vx1 := Vx1'; clear Vx1'
       clear B10
       have O11 := Lib.hid o11; clear o11 hg11
       clear b11
       have HS11 : w11.cell? ⟨w7.heap.size, 0, none⟩ = some (.string a1.id) ∧ w11.cell? ⟨w7.heap.size, 1, none⟩ = some (.slice (some ⟨g7, 0, none⟩) a1.ingots.length a1.ingots.length) ∧ w11.cell? ⟨w7.heap.size, 2, none⟩ = some (.int .i64 a1.mass) ∧ w11.cell? ⟨w.heap.size, 0, none⟩ = some (.string a1.id) ∧ w11.cell? ⟨w.heap.size, 1, none⟩ = some (a1.list) ∧ w11.cell? ⟨w.heap.size, 2, none⟩ = some (.int .i64 a1.mass) := ⟨Vx1.out.cell 0, Vx1.out.cell 1, Vx1.out.cell 2, VaX.out.cell 0, VaX.out.cell 1, VaX.out.cell 2⟩)
    | (go_at_call 19
       refine (eqMelt a1 _ _ _ (O7.out.rd O7.out.lt (putStr_len _) (by unfold maxLen; omega) _ (Nat.le_refl _) (by unfold maxLen; omega)) (O11.out.rd O11.out.lt (putStr_len _) (by unfold maxLen; omega) _ (Nat.le_refl _) (by unfold maxLen; omega)) hn1).mono ?_; rintro e w12 ⟨rfl, b12⟩
       have B12 := bnext B11 b12
       have VaX' := Lib.hid (VaX.out.below b12 VaX.out.lt); clear VaX; have VaX := VaX'; clear VaX'
       have O7' := Lib.hid (O7.out.below b12 O7.out.lt); clear O7; have O7 := O7'; clear O7'
       have Vx1' := Lib.hid (Vx1.out.below b12 Vx1.out.lt); clear Vx1; have Vx1 := Vx1'; clear Vx1'
       have O11' := Lib.hid (O11.out.below b12 O11.out.lt); clear O11; have O11 := O11'; clear O11'
       clear B11
       clear b12
       have HS12 : w12.cell? ⟨w7.heap.size, 0, none⟩ = some (.string a1.id) ∧ w12.cell? ⟨w7.heap.size, 1, none⟩ = some (.slice (some ⟨g7, 0, none⟩) a1.ingots.length a1.ingots.length) ∧ w12.cell? ⟨w7.heap.size, 2, none⟩ = some (.int .i64 a1.mass) ∧ w12.cell? ⟨w.heap.size, 0, none⟩ = some (.string a1.id) ∧ w12.cell? ⟨w.heap.size, 1, none⟩ = some (a1.list) ∧ w12.cell? ⟨w.heap.size, 2, none⟩ = some (.int .i64 a1.mass) := ⟨Vx1.out.cell 0, Vx1.out.cell 1, Vx1.out.cell 2, VaX.out.cell 0, VaX.out.cell 1, VaX.out.cell 2⟩))
  clear nx10 nx11 nx12 lx1 naX0 naX1 naX2 laX HS12
  clear O7 O11
  go_wp2_with fail
  all_goals go_ret
  all_goals exact ⟨rfl, B12⟩
end Go.Proofs.Ytdliabgdgjboiaa
