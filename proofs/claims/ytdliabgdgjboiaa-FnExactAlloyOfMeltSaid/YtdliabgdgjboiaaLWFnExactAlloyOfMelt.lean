/- FnExactAlloyOfMelt: the law. -/
import Derived.Test.YtdliabgdgjboiaaRows
import Derived.Test.YtdliabgdgjboiaaLaw
import Derived.Test.YtdliabgdgjboiaaAlloyOf
import Derived.Deep.RegionHeld3
namespace Go.Proofs.Ytdliabgdgjboiaa
open Go.ChangeShapes Go.WideShapes Go.ChangeAt Go.RowKit Go.Deep Go.Joins
set_option linter.unusedVariables false
set_option maxRecDepth 100000
set_option linter.unusedSimpArgs false
theorem own_belowW {W w' : World} {g : Nat} {E : TypeId} {L : List Value} (h : Own W g E L) (b : Below W.heap.size W w') : Own w' g E L := h.below b h.lt
set_option maxHeartbeats 16000000 in
theorem FnExactAlloyOfMelt_walk (w : World) (v0 : Value) (x0 : List Ingot) (k0 : Rd w.heap.size w v0 5 x0.length (x0.flatMap Ingot.put) ∧ x0.length ≤ maxLen ∧ ∀ x ∈ x0, x.ok) (a1 : Melt) (k1 : a1.ok w) :
    Calls Try.prog 3 #[v0, .agg #[.string a1.id, a1.list, .int .i64 a1.mass]] w fun e w' => e = .returned (.bool true) ∧ Below w.heap.size w w' := by
  obtain ⟨h0, hm0, hok0⟩ := k0
  have H0 := Lib.hid h0; clear h0
  have Hok0 := Lib.hid hok0; clear hok0
  have Hk1 := Lib.hid k1; clear k1
  by_cases hq0 : (x0.length + wtIngot x0) ≤ 1048576
  case neg =>
    have e0 : Hid (szR 1048576 (x0.length + wtIngot x0) = -1) := (if_neg (by omega) : szR 1048576 (x0.length + wtIngot x0) = -1)
    go_enter Try.func3, Try.ntmps3
    go_wp2_with fail
    refine (szIngotS _ _ x0 1048576 (by exact H0.out.up (by (repeat' (first | (with_reducible exact Below.refl _ _) | (with_reducible assumption) | (with_reducible refine below_dn ?_ _) | (with_reducible refine Below.drew ?_) | (with_reducible refine Below.alloc ?_ ?_ _) | (with_reducible refine Below.setCell ?_ ?_ _) | go_size)))) hm0 (fun x hx => (Hok0.out x hx).1) (by omega) (by omega)).mono ?_; rw [e0.out]; rintro e w1 ⟨rfl, b1⟩
    have B1 : Below w.heap.size w w1 := Below.trans (by (repeat' (first | (with_reducible exact Below.refl _ _) | (with_reducible assumption) | (with_reducible refine below_dn ?_ _) | (with_reducible refine Below.drew ?_) | (with_reducible refine Below.alloc ?_ ?_ _) | (with_reducible refine Below.setCell ?_ ?_ _) | go_size))) (b1.mono (by simp <;> omega))
    have VaX : Hid (Own w1 (w.heap.size) 25 [.string a1.id, a1.list, .int .i64 a1.mass]) := Lib.hid ((Own.newAt 25 [.string a1.id, a1.list, .int .i64 a1.mass] (by simp)).below b1 (by simp <;> omega))
    clear b1
    go_wp2_with fail
    go_ret
    exact ⟨rfl, B1⟩
  obtain ⟨z0, hz0, hy0, hy0_⟩ : ∃ z : Int, szR 1048576 (x0.length + wtIngot x0) = z ∧ (0 ≤ z ∧ z ≤ 1048576) ∧ z = 1048576 - (((x0.length + wtIngot x0) : Nat) : Int) := ⟨_, rfl, by unfold szR; rw [if_pos (by omega)]; omega, by unfold szR; rw [if_pos (by omega)]⟩
  have Hy0 := Lib.hid hy0_; clear hy0_
  have Hz0 := Lib.hid hz0; clear hz0
  have hn0 : x0.length ≤ 1048576 := by omega
  by_cases hq1 : (x0.length + wtIngot x0) + (a1.id.size + (a1.ingots.length + wtStr a1.ingots)) ≤ 1048576
  case neg =>
    have e0 : Hid (szR z0 (a1.id.size + (a1.ingots.length + wtStr a1.ingots)) = -1) := (if_neg (by have := Hy0.out; omega) : szR z0 (a1.id.size + (a1.ingots.length + wtStr a1.ingots)) = -1)
    go_enter Try.func3, Try.ntmps3
    go_wp2_with fail
    refine (szIngotS _ _ x0 1048576 (by exact H0.out.up (by (repeat' (first | (with_reducible exact Below.refl _ _) | (with_reducible assumption) | (with_reducible refine below_dn ?_ _) | (with_reducible refine Below.drew ?_) | (with_reducible refine Below.alloc ?_ ?_ _) | (with_reducible refine Below.setCell ?_ ?_ _) | go_size)))) hm0 (fun x hx => (Hok0.out x hx).1) (by omega) (by omega)).mono ?_; rw [Hz0.out]; rintro e w1 ⟨rfl, b1⟩
    have B1 : Below w.heap.size w w1 := Below.trans (by (repeat' (first | (with_reducible exact Below.refl _ _) | (with_reducible assumption) | (with_reducible refine below_dn ?_ _) | (with_reducible refine Below.drew ?_) | (with_reducible refine Below.alloc ?_ ?_ _) | (with_reducible refine Below.setCell ?_ ?_ _) | go_size))) (b1.mono (by simp <;> omega))
    have VaX : Hid (Own w1 (w.heap.size) 25 [.string a1.id, a1.list, .int .i64 a1.mass]) := Lib.hid ((Own.newAt 25 [.string a1.id, a1.list, .int .i64 a1.mass] (by simp)).below b1 (by simp <;> omega))
    clear b1
    have naX0 : w1.cell? ⟨w.heap.size, 0, none⟩ = some (.string a1.id) := VaX.out.cell 0
    have naX1 : w1.cell? ⟨w.heap.size, 1, none⟩ = some (a1.list) := VaX.out.cell 1
    have naX2 : w1.cell? ⟨w.heap.size, 2, none⟩ = some (.int .i64 a1.mass) := VaX.out.cell 2
    have laX : w.heap.size < w1.heap.size := VaX.out.lt
    go_wp2_with fail
    refine (szMelt a1 z0 _ (by exact Hk1.out.up B1) (by omega) (by omega)).mono ?_; rw [e0.out]; rintro e w2 ⟨rfl, b2⟩
    clear naX0 naX1 naX2 laX
    have B2 := bnext B1 b2
    have VaX' := Lib.hid (VaX.out.below b2 VaX.out.lt); clear VaX; have VaX := VaX'; clear VaX'
    clear B1
    clear b2
    go_wp2_with fail
    go_ret
    exact ⟨rfl, B2⟩
  obtain ⟨z1, hz1, hy1, hy1_⟩ : ∃ z : Int, szR z0 (a1.id.size + (a1.ingots.length + wtStr a1.ingots)) = z ∧ (0 ≤ z ∧ z ≤ 1048576) ∧ z = z0 - (((a1.id.size + (a1.ingots.length + wtStr a1.ingots)) : Nat) : Int) := ⟨_, rfl, by have := Hy0.out; unfold szR; rw [if_pos (by omega)]; omega, by have := Hy0.out; unfold szR; rw [if_pos (by omega)]⟩
  have Hy1 := Lib.hid hy1_; clear hy1_
  have Hz1 := Lib.hid hz1; clear hz1
  have hn1 : a1.ingots.length ≤ 1048576 := by omega
  have Hf1 : Hid (Melt.fine a1) := ⟨Hk1.out.1, Hk1.out.2.1.2.2, Hk1.out.2.2, hn1⟩
  go_enter Try.func3, Try.ntmps3
  go_wp2_with fail
  refine (szIngotS _ _ x0 1048576 (by exact H0.out.up (by (repeat' (first | (with_reducible exact Below.refl _ _) | (with_reducible assumption) | (with_reducible refine below_dn ?_ _) | (with_reducible refine Below.drew ?_) | (with_reducible refine Below.alloc ?_ ?_ _) | (with_reducible refine Below.setCell ?_ ?_ _) | go_size)))) hm0 (fun x hx => (Hok0.out x hx).1) (by omega) (by omega)).mono ?_; rw [Hz0.out]; rintro e w1 ⟨rfl, b1⟩
  have B1 : Below w.heap.size w w1 := Below.trans (by (repeat' (first | (with_reducible exact Below.refl _ _) | (with_reducible assumption) | (with_reducible refine below_dn ?_ _) | (with_reducible refine Below.drew ?_) | (with_reducible refine Below.alloc ?_ ?_ _) | (with_reducible refine Below.setCell ?_ ?_ _) | go_size))) (b1.mono (by simp <;> omega))
  have VaX : Hid (Own w1 (w.heap.size) 25 [.string a1.id, a1.list, .int .i64 a1.mass]) := Lib.hid ((Own.newAt 25 [.string a1.id, a1.list, .int .i64 a1.mass] (by simp)).below b1 (by simp <;> omega))
  clear b1
  have naX0 : w1.cell? ⟨w.heap.size, 0, none⟩ = some (.string a1.id) := VaX.out.cell 0
  have naX1 : w1.cell? ⟨w.heap.size, 1, none⟩ = some (a1.list) := VaX.out.cell 1
  have naX2 : w1.cell? ⟨w.heap.size, 2, none⟩ = some (.int .i64 a1.mass) := VaX.out.cell 2
  have laX : w.heap.size < w1.heap.size := VaX.out.lt
  go_wp2_with fail
  refine (szMelt a1 z0 _ (by exact Hk1.out.up B1) (by omega) (by omega)).mono ?_; rw [Hz1.out]; rintro e w2 ⟨rfl, b2⟩
  clear naX0 naX1 naX2 laX
  have B2 := bnext B1 b2
  have VaX' := Lib.hid (VaX.out.below b2 VaX.out.lt); clear VaX; have VaX := VaX'; clear VaX'
  clear B1
  clear b2
  clear Hz0 Hz1 hq0 Hy0 hq1 Hy1
  have naX0 : w2.cell? ⟨w.heap.size, 0, none⟩ = some (.string a1.id) := VaX.out.cell 0
  have naX1 : w2.cell? ⟨w.heap.size, 1, none⟩ = some (a1.list) := VaX.out.cell 1
  have naX2 : w2.cell? ⟨w.heap.size, 2, none⟩ = some (.int .i64 a1.mass) := VaX.out.cell 2
  have laX : w.heap.size < w2.heap.size := VaX.out.lt
  go_wp2_with fail
  have szB := B2.size
  have szLaX := VaX.out.lt
  go_region_held3 (fun w' => w'.cell? ⟨w.heap.size, 0, none⟩ = some (.string a1.id) ∧ w'.cell? ⟨w.heap.size, 1, none⟩ = some (a1.list) ∧ w'.cell? ⟨w.heap.size, 2, none⟩ = some (.int .i64 a1.mass)) (first | assumption | go_keep | exact ⟨(((VaX.out.other (by simp; omega) _).other (by simp; omega) _).other (by simp; omega) _).cell 0, (((VaX.out.other (by simp; omega) _).other (by simp; omega) _).other (by simp; omega) _).cell 1, (((VaX.out.other (by simp; omega) _).other (by simp; omega) _).other (by simp; omega) _).cell 2⟩) (first
    | (go_at_call 14
       refine (toIngotS _ _ x0 (by exact H0.out.up (B2.trans ((by (repeat' (first | (with_reducible exact Below.refl _ _) | (with_reducible assumption) | (with_reducible refine below_dn ?_ _) | (with_reducible refine Below.drew ?_) | (with_reducible refine Below.alloc ?_ ?_ _) | (with_reducible refine Below.setCell ?_ ?_ _) | go_size)) : Below w2.heap.size w2 _).mono B2.size))) hn0).mono ?_; rintro e w3 ⟨g3, rfl, hg3, o3, b3⟩
       have b3' : Below w2.heap.size w2 w3 := Below.trans (by (repeat' (first | (with_reducible exact Below.refl _ _) | (with_reducible assumption) | (with_reducible refine below_dn ?_ _) | (with_reducible refine Below.drew ?_) | (with_reducible refine Below.alloc ?_ ?_ _) | (with_reducible refine Below.setCell ?_ ?_ _) | go_size))) (b3.mono (by simp <;> omega))
       first | (have Vw0 := Lib.hid ((Own.newAt 29 [.int .i64 0, .int .i64 0, .int .i64 0] (by simp) : Own _ w2.heap.size _ _).below b3 (by simp <;> omega))) | (have Vw0 := Lib.hid ((Own.drew1 (Own.newAt 29 [.int .i64 0, .int .i64 0, .int .i64 0] (by simp) : Own _ w2.heap.size _ _)).below b3 (by simp <;> omega))) | (have Vw0x := Lib.hid (Vw0.out.below b3' Vw0.out.lt); clear Vw0; have Vw0 := Vw0x; clear Vw0x) | skip
       clear b3
       have b3 := b3'; clear b3'
       have B3 := bnext B2 b3
       have sz3 : w2.heap.size ≤ w3.heap.size := b3.size
       have VaX' := Lib.hid (VaX.out.below b3 VaX.out.lt); clear VaX; have VaX := VaX'; clear VaX'
       clear B2
       have O3 := Lib.hid o3; clear o3 hg3
       clear b3
       have HS3 : w3.cell? ⟨w.heap.size, 0, none⟩ = some (.string a1.id) ∧ w3.cell? ⟨w.heap.size, 1, none⟩ = some (a1.list) ∧ w3.cell? ⟨w.heap.size, 2, none⟩ = some (.int .i64 a1.mass) := ⟨VaX.out.cell 0, VaX.out.cell 1, VaX.out.cell 2⟩)
    | (go_at_call 15
       refine (toMelt a1 _ (by exact Hk1.out.2.1.1.up (B3.trans ((by (repeat' (first | (with_reducible exact Below.refl _ _) | (with_reducible assumption) | (with_reducible refine below_dn ?_ _) | (with_reducible refine Below.drew ?_) | (with_reducible refine Below.alloc ?_ ?_ _) | (with_reducible refine Below.setCell ?_ ?_ _) | go_size)) : Below w3.heap.size w3 _).mono B3.size))) hn1).mono ?_; rintro e w4 ⟨g4, rfl, hg4, o4, b4⟩
       have b4' : Below w3.heap.size w3 w4 := Below.trans (by (repeat' (first | (with_reducible exact Below.refl _ _) | (with_reducible assumption) | (with_reducible refine below_dn ?_ _) | (with_reducible refine Below.drew ?_) | (with_reducible refine Below.alloc ?_ ?_ _) | (with_reducible refine Below.setCell ?_ ?_ _) | go_size))) (b4.mono (by simp <;> omega))
       first | (have Vw0 := Lib.hid ((Own.newAt 29 [.int .i64 0, .int .i64 0, .int .i64 0] (by simp) : Own _ w3.heap.size _ _).below b4 (by simp <;> omega))) | (have Vw0 := Lib.hid ((Own.drew1 (Own.newAt 29 [.int .i64 0, .int .i64 0, .int .i64 0] (by simp) : Own _ w3.heap.size _ _)).below b4 (by simp <;> omega))) | (have Vw0x := Lib.hid (Vw0.out.below b4' Vw0.out.lt); clear Vw0; have Vw0 := Vw0x; clear Vw0x) | skip
       clear b4
       have b4 := b4'; clear b4'
       have B4 := bnext B3 b4
       have sz4 : w3.heap.size ≤ w4.heap.size := b4.size
       have VaX' := Lib.hid (VaX.out.below b4 VaX.out.lt); clear VaX; have VaX := VaX'; clear VaX'
       have O3' := Lib.hid (O3.out.below b4 O3.out.lt); clear O3; have O3 := O3'; clear O3'
       clear B3
       have O4 := Lib.hid o4; clear o4 hg4
       clear b4
       have HS4 : w4.cell? ⟨w.heap.size, 0, none⟩ = some (.string a1.id) ∧ w4.cell? ⟨w.heap.size, 1, none⟩ = some (a1.list) ∧ w4.cell? ⟨w.heap.size, 2, none⟩ = some (.int .i64 a1.mass) := ⟨VaX.out.cell 0, VaX.out.cell 1, VaX.out.cell 2⟩)
    | (go_at_call 13
       refine (spec_AlloyOfMelt _ _ x0 a1 _ _ (by exact (O3.out.rd O3.out.lt (Ingot_len x0) (by unfold maxLen; omega) _ (Nat.le_refl _) (by unfold maxLen; omega)).up (by (repeat' (first | (with_reducible exact Below.refl _ _) | (with_reducible assumption) | (with_reducible refine below_dn ?_ _) | (with_reducible refine Below.drew ?_) | (with_reducible refine Below.alloc ?_ ?_ _) | (with_reducible refine Below.setCell ?_ ?_ _) | go_size)))) hn0 Hok0.out (by exact (O4.out.rd O4.out.lt (putStr_len _) (by unfold maxLen; omega) _ (Nat.le_refl _) (by unfold maxLen; omega)).up (by (repeat' (first | (with_reducible exact Below.refl _ _) | (with_reducible assumption) | (with_reducible refine below_dn ?_ _) | (with_reducible refine Below.drew ?_) | (with_reducible refine Below.alloc ?_ ?_ _) | (with_reducible refine Below.setCell ?_ ?_ _) | go_size)))) Hf1.out).mono ?_; rintro e w5 ⟨rfl, b5⟩
       have b5' : Below w4.heap.size w4 w5 := Below.trans (by (repeat' (first | (with_reducible exact Below.refl _ _) | (with_reducible assumption) | (with_reducible refine below_dn ?_ _) | (with_reducible refine Below.drew ?_) | (with_reducible refine Below.alloc ?_ ?_ _) | (with_reducible refine Below.setCell ?_ ?_ _) | go_size))) (b5.mono (by simp <;> omega))
       first | (have Vw0 := Lib.hid ((Own.newAt 29 [.int .i64 0, .int .i64 0, .int .i64 0] (by simp) : Own _ w4.heap.size _ _).below b5 (by simp <;> omega))) | (have Vw0 := Lib.hid ((Own.drew1 (Own.newAt 29 [.int .i64 0, .int .i64 0, .int .i64 0] (by simp) : Own _ w4.heap.size _ _)).below b5 (by simp <;> omega))) | (have Vw0x := Lib.hid (Vw0.out.below b5' Vw0.out.lt); clear Vw0; have Vw0 := Vw0x; clear Vw0x) | skip
       clear b5
       have b5 := b5'; clear b5'
       have B5 := bnext B4 b5
       have sz5 : w4.heap.size ≤ w5.heap.size := b5.size
       have VaX' := Lib.hid (VaX.out.below b5 VaX.out.lt); clear VaX; have VaX := VaX'; clear VaX'
       have O3' := Lib.hid (O3.out.below b5 O3.out.lt); clear O3; have O3 := O3'; clear O3'
       have O4' := Lib.hid (O4.out.below b5 O4.out.lt); clear O4; have O4 := O4'; clear O4'
       clear B4
       clear b5
       first | (have vz0 : (_ : Option Value) = some (.int .i64 0) := Vw0.out.cell 0; have vf0 := Vw0.out.free 0; have vz1 : (_ : Option Value) = some (.int .i64 0) := Vw0.out.cell 1; have vf1 := Vw0.out.free 1; have vz2 : (_ : Option Value) = some (.int .i64 0) := Vw0.out.cell 2; have vf2 := Vw0.out.free 2; have vl := Vw0.out.lt) | skip
       have HS5 : w5.cell? ⟨w.heap.size, 0, none⟩ = some (.string a1.id) ∧ w5.cell? ⟨w.heap.size, 1, none⟩ = some (a1.list) ∧ w5.cell? ⟨w.heap.size, 2, none⟩ = some (.int .i64 a1.mass) := ⟨VaX.out.cell 0, VaX.out.cell 1, VaX.out.cell 2⟩))
  all_goals
    clear naX0 naX1 naX2 laX HS5
    clear O3 O4
    go_wp2_with fail
    refine (toIngotS _ _ x0 (by exact H0.out.up (by first | exact B5.alloc B5.size _ | exact (Below.setCell (Below.setCell (Below.setCell B5 (by simp <;> omega) _) (by simp <;> omega) _) (by simp <;> omega) _))) hn0).mono ?_; rintro e w6 ⟨g6, rfl, hg6, o6, b6⟩
    have B6 : Below w.heap.size w w6 := (fun (BW : Below w.heap.size w _) => BW.trans (b6.mono BW.size)) (by first | exact B5.alloc B5.size _ | exact (Below.setCell (Below.setCell (Below.setCell B5 (by simp <;> omega) _) (by simp <;> omega) _) (by simp <;> omega) _))
    have VaX' := Lib.hid (own_belowW (by first | exact VaX.out.alloc _ | exact (((VaX.out.other (by simp; omega) _).other (by simp; omega) _).other (by simp; omega) _) : Own _ _ _ _) b6); clear VaX; have VaX := VaX'; clear VaX'
    first | have Vw0 := Lib.hid (own_belowW (Own.newAt 29 [.int .i64 (alloyOfS x0 a1).1.copper, .int .i64 (alloyOfS x0 a1).1.tin, .int .i64 (alloyOfS x0 a1).1.other] (by simp) : Own _ w5.heap.size _ _) b6) | (have Vw0x := Lib.hid (own_belowW ((((Vw0.out.set 0 (.int .i64 (alloyOfS x0 a1).1.copper)).set 1 (.int .i64 (alloyOfS x0 a1).1.tin)).set 2 (.int .i64 (alloyOfS x0 a1).1.other)) : Own _ _ _ [.int .i64 (alloyOfS x0 a1).1.copper, .int .i64 (alloyOfS x0 a1).1.tin, .int .i64 (alloyOfS x0 a1).1.other]) b6); clear Vw0; have Vw0 := Vw0x; clear Vw0x)
    clear B5
    have O6 := Lib.hid o6; clear o6 hg6
    clear b6
    have naX0 : w6.cell? ⟨w.heap.size, 0, none⟩ = some (.string a1.id) := VaX.out.cell 0
    have naX1 : w6.cell? ⟨w.heap.size, 1, none⟩ = some (a1.list) := VaX.out.cell 1
    have naX2 : w6.cell? ⟨w.heap.size, 2, none⟩ = some (.int .i64 a1.mass) := VaX.out.cell 2
    have laX : w.heap.size < w6.heap.size := VaX.out.lt
    go_wp2_with fail
    refine (toMelt a1 _ (by exact Hk1.out.2.1.1.up B6) hn1).mono ?_; rintro e w7 ⟨g7, rfl, hg7, o7, b7⟩
    clear naX0 naX1 naX2 laX
    have B7 := bnext B6 b7
    have VaX' := Lib.hid (VaX.out.below b7 VaX.out.lt); clear VaX; have VaX := VaX'; clear VaX'
    have Vw0' := Lib.hid (Vw0.out.below b7 Vw0.out.lt); clear Vw0; have Vw0 := Vw0'; clear Vw0'
    have O6' := Lib.hid (O6.out.below b7 O6.out.lt); clear O6; have O6 := O6'; clear O6'
    clear B6
    have O7 := Lib.hid o7; clear o7 hg7
    clear b7
    go_wp2_with fail
    refine (impl_AlloyOfMelt _ _ x0 a1 _ _ (by exact (O6.out.rd O6.out.lt (Ingot_len x0) (by unfold maxLen; omega) _ (Nat.le_refl _) (by unfold maxLen; omega)).up (by (repeat' (first | (with_reducible exact Below.refl _ _) | (with_reducible assumption) | (with_reducible refine below_dn ?_ _) | (with_reducible refine Below.drew ?_) | (with_reducible refine Below.alloc ?_ ?_ _) | (with_reducible refine Below.setCell ?_ ?_ _) | go_size)))) hn0 Hok0.out (by exact (O7.out.rd O7.out.lt (putStr_len _) (by unfold maxLen; omega) _ (Nat.le_refl _) (by unfold maxLen; omega)).up (by (repeat' (first | (with_reducible exact Below.refl _ _) | (with_reducible assumption) | (with_reducible refine below_dn ?_ _) | (with_reducible refine Below.drew ?_) | (with_reducible refine Below.alloc ?_ ?_ _) | (with_reducible refine Below.setCell ?_ ?_ _) | go_size)))) Hf1.out).mono ?_; rintro e w8 ⟨rfl, b8⟩
    have Vx1 : Hid (Own w8 (w7.heap.size) 34 [.string a1.id, .slice (some ⟨g7, 0, none⟩) a1.ingots.length a1.ingots.length, .int .i64 a1.mass]) := Lib.hid ((Own.newAt 34 [.string a1.id, .slice (some ⟨g7, 0, none⟩) a1.ingots.length a1.ingots.length, .int .i64 a1.mass] (by simp)).below b8 (by simp <;> omega))
    have b8' : Below w7.heap.size w7 w8 := Below.trans (by (repeat' (first | (with_reducible exact Below.refl _ _) | (with_reducible assumption) | (with_reducible refine below_dn ?_ _) | (with_reducible refine Below.drew ?_) | (with_reducible refine Below.alloc ?_ ?_ _) | (with_reducible refine Below.setCell ?_ ?_ _) | go_size))) (b8.mono (by simp <;> omega))
    clear b8
    have b8 := b8'; clear b8'
    have B8 := bnext B7 b8
    have VaX' := Lib.hid (VaX.out.below b8 VaX.out.lt); clear VaX; have VaX := VaX'; clear VaX'
    have Vw0' := Lib.hid (Vw0.out.below b8 Vw0.out.lt); clear Vw0; have Vw0 := Vw0'; clear Vw0'
    have O6' := Lib.hid (O6.out.below b8 O6.out.lt); clear O6; have O6 := O6'; clear O6'
    have O7' := Lib.hid (O7.out.below b8 O7.out.lt); clear O7; have O7 := O7'; clear O7'
    clear B7
    clear b8
    have nw00 : (_ : Option Value) = some (.int .i64 (alloyOfS x0 a1).1.copper) := Vw0.out.cell 0
    have nw01 : (_ : Option Value) = some (.int .i64 (alloyOfS x0 a1).1.tin) := Vw0.out.cell 1
    have nw02 : (_ : Option Value) = some (.int .i64 (alloyOfS x0 a1).1.other) := Vw0.out.cell 2
    have lw0 := Vw0.out.lt
    go_wp2_with fail
    refine (eqAlloy (alloyOfS x0 a1).1 _).mono ?_; rintro e w9 ⟨rfl, b9⟩
    clear nw00 nw01 nw02 lw0
    have Vg0 : Hid (Own w9 (w8.heap.size) 29 [.int .i64 (alloyOfS x0 a1).1.copper, .int .i64 (alloyOfS x0 a1).1.tin, .int .i64 (alloyOfS x0 a1).1.other]) := Lib.hid ((Own.newAt 29 [.int .i64 (alloyOfS x0 a1).1.copper, .int .i64 (alloyOfS x0 a1).1.tin, .int .i64 (alloyOfS x0 a1).1.other] (by simp)).below b9 (by simp <;> omega))
    have b9' : Below w8.heap.size w8 w9 := Below.trans (by (repeat' (first | (with_reducible exact Below.refl _ _) | (with_reducible assumption) | (with_reducible refine below_dn ?_ _) | (with_reducible refine Below.drew ?_) | (with_reducible refine Below.alloc ?_ ?_ _) | (with_reducible refine Below.setCell ?_ ?_ _) | go_size))) (b9.mono (by simp <;> omega))
    clear b9
    have b9 := b9'; clear b9'
    have B9 := bnext B8 b9
    have VaX' := Lib.hid (VaX.out.below b9 VaX.out.lt); clear VaX; have VaX := VaX'; clear VaX'
    have Vw0' := Lib.hid (Vw0.out.below b9 Vw0.out.lt); clear Vw0; have Vw0 := Vw0'; clear Vw0'
    have O6' := Lib.hid (O6.out.below b9 O6.out.lt); clear O6; have O6 := O6'; clear O6'
    have O7' := Lib.hid (O7.out.below b9 O7.out.lt); clear O7; have O7 := O7'; clear O7'
    have Vx1' := Lib.hid (Vx1.out.below b9 Vx1.out.lt); clear Vx1; have Vx1 := Vx1'; clear Vx1'
    clear B8
    clear b9
    go_wp2_with fail
    refine (toIngotS _ _ x0 (by exact H0.out.up B9) hn0).mono ?_; rintro e w10 ⟨g10, rfl, hg10, o10, b10⟩
    have B10 := bnext B9 b10
    have VaX' := Lib.hid (VaX.out.below b10 VaX.out.lt); clear VaX; have VaX := VaX'; clear VaX'
    have Vw0' := Lib.hid (Vw0.out.below b10 Vw0.out.lt); clear Vw0; have Vw0 := Vw0'; clear Vw0'
    have O6' := Lib.hid (O6.out.below b10 O6.out.lt); clear O6; have O6 := O6'; clear O6'
    have O7' := Lib.hid (O7.out.below b10 O7.out.lt); clear O7; have O7 := O7'; clear O7'
    have Vx1' := Lib.hid (Vx1.out.below b10 Vx1.out.lt); clear Vx1; have Vx1 := Vx1'; clear Vx1'
    have Vg0' := Lib.hid (Vg0.out.below b10 Vg0.out.lt); clear Vg0; have Vg0 := Vg0'; clear Vg0'
    clear B9
    have O10 := Lib.hid o10; clear o10 hg10
    clear b10
    go_wp2_with fail
    refine (eqIngotS _ _ _ x0 (O6.out.rd O6.out.lt (Ingot_len x0) (by unfold maxLen; omega) _ (Nat.le_refl _) (by unfold maxLen; omega)) (O10.out.rd O10.out.lt (Ingot_len x0) (by unfold maxLen; omega) _ (Nat.le_refl _) (by unfold maxLen; omega)) hn0).mono ?_; rintro e w11 ⟨rfl, b11⟩
    have B11 := bnext B10 b11
    have VaX' := Lib.hid (VaX.out.below b11 VaX.out.lt); clear VaX; have VaX := VaX'; clear VaX'
    have Vw0' := Lib.hid (Vw0.out.below b11 Vw0.out.lt); clear Vw0; have Vw0 := Vw0'; clear Vw0'
    have O6' := Lib.hid (O6.out.below b11 O6.out.lt); clear O6; have O6 := O6'; clear O6'
    have O7' := Lib.hid (O7.out.below b11 O7.out.lt); clear O7; have O7 := O7'; clear O7'
    have Vx1' := Lib.hid (Vx1.out.below b11 Vx1.out.lt); clear Vx1; have Vx1 := Vx1'; clear Vx1'
    have Vg0' := Lib.hid (Vg0.out.below b11 Vg0.out.lt); clear Vg0; have Vg0 := Vg0'; clear Vg0'
    have O10' := Lib.hid (O10.out.below b11 O10.out.lt); clear O10; have O10 := O10'; clear O10'
    clear B10
    clear b11
    clear O6 O10
    have nx10 : w11.cell? ⟨w7.heap.size, 0, none⟩ = some (.string a1.id) := Vx1.out.cell 0
    have nx11 : w11.cell? ⟨w7.heap.size, 1, none⟩ = some (.slice (some ⟨g7, 0, none⟩) a1.ingots.length a1.ingots.length) := Vx1.out.cell 1
    have nx12 : w11.cell? ⟨w7.heap.size, 2, none⟩ = some (.int .i64 a1.mass) := Vx1.out.cell 2
    have lx1 : w7.heap.size < w11.heap.size := Vx1.out.lt
    have naX0 : w11.cell? ⟨w.heap.size, 0, none⟩ = some (.string a1.id) := VaX.out.cell 0
    have naX1 : w11.cell? ⟨w.heap.size, 1, none⟩ = some (a1.list) := VaX.out.cell 1
    have naX2 : w11.cell? ⟨w.heap.size, 2, none⟩ = some (.int .i64 a1.mass) := VaX.out.cell 2
    have laX : w.heap.size < w11.heap.size := VaX.out.lt
    go_wp2_with fail
    go_region_held3 (fun w' => w'.cell? ⟨w7.heap.size, 0, none⟩ = some (.string a1.id) ∧ w'.cell? ⟨w7.heap.size, 1, none⟩ = some (.slice (some ⟨g7, 0, none⟩) a1.ingots.length a1.ingots.length) ∧ w'.cell? ⟨w7.heap.size, 2, none⟩ = some (.int .i64 a1.mass) ∧ w'.cell? ⟨w.heap.size, 0, none⟩ = some (.string a1.id) ∧ w'.cell? ⟨w.heap.size, 1, none⟩ = some (a1.list) ∧ w'.cell? ⟨w.heap.size, 2, none⟩ = some (.int .i64 a1.mass)) (first | assumption | go_keep) (first
      | (go_at_call 15
         refine (toMelt a1 _ (by exact Hk1.out.2.1.1.up (B11.drew)) hn1).mono ?_; rintro e w12 ⟨g12, rfl, hg12, o12, b12⟩
         have b12' : Below w11.heap.size w11 w12 := Below.trans (by (repeat' (first | (with_reducible exact Below.refl _ _) | (with_reducible assumption) | (with_reducible refine below_dn ?_ _) | (with_reducible refine Below.drew ?_) | (with_reducible refine Below.alloc ?_ ?_ _) | (with_reducible refine Below.setCell ?_ ?_ _) | go_size))) (b12.mono (by simp <;> omega))
         clear b12
         have b12 := b12'; clear b12'
         have B12 := bnext B11 b12
         have VaX' := Lib.hid (VaX.out.below b12 VaX.out.lt); clear VaX; have VaX := VaX'; clear VaX'
         have Vw0' := Lib.hid (Vw0.out.below b12 Vw0.out.lt); clear Vw0; have Vw0 := Vw0'; clear Vw0'
         have O7' := Lib.hid (O7.out.below b12 O7.out.lt); clear O7; have O7 := O7'; clear O7'
         have Vx1' := Lib.hid (Vx1.out.below b12 Vx1.out.lt); clear Vx1; have Vx1 := Vx1'; clear Vx1'
         have Vg0' := Lib.hid (Vg0.out.below b12 Vg0.out.lt); clear Vg0; have Vg0 := Vg0'; clear Vg0'
         clear B11
         have O12 := Lib.hid o12; clear o12 hg12
         clear b12
         have HS12 : w12.cell? ⟨w7.heap.size, 0, none⟩ = some (.string a1.id) ∧ w12.cell? ⟨w7.heap.size, 1, none⟩ = some (.slice (some ⟨g7, 0, none⟩) a1.ingots.length a1.ingots.length) ∧ w12.cell? ⟨w7.heap.size, 2, none⟩ = some (.int .i64 a1.mass) ∧ w12.cell? ⟨w.heap.size, 0, none⟩ = some (.string a1.id) ∧ w12.cell? ⟨w.heap.size, 1, none⟩ = some (a1.list) ∧ w12.cell? ⟨w.heap.size, 2, none⟩ = some (.int .i64 a1.mass) := ⟨Vx1.out.cell 0, Vx1.out.cell 1, Vx1.out.cell 2, VaX.out.cell 0, VaX.out.cell 1, VaX.out.cell 2⟩)
      | (go_at_call 19
         refine (eqMelt a1 _ _ _ (O7.out.rd O7.out.lt (putStr_len _) (by unfold maxLen; omega) _ (Nat.le_refl _) (by unfold maxLen; omega)) (O12.out.rd O12.out.lt (putStr_len _) (by unfold maxLen; omega) _ (Nat.le_refl _) (by unfold maxLen; omega)) hn1).mono ?_; rintro e w13 ⟨rfl, b13⟩
         have B13 := bnext B12 b13
         have VaX' := Lib.hid (VaX.out.below b13 VaX.out.lt); clear VaX; have VaX := VaX'; clear VaX'
         have Vw0' := Lib.hid (Vw0.out.below b13 Vw0.out.lt); clear Vw0; have Vw0 := Vw0'; clear Vw0'
         have O7' := Lib.hid (O7.out.below b13 O7.out.lt); clear O7; have O7 := O7'; clear O7'
         have Vx1' := Lib.hid (Vx1.out.below b13 Vx1.out.lt); clear Vx1; have Vx1 := Vx1'; clear Vx1'
         have Vg0' := Lib.hid (Vg0.out.below b13 Vg0.out.lt); clear Vg0; have Vg0 := Vg0'; clear Vg0'
         have O12' := Lib.hid (O12.out.below b13 O12.out.lt); clear O12; have O12 := O12'; clear O12'
         clear B12
         clear b13
         have HS13 : w13.cell? ⟨w7.heap.size, 0, none⟩ = some (.string a1.id) ∧ w13.cell? ⟨w7.heap.size, 1, none⟩ = some (.slice (some ⟨g7, 0, none⟩) a1.ingots.length a1.ingots.length) ∧ w13.cell? ⟨w7.heap.size, 2, none⟩ = some (.int .i64 a1.mass) ∧ w13.cell? ⟨w.heap.size, 0, none⟩ = some (.string a1.id) ∧ w13.cell? ⟨w.heap.size, 1, none⟩ = some (a1.list) ∧ w13.cell? ⟨w.heap.size, 2, none⟩ = some (.int .i64 a1.mass) := ⟨Vx1.out.cell 0, Vx1.out.cell 1, Vx1.out.cell 2, VaX.out.cell 0, VaX.out.cell 1, VaX.out.cell 2⟩))
    clear nx10 nx11 nx12 lx1 naX0 naX1 naX2 laX HS13
    clear O7 O12
    go_wp2_with fail
    all_goals go_ret
    all_goals exact ⟨rfl, B13⟩
end Go.Proofs.Ytdliabgdgjboiaa
