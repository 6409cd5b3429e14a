/- FnExactMeltText: the law. -/
import Derived.Test.YtmkemjfbmnnflaaDoorRows
import Derived.Test.YtmkemjfbmnnflaaDoorLaw
import Derived.Test.YtmkemjfbmnnflaaDoorMeltTx
import Derived.Test.YtmkemjfbmnnflaaDoorDecLaid
import Derived.Test.YtmkemjfbmnnflaaDoorHMelts
import Derived.Deep.RegionHeld3
namespace Go.Proofs.YtmkemjfbmnnflaaDoor
open Go.ChangeShapes Go.WideShapes Go.ChangeAt Go.RowKit Go.Deep Go.Joins
set_option linter.unusedVariables false
set_option maxRecDepth 100000
set_option linter.unusedSimpArgs false
set_option maxHeartbeats 1000000 in
theorem FnExactMeltText_walk (w : World) (a0 : Melt) (k0 : a0.ok w) (hL : laidMetH Tryd.prog Rows.fnExactMeltTextRow.laid w) (hS : w.ShapedOpen Tryd.prog) :
    Calls Tryd.prog 5 #[.agg #[.string a0.id, a0.list, .int .i64 a0.mass]] w fun e w' => e = .returned (.bool true) ∧ Below w.heap.size w w' := by
  have Hk0 := Lib.hid k0; clear k0
  have hL1 : laidMet Tryd.prog Rows.fnExactMeltTextRow.laid w := hL
  have HP10 : Hid (Pow10 w) := Lib.hid (pow10_of (rest := []) (laid_tail (laid_tail hL1)))
  clear hL hL1 hS
  by_cases hq0 : (a0.id.size + (a0.ingots.length + wtStr a0.ingots)) ≤ 1048576
  case neg =>
    have e0 : Hid (szR 1048576 (a0.id.size + (a0.ingots.length + wtStr a0.ingots)) = -1) := (if_neg (by omega) : szR 1048576 (a0.id.size + (a0.ingots.length + wtStr a0.ingots)) = -1)
    go_enter Tryd.func5, Tryd.ntmps5
    go_wp2_with fail
    refine (szMelt a0 1048576 _ (by exact Hk0.out.up (by (repeat' (first | (with_reducible exact Below.refl _ _) | (with_reducible assumption) | (with_reducible refine below_dn ?_ _) | (with_reducible refine Below.drew ?_) | (with_reducible refine Below.alloc ?_ ?_ _) | (with_reducible refine Below.setCell ?_ ?_ _) | go_size)))) (by omega) (by omega)).mono ?_; rw [e0.out]; rintro e w1 ⟨rfl, b1⟩
    have B1 : Below w.heap.size w w1 := Below.trans (by (repeat' (first | (with_reducible exact Below.refl _ _) | (with_reducible assumption) | (with_reducible refine below_dn ?_ _) | (with_reducible refine Below.drew ?_) | (with_reducible refine Below.alloc ?_ ?_ _) | (with_reducible refine Below.setCell ?_ ?_ _) | go_size))) (b1.mono (by simp <;> omega))
    have VaX : Hid (Own w1 (w.heap.size) 42 [.string a0.id, a0.list, .int .i64 a0.mass]) := Lib.hid ((Own.newAt 42 [.string a0.id, a0.list, .int .i64 a0.mass] (by simp)).below b1 (by simp <;> omega))
    clear b1
    go_wp2_with fail
    go_ret
    exact ⟨rfl, B1⟩
  obtain ⟨z0, hz0, hy0, hy0_⟩ : ∃ z : Int, szR 1048576 (a0.id.size + (a0.ingots.length + wtStr a0.ingots)) = z ∧ (0 ≤ z ∧ z ≤ 1048576) ∧ z = 1048576 - (((a0.id.size + (a0.ingots.length + wtStr a0.ingots)) : Nat) : Int) := ⟨_, rfl, by unfold szR; rw [if_pos (by omega)]; omega, by unfold szR; rw [if_pos (by omega)]⟩
  have Hy0 := Lib.hid hy0_; clear hy0_
  have Hz0 := Lib.hid hz0; clear hz0
  have hn0 : a0.ingots.length ≤ 1048576 := by omega
  have sm1 := same_nt (meltT a0)
  have sm2 := same_t (meltT a0)
  go_enter Tryd.func5, Tryd.ntmps5
  go_wp2_with fail
  refine (szMelt a0 1048576 _ (by exact Hk0.out.up (by (repeat' (first | (with_reducible exact Below.refl _ _) | (with_reducible assumption) | (with_reducible refine below_dn ?_ _) | (with_reducible refine Below.drew ?_) | (with_reducible refine Below.alloc ?_ ?_ _) | (with_reducible refine Below.setCell ?_ ?_ _) | go_size)))) (by omega) (by omega)).mono ?_; rw [Hz0.out]; rintro e w1 ⟨rfl, b1⟩
  have B1 : Below w.heap.size w w1 := Below.trans (by (repeat' (first | (with_reducible exact Below.refl _ _) | (with_reducible assumption) | (with_reducible refine below_dn ?_ _) | (with_reducible refine Below.drew ?_) | (with_reducible refine Below.alloc ?_ ?_ _) | (with_reducible refine Below.setCell ?_ ?_ _) | go_size))) (b1.mono (by simp <;> omega))
  have VaX : Hid (Own w1 (w.heap.size) 42 [.string a0.id, a0.list, .int .i64 a0.mass]) := Lib.hid ((Own.newAt 42 [.string a0.id, a0.list, .int .i64 a0.mass] (by simp)).below b1 (by simp <;> omega))
  clear b1
  clear Hz0 hq0 Hy0
  have naX0 : w1.cell? ⟨w.heap.size, 0, none⟩ = some (.string a0.id) := VaX.out.cell 0
  have naX1 : w1.cell? ⟨w.heap.size, 1, none⟩ = some (a0.list) := VaX.out.cell 1
  have naX2 : w1.cell? ⟨w.heap.size, 2, none⟩ = some (.int .i64 a0.mass) := VaX.out.cell 2
  have laX : w.heap.size < w1.heap.size := VaX.out.lt
  go_wp2_with fail
  refine (toMelt a0 _ (by exact Hk0.out.2.1.1.up B1) hn0).mono ?_; rintro e w2 ⟨g2, rfl, hg2, o2, b2⟩
  clear naX0 naX1 naX2 laX
  have B2 := bnext B1 b2
  have VaX' := Lib.hid (VaX.out.below b2 VaX.out.lt); clear VaX; have VaX := VaX'; clear VaX'
  clear B1
  have O2 := Lib.hid o2; clear o2 hg2
  clear b2
  have naX0 : w2.cell? ⟨w.heap.size, 0, none⟩ = some (.string a0.id) := VaX.out.cell 0
  have naX1 : w2.cell? ⟨w.heap.size, 1, none⟩ = some (a0.list) := VaX.out.cell 1
  have naX2 : w2.cell? ⟨w.heap.size, 2, none⟩ = some (.int .i64 a0.mass) := VaX.out.cell 2
  have laX : w.heap.size < w2.heap.size := VaX.out.lt
  go_wp2_with fail
  refine (spec_MeltTextL a0 _ _ (Hk0.out.up B2) (O2.out.rd O2.out.lt (putStr_len _) (by unfold maxLen; omega) _ (Nat.le_refl _) (by unfold maxLen; omega)) hn0).mono ?_; rintro e w3 ⟨rfl, b3⟩
  clear naX0 naX1 naX2 laX
  have B3 := bnext B2 b3
  have VaX' := Lib.hid (VaX.out.below b3 VaX.out.lt); clear VaX; have VaX := VaX'; clear VaX'
  have O2' := Lib.hid (O2.out.below b3 O2.out.lt); clear O2; have O2 := O2'; clear O2'
  clear B2
  clear b3
  clear O2
  have naX0 : w3.cell? ⟨w.heap.size, 0, none⟩ = some (.string a0.id) := VaX.out.cell 0
  have naX1 : w3.cell? ⟨w.heap.size, 1, none⟩ = some (a0.list) := VaX.out.cell 1
  have naX2 : w3.cell? ⟨w.heap.size, 2, none⟩ = some (.int .i64 a0.mass) := VaX.out.cell 2
  have laX : w.heap.size < w3.heap.size := VaX.out.lt
  go_wp2_with fail
  refine (toMelt a0 _ (by exact Hk0.out.2.1.1.up B3) hn0).mono ?_; rintro e w4 ⟨g4, rfl, hg4, o4, b4⟩
  clear naX0 naX1 naX2 laX
  have B4 := bnext B3 b4
  have VaX' := Lib.hid (VaX.out.below b4 VaX.out.lt); clear VaX; have VaX := VaX'; clear VaX'
  clear B3
  have O4 := Lib.hid o4; clear o4 hg4
  clear b4
  go_wp2_with fail
  refine (impl_MeltTextL a0 _ _ (Hk0.out.up (B4.alloc B4.size _)) (by exact (O4.out.rd O4.out.lt (putStr_len _) (by unfold maxLen; omega) _ (Nat.le_refl _) (by unfold maxLen; omega)).up (by (repeat' (first | (with_reducible exact Below.refl _ _) | (with_reducible assumption) | (with_reducible refine below_dn ?_ _) | (with_reducible refine Below.drew ?_) | (with_reducible refine Below.alloc ?_ ?_ _) | (with_reducible refine Below.setCell ?_ ?_ _) | go_size)))) hn0 (HP10.out.below (B4.alloc B4.size _))).mono ?_; rintro e w5 ⟨rfl, b5⟩
  have Vx0 : Hid (Own w5 (w4.heap.size) 45 [.string a0.id, .slice (some ⟨g4, 0, none⟩) a0.ingots.length a0.ingots.length, .int .i64 a0.mass]) := Lib.hid ((Own.newAt 45 [.string a0.id, .slice (some ⟨g4, 0, none⟩) a0.ingots.length a0.ingots.length, .int .i64 a0.mass] (by simp)).below b5 (by simp <;> omega))
  have b5' : Below w4.heap.size w4 w5 := Below.trans (by (repeat' (first | (with_reducible exact Below.refl _ _) | (with_reducible assumption) | (with_reducible refine below_dn ?_ _) | (with_reducible refine Below.drew ?_) | (with_reducible refine Below.alloc ?_ ?_ _) | (with_reducible refine Below.setCell ?_ ?_ _) | go_size))) (b5.mono (by simp <;> omega))
  clear b5
  have b5 := b5'; clear b5'
  have B5 := bnext B4 b5
  have VaX' := Lib.hid (VaX.out.below b5 VaX.out.lt); clear VaX; have VaX := VaX'; clear VaX'
  have O4' := Lib.hid (O4.out.below b5 O4.out.lt); clear O4; have O4 := O4'; clear O4'
  clear B4
  clear b5
  have nx00 : w5.cell? ⟨w4.heap.size, 0, none⟩ = some (.string a0.id) := Vx0.out.cell 0
  have nx01 : w5.cell? ⟨w4.heap.size, 1, none⟩ = some (.slice (some ⟨g4, 0, none⟩) a0.ingots.length a0.ingots.length) := Vx0.out.cell 1
  have nx02 : w5.cell? ⟨w4.heap.size, 2, none⟩ = some (.int .i64 a0.mass) := Vx0.out.cell 2
  have lx0 : w4.heap.size < w5.heap.size := Vx0.out.lt
  have naX0 : w5.cell? ⟨w.heap.size, 0, none⟩ = some (.string a0.id) := VaX.out.cell 0
  have naX1 : w5.cell? ⟨w.heap.size, 1, none⟩ = some (a0.list) := VaX.out.cell 1
  have naX2 : w5.cell? ⟨w.heap.size, 2, none⟩ = some (.int .i64 a0.mass) := VaX.out.cell 2
  have laX : w.heap.size < w5.heap.size := VaX.out.lt
  go_wp2_with fail
  go_region_held3 (fun w' => w'.cell? ⟨w4.heap.size, 0, none⟩ = some (.string a0.id) ∧ w'.cell? ⟨w4.heap.size, 1, none⟩ = some (.slice (some ⟨g4, 0, none⟩) a0.ingots.length a0.ingots.length) ∧ w'.cell? ⟨w4.heap.size, 2, none⟩ = some (.int .i64 a0.mass) ∧ w'.cell? ⟨w.heap.size, 0, none⟩ = some (.string a0.id) ∧ w'.cell? ⟨w.heap.size, 1, none⟩ = some (a0.list) ∧ w'.cell? ⟨w.heap.size, 2, none⟩ = some (.int .i64 a0.mass)) (first | assumption | go_keep) (first
    | (go_at_call 18
       refine (toMelt a0 _ (by exact Hk0.out.2.1.1.up (B5.drew)) hn0).mono ?_; rintro e w6 ⟨g6, rfl, hg6, o6, b6⟩
       have b6' : Below w5.heap.size w5 w6 := Below.trans (by (repeat' (first | (with_reducible exact Below.refl _ _) | (with_reducible assumption) | (with_reducible refine below_dn ?_ _) | (with_reducible refine Below.drew ?_) | (with_reducible refine Below.alloc ?_ ?_ _) | (with_reducible refine Below.setCell ?_ ?_ _) | go_size))) (b6.mono (by simp <;> omega))
       clear b6
       have b6 := b6'; clear b6'
       have B6 := bnext B5 b6
       have VaX' := Lib.hid (VaX.out.below b6 VaX.out.lt); clear VaX; have VaX := VaX'; clear VaX'
       have O4' := Lib.hid (O4.out.below b6 O4.out.lt); clear O4; have O4 := O4'; clear O4'
       have Vx0' := Lib.hid (Vx0.out.below b6 Vx0.out.lt); clear Vx0; have Vx0 := Vx0'; clear Vx0'
       clear B5
       have O6 := Lib.hid o6; clear o6 hg6
       clear b6
       have HS6 : w6.cell? ⟨w4.heap.size, 0, none⟩ = some (.string a0.id) ∧ w6.cell? ⟨w4.heap.size, 1, none⟩ = some (.slice (some ⟨g4, 0, none⟩) a0.ingots.length a0.ingots.length) ∧ w6.cell? ⟨w4.heap.size, 2, none⟩ = some (.int .i64 a0.mass) ∧ w6.cell? ⟨w.heap.size, 0, none⟩ = some (.string a0.id) ∧ w6.cell? ⟨w.heap.size, 1, none⟩ = some (a0.list) ∧ w6.cell? ⟨w.heap.size, 2, none⟩ = some (.int .i64 a0.mass) := ⟨Vx0.out.cell 0, Vx0.out.cell 1, Vx0.out.cell 2, VaX.out.cell 0, VaX.out.cell 1, VaX.out.cell 2⟩)
    | (go_at_call 20
       refine (eqMelt a0 _ _ _ (O4.out.rd O4.out.lt (putStr_len _) (by unfold maxLen; omega) _ (Nat.le_refl _) (by unfold maxLen; omega)) (O6.out.rd O6.out.lt (putStr_len _) (by unfold maxLen; omega) _ (Nat.le_refl _) (by unfold maxLen; omega)) hn0).mono ?_; rintro e w7 ⟨rfl, b7⟩
       have B7 := bnext B6 b7
       have VaX' := Lib.hid (VaX.out.below b7 VaX.out.lt); clear VaX; have VaX := VaX'; clear VaX'
       have O4' := Lib.hid (O4.out.below b7 O4.out.lt); clear O4; have O4 := O4'; clear O4'
       have Vx0' := Lib.hid (Vx0.out.below b7 Vx0.out.lt); clear Vx0; have Vx0 := Vx0'; clear Vx0'
       have O6' := Lib.hid (O6.out.below b7 O6.out.lt); clear O6; have O6 := O6'; clear O6'
       clear B6
       clear b7
       have HS7 : w7.cell? ⟨w4.heap.size, 0, none⟩ = some (.string a0.id) ∧ w7.cell? ⟨w4.heap.size, 1, none⟩ = some (.slice (some ⟨g4, 0, none⟩) a0.ingots.length a0.ingots.length) ∧ w7.cell? ⟨w4.heap.size, 2, none⟩ = some (.int .i64 a0.mass) ∧ w7.cell? ⟨w.heap.size, 0, none⟩ = some (.string a0.id) ∧ w7.cell? ⟨w.heap.size, 1, none⟩ = some (a0.list) ∧ w7.cell? ⟨w.heap.size, 2, none⟩ = some (.int .i64 a0.mass) := ⟨Vx0.out.cell 0, Vx0.out.cell 1, Vx0.out.cell 2, VaX.out.cell 0, VaX.out.cell 1, VaX.out.cell 2⟩))
  clear nx00 nx01 nx02 lx0 naX0 naX1 naX2 laX HS7
  clear O4 O6
  go_wp2_with fail
  all_goals go_ret
  all_goals exact ⟨rfl, B7⟩
end Go.Proofs.YtmkemjfbmnnflaaDoor
