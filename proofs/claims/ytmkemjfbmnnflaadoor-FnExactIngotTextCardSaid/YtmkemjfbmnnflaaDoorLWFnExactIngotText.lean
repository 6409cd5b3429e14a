/- FnExactIngotText: the law. -/
import Derived.Test.YtmkemjfbmnnflaaDoorRows
import Derived.Test.YtmkemjfbmnnflaaDoorLaw
import Derived.Test.YtmkemjfbmnnflaaDoorIngTx
import Derived.Test.YtmkemjfbmnnflaaDoorDecLaid
import Derived.Test.YtmkemjfbmnnflaaDoorHIngot
import Derived.Deep.RegionHeld3
namespace Go.Proofs.YtmkemjfbmnnflaaDoor
open Go.ChangeShapes Go.WideShapes Go.ChangeAt Go.RowKit Go.Deep Go.Joins
set_option linter.unusedVariables false
set_option maxRecDepth 100000
set_option linter.unusedSimpArgs false
set_option maxHeartbeats 1000000 in
theorem FnExactIngotText_walk (w : World) (a0 : Ingot) (k0 : a0.ok) (hL : laidMetH Tryd.prog Rows.fnExactIngotTextRow.laid w) (hS : w.ShapedOpen Tryd.prog) :
    Calls Tryd.prog 4 #[.agg #[.string a0.id, .int .i64 a0.mass, .int .i64 a0.alloy.copper, .int .i64 a0.alloy.tin, .int .i64 a0.alloy.other]] w fun e w' => e = .returned (.bool true) ∧ Below w.heap.size w w' := by
  have Hk0 := Lib.hid k0; clear k0
  have hL1 : laidMet Tryd.prog Rows.fnExactIngotTextRow.laid w := hL
  have HP10 : Hid (Pow10 w) := Lib.hid (pow10_of (rest := []) (laid_tail (laid_tail hL1)))
  clear hL hL1 hS
  by_cases hq0 : a0.id.size ≤ 1048576
  case neg =>
    have e0 : Hid (szR 1048576 a0.id.size = -1) := (if_neg (by omega) : szR 1048576 a0.id.size = -1)
    go_enter Tryd.func4, Tryd.ntmps4
    go_wp2_with fail
    refine (szIngot a0 1048576 _ (by omega) (by omega) Hk0.out.1).mono ?_; rw [e0.out]; rintro e w1 ⟨rfl, b1⟩
    have B1 : Below w.heap.size w w1 := Below.trans (by (repeat' (first | (with_reducible exact Below.refl _ _) | (with_reducible assumption) | (with_reducible refine below_dn ?_ _) | (with_reducible refine Below.drew ?_) | (with_reducible refine Below.alloc ?_ ?_ _) | (with_reducible refine Below.setCell ?_ ?_ _) | go_size))) (b1.mono (by simp <;> omega))
    have VaX : Hid (Own w1 (w.heap.size) 32 [.string a0.id, .int .i64 a0.mass, .int .i64 a0.alloy.copper, .int .i64 a0.alloy.tin, .int .i64 a0.alloy.other]) := Lib.hid ((Own.newAt 32 [.string a0.id, .int .i64 a0.mass, .int .i64 a0.alloy.copper, .int .i64 a0.alloy.tin, .int .i64 a0.alloy.other] (by simp)).below b1 (by simp <;> omega))
    clear b1
    go_wp2_with fail
    go_ret
    exact ⟨rfl, B1⟩
  obtain ⟨z0, hz0, hy0, hy0_⟩ : ∃ z : Int, szR 1048576 a0.id.size = z ∧ (0 ≤ z ∧ z ≤ 1048576) ∧ z = 1048576 - ((a0.id.size : Nat) : Int) := ⟨_, rfl, by unfold szR; rw [if_pos (by omega)]; omega, by unfold szR; rw [if_pos (by omega)]⟩
  have Hy0 := Lib.hid hy0_; clear hy0_
  have Hz0 := Lib.hid hz0; clear hz0
  have sm1 := same_nt (ingT a0)
  have sm2 := same_t (ingT a0)
  go_enter Tryd.func4, Tryd.ntmps4
  go_wp2_with fail
  refine (szIngot a0 1048576 _ (by omega) (by omega) Hk0.out.1).mono ?_; rw [Hz0.out]; rintro e w1 ⟨rfl, b1⟩
  have B1 : Below w.heap.size w w1 := Below.trans (by (repeat' (first | (with_reducible exact Below.refl _ _) | (with_reducible assumption) | (with_reducible refine below_dn ?_ _) | (with_reducible refine Below.drew ?_) | (with_reducible refine Below.alloc ?_ ?_ _) | (with_reducible refine Below.setCell ?_ ?_ _) | go_size))) (b1.mono (by simp <;> omega))
  have VaX : Hid (Own w1 (w.heap.size) 32 [.string a0.id, .int .i64 a0.mass, .int .i64 a0.alloy.copper, .int .i64 a0.alloy.tin, .int .i64 a0.alloy.other]) := Lib.hid ((Own.newAt 32 [.string a0.id, .int .i64 a0.mass, .int .i64 a0.alloy.copper, .int .i64 a0.alloy.tin, .int .i64 a0.alloy.other] (by simp)).below b1 (by simp <;> omega))
  clear b1
  clear Hz0 hq0 Hy0
  have naX0 : w1.cell? ⟨w.heap.size, 0, none⟩ = some (.string a0.id) := VaX.out.cell 0
  have naX1 : w1.cell? ⟨w.heap.size, 1, none⟩ = some (.int .i64 a0.mass) := VaX.out.cell 1
  have naX2 : w1.cell? ⟨w.heap.size, 2, none⟩ = some (.int .i64 a0.alloy.copper) := VaX.out.cell 2
  have naX3 : w1.cell? ⟨w.heap.size, 3, none⟩ = some (.int .i64 a0.alloy.tin) := VaX.out.cell 3
  have naX4 : w1.cell? ⟨w.heap.size, 4, none⟩ = some (.int .i64 a0.alloy.other) := VaX.out.cell 4
  have laX : w.heap.size < w1.heap.size := VaX.out.lt
  go_wp2_with fail
  refine (toIngot a0 _).mono ?_; rintro e w2 ⟨rfl, b2⟩
  clear naX0 naX1 naX2 naX3 naX4 laX
  have B2 := bnext B1 b2
  have VaX' := Lib.hid (VaX.out.below b2 VaX.out.lt); clear VaX; have VaX := VaX'; clear VaX'
  clear B1
  clear b2
  have naX0 : w2.cell? ⟨w.heap.size, 0, none⟩ = some (.string a0.id) := VaX.out.cell 0
  have naX1 : w2.cell? ⟨w.heap.size, 1, none⟩ = some (.int .i64 a0.mass) := VaX.out.cell 1
  have naX2 : w2.cell? ⟨w.heap.size, 2, none⟩ = some (.int .i64 a0.alloy.copper) := VaX.out.cell 2
  have naX3 : w2.cell? ⟨w.heap.size, 3, none⟩ = some (.int .i64 a0.alloy.tin) := VaX.out.cell 3
  have naX4 : w2.cell? ⟨w.heap.size, 4, none⟩ = some (.int .i64 a0.alloy.other) := VaX.out.cell 4
  have laX : w.heap.size < w2.heap.size := VaX.out.lt
  go_wp2_with fail
  refine (spec_IngotText a0 _ Hk0.out).mono ?_; rintro e w3 ⟨rfl, b3⟩
  clear naX0 naX1 naX2 naX3 naX4 laX
  have B3 := bnext B2 b3
  have VaX' := Lib.hid (VaX.out.below b3 VaX.out.lt); clear VaX; have VaX := VaX'; clear VaX'
  clear B2
  clear b3
  have naX0 : w3.cell? ⟨w.heap.size, 0, none⟩ = some (.string a0.id) := VaX.out.cell 0
  have naX1 : w3.cell? ⟨w.heap.size, 1, none⟩ = some (.int .i64 a0.mass) := VaX.out.cell 1
  have naX2 : w3.cell? ⟨w.heap.size, 2, none⟩ = some (.int .i64 a0.alloy.copper) := VaX.out.cell 2
  have naX3 : w3.cell? ⟨w.heap.size, 3, none⟩ = some (.int .i64 a0.alloy.tin) := VaX.out.cell 3
  have naX4 : w3.cell? ⟨w.heap.size, 4, none⟩ = some (.int .i64 a0.alloy.other) := VaX.out.cell 4
  have laX : w.heap.size < w3.heap.size := VaX.out.lt
  go_wp2_with fail
  refine (toIngot a0 _).mono ?_; rintro e w4 ⟨rfl, b4⟩
  clear naX0 naX1 naX2 naX3 naX4 laX
  have B4 := bnext B3 b4
  have VaX' := Lib.hid (VaX.out.below b4 VaX.out.lt); clear VaX; have VaX := VaX'; clear VaX'
  clear B3
  clear b4
  have naX0 : w4.cell? ⟨w.heap.size, 0, none⟩ = some (.string a0.id) := VaX.out.cell 0
  have naX1 : w4.cell? ⟨w.heap.size, 1, none⟩ = some (.int .i64 a0.mass) := VaX.out.cell 1
  have naX2 : w4.cell? ⟨w.heap.size, 2, none⟩ = some (.int .i64 a0.alloy.copper) := VaX.out.cell 2
  have naX3 : w4.cell? ⟨w.heap.size, 3, none⟩ = some (.int .i64 a0.alloy.tin) := VaX.out.cell 3
  have naX4 : w4.cell? ⟨w.heap.size, 4, none⟩ = some (.int .i64 a0.alloy.other) := VaX.out.cell 4
  have laX : w.heap.size < w4.heap.size := VaX.out.lt
  go_wp2_with fail
  refine (impl_IngotText a0 _ Hk0.out (HP10.out.below B4)).mono ?_; rintro e w5 ⟨rfl, b5⟩
  clear naX0 naX1 naX2 naX3 naX4 laX
  have B5 := bnext B4 b5
  have VaX' := Lib.hid (VaX.out.below b5 VaX.out.lt); clear VaX; have VaX := VaX'; clear VaX'
  clear B4
  clear b5
  go_wp2_with fail
  all_goals go_ret
  all_goals exact ⟨rfl, B5⟩
end Go.Proofs.YtmkemjfbmnnflaaDoor
