/- FnExactMeasureText: the law. -/
import Derived.Test.YtmkemjfbmnnflaaDoorRows
import Derived.Test.YtmkemjfbmnnflaaDoorLaw
import Derived.Test.YtmkemjfbmnnflaaDoorMeasTx
import Derived.Test.YtmkemjfbmnnflaaDoorDecLaid
import Derived.Test.YtmkemjfbmnnflaaDoorHMeasure
import Derived.Deep.RegionHeld3
namespace Go.Proofs.YtmkemjfbmnnflaaDoor
open Go.ChangeShapes Go.WideShapes Go.ChangeAt Go.RowKit Go.Deep Go.Joins
set_option linter.unusedVariables false
set_option maxRecDepth 100000
set_option linter.unusedSimpArgs false
set_option maxHeartbeats 1000000 in
theorem FnExactMeasureText_walk (w : World) (a0 : Measure) (k0 : a0.ok) (hL : laidMetH Tryd.prog Rows.fnExactMeasureTextRow.laid w) (hS : w.ShapedOpen Tryd.prog) :
    Calls Tryd.prog 6 #[.agg #[.string a0.bell, .int .i64 a0.part, .int .i64 a0.value]] w fun e w' => e = .returned (.bool true) ∧ Below w.heap.size w w' := by
  have Hk0 := Lib.hid k0; clear k0
  have hL1 : laidMet Tryd.prog Rows.fnExactMeasureTextRow.laid w := hL
  have HP10 : Hid (Pow10 w) := Lib.hid (pow10_of (rest := []) (laid_tail (laid_tail hL1)))
  clear hL hL1 hS
  by_cases hq0 : a0.bell.size ≤ 1048576
  case neg =>
    have e0 : Hid (szR 1048576 a0.bell.size = -1) := (if_neg (by omega) : szR 1048576 a0.bell.size = -1)
    go_enter Tryd.func6, Tryd.ntmps6
    go_wp2_with fail
    refine (szMeasure a0 1048576 _ (by omega) (by omega) Hk0.out.1).mono ?_; rw [e0.out]; rintro e w1 ⟨rfl, b1⟩
    have B1 : Below w.heap.size w w1 := Below.trans (by (repeat' (first | (with_reducible exact Below.refl _ _) | (with_reducible assumption) | (with_reducible refine below_dn ?_ _) | (with_reducible refine Below.drew ?_) | (with_reducible refine Below.alloc ?_ ?_ _) | (with_reducible refine Below.setCell ?_ ?_ _) | go_size))) (b1.mono (by simp <;> omega))
    have VaM : Hid (Own w1 (w.heap.size) 50 [.string a0.bell, .int .i64 a0.part, .int .i64 a0.value]) := Lib.hid ((Own.newAt 50 [.string a0.bell, .int .i64 a0.part, .int .i64 a0.value] (by simp)).below b1 (by simp <;> omega))
    clear b1
    go_wp2_with fail
    go_ret
    exact ⟨rfl, B1⟩
  obtain ⟨z0, hz0, hy0, hy0_⟩ : ∃ z : Int, szR 1048576 a0.bell.size = z ∧ (0 ≤ z ∧ z ≤ 1048576) ∧ z = 1048576 - ((a0.bell.size : Nat) : Int) := ⟨_, rfl, by unfold szR; rw [if_pos (by omega)]; omega, by unfold szR; rw [if_pos (by omega)]⟩
  have Hy0 := Lib.hid hy0_; clear hy0_
  have Hz0 := Lib.hid hz0; clear hz0
  have sm1 := same_nt (measT a0)
  have sm2 := same_t (measT a0)
  go_enter Tryd.func6, Tryd.ntmps6
  go_wp2_with fail
  refine (szMeasure a0 1048576 _ (by omega) (by omega) Hk0.out.1).mono ?_; rw [Hz0.out]; rintro e w1 ⟨rfl, b1⟩
  have B1 : Below w.heap.size w w1 := Below.trans (by (repeat' (first | (with_reducible exact Below.refl _ _) | (with_reducible assumption) | (with_reducible refine below_dn ?_ _) | (with_reducible refine Below.drew ?_) | (with_reducible refine Below.alloc ?_ ?_ _) | (with_reducible refine Below.setCell ?_ ?_ _) | go_size))) (b1.mono (by simp <;> omega))
  have VaM : Hid (Own w1 (w.heap.size) 50 [.string a0.bell, .int .i64 a0.part, .int .i64 a0.value]) := Lib.hid ((Own.newAt 50 [.string a0.bell, .int .i64 a0.part, .int .i64 a0.value] (by simp)).below b1 (by simp <;> omega))
  clear b1
  clear Hz0 hq0 Hy0
  have naM0 : w1.cell? ⟨w.heap.size, 0, none⟩ = some (.string a0.bell) := VaM.out.cell 0
  have naM1 : w1.cell? ⟨w.heap.size, 1, none⟩ = some (.int .i64 a0.part) := VaM.out.cell 1
  have naM2 : w1.cell? ⟨w.heap.size, 2, none⟩ = some (.int .i64 a0.value) := VaM.out.cell 2
  have laM : w.heap.size < w1.heap.size := VaM.out.lt
  go_wp2_with fail
  refine (toMeasure a0 _).mono ?_; rintro e w2 ⟨rfl, b2⟩
  clear naM0 naM1 naM2 laM
  have B2 := bnext B1 b2
  have VaM' := Lib.hid (VaM.out.below b2 VaM.out.lt); clear VaM; have VaM := VaM'; clear VaM'
  clear B1
  clear b2
  have naM0 : w2.cell? ⟨w.heap.size, 0, none⟩ = some (.string a0.bell) := VaM.out.cell 0
  have naM1 : w2.cell? ⟨w.heap.size, 1, none⟩ = some (.int .i64 a0.part) := VaM.out.cell 1
  have naM2 : w2.cell? ⟨w.heap.size, 2, none⟩ = some (.int .i64 a0.value) := VaM.out.cell 2
  have laM : w.heap.size < w2.heap.size := VaM.out.lt
  go_wp2_with fail
  refine (spec_MeasureText a0 _ Hk0.out).mono ?_; rintro e w3 ⟨rfl, b3⟩
  clear naM0 naM1 naM2 laM
  have B3 := bnext B2 b3
  have VaM' := Lib.hid (VaM.out.below b3 VaM.out.lt); clear VaM; have VaM := VaM'; clear VaM'
  clear B2
  clear b3
  have naM0 : w3.cell? ⟨w.heap.size, 0, none⟩ = some (.string a0.bell) := VaM.out.cell 0
  have naM1 : w3.cell? ⟨w.heap.size, 1, none⟩ = some (.int .i64 a0.part) := VaM.out.cell 1
  have naM2 : w3.cell? ⟨w.heap.size, 2, none⟩ = some (.int .i64 a0.value) := VaM.out.cell 2
  have laM : w.heap.size < w3.heap.size := VaM.out.lt
  go_wp2_with fail
  refine (toMeasure a0 _).mono ?_; rintro e w4 ⟨rfl, b4⟩
  clear naM0 naM1 naM2 laM
  have B4 := bnext B3 b4
  have VaM' := Lib.hid (VaM.out.below b4 VaM.out.lt); clear VaM; have VaM := VaM'; clear VaM'
  clear B3
  clear b4
  have naM0 : w4.cell? ⟨w.heap.size, 0, none⟩ = some (.string a0.bell) := VaM.out.cell 0
  have naM1 : w4.cell? ⟨w.heap.size, 1, none⟩ = some (.int .i64 a0.part) := VaM.out.cell 1
  have naM2 : w4.cell? ⟨w.heap.size, 2, none⟩ = some (.int .i64 a0.value) := VaM.out.cell 2
  have laM : w.heap.size < w4.heap.size := VaM.out.lt
  go_wp2_with fail
  refine (impl_MeasureText a0 _ Hk0.out (HP10.out.below B4)).mono ?_; rintro e w5 ⟨rfl, b5⟩
  clear naM0 naM1 naM2 laM
  have B5 := bnext B4 b5
  have VaM' := Lib.hid (VaM.out.below b5 VaM.out.lt); clear VaM; have VaM := VaM'; clear VaM'
  clear B4
  clear b5
  go_wp2_with fail
  all_goals go_ret
  all_goals exact ⟨rfl, B5⟩
end Go.Proofs.YtmkemjfbmnnflaaDoor
