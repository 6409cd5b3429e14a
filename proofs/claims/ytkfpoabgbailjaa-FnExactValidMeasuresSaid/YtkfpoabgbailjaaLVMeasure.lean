/- FnExactValidMeasures: the law. -/
import Derived.Test.YtkfpoabgbailjaaRows
import Derived.Test.YtkfpoabgbailjaaVMeasure
namespace Go.Proofs.Ytkfpoabgbailjaa
open Go.ChangeShapes Go.WideShapes Go.ChangeAt Go.RowKit Go.Deep Go.Joins
set_option linter.unusedVariables false
set_option maxRecDepth 100000
set_option linter.unusedSimpArgs false
theorem spec_ValidMeasures (w : World) (v : Value) (xs : List Measure) (h : Rd w.heap.size w v 3 xs.length (xs.flatMap Measure.put)) (hn : xs.length ≤ 1048576) (hok : ∀ x ∈ xs, x.ok) :
    Calls Try.prog 50 #[v] w fun e w' => e = .returned (.bool (validMeasureS xs)) ∧ Below w.heap.size w w' := by
  have H := Lib.hid (spec_validMeasure w v xs h hn hok)
  clear h hok
  go_enter Try.func50, Try.ntmps50
  go_wp2_with fail
  refine H.out.mono ?_; rintro e w1 ⟨rfl, b1⟩
  go_wp2_with fail
  go_ret
  exact ⟨rfl, b1⟩

theorem FnExactValidMeasures_walk (w : World) (v : Value) (xs : List Measure) (h : Rd w.heap.size w v 3 xs.length (xs.flatMap Measure.put) ∧ xs.length ≤ maxLen ∧ ∀ x ∈ xs, x.ok) :
    Calls Try.prog 13 #[v] w fun e w' => e = .returned (.bool true) ∧ Below w.heap.size w w' := by
  obtain ⟨h, hm, hok⟩ := h
  have HZ := Lib.hid (szMeasureS w _ xs 1048576 h hm (fun x hx => (hok x hx).1) (by omega) (by omega))
  have H := Lib.hid h; clear h
  have Hok := Lib.hid hok; clear hok
  by_cases hn : (xs.length + wtMeasure xs) ≤ 1048576
  case neg =>
    have e0 : Hid (szR 1048576 (xs.length + wtMeasure xs) = -1) := (if_neg (by omega) : szR 1048576 (xs.length + wtMeasure xs) = -1)
    go_enter Try.func13, Try.ntmps13
    go_wp2_with fail
    refine HZ.out.mono ?_; rw [e0.out]; rintro e w0 ⟨rfl, b0⟩
    go_wp2_with fail
    go_ret
    exact ⟨rfl, b0⟩
  have hn1 : xs.length ≤ 1048576 := by omega
  have e0 : Hid (szR 1048576 (xs.length + wtMeasure xs) = 1048576 - ((xs.length + wtMeasure xs) : Nat)) := (if_pos (by omega) : szR 1048576 (xs.length + wtMeasure xs) = 1048576 - ((xs.length + wtMeasure xs) : Nat))
  obtain ⟨z, hz, hz0⟩ : ∃ z : Int, szR 1048576 (xs.length + wtMeasure xs) = z ∧ 0 ≤ z := ⟨_, rfl, by rw [e0.out]; omega⟩
  have Hz := Lib.hid hz; clear hz e0
  go_enter Try.func13, Try.ntmps13
  go_wp2_with fail
  refine HZ.out.mono ?_; rw [Hz.out]; rintro e w0 ⟨rfl, b0⟩
  have B0 : Below w.heap.size w _ := b0
  go_wp2_with fail
  refine (toMeasureS _ _ xs ((H.out.below B0).mono B0.size) hn1).mono ?_; rintro e w1 ⟨g1, rfl, hg1, o1, b1⟩
  have B1 := bnext B0 b1; clear b1
  have O1 := Lib.hid o1; clear o1
  go_wp2_with fail
  refine (spec_ValidMeasures _ _ xs (O1.out.rd O1.out.lt (Measure_len xs) (by unfold maxLen; omega) _ (Nat.le_refl _) (by unfold maxLen; omega)) hn1 Hok.out).mono ?_; rintro e w2 ⟨rfl, b2⟩
  have B2 := bnext B1 b2; clear b2 B1 O1
  go_wp2_with fail
  refine (toMeasureS _ _ xs ((H.out.below B2).mono B2.size) hn1).mono ?_; rintro e w3 ⟨g3, rfl, hg3, o3, b3⟩
  have B3 := bnext B2 b3; clear b3 B2
  have O3 := Lib.hid o3; clear o3
  go_wp2_with fail
  refine (impl_validMeasure _ _ xs (O3.out.rd O3.out.lt (Measure_len xs) (by unfold maxLen; omega) _ (Nat.le_refl _) (by unfold maxLen; omega)) hn1 Hok.out).mono ?_; rintro e w4 ⟨rfl, b4⟩
  have B4 := bnext B3 b4; clear B3
  have O4 := Lib.hid (O3.out.below b4 O3.out.lt); clear O3 b4
  go_wp2_with fail
  refine (toMeasureS _ _ xs ((H.out.below B4).mono B4.size) hn1).mono ?_; rintro e w5 ⟨g5, rfl, hg5, o5, b5⟩
  have B5 := bnext B4 b5; clear B4
  have O5 := Lib.hid o5; clear o5
  have O6 := Lib.hid (O4.out.below b5 O4.out.lt); clear O4 b5
  go_wp2_with fail
  refine (eqMeasureS _ _ _ xs (O6.out.rd O6.out.lt (Measure_len xs) (by unfold maxLen; omega) _ (Nat.le_refl _) (by unfold maxLen; omega)) (O5.out.rd O5.out.lt (Measure_len xs) (by unfold maxLen; omega) _ (Nat.le_refl _) (by unfold maxLen; omega)) hn1).mono ?_; rintro e w6 ⟨rfl, b6⟩
  have B6 := bnext B5 b6; clear B5 b6
  go_wp2_with fail
  go_ret
  exact ⟨rfl, B6⟩
end Go.Proofs.Ytkfpoabgbailjaa
