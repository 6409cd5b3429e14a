/- Texts in order: cmp.Compare at strings. -/
import Derived.Test.YtdliabgdgjboiaaRows
import Derived.Test.YtdliabgdgjboiaaWords
import Derived.Test.YtdliabgdgjboiaaVMelt
import Derived.WalkLawsBesides
namespace Go.Proofs.Ytdliabgdgjboiaa
open Go.ChangeShapes Go.WideShapes Go.ChangeAt Go.RowKit Go.Deep Go.Joins
set_option linter.unusedVariables false
set_option maxRecDepth 100000
set_option linter.unusedSimpArgs false
/-- what a comparison of two texts gives -/
def cmpS (x y : ByteArray) : Int := if ltName x y then -1 else if strEq x y then 0 else 1
theorem cmpS_lt {x y : ByteArray} : cmpS x y < 0 ↔ ltName x y = true := by
  unfold cmpS
  cases h : ltName x y <;> simp
  cases strEq x y <;> simp
theorem ltName_irrefl (x : ByteArray) : ltName x x = false := less_irrefl _
theorem ltName_trans {x y z : ByteArray} (h1 : ltName x y = true) (h2 : ltName y z = true) : ltName x z = true := less_trans _ _ _ h1 h2
theorem strEq_iff {x y : ByteArray} : strEq x y = true ↔ x = y := by
  unfold strEq
  rw [beq_iff_eq]
  constructor
  · intro h
    have h2 : x.data.toList = y.data.toList := by
      rw [ByteArray.toList_eq, ByteArray.toList_eq] at h; exact h
    cases x; cases y
    simp only [ByteArray.mk.injEq]
    exact Array.toList_inj.1 h2
  · rintro rfl; rfl
theorem cmpS_zero {x y : ByteArray} : cmpS x y = 0 ↔ x = y := by
  unfold cmpS
  cases h : ltName x y
  · simp only [Bool.false_eq_true, if_false]
    cases h2 : strEq x y
    · simp only [Bool.false_eq_true, if_false]
      constructor
      · intro h; omega
      · rintro rfl; rw [strEq_iff.2 rfl] at h2; cases h2
    · simp [strEq_iff.1 h2]
  · simp only [if_true]
    constructor
    · intro h; omega
    · rintro rfl; rw [ltName_irrefl] at h; cases h
/-- not before it, not equal: behind it -/
theorem ltName_total {x y : ByteArray} (h1 : ltName x y = false) (h2 : x ≠ y) : ltName y x = true := by
  have h := not_less y.toList x.toList
  unfold ltName at *
  have h3 : strEq y x = false := by
    cases h4 : strEq y x with
    | false => rfl
    | true => exact absurd (strEq_iff.1 h4).symm h2
  unfold strEq at h3
  rw [h1, h3] at h
  simpa using h.symm
theorem cmp_isNaN_str (x : ByteArray) (w : World) : Calls Try.prog 149 #[.string x] w fun e w' => e = .returned (.bool false) ∧ w = w' := by
  have t1 : (x.toList == x.toList) = true := by simp
  go_enter Try.func149, Try.ntmps149
  go_wp2
  go_ret
  exact ⟨by first | rfl | simp, rfl⟩
theorem cmp_Compare_str (x y : ByteArray) (w : World) : Calls Try.prog 124 #[.string x, .string y] w fun e w' => e = .returned (.int .i64 (cmpS x y)) ∧ w = w' := by
  cases h1 : ltName x y
  · cases h2 : strEq x y
    · have e : Hid (cmpS x y = 1) := (by unfold cmpS; rw [h1, h2]; rfl : cmpS x y = 1)
      have t1 : Op.bytesLess x.toList y.toList = false := h1
      have t2 : (x.toList == y.toList) = false := h2
      clear h1 h2
      go_enter Try.func124, Try.ntmps124
      go_wp2_with (first | (go_at_call 149; refine (cmp_isNaN_str _ _).mono ?_; rintro e w' ⟨rfl, rfl⟩))
      go_ret
      exact ⟨by rw [e.out]; rfl, rfl⟩
    · have e : Hid (cmpS x y = 0) := (by unfold cmpS; rw [h1, h2]; rfl : cmpS x y = 0)
      have t1 : Op.bytesLess x.toList y.toList = false := h1
      have t2 : (x.toList == y.toList) = true := h2
      clear h1 h2
      go_enter Try.func124, Try.ntmps124
      go_wp2_with (first | (go_at_call 149; refine (cmp_isNaN_str _ _).mono ?_; rintro e w' ⟨rfl, rfl⟩))
      go_ret
      exact ⟨by rw [e.out]; rfl, rfl⟩
  · have e : Hid (cmpS x y = -1) := (by unfold cmpS; rw [h1]; rfl : cmpS x y = -1)
    have t1 : Op.bytesLess x.toList y.toList = true := h1
    clear h1
    go_enter Try.func124, Try.ntmps124
    go_wp2_with (first | (go_at_call 149; refine (cmp_isNaN_str _ _).mono ?_; rintro e w' ⟨rfl, rfl⟩))
    go_ret
    exact ⟨by rw [e.out]; rfl, rfl⟩
end Go.Proofs.Ytdliabgdgjboiaa
