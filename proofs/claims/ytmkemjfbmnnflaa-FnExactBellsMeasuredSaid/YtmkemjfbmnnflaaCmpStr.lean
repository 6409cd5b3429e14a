/- Texts in order: cmp.Compare at strings. -/
import Derived.Test.YtmkemjfbmnnflaaRows
import Derived.Test.YtmkemjfbmnnflaaWords
import Derived.Test.YtmkemjfbmnnflaaVMelt
import Derived.WalkLawsBesides
namespace Go.Proofs.Ytmkemjfbmnnflaa
open Go.ChangeShapes Go.WideShapes Go.ChangeAt Go.RowKit Go.Deep Go.Joins
set_option linter.unusedVariables false
set_option maxRecDepth 100000
set_option linter.unusedSimpArgs false
/-- what a comparison of two texts gives -/
def cmpS (x y : ByteArray) : Int := if ltName x y then -1 else if strEq x y then 0 else 1
theorem cmpS_lt {x y : ByteArray} : cmpS x y < 0 ↔ ltName x y = true := by
  unfold cmpS
  cases h : ltName x y <;> simp
  cases strEq x y <;> simp
theorem ltName_irrefl (x : ByteArray) : ltName x x = false := less_irrefl _
theorem ltName_trans {x y z : ByteArray} (h1 : ltName x y = true) (h2 : ltName y z = true) : ltName x z = true := less_trans _ _ _ h1 h2
theorem strEq_iff {x y : ByteArray} : strEq x y = true ↔ x = y := by
  unfold strEq
  rw [beq_iff_eq]
  constructor
  · intro h
    have h2 : x.data.toList = y.data.toList := by
      rw [ByteArray.toList_eq, ByteArray.toList_eq] at h; exact h
    cases x; cases y
    simp only [ByteArray.mk.injEq]
    exact Array.toList_inj.1 h2
  · rintro rfl; rfl
theorem cmpS_zero {x y : ByteArray} : cmpS x y = 0 ↔ x = y := by
  unfold cmpS
  cases h : ltName x y
  · simp only [Bool.false_eq_true, if_false]
    cases h2 : strEq x y
    · simp only [Bool.false_eq_true, if_false]
      constructor
      · intro h; omega
      · rintro rfl; rw [strEq_iff.2 rfl] at h2; cases h2
    · simp [strEq_iff.1 h2]
  · simp only [if_true]
    constructor
    · intro h; omega
    · rintro rfl; rw [ltName_irrefl] at h; cases h
/-- not before it, not equal: behind it -/
theorem ltName_total {x y : ByteArray} (h1 : ltName x y = false) (h2 : x ≠ y) : ltName y x = true := by
  have h := not_less y.toList x.toList
  unfold ltName at *
  have h3 : strEq y x = false := by
    cases h4 : strEq y x with
    | false => rfl
    | true => exact absurd (strEq_iff.1 h4).symm h2
  unfold strEq at h3
  rw [h1, h3] at h
  simpa using h.symm
theorem cmp_isNaN_str (x : ByteArray) (w : World) : Calls Try.prog 122 #[.string x] w fun e w' => e = .returned (.bool false) ∧ w = w' := by
  have t1 : (x.toList == x.toList) = true := by simp
  go_enter Try.func122, Try.ntmps122
  go_wp2
  go_ret
  exact ⟨by first | rfl | simp, rfl⟩
end Go.Proofs.Ytmkemjfbmnnflaa
