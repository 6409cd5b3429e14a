/- Two lists compared element by element; texts compared. -/
import Derived.Test.YtmkemjfbmnnflaaRows
import Derived.Test.YtmkemjfbmnnflaaSteps
namespace Go.Proofs.Ytmkemjfbmnnflaa
open Go.ChangeShapes Go.WideShapes Go.ChangeAt Go.RowKit Go.Deep Go.Joins
set_option linter.unusedVariables false
set_option maxRecDepth 100000
set_option linter.unusedSimpArgs false
/-- element k of both -/
def atB {α : Type} (f : α → α → Bool) (xs ys : List α) (k : Nat) : Bool :=
  match xs[k]?, ys[k]? with
  | some x, some y => f x y
  | _, _ => true
theorem atB_eq {α : Type} {f : α → α → Bool} {xs ys : List α} {k : Nat} (h : k < xs.length) (h2 : k < ys.length) : atB f xs ys k = f xs[k] ys[k] := by
  unfold atB
  rw [List.getElem?_eq_getElem h, List.getElem?_eq_getElem h2]
def strEq (x y : ByteArray) : Bool := x.toList == y.toList
theorem strEq_t {x y : ByteArray} (h : strEq x y = true) : (x.toList == y.toList) = true := h
theorem strEq_f {x y : ByteArray} (h : strEq x y = false) : (x.toList == y.toList) = false := h
theorem strEq_nt {x y : ByteArray} (h : strEq x y = true) : (!(x.toList == y.toList)) = false := by unfold strEq at h; rw [h]; rfl
theorem strEq_nf {x y : ByteArray} (h : strEq x y = false) : (!(x.toList == y.toList)) = true := by unfold strEq at h; rw [h]; rfl
/-- the same as lists of texts -/
def wordsS (xs ys : List ByteArray) : Bool := decide (xs.length = ys.length) && allK (atB strEq xs ys) xs.length
end Go.Proofs.Ytmkemjfbmnnflaa
