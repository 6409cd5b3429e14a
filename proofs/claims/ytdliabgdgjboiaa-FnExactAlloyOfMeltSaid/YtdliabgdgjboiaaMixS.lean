/- MixOf: both sides compute the same. -/
import Derived.Test.YtdliabgdgjboiaaRows
import Derived.Test.YtdliabgdgjboiaaChoice
import Derived.Test.YtdliabgdgjboiaaVIngot
namespace Go.Proofs.Ytdliabgdgjboiaa
open Go.ChangeShapes Go.WideShapes Go.ChangeAt Go.RowKit Go.Deep Go.Joins
set_option linter.unusedVariables false
set_option maxRecDepth 100000
set_option linter.unusedSimpArgs false
def mixA (xs : List Ingot) (cs : List Int) : Alloy :=
  ⟨1000000 - sumK tinF xs cs / sumK massF xs cs - sumK otherF xs cs / sumK massF xs cs, sumK tinF xs cs / sumK massF xs cs, sumK otherF xs cs / sumK massF xs cs⟩
def mixS (xs : List Ingot) (cs : List Int) : Alloy × Int × Int :=
  if validIngotS xs then if choiceB xs.length cs then if cs.length = 0 then (⟨0, 0, 0⟩, 0, 6) else (mixA xs cs, sumK massF xs cs, 0) else (⟨0, 0, 0⟩, 0, 2) else (⟨0, 0, 0⟩, 0, 1)
theorem validIngotS_true {xs : List Ingot} (h : validIngotS xs = true) : xs.length ≤ 16 ∧ ∀ x ∈ xs, ingotB x = true := by
  simp only [validIngotS, Bool.and_eq_true, decide_eq_true_eq] at h
  refine ⟨h.2, fun x hx => ?_⟩
  obtain ⟨i, hi, rfl⟩ := List.mem_iff_getElem.1 hx
  have := allK_true h.1 i hi
  unfold stepB at this
  rw [List.getElem?_eq_getElem hi] at this
  simp only [Bool.and_eq_true] at this
  exact this.1
theorem spec_l13Ok_is {r : Bool} (w : World) (v : Value) (xs : List Ingot) (h : Rd w.heap.size w v 5 xs.length (xs.flatMap Ingot.put)) (hn : xs.length ≤ 1048576) (hok : ∀ x ∈ xs, x.ok) (hr : validIngotS xs = r) :
    Calls Try.prog 64 #[v] w fun e w' => e = .returned (.bool r) ∧ Below w.heap.size w w' := by
  subst hr; exact spec_validIngot w v xs h hn hok
theorem impl_ValidIngots_is {r : Bool} (w : World) (v : Value) (xs : List Ingot) (h : Rd w.heap.size w v 5 xs.length (xs.flatMap Ingot.put)) (hn : xs.length ≤ 1048576) (hok : ∀ x ∈ xs, x.ok) (hr : validIngotS xs = r) :
    Calls Try.prog 67 #[v] w fun e w' => e = .returned (.bool r) ∧ Below w.heap.size w w' := by
  subst hr; exact impl_validIngot w v xs h hn hok
theorem quot_bd (t m : Int) (h1 : 0 ≤ t ∧ t ≤ 320000000000000) (h2 : 1 ≤ m) : 0 ≤ t / m ∧ t / m ≤ 320000000000000 := by
  refine ⟨Int.ediv_nonneg (by omega) (by omega), ?_⟩
  have := Int.ediv_le_self m h1.1
  omega
end Go.Proofs.Ytdliabgdgjboiaa
