/- Lists that are valid element by element, their keys rising. -/
import Derived.Test.YtkfpoabgbailjaaRows
import Derived.Test.YtkfpoabgbailjaaBase
namespace Go.Proofs.Ytkfpoabgbailjaa
open Go.ChangeShapes Go.WideShapes Go.ChangeAt Go.RowKit Go.Deep Go.Joins
set_option linter.unusedVariables false
set_option maxRecDepth 100000
set_option linter.unusedSimpArgs false
def allK (f : Nat → Bool) : Nat → Bool
  | 0 => true
  | k + 1 => allK f k && f k
theorem allK_succ (f : Nat → Bool) (k : Nat) : allK f (k + 1) = (allK f k && f k) := rfl
theorem allK_false (f : Nat → Bool) (n k : Nat) (h : k < n) (hf : f k = false) : allK f n = false := by
  induction n with
  | zero => omega
  | succ n ih =>
    rw [allK_succ]
    by_cases hk : k = n
    · subst hk; simp [hf]
    · rw [ih (by omega)]; rfl
theorem allK_true {f : Nat → Bool} {n : Nat} (h : allK f n = true) (k : Nat) (hk : k < n) : f k = true := by
  cases hf : f k with
  | true => rfl
  | false => rw [allK_false f n k hk hf] at h; cases h
/-- element k is valid, and behind the one before it -/
def stepB {α : Type} (ok : α → Bool) (lt : α → α → Bool) (xs : List α) (k : Nat) : Bool :=
  match xs[k]? with
  | none => true
  | some x => ok x && (match k with
    | 0 => true
    | j + 1 => match xs[j]? with
      | none => true
      | some y => lt y x)
section
variable {α : Type} {ok : α → Bool} {lt : α → α → Bool} {xs : List α} {k : Nat}
theorem stepB_no (h : k < xs.length) (hO : ok xs[k] = false) : stepB ok lt xs k = false := by
  unfold stepB
  rw [List.getElem?_eq_getElem h]
  simp [hO]
theorem stepB_zero (h : 0 < xs.length) (hO : ok xs[0] = true) : stepB ok lt xs 0 = true := by
  unfold stepB
  rw [List.getElem?_eq_getElem h]
  simp [hO]
theorem stepB_pos (h : k < xs.length) (hp : 0 < k) (hO : ok xs[k] = true) : stepB ok lt xs k = lt xs[k - 1] xs[k] := by
  match k, hp with
  | j + 1, _ =>
    unfold stepB
    rw [List.getElem?_eq_getElem h]
    simp [hO, List.getElem?_eq_getElem (show j < xs.length by omega)]
theorem stepB_lt (h : k < xs.length) (hp : 0 < k) (hO : ok xs[k] = true) (hT : lt xs[k - 1] xs[k] = false) : stepB ok lt xs k = false := by rw [stepB_pos h hp hO, hT]
theorem stepB_yes (h : k < xs.length) (hp : 0 < k) (hO : ok xs[k] = true) (hT : lt xs[k - 1] xs[k] = true) : stepB ok lt xs k = true := by rw [stepB_pos h hp hO, hT]
end
end Go.Proofs.Ytkfpoabgbailjaa
