/- Some element of a list: what loops that look for one keep. -/
import Derived.Test.YtgjcmfacdnngjaaRows
import Derived.Test.YtgjcmfacdnngjaaBase
namespace Go.Proofs.Ytgjcmfacdnngjaa
open Go.ChangeShapes Go.WideShapes Go.ChangeAt Go.RowKit Go.Deep Go.Joins
set_option linter.unusedVariables false
set_option maxRecDepth 100000
set_option linter.unusedSimpArgs false
theorem any_take {α : Type} {p : α → Bool} (xs : List α) (k : Nat) (h : k < xs.length) : (xs.take (k + 1)).any p = ((xs.take k).any p || p xs[k]) := by
  rw [List.take_succ_eq_append_getElem h, List.any_append]; simp
theorem any_at {α : Type} {p : α → Bool} (xs : List α) (k : Nat) (h : k < xs.length) (hp : p xs[k] = true) : xs.any p = true := by
  rw [List.any_eq_true]; exact ⟨xs[k], List.getElem_mem h, hp⟩
theorem any_full {α : Type} {p : α → Bool} {xs : List α} {k : Nat} (h : (xs.take k).any p = false) (hk : xs.length ≤ k) : xs.any p = false := by
  rwa [List.take_of_length_le hk] at h
theorem any_two {α β : Type} (f : α → β → Bool) (g : β → α → Bool) (hfg : ∀ a b, f a b = g b a) (xs : List α) (ys : List β) : (xs.any fun a => ys.any fun b => f a b) = ys.any fun b => xs.any fun a => g b a := by
  rw [Bool.eq_iff_iff]
  simp only [List.any_eq_true]
  constructor
  · rintro ⟨a, ha, b, hb, h⟩; exact ⟨b, hb, a, ha, by rw [← hfg]; exact h⟩
  · rintro ⟨b, hb, a, ha, h⟩; exact ⟨a, ha, b, hb, by rw [hfg]; exact h⟩
end Go.Proofs.Ytgjcmfacdnngjaa
