/- What is asked of ingots and a melt. -/
import Derived.Test.YtdliabgdgjboiaaRows
import Derived.Test.YtdliabgdgjboiaaMetalS
namespace Go.Proofs.Ytdliabgdgjboiaa
open Go.ChangeShapes Go.WideShapes Go.ChangeAt Go.RowKit Go.Deep Go.Joins
set_option linter.unusedVariables false
set_option maxRecDepth 100000
set_option linter.unusedSimpArgs false
theorem askS_zero {xs : List Ingot} {x : Melt} (h : askS xs x = 0) : validIngotS xs = true ∧ meltB x = true ∧ ∃ cs, chosenL xs x.ingots = some cs := by
  unfold askS at h
  cases hV : validIngotS xs <;> cases hM : meltB x <;> rw [hV, hM] at h <;> simp at h
  refine ⟨rfl, rfl, ?_⟩
  exact Option.ne_none_iff_exists'.1 h
theorem ask_choice {xs : List Ingot} {x : Melt} {cs : List Int} (hV : validIngotS xs = true) (hM : meltB x = true) (hc : chosenL xs x.ingots = some cs) : choiceB xs.length cs = true :=
  choice_of (rises_of hV) (risesT_of (meltB_parts hM).2.2.2.1) hc
theorem chosen_pos {xs : List Ingot} {x : Melt} {cs : List Int} (hM : meltB x = true) (hc : chosenL xs x.ingots = some cs) : 0 < cs.length := by
  have h0 : chosenL xs (x.ingots.take x.ingots.length) = some cs := by rw [take_all (Nat.le_refl _)]; exact hc
  rw [chosen_len (Nat.le_refl _) h0]
  have := (meltB_parts hM).2.1
  omega
end Go.Proofs.Ytdliabgdgjboiaa
