/- AddSpot: both sides compute the same. -/
import Derived.Test.YtkolgfmjajlpgaaDoorRows
import Derived.Test.YtkolgfmjajlpgaaDoorAddP
import Derived.Test.YtkolgfmjajlpgaaDoorAddS
import Derived.Test.YtkolgfmjajlpgaaDoorSplit
namespace Go.Proofs.YtkolgfmjajlpgaaDoor
open Go.ChangeShapes Go.WideShapes Go.ChangeAt Go.RowKit Go.Deep Go.Joins
set_option linter.unusedVariables false
set_option maxRecDepth 100000
set_option linter.unusedSimpArgs false
def addC (xs : List Spot) (s : Spot) : Int := if validSpotS xs = true then (if spotB s = true then (addL s xs).2 else 2) else 1
def addR (xs : List Spot) (s : Spot) : List Spot := if validSpotS xs = true ∧ spotB s = true then (addL s xs).1 else []
theorem add_bad {xs : List Spot} {s : Spot} (h : validSpotS xs = false) : addC xs s = 1 ∧ addR xs s = [] := by
  unfold addC addR
  rw [h]
  exact ⟨rfl, if_neg (fun q => by cases q.1)⟩
theorem add_range {xs : List Spot} {s : Spot} (h : validSpotS xs = true) (h2 : spotB s = false) : addC xs s = 2 ∧ addR xs s = [] := by
  unfold addC addR
  rw [h, h2]
  exact ⟨rfl, if_neg (fun q => by cases q.2)⟩
theorem add_good {xs : List Spot} {s : Spot} (h : validSpotS xs = true) (h2 : spotB s = true) : addC xs s = (addL s xs).2 ∧ addR xs s = (addL s xs).1 := by
  unfold addC addR
  rw [h, h2]
  exact ⟨rfl, if_pos ⟨rfl, rfl⟩⟩
theorem endA_len (s : Spot) (r : Option (List Spot × Bool)) : (endA s r).1.length ≤ 16 := by
  cases r with
  | none => exact Nat.zero_le _
  | some p =>
    obtain ⟨o, d⟩ := p
    show (if 16 < (if d then o else o ++ [s]).length then (([], 5) : List Spot × Int) else (if d then o else o ++ [s], 0)).1.length ≤ 16
    by_cases h : 16 < (if d then o else o ++ [s]).length
    · rw [if_pos h]; exact Nat.zero_le _
    · rw [if_neg h]; exact Nat.le_of_not_lt h
theorem addL_len (s : Spot) (xs : List Spot) : (addL s xs).1.length ≤ 16 := endA_len s _
theorem addR_len (xs : List Spot) (s : Spot) : (addR xs s).length ≤ 16 := by
  unfold addR
  split
  · exact addL_len s xs
  · exact Nat.zero_le _
theorem weights_of {xs : List Spot} (h : ∀ x ∈ xs, spotB x = true) : ∀ x ∈ xs, -1000 ≤ x.weight ∧ x.weight ≤ 1000 := fun x hx => (spotB_nums (h x hx)).2
end Go.Proofs.YtkolgfmjajlpgaaDoor
