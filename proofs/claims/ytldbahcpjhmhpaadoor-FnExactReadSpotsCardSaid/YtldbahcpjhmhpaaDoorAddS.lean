/- Adding a spot: the reference. -/
import Derived.Test.YtldbahcpjhmhpaaDoorRows
import Derived.Test.YtldbahcpjhmhpaaDoorAddL
namespace Go.Proofs.YtldbahcpjhmhpaaDoor
open Go.ChangeShapes Go.WideShapes Go.ChangeAt Go.RowKit Go.Deep Go.Joins
set_option linter.unusedVariables false
set_option maxRecDepth 100000
set_option linter.unusedSimpArgs false
theorem spot_one (a b : Int) : ∀ u ∈ [Value.int .i64 a, Value.int .i64 b], u.oneCell' = true := by
  intro u hu
  simp at hu
  rcases hu with rfl | rfl <;> rfl
/-- a store into a block that is not the slice's -/
theorem own_setx {w : World} {base g : Nat} {E E' : TypeId} {s n : Nat} {v : Value} {L L' : List Value} (h : w.ownsRow base E s v n L) (hg : Own w g E' L') (hne : ∀ g', v.ownBlock = some g' → g' ≠ g) (i : Nat) (u : Value) : (w.setCell ⟨g, i, none⟩ u).ownsRow base E s v n L := by
  obtain ⟨h1, h2⟩ := h
  refine ⟨h1, ?_⟩
  rcases h2 with h2 | ⟨g1, cap, cur, rfl, hg0, hg1, rest⟩
  · exact .inl h2
  · refine .inr ⟨g1, cap, cur, rfl, hg0, ?_, rest⟩
    rw [Below.heap_setCell _ _ _ _ (fun e => hne g1 rfl e)]
    exact hg1
theorem own_far {B g : Nat} {a b : World} {E : TypeId} {L : List Value} (h : Below B a b) (o : Own a g E L) (hg : g < B) : Own b g E L := (h.block g hg).trans o
end Go.Proofs.YtldbahcpjhmhpaaDoor
