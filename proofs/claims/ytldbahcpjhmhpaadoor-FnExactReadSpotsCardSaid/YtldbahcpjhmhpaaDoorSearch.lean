/- What a binary search finds. -/
import Derived.Test.YtldbahcpjhmhpaaDoorRows
import Derived.Test.YtldbahcpjhmhpaaDoorBase
namespace Go.Proofs.YtldbahcpjhmhpaaDoor
open Go.ChangeShapes Go.WideShapes Go.ChangeAt Go.RowKit Go.Deep Go.Joins
set_option linter.unusedVariables false
set_option maxRecDepth 100000
set_option linter.unusedSimpArgs false
/-- the comparisons fall: less, then not less -/
def Falls (c : Nat → Int) (n : Nat) : Prop := ∀ a b, a ≤ b → b < n → c b < 0 → c a < 0
/-- what is known of the part that is left -/
def Part (c : Nat → Int) (n a b : Nat) : Prop := Falls c n → (∀ k, k < a → c k < 0) ∧ (∀ k, b ≤ k → k < n → 0 ≤ c k)
/-- what is found: all before it are less, all from it on are not -/
def Found (c : Nat → Int) (n i : Nat) : Prop := i ≤ n ∧ Part c n i i
theorem part_start (c : Nat → Int) (n : Nat) : Part c n 0 n := fun _ => ⟨fun k h => by omega, fun k h1 h2 => by omega⟩
theorem part_up {c : Nat → Int} {n a b m : Nat} (h : Part c n a b) (hm : m < n) (hc : c m < 0) : Part c n (m + 1) b := fun hf => ⟨fun k hk => hf k m (by omega) hm hc, (h hf).2⟩
theorem part_down {c : Nat → Int} {n a b m : Nat} (h : Part c n a b) (hc : 0 ≤ c m) : Part c n a m := fun hf => ⟨(h hf).1, fun k h1 h2 => by
  rcases Int.lt_or_le (c k) 0 with h3 | h3
  · have := hf m k h1 h2 h3; omega
  · exact h3⟩
theorem part_end {c : Nat → Int} {n a : Nat} (h : Part c n a a) (ha : a ≤ n) : Found c n a := ⟨ha, h⟩
end Go.Proofs.YtldbahcpjhmhpaaDoor
