/- Equality of two spots, as the language has it. -/
import Derived.Test.YtkfpoabgbailjaaRows
import Derived.Test.YtkfpoabgbailjaaHSpot
import Derived.LaidEql
namespace Go.Proofs.Ytkfpoabgbailjaa
open Go.ChangeShapes Go.WideShapes Go.ChangeAt Go.RowKit Go.Deep Go.Joins
set_option linter.unusedVariables false
set_option maxRecDepth 100000
set_option linter.unusedSimpArgs false
theorem eqIn_i64 {P : Program} (n : Nat) {t : TypeId} (ht : P.underlying t = some (.int .i64)) (a c : Int) (w : World) : (Op.equalIn (n + 1) t (.int .i64 a) (.int .i64 c)).run P w = .ok (a == c) w := by
  simp [Op.equalIn, run_underlying ht]
theorem part0_spot (x y : Value) (w : World) : (part 2 #[x, y] 0).run Try.prog w = .ok x w := by kernel_rfl
theorem part1_spot (x y : Value) (w : World) : (part 2 #[x, y] 1).run Try.prog w = .ok y w := by kernel_rfl
theorem eqIn_spot (n : Nat) (a b c d : Int) (w : World) : (Op.equalIn (n + 2) 92 (.agg #[.int .i64 a, .int .i64 b]) (.agg #[.int .i64 c, .int .i64 d])).run Try.prog w = .ok (a == c && b == d) w := by
  unfold Op.equalIn
  simp [run_underlying Try.underlying92, part0_spot, part1_spot, eqIn_i64 n Try.underlying2]
  by_cases h1 : a = c <;> by_cases h2 : b = d <;> simp [h1, h2]
def spotEq (x y : Spot) : Bool := x.angle == y.angle && x.weight == y.weight
theorem spotEq_iff {x y : Spot} : spotEq x y = true ↔ x = y := by
  unfold spotEq
  cases x; cases y
  simp
theorem neq_spot (x y : Spot) (w : World) : (binOp .neq 92 (.agg #[.int .i64 x.angle, .int .i64 x.weight]) (.agg #[.int .i64 y.angle, .int .i64 y.weight])).run Try.prog w = .ok (.bool (!spotEq x y)) w := by
  have h := eqIn_spot 9998 x.angle x.weight y.angle y.weight w
  simp only [binOp, Op.equal]
  show (Sem.run Try.prog (do let x ← Op.equalIn (9998 + 2) 92 _ _; pure (Value.bool !x)) w) = _
  simp [h, spotEq]
/-- element k of both -/
def atB {α : Type} (f : α → α → Bool) (xs ys : List α) (k : Nat) : Bool :=
  match xs[k]?, ys[k]? with
  | some x, some y => f x y
  | _, _ => true
theorem atB_eq {α : Type} {f : α → α → Bool} {xs ys : List α} {k : Nat} (h : k < xs.length) (h2 : k < ys.length) : atB f xs ys k = f xs[k] ys[k] := by
  unfold atB
  rw [List.getElem?_eq_getElem h, List.getElem?_eq_getElem h2]
end Go.Proofs.Ytkfpoabgbailjaa
