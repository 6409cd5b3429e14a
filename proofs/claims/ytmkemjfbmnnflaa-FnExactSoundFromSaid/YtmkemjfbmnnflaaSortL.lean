/- slices.Sort at int64 in this program. -/
import Derived.Test.YtmkemjfbmnnflaaRows
import Derived.Test.YtmkemjfbmnnflaaSortOwn
namespace Go.Proofs.Ytmkemjfbmnnflaa
open Go.ChangeShapes Go.WideShapes Go.ChangeAt Go.RowKit Go.Deep Go.Joins
set_option linter.unusedVariables false
set_option maxRecDepth 100000
set_option linter.unusedSimpArgs false
open Go.Shelf in
shelf_lay_g SlLaysM.n5 Slgm 5 at Try 70 as Try.sortL
theorem slices_Sort_i64 (w : World) (base : Nat) (e : TypeId) (v : Value) (n : Nat) (zs : List Int) (h : w.ownsRow base e 1 v n (zs.flatMap putI)) (hn : n ≤ 1048576) :
    Calls Try.prog 70 #[v] w fun e' w' => e' = .returned (.tuple #[]) ∧ w'.ownsRow base e 1 v n ((sortI zs).flatMap putI) ∧ w.grownBy w' v.ownBlock :=
  sort_own Try.sortL h hn
end Go.Proofs.Ytmkemjfbmnnflaa
