/- toInt64S and eqInt64S. -/
import Derived.Test.YtgjcmfacdnngjaaRows
import Derived.Test.YtgjcmfacdnngjaaMem
namespace Go.Proofs.Ytgjcmfacdnngjaa
open Go.ChangeShapes Go.WideShapes Go.ChangeAt Go.RowKit Go.Deep Go.Joins
set_option linter.unusedVariables false
set_option maxRecDepth 100000
set_option linter.unusedSimpArgs false
def putI (n : Int) : List Value := [.int .i64 n]
theorem putI_len (xs : List Int) : (xs.flatMap putI).length = xs.length * 1 := flat_len xs (fun _ _ => rfl)
theorem putI_get (xs : List Int) (k : Nat) (h : k < xs.length) : (xs.flatMap putI)[k]? = some (.int .i64 xs[k]) := by
  have := flat_get (f := putI) (s := 1) xs (fun _ _ => rfl) (j := 0) (by omega) k
  simp only [Nat.mul_one, Nat.add_zero] at this
  rw [this, List.getElem?_eq_getElem h]
  rfl
theorem info_i64 : (Try.prog.info? 2).map (fun i => (i.zero, i.size, i.bytes)) = some (some (.int .i64 0), 1, 8) := by kernel_rfl

/-- one element more -/
theorem set_snoc {α : Type} (f : α → List Value) (xs : List α) (k : Nat) (h : k < xs.length) : (xs.take (k + 1)).flatMap f = (xs.take k).flatMap f ++ f xs[k] := by
  rw [List.take_succ_eq_append_getElem h, List.flatMap_append]; simp
theorem set1 (A T : List Value) (t0 : Value) (i : Nat) (hA : A.length = i) (v : Value) : (A ++ t0 :: T).set i v = (A ++ [v]) ++ T := by
  subst hA
  simp
theorem cons_of {T : List Value} {n : Nat} (h : T.length = n) (hn : 1 ≤ n) : ∃ t0 T', T = t0 :: T' ∧ T'.length = n - 1 := by
  match T, h with
  | [], h => simp at h; omega
  | t0 :: T', h => exact ⟨t0, T', rfl, by simp at h; omega⟩
end Go.Proofs.Ytgjcmfacdnngjaa
