/- Lists of texts: toStringS, eqStringS, szStringS. -/
import Derived.Test.YtgjcmfacdnngjaaRows
import Derived.Test.YtgjcmfacdnngjaaCopyInts
namespace Go.Proofs.Ytgjcmfacdnngjaa
open Go.ChangeShapes Go.WideShapes Go.ChangeAt Go.RowKit Go.Deep Go.Joins
set_option linter.unusedVariables false
set_option maxRecDepth 100000
set_option linter.unusedSimpArgs false
theorem putStr_len (xs : List ByteArray) : (xs.flatMap putStr).length = xs.length * 1 := flat_len xs (fun _ _ => rfl)
theorem putStr_get (xs : List ByteArray) (k : Nat) (h : k < xs.length) : (xs.flatMap putStr)[k]? = some (.string xs[k]) := by
  have := flat_get (f := putStr) (s := 1) xs (fun _ _ => rfl) (j := 0) (by omega) k
  simp only [Nat.mul_one, Nat.add_zero] at this
  rw [this, List.getElem?_eq_getElem h]
  rfl
theorem info_str : (Try.prog.info? 9).map (fun i => (i.zero, i.size, i.bytes)) = some (some (.string ByteArray.empty), 1, 16) := by kernel_rfl

def wtStr (xs : List ByteArray) : Nat := (xs.map fun x => x.size).sum
theorem wtStr_succ (xs : List ByteArray) (k : Nat) (h : k < xs.length) : wtStr (xs.take (k + 1)) = wtStr (xs.take k) + xs[k].size := by
  unfold wtStr
  rw [List.take_succ_eq_append_getElem h, List.map_append, List.sum_append]
  simp only [List.map_cons, List.map_nil, List.sum_cons, List.sum_nil, Nat.add_zero]
theorem wtStr_le (xs : List ByteArray) (k : Nat) : wtStr (xs.take k) ≤ wtStr xs := by
  have h : wtStr xs = wtStr (xs.take k) + wtStr (xs.drop k) := by
    unfold wtStr
    rw [← List.sum_append, ← List.map_append, List.take_append_drop]
  omega
end Go.Proofs.Ytgjcmfacdnngjaa
