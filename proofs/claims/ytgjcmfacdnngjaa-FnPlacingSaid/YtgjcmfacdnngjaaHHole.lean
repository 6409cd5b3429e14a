/- The helpers of the laws at Hole: copies, comparisons, sizes. -/
import Derived.Test.YtgjcmfacdnngjaaRows
import Derived.Test.YtgjcmfacdnngjaaCopyInts
namespace Go.Proofs.Ytgjcmfacdnngjaa
open Go.ChangeShapes Go.WideShapes Go.ChangeAt Go.RowKit Go.Deep Go.Joins
set_option linter.unusedVariables false
set_option maxRecDepth 100000
set_option linter.unusedSimpArgs false
theorem Hole_len (xs : List Hole) : (xs.flatMap Hole.put).length = xs.length * 3 := flat_len xs (fun _ _ => rfl)
theorem Hole_get0 (xs : List Hole) (k : Nat) (h : k < xs.length) : (xs.flatMap Hole.put)[k * 3 + 0]? = some (.string xs[k].name) := by
  rw [flat_get (f := Hole.put) (s := 3) xs (fun _ _ => rfl) (j := 0) (by omega) k, List.getElem?_eq_getElem h]
  rfl
theorem Hole_get1 (xs : List Hole) (k : Nat) (h : k < xs.length) : (xs.flatMap Hole.put)[k * 3 + 1]? = some (.int .i64 xs[k].radius) := by
  rw [flat_get (f := Hole.put) (s := 3) xs (fun _ _ => rfl) (j := 1) (by omega) k, List.getElem?_eq_getElem h]
  rfl
theorem Hole_get2 (xs : List Hole) (k : Nat) (h : k < xs.length) : (xs.flatMap Hole.put)[k * 3 + 2]? = some (.int .i64 xs[k].depth) := by
  rw [flat_get (f := Hole.put) (s := 3) xs (fun _ _ => rfl) (j := 2) (by omega) k, List.getElem?_eq_getElem h]
  rfl
theorem Hole_info : (Try.prog.info? 38).map (fun i => (i.zero, i.size, i.bytes)) = some (some (.agg #[.string ByteArray.empty, .int .i64 0, .int .i64 0]), 3, 32) := by kernel_rfl

def wtHole (xs : List Hole) : Nat := (xs.map fun x => x.name.size).sum
theorem wtHole_succ (xs : List Hole) (k : Nat) (h : k < xs.length) : wtHole (xs.take (k + 1)) = wtHole (xs.take k) + xs[k].name.size := by
  unfold wtHole
  rw [List.take_succ_eq_append_getElem h, List.map_append, List.sum_append]
  simp only [List.map_cons, List.map_nil, List.sum_cons, List.sum_nil, Nat.add_zero]
theorem wtHole_le (xs : List Hole) (k : Nat) : wtHole (xs.take k) ≤ wtHole xs := by
  have h : wtHole xs = wtHole (xs.take k) + wtHole (xs.drop k) := by
    unfold wtHole
    rw [← List.sum_append, ← List.map_append, List.take_append_drop]
  omega
theorem wtHole_mem (xs : List Hole) (x : Hole) (h : x ∈ xs) : x.name.size ≤ wtHole xs := by
  unfold wtHole
  exact le_sum_of (List.mem_map.2 ⟨x, h, rfl⟩)
end Go.Proofs.Ytgjcmfacdnngjaa
