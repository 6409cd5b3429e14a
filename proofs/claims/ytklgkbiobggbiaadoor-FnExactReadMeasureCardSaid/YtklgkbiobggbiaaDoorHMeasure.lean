/- The helpers of the laws at Measure: copies, comparisons, sizes. -/
import Derived.Test.YtklgkbiobggbiaaDoorRows
import Derived.Test.YtklgkbiobggbiaaDoorCopyInts
namespace Go.Proofs.YtklgkbiobggbiaaDoor
open Go.ChangeShapes Go.WideShapes Go.ChangeAt Go.RowKit Go.Deep Go.Joins
set_option linter.unusedVariables false
set_option maxRecDepth 100000
set_option linter.unusedSimpArgs false
theorem Measure_len (xs : List Measure) : (xs.flatMap Measure.put).length = xs.length * 3 := flat_len xs (fun _ _ => rfl)
theorem Measure_get0 (xs : List Measure) (k : Nat) (h : k < xs.length) : (xs.flatMap Measure.put)[k * 3 + 0]? = some (.string xs[k].bell) := by
  rw [flat_get (f := Measure.put) (s := 3) xs (fun _ _ => rfl) (j := 0) (by omega) k, List.getElem?_eq_getElem h]
  rfl
theorem Measure_get1 (xs : List Measure) (k : Nat) (h : k < xs.length) : (xs.flatMap Measure.put)[k * 3 + 1]? = some (.int .i64 xs[k].part) := by
  rw [flat_get (f := Measure.put) (s := 3) xs (fun _ _ => rfl) (j := 1) (by omega) k, List.getElem?_eq_getElem h]
  rfl
theorem Measure_get2 (xs : List Measure) (k : Nat) (h : k < xs.length) : (xs.flatMap Measure.put)[k * 3 + 2]? = some (.int .i64 xs[k].value) := by
  rw [flat_get (f := Measure.put) (s := 3) xs (fun _ _ => rfl) (j := 2) (by omega) k, List.getElem?_eq_getElem h]
  rfl
theorem Measure_info : (Tryd.prog.info? 31).map (fun i => (i.zero, i.size, i.bytes)) = some (some (.agg #[.string ByteArray.empty, .int .i64 0, .int .i64 0]), 3, 32) := by kernel_rfl

theorem eqMeasure (x : Measure) (w : World) : Calls Tryd.prog 13 #[.agg #[.string x.bell, .int .i64 x.part, .int .i64 x.value], .agg #[.string x.bell, .int .i64 x.part, .int .i64 x.value]] w fun e w' => e = .returned (.bool true) ∧ Below w.heap.size w w' := by
  go_enter Tryd.func13, Tryd.ntmps13
  repeat (go_wp2_with fail; go_quiet (fail))
  go_wp2_with fail
  go_ret
  exact ⟨rfl, by (repeat' (first | (with_reducible exact Below.refl _ _) | (with_reducible assumption) | (with_reducible refine below_dn ?_ _) | (with_reducible refine Below.drew ?_) | (with_reducible refine Below.alloc ?_ ?_ _) | (with_reducible refine Below.setCell ?_ ?_ _) | go_size))⟩
def wtMeasure (xs : List Measure) : Nat := (xs.map fun x => x.bell.size).sum
theorem wtMeasure_succ (xs : List Measure) (k : Nat) (h : k < xs.length) : wtMeasure (xs.take (k + 1)) = wtMeasure (xs.take k) + xs[k].bell.size := by
  unfold wtMeasure
  rw [List.take_succ_eq_append_getElem h, List.map_append, List.sum_append]
  simp only [List.map_cons, List.map_nil, List.sum_cons, List.sum_nil, Nat.add_zero]
theorem wtMeasure_le (xs : List Measure) (k : Nat) : wtMeasure (xs.take k) ≤ wtMeasure xs := by
  have h : wtMeasure xs = wtMeasure (xs.take k) + wtMeasure (xs.drop k) := by
    unfold wtMeasure
    rw [← List.sum_append, ← List.map_append, List.take_append_drop]
  omega
theorem wtMeasure_mem (xs : List Measure) (x : Measure) (h : x ∈ xs) : x.bell.size ≤ wtMeasure xs := by
  unfold wtMeasure
  exact le_sum_of (List.mem_map.2 ⟨x, h, rfl⟩)
end Go.Proofs.YtklgkbiobggbiaaDoor
