/- The helpers of the laws at Ingot: copies, comparisons, sizes. -/
import Derived.Test.YtklgkbiobggbiaaDoorRows
import Derived.Test.YtklgkbiobggbiaaDoorCopyInts
import Derived.Test.YtklgkbiobggbiaaDoorAlloy
import Derived.Test.YtklgkbiobggbiaaDoorHAlloy
namespace Go.Proofs.YtklgkbiobggbiaaDoor
open Go.ChangeShapes Go.WideShapes Go.ChangeAt Go.RowKit Go.Deep Go.Joins
set_option linter.unusedVariables false
set_option maxRecDepth 100000
set_option linter.unusedSimpArgs false
theorem Ingot_len (xs : List Ingot) : (xs.flatMap Ingot.put).length = xs.length * 5 := flat_len xs (fun _ _ => rfl)
theorem Ingot_get0 (xs : List Ingot) (k : Nat) (h : k < xs.length) : (xs.flatMap Ingot.put)[k * 5 + 0]? = some (.string xs[k].id) := by
  rw [flat_get (f := Ingot.put) (s := 5) xs (fun _ _ => rfl) (j := 0) (by omega) k, List.getElem?_eq_getElem h]
  rfl
theorem Ingot_get1 (xs : List Ingot) (k : Nat) (h : k < xs.length) : (xs.flatMap Ingot.put)[k * 5 + 1]? = some (.int .i64 xs[k].mass) := by
  rw [flat_get (f := Ingot.put) (s := 5) xs (fun _ _ => rfl) (j := 1) (by omega) k, List.getElem?_eq_getElem h]
  rfl
theorem Ingot_get2 (xs : List Ingot) (k : Nat) (h : k < xs.length) : (xs.flatMap Ingot.put)[k * 5 + 2]? = some (.int .i64 xs[k].alloy.copper) := by
  rw [flat_get (f := Ingot.put) (s := 5) xs (fun _ _ => rfl) (j := 2) (by omega) k, List.getElem?_eq_getElem h]
  rfl
theorem Ingot_get3 (xs : List Ingot) (k : Nat) (h : k < xs.length) : (xs.flatMap Ingot.put)[k * 5 + 3]? = some (.int .i64 xs[k].alloy.tin) := by
  rw [flat_get (f := Ingot.put) (s := 5) xs (fun _ _ => rfl) (j := 3) (by omega) k, List.getElem?_eq_getElem h]
  rfl
theorem Ingot_get4 (xs : List Ingot) (k : Nat) (h : k < xs.length) : (xs.flatMap Ingot.put)[k * 5 + 4]? = some (.int .i64 xs[k].alloy.other) := by
  rw [flat_get (f := Ingot.put) (s := 5) xs (fun _ _ => rfl) (j := 4) (by omega) k, List.getElem?_eq_getElem h]
  rfl
theorem Ingot_info : (Tryd.prog.info? 25).map (fun i => (i.zero, i.size, i.bytes)) = some (some (.agg #[.string ByteArray.empty, .int .i64 0, .int .i64 0, .int .i64 0, .int .i64 0]), 5, 48) := by kernel_rfl

theorem eqIngot (x : Ingot) (w : World) : Calls Tryd.prog 10 #[.agg #[.string x.id, .int .i64 x.mass, .int .i64 x.alloy.copper, .int .i64 x.alloy.tin, .int .i64 x.alloy.other], .agg #[.string x.id, .int .i64 x.mass, .int .i64 x.alloy.copper, .int .i64 x.alloy.tin, .int .i64 x.alloy.other]] w fun e w' => e = .returned (.bool true) ∧ Below w.heap.size w w' := by
  go_enter Tryd.func10, Tryd.ntmps10
  repeat (go_wp2_with fail; go_quiet (fail))
  go_wp2_with fail
  refine (eqAlloy x.alloy _).mono ?_; rintro e w1 ⟨rfl, b1⟩
  go_wp2_with fail
  go_ret
  exact ⟨rfl, Below.trans (by (repeat' (first | (with_reducible exact Below.refl _ _) | (with_reducible assumption) | (with_reducible refine below_dn ?_ _) | (with_reducible refine Below.drew ?_) | (with_reducible refine Below.alloc ?_ ?_ _) | (with_reducible refine Below.setCell ?_ ?_ _) | go_size))) (b1.mono (by simp; try omega))⟩
def wtIngot (xs : List Ingot) : Nat := (xs.map fun x => x.id.size).sum
theorem wtIngot_succ (xs : List Ingot) (k : Nat) (h : k < xs.length) : wtIngot (xs.take (k + 1)) = wtIngot (xs.take k) + xs[k].id.size := by
  unfold wtIngot
  rw [List.take_succ_eq_append_getElem h, List.map_append, List.sum_append]
  simp only [List.map_cons, List.map_nil, List.sum_cons, List.sum_nil, Nat.add_zero]
theorem wtIngot_le (xs : List Ingot) (k : Nat) : wtIngot (xs.take k) ≤ wtIngot xs := by
  have h : wtIngot xs = wtIngot (xs.take k) + wtIngot (xs.drop k) := by
    unfold wtIngot
    rw [← List.sum_append, ← List.map_append, List.take_append_drop]
  omega
theorem wtIngot_mem (xs : List Ingot) (x : Ingot) (h : x ∈ xs) : x.id.size ≤ wtIngot xs := by
  unfold wtIngot
  exact le_sum_of (List.mem_map.2 ⟨x, h, rfl⟩)
end Go.Proofs.YtklgkbiobggbiaaDoor
