/- How the arguments of the laws are read, at this translation's type numbers. -/
import Derived.Test.YtmkemjfbmnnflaaDoorRows
import Derived.Test.YtmkemjfbmnnflaaDoorBase
namespace Go.Proofs.YtmkemjfbmnnflaaDoor
open Go.ChangeShapes Go.WideShapes Go.ChangeAt Go.RowKit Go.Deep Go.Joins
set_option linter.unusedVariables false
set_option maxRecDepth 100000
set_option linter.unusedSimpArgs false
theorem cells_i64 : Tryd.prog.cellsOf 2 = 1 := by kernel_rfl
theorem one_i64 {f : Field} (k : Nat) (h : f.type = 2) (ho : f.offset = k) : One Tryd.prog f k (.int .i64) := ⟨by rw [h]; exact Tryd.underlying2, by rw [h]; exact cells_i64, ho⟩
theorem cells_str : Tryd.prog.cellsOf 9 = 1 := by kernel_rfl
theorem one_str {f : Field} (k : Nat) (h : f.type = 9) (ho : f.offset = k) : One Tryd.prog f k .string := ⟨by rw [h]; exact Tryd.underlying9, by rw [h]; exact cells_str, ho⟩

theorem open_Bytes : Opens Tryd.prog 87 (Value × List UInt8) (fun y => [y.1]) (fun W y => Rd W.heap.size W y.1 1 y.2.length (y.2.flatMap fun n => [.int .u8 n.toNat]) ∧ y.2.length ≤ maxLen ∧ ∀ x ∈ y.2, True) :=
  opens_slice Tryd.underlying87 (by kernel_rfl) (by decide) (opens_u8 Tryd.underlying5) (fun _ => rfl)
theorem open_Ints : Opens Tryd.prog 70 (Value × List Int) (fun y => [y.1]) (fun W y => Rd W.heap.size W y.1 1 y.2.length (y.2.flatMap fun n => [.int .i64 n]) ∧ y.2.length ≤ maxLen ∧ ∀ x ∈ y.2, I64 x) :=
  opens_slice Tryd.underlying70 (by kernel_rfl) (by decide) (opens_i64 Tryd.underlying2) (fun _ => rfl)
theorem open_Spot : Opens Tryd.prog 60 Spot Spot.put (fun _ x => x.ok) := opens_spot Tryd.underlying60 (by kernel_rfl) (one_i64 0 rfl rfl) (one_i64 1 rfl rfl)
theorem open_Spots : Opens Tryd.prog 22 (Value × List Spot) (fun y => [y.1]) (fun W y => Rd W.heap.size W y.1 2 y.2.length (y.2.flatMap Spot.put) ∧ y.2.length ≤ maxLen ∧ ∀ x ∈ y.2, x.ok) :=
  opens_slice Tryd.underlying22 (by kernel_rfl) (by decide) open_Spot (fun _ => rfl)
theorem open_Alloy : Opens Tryd.prog 30 Alloy Alloy.put (fun _ x => x.ok) := opens_alloy Tryd.underlying30 (by kernel_rfl) (one_i64 0 rfl rfl) (one_i64 1 rfl rfl) (one_i64 2 rfl rfl)

theorem open_Ingot : Opens Tryd.prog 32 Ingot Ingot.put (fun _ x => x.ok) := opens_ingot Tryd.underlying32 (by kernel_rfl) (one_str 0 rfl rfl) (one_i64 1 rfl rfl) ⟨by kernel_rfl, rfl⟩ open_Alloy


theorem open_Measure : Opens Tryd.prog 50 Measure Measure.put (fun _ x => x.ok) := opens_measure Tryd.underlying50 (by kernel_rfl) (one_str 0 rfl rfl) (one_i64 1 rfl rfl) (one_i64 2 rfl rfl)







theorem open_Melt : Opens Tryd.prog 42 Melt Melt.put Melt.ok := opens_melt (e := 9) Tryd.underlying42 (by kernel_rfl) (one_str 0 rfl rfl) ⟨Tryd.underlying40, by kernel_rfl, rfl⟩ (one_i64 2 rfl rfl) cells_str Tryd.underlying9
end Go.Proofs.YtmkemjfbmnnflaaDoor
