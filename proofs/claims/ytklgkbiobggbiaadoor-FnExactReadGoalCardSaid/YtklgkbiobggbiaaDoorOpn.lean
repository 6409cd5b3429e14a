/- How the arguments of the laws are read, at this translation's type numbers. -/
import Derived.Test.YtklgkbiobggbiaaDoorRows
import Derived.Test.YtklgkbiobggbiaaDoorBase
namespace Go.Proofs.YtklgkbiobggbiaaDoor
open Go.ChangeShapes Go.WideShapes Go.ChangeAt Go.RowKit Go.Deep Go.Joins
set_option linter.unusedVariables false
set_option maxRecDepth 100000
set_option linter.unusedSimpArgs false
theorem cells_i64 : Tryd.prog.cellsOf 2 = 1 := by kernel_rfl
theorem one_i64 {f : Field} (k : Nat) (h : f.type = 2) (ho : f.offset = k) : One Tryd.prog f k (.int .i64) := ⟨by rw [h]; exact Tryd.underlying2, by rw [h]; exact cells_i64, ho⟩
theorem cells_str : Tryd.prog.cellsOf 9 = 1 := by kernel_rfl
theorem one_str {f : Field} (k : Nat) (h : f.type = 9) (ho : f.offset = k) : One Tryd.prog f k .string := ⟨by rw [h]; exact Tryd.underlying9, by rw [h]; exact cells_str, ho⟩

theorem open_Bytes : Opens Tryd.prog 49 (Value × List UInt8) (fun y => [y.1]) (fun W y => Rd W.heap.size W y.1 1 y.2.length (y.2.flatMap fun n => [.int .u8 n.toNat]) ∧ y.2.length ≤ maxLen ∧ ∀ x ∈ y.2, True) :=
  opens_slice Tryd.underlying49 (by kernel_rfl) (by decide) (opens_u8 Tryd.underlying5) (fun _ => rfl)
theorem open_Ints : Opens Tryd.prog 53 (Value × List Int) (fun y => [y.1]) (fun W y => Rd W.heap.size W y.1 1 y.2.length (y.2.flatMap fun n => [.int .i64 n]) ∧ y.2.length ≤ maxLen ∧ ∀ x ∈ y.2, I64 x) :=
  opens_slice Tryd.underlying53 (by kernel_rfl) (by decide) (opens_i64 Tryd.underlying2) (fun _ => rfl)
end Go.Proofs.YtklgkbiobggbiaaDoor
