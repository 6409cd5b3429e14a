/- How the arguments of the laws are read, at this translation's type numbers. -/
import Derived.Test.YtgjcmfacdnngjaaRows
import Derived.Test.YtgjcmfacdnngjaaBase
namespace Go.Proofs.Ytgjcmfacdnngjaa
open Go.ChangeShapes Go.WideShapes Go.ChangeAt Go.RowKit Go.Deep Go.Joins
set_option linter.unusedVariables false
set_option maxRecDepth 100000
set_option linter.unusedSimpArgs false
theorem cells_i64 : Try.prog.cellsOf 2 = 1 := by kernel_rfl
theorem one_i64 {f : Field} (k : Nat) (h : f.type = 2) (ho : f.offset = k) : One Try.prog f k (.int .i64) := ⟨by rw [h]; exact Try.underlying2, by rw [h]; exact cells_i64, ho⟩
theorem cells_str : Try.prog.cellsOf 9 = 1 := by kernel_rfl
theorem one_str {f : Field} (k : Nat) (h : f.type = 9) (ho : f.offset = k) : One Try.prog f k .string := ⟨by rw [h]; exact Try.underlying9, by rw [h]; exact cells_str, ho⟩

theorem open_Bytes : Opens Try.prog 22 (Value × List UInt8) (fun y => [y.1]) (fun W y => Rd W.heap.size W y.1 1 y.2.length (y.2.flatMap fun n => [.int .u8 n.toNat]) ∧ y.2.length ≤ maxLen ∧ ∀ x ∈ y.2, True) :=
  opens_slice Try.underlying22 (by kernel_rfl) (by decide) (opens_u8 Try.underlying5) (fun _ => rfl)
theorem open_Ints : Opens Try.prog 32 (Value × List Int) (fun y => [y.1]) (fun W y => Rd W.heap.size W y.1 1 y.2.length (y.2.flatMap fun n => [.int .i64 n]) ∧ y.2.length ≤ maxLen ∧ ∀ x ∈ y.2, I64 x) :=
  opens_slice Try.underlying32 (by kernel_rfl) (by decide) (opens_i64 Try.underlying2) (fun _ => rfl)
end Go.Proofs.Ytgjcmfacdnngjaa
