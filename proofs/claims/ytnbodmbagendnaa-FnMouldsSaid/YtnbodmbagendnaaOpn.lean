/- How the arguments of the laws are read, at this translation's type numbers. -/
import Derived.Test.YtnbodmbagendnaaRows
import Derived.Test.YtnbodmbagendnaaBase
namespace Go.Proofs.Ytnbodmbagendnaa
open Go.ChangeShapes Go.WideShapes Go.ChangeAt Go.RowKit Go.Deep Go.Joins
set_option linter.unusedVariables false
set_option maxRecDepth 100000
set_option linter.unusedSimpArgs false
theorem cells_i64 : Try.prog.cellsOf 2 = 1 := by kernel_rfl
theorem one_i64 {f : Field} (k : Nat) (h : f.type = 2) (ho : f.offset = k) : One Try.prog f k (.int .i64) := ⟨by rw [h]; exact Try.underlying2, by rw [h]; exact cells_i64, ho⟩
theorem cells_str : Try.prog.cellsOf 9 = 1 := by kernel_rfl
theorem one_str {f : Field} (k : Nat) (h : f.type = 9) (ho : f.offset = k) : One Try.prog f k .string := ⟨by rw [h]; exact Try.underlying9, by rw [h]; exact cells_str, ho⟩

theorem open_Bytes : Opens Try.prog 22 (Value × List UInt8) (fun y => [y.1]) (fun W y => Rd W.heap.size W y.1 1 y.2.length (y.2.flatMap fun n => [.int .u8 n.toNat]) ∧ y.2.length ≤ maxLen ∧ ∀ x ∈ y.2, True) :=
  opens_slice Try.underlying22 (by kernel_rfl) (by decide) (opens_u8 Try.underlying5) (fun _ => rfl)
theorem open_Ints : Opens Try.prog 40 (Value × List Int) (fun y => [y.1]) (fun W y => Rd W.heap.size W y.1 1 y.2.length (y.2.flatMap fun n => [.int .i64 n]) ∧ y.2.length ≤ maxLen ∧ ∀ x ∈ y.2, I64 x) :=
  opens_slice Try.underlying40 (by kernel_rfl) (by decide) (opens_i64 Try.underlying2) (fun _ => rfl)



theorem open_Alloy : Opens Try.prog 109 Alloy Alloy.put (fun _ x => x.ok) := opens_alloy Try.underlying109 (by kernel_rfl) (one_i64 0 rfl rfl) (one_i64 1 rfl rfl) (one_i64 2 rfl rfl)

theorem open_Ingot : Opens Try.prog 111 Ingot Ingot.put (fun _ x => x.ok) := opens_ingot Try.underlying111 (by kernel_rfl) (one_str 0 rfl rfl) (one_i64 1 rfl rfl) ⟨by kernel_rfl, rfl⟩ open_Alloy
theorem open_Ingots : Opens Try.prog 49 (Value × List Ingot) (fun y => [y.1]) (fun W y => Rd W.heap.size W y.1 5 y.2.length (y.2.flatMap Ingot.put) ∧ y.2.length ≤ maxLen ∧ ∀ x ∈ y.2, x.ok) :=
  opens_slice Try.underlying49 (by kernel_rfl) (by decide) open_Ingot (fun _ => rfl)








theorem open_Melt : Opens Try.prog 53 Melt Melt.put Melt.ok := opens_melt (e := 9) Try.underlying53 (by kernel_rfl) (one_str 0 rfl rfl) ⟨Try.underlying51, by kernel_rfl, rfl⟩ (one_i64 2 rfl rfl) cells_str Try.underlying9
theorem open_Melts : Opens Try.prog 50 (Value × List Melt) (fun y => [y.1]) (fun W y => Rd W.heap.size W y.1 3 y.2.length (y.2.flatMap Melt.put) ∧ y.2.length ≤ maxLen ∧ ∀ x ∈ y.2, x.ok W) :=
  opens_slice Try.underlying50 (by kernel_rfl) (by decide) open_Melt (fun _ => rfl)
end Go.Proofs.Ytnbodmbagendnaa
