/- How the arguments of the laws are read, at this translation's type numbers. -/
import Derived.Test.YtegfgcgjoojdmaaRows
import Derived.Test.YtegfgcgjoojdmaaBase
namespace Go.Proofs.Ytegfgcgjoojdmaa
open Go.ChangeShapes Go.WideShapes Go.ChangeAt Go.RowKit Go.Deep Go.Joins
set_option linter.unusedVariables false
set_option maxRecDepth 100000
set_option linter.unusedSimpArgs false
theorem cells_i64 : Try.prog.cellsOf 2 = 1 := by kernel_rfl
theorem one_i64 {f : Field} (k : Nat) (h : f.type = 2) (ho : f.offset = k) : One Try.prog f k (.int .i64) := ⟨by rw [h]; exact Try.underlying2, by rw [h]; exact cells_i64, ho⟩
theorem cells_str : Try.prog.cellsOf 9 = 1 := by kernel_rfl
theorem one_str {f : Field} (k : Nat) (h : f.type = 9) (ho : f.offset = k) : One Try.prog f k .string := ⟨by rw [h]; exact Try.underlying9, by rw [h]; exact cells_str, ho⟩

theorem open_Bytes : Opens Try.prog 28 (Value × List UInt8) (fun y => [y.1]) (fun W y => Rd W.heap.size W y.1 1 y.2.length (y.2.flatMap fun n => [.int .u8 n.toNat]) ∧ y.2.length ≤ maxLen ∧ ∀ x ∈ y.2, True) :=
  opens_slice Try.underlying28 (by kernel_rfl) (by decide) (opens_u8 Try.underlying5) (fun _ => rfl)
theorem open_Ints : Opens Try.prog 38 (Value × List Int) (fun y => [y.1]) (fun W y => Rd W.heap.size W y.1 1 y.2.length (y.2.flatMap fun n => [.int .i64 n]) ∧ y.2.length ≤ maxLen ∧ ∀ x ∈ y.2, I64 x) :=
  opens_slice Try.underlying38 (by kernel_rfl) (by decide) (opens_i64 Try.underlying2) (fun _ => rfl)
theorem open_Spot : Opens Try.prog 87 Spot Spot.put (fun _ x => x.ok) := opens_spot Try.underlying87 (by kernel_rfl) (one_i64 0 rfl rfl) (one_i64 1 rfl rfl)
theorem open_Spots : Opens Try.prog 85 (Value × List Spot) (fun y => [y.1]) (fun W y => Rd W.heap.size W y.1 2 y.2.length (y.2.flatMap Spot.put) ∧ y.2.length ≤ maxLen ∧ ∀ x ∈ y.2, x.ok) :=
  opens_slice Try.underlying85 (by kernel_rfl) (by decide) open_Spot (fun _ => rfl)
theorem open_Alloy : Opens Try.prog 137 Alloy Alloy.put (fun _ x => x.ok) := opens_alloy Try.underlying137 (by kernel_rfl) (one_i64 0 rfl rfl) (one_i64 1 rfl rfl) (one_i64 2 rfl rfl)
theorem open_Demand : Opens Try.prog 61 Demand Demand.put (fun _ x => x.ok) := opens_demand Try.underlying61 (by kernel_rfl) (one_i64 0 rfl rfl) (one_i64 1 rfl rfl) (one_i64 2 rfl rfl) (one_i64 3 rfl rfl) (one_i64 4 rfl rfl)
theorem open_Ingot : Opens Try.prog 139 Ingot Ingot.put (fun _ x => x.ok) := opens_ingot Try.underlying139 (by kernel_rfl) (one_str 0 rfl rfl) (one_i64 1 rfl rfl) ⟨by kernel_rfl, rfl⟩ open_Alloy
theorem open_Ingots : Opens Try.prog 59 (Value × List Ingot) (fun y => [y.1]) (fun W y => Rd W.heap.size W y.1 5 y.2.length (y.2.flatMap Ingot.put) ∧ y.2.length ≤ maxLen ∧ ∀ x ∈ y.2, x.ok) :=
  opens_slice Try.underlying59 (by kernel_rfl) (by decide) open_Ingot (fun _ => rfl)



theorem open_Hole : Opens Try.prog 52 Hole Hole.put (fun _ x => x.ok) := opens_hole Try.underlying52 (by kernel_rfl) (one_str 0 rfl rfl) (one_i64 1 rfl rfl) (one_i64 2 rfl rfl)


theorem open_Ring : Opens Try.prog 197 Ring Ring.put (fun _ x => x.ok) := opens_ring Try.underlying197 (by kernel_rfl) (one_i64 0 rfl rfl) (one_i64 1 rfl rfl) (one_i64 2 rfl rfl)
theorem open_Profile : Opens Try.prog 51 Profile Profile.put Profile.ok := opens_profile (e := 197) Try.underlying51 (by kernel_rfl) (one_str 0 rfl rfl) ⟨Try.underlying49, by kernel_rfl, rfl⟩ (by kernel_rfl) open_Ring
theorem open_Melt : Opens Try.prog 104 Melt Melt.put Melt.ok := opens_melt (e := 9) Try.underlying104 (by kernel_rfl) (one_str 0 rfl rfl) ⟨Try.underlying102, by kernel_rfl, rfl⟩ (one_i64 2 rfl rfl) cells_str Try.underlying9
theorem open_Melts : Opens Try.prog 22 (Value × List Melt) (fun y => [y.1]) (fun W y => Rd W.heap.size W y.1 3 y.2.length (y.2.flatMap Melt.put) ∧ y.2.length ≤ maxLen ∧ ∀ x ∈ y.2, x.ok W) :=
  opens_slice Try.underlying22 (by kernel_rfl) (by decide) open_Melt (fun _ => rfl)
end Go.Proofs.Ytegfgcgjoojdmaa
