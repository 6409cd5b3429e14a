/- BellsMeasured: both sides, with texts. -/
import Derived.Test.YtmkemjfbmnnflaaRows
import Derived.Test.YtmkemjfbmnnflaaBellsS
namespace Go.Proofs.Ytmkemjfbmnnflaa
open Go.ChangeShapes Go.WideShapes Go.ChangeAt Go.RowKit Go.Deep Go.Joins
set_option linter.unusedVariables false
set_option maxRecDepth 100000
set_option linter.unusedSimpArgs false
def bellRB (xs : List Measure) : List ByteArray := (bellR xs).map (fun l => ⟨l.toArray⟩)
theorem bellRB_len (xs : List Measure) : (bellRB xs).length = (bellR xs).length := by unfold bellRB; rw [List.length_map]
theorem bellRB_cells (xs : List Measure) : (bellRB xs).flatMap putStr = (bellR xs).map encStr := by
  unfold bellRB
  induction bellR xs with
  | nil => rfl
  | cons x r ih => rw [List.map_cons, List.flatMap_cons, ih]; rfl
theorem bellRB_le (xs : List Measure) : (bellRB xs).length ≤ xs.length := by rw [bellRB_len]; exact bellR_len xs
theorem spec_BellsB (w : World) (v : Value) (xs : List Measure) (h : Rd w.heap.size w v 3 xs.length (xs.flatMap Measure.put)) (hn : xs.length ≤ 1048576) (hok : ∀ x ∈ xs, x.ok) :
    Calls Try.prog 24 #[v] w fun e w' => ∃ r : Value, e = .returned (.tuple #[r, .int .i64 (bellC xs)]) ∧ w'.ownsRow w.heap.size 9 1 r (bellRB xs).length ((bellRB xs).flatMap putStr) ∧ Below w.heap.size w w' := by
  rw [bellRB_len, bellRB_cells]; exact spec_Bells w v xs h hn hok
theorem impl_BellsB (w : World) (v : Value) (xs : List Measure) (h : Rd w.heap.size w v 3 xs.length (xs.flatMap Measure.put)) (hn : xs.length ≤ 1048576) (hok : ∀ x ∈ xs, x.ok) :
    Calls Try.prog 25 #[v] w fun e w' => ∃ r : Value, e = .returned (.tuple #[r, .int .i64 (bellC xs)]) ∧ w'.ownsRow w.heap.size 9 1 r (bellRB xs).length ((bellRB xs).flatMap putStr) ∧ Below w.heap.size w w' := by
  rw [bellRB_len, bellRB_cells]; exact impl_Bells w v xs h hn hok
end Go.Proofs.Ytmkemjfbmnnflaa
