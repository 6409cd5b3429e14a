/- What the row lists of the table of sines gives. -/
import Derived.Test.YtkolgfmjajlpgaaDoorRows
import Derived.Test.YtkolgfmjajlpgaaDoorSine
import Derived.Lib.LaidTab
namespace Go.Proofs.YtkolgfmjajlpgaaDoor
open Go.ChangeShapes Go.WideShapes Go.ChangeAt Go.RowKit Go.Deep Go.Joins
set_option linter.unusedVariables false
set_option maxRecDepth 100000
set_option linter.unusedSimpArgs false
theorem cells_sines : Tryd.prog.cellsOf 68 = 91 := by kernel_rfl
theorem sines_of {W : World} {rest : List (String × DataW Unit)} (h : laidMet Tryd.prog (("loop.example/g00952/impl.sines", Rows.laid_loop_example_g00952_impl_sines) :: rest) W) : Sines W := by
  have e : (Rows.laid_loop_example_g00952_impl_sines : DataW Unit) = Lib.tabData .i64 sinT := by kernel_rfl
  rw [e] at h
  have ht : Lib.TabIs Tryd.prog W "loop.example/g00952/impl.sines" .i64 sinT := Lib.tabIs_of_head (rest := rest) gSines (t := 68) (by kernel_rfl) Tryd.underlying68 Tryd.underlying2 cells_i64 cells_sines h
  intro i hi
  have := ht.cell gSines i (by rw [sinT_len]; exact hi)
  rw [this]
  simp [tab, List.getD]
theorem sines_lt {w : World} (h : Sines w) : 0 < w.heap.size := by
  have := h 0 (by omega)
  unfold World.cell? at this
  cases hh : w.heap[0]? with
  | none => simp [hh] at this
  | some o => exact (Array.getElem?_eq_some_iff.1 hh).1
end Go.Proofs.YtkolgfmjajlpgaaDoor
