/- What the row lists of the table of powers gives. -/
import Derived.Test.YtklgkbiobggbiaaDoorRows
import Derived.Test.YtklgkbiobggbiaaDoorDec
import Derived.Lib.LaidTab
namespace Go.Proofs.YtklgkbiobggbiaaDoor
open Go.ChangeShapes Go.WideShapes Go.ChangeAt Go.RowKit Go.Deep Go.Joins
set_option linter.unusedVariables false
set_option maxRecDepth 100000
set_option linter.unusedSimpArgs false
theorem laid_tail {P : Program} {w : World} {x : String × DataW Unit} {rest : List (String × DataW Unit)} (h : laidMet P (x :: rest) w) : laidMet P rest w := by
  obtain ⟨ps, ⟨g, t, cs, fuel, p, q, _, _, _, _, hl, rfl⟩, hn, ha⟩ := h
  exact ⟨q, hl, (List.nodup_append.1 hn).2.1, fun b off hp => ha b off (List.mem_append_right _ hp)⟩
theorem gPow : Tryd.prog.globalNamed "internal/strconv.uint64pow10" = some 5 := by kernel_rfl
theorem pow_cells_u64 : Tryd.prog.cellsOf 127 = 1 := by kernel_rfl
theorem pow_cells : Tryd.prog.cellsOf 193 = 20 := by kernel_rfl
theorem pow10_of {W : World} {rest : List (String × DataW Unit)} (h : laidMet Tryd.prog (("internal/strconv.uint64pow10", Rows.laid_internal_strconv_uint64pow10) :: rest) W) : Pow10 W := by
  have e : (Rows.laid_internal_strconv_uint64pow10 : DataW Unit) = Lib.tabData .u64 Lib.pow10Tab := by kernel_rfl
  rw [e] at h
  exact Lib.tabIs_of_head (rest := rest) gPow (t := 193) (by kernel_rfl) Tryd.underlying193 Tryd.underlying127 pow_cells_u64 pow_cells h
end Go.Proofs.YtklgkbiobggbiaaDoor
