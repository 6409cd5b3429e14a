/- WaveSine and WaveCosine: the laws. -/
import Derived.Test.YtcjalmkefagnhaaDoorRows
import Derived.Test.YtcjalmkefagnhaaDoorSineLaid
namespace Go.Proofs.YtcjalmkefagnhaaDoor
open Go.ChangeShapes Go.WideShapes Go.ChangeAt Go.RowKit Go.Deep Go.Joins
set_option linter.unusedVariables false
set_option maxRecDepth 100000
set_option linter.unusedSimpArgs false
theorem FnExactWaveSine_walk (w : World) (d : Int) (hd : I64 d) (hL : laidMetH Tryd.prog Rows.fnExactWaveSineRow.laid w) (hS : w.ShapedOpen Tryd.prog) : Calls Tryd.prog 3 #[.int .i64 d] w fun e w' => e = .returned (.bool true) ∧ Below w.heap.size w w' := by
  have hs : Hid (Sines w) := sines_of (rest := []) hL
  have hg : 0 < w.heap.size := by
    have := hs.out 0 (by omega)
    unfold World.cell? at this
    cases hh : w.heap[0]? with
    | none => simp [hh] at this
    | some o => exact (Array.getElem?_eq_some_iff.1 hh).1
  clear hL hS
  go_enter Tryd.func3, Tryd.ntmps3
  go_wp2_with fail
  refine (spec_WaveSine d w hd).mono ?_; rintro e w1 ⟨rfl, b1⟩
  have hs1 := Lib.hid (hs.out.below b1 hg)
  go_wp2_with fail
  refine (impl_WaveSine d w1 hd hs1.out).mono ?_; rintro e w2 ⟨rfl, rfl⟩
  go_wp2_with fail
  go_ret
  exact ⟨rfl, b1⟩
theorem FnExactWaveCosine_walk (w : World) (d : Int) (hd : I64 d) (hL : laidMetH Tryd.prog Rows.fnExactWaveCosineRow.laid w) (hS : w.ShapedOpen Tryd.prog) : Calls Tryd.prog 4 #[.int .i64 d] w fun e w' => e = .returned (.bool true) ∧ Below w.heap.size w w' := by
  have hs : Hid (Sines w) := sines_of (rest := []) hL
  have hg : 0 < w.heap.size := by
    have := hs.out 0 (by omega)
    unfold World.cell? at this
    cases hh : w.heap[0]? with
    | none => simp [hh] at this
    | some o => exact (Array.getElem?_eq_some_iff.1 hh).1
  clear hL hS
  go_enter Tryd.func4, Tryd.ntmps4
  go_wp2_with fail
  refine (spec_WaveCosine d w hd).mono ?_; rintro e w1 ⟨rfl, b1⟩
  have hs1 := Lib.hid (hs.out.below b1 hg)
  go_wp2_with fail
  refine (impl_WaveCosine d w1 hd hs1.out).mono ?_; rintro e w2 ⟨rfl, rfl⟩
  go_wp2_with fail
  go_ret
  exact ⟨rfl, b1⟩
end Go.Proofs.YtcjalmkefagnhaaDoor
