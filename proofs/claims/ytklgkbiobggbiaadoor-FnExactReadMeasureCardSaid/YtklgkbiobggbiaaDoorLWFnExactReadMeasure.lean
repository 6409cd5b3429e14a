/- FnExactReadMeasure: the law. -/
import Derived.Test.YtklgkbiobggbiaaDoorRows
import Derived.Test.YtklgkbiobggbiaaDoorLaw
import Derived.Test.YtklgkbiobggbiaaDoorReadMsI
import Derived.Test.YtklgkbiobggbiaaDoorErrLaid
import Derived.Test.YtklgkbiobggbiaaDoorHMeasure
namespace Go.Proofs.YtklgkbiobggbiaaDoor
open Go.ChangeShapes Go.WideShapes Go.ChangeAt Go.RowKit Go.Deep Go.Joins
set_option linter.unusedVariables false
set_option maxRecDepth 100000
set_option linter.unusedSimpArgs false
set_option maxHeartbeats 2000000 in
theorem FnExactReadMeasure_walk (w : World) (a0 : ByteArray) (k0 : a0.size ≤ maxLen) (hL : laidMetH Tryd.prog Rows.fnExactReadMeasureRow.laid w) (hS : w.ShapedOpen Tryd.prog) :
    Calls Tryd.prog 4 #[.string a0] w fun e w' => e = .returned (.bool true) ∧ Below w.heap.size w w' := by
  have hL1 : laidMet Tryd.prog Rows.fnExactReadMeasureRow.laid w := hL
  have HP : Hid (Pow10 w) := Lib.hid (pow10_of (laid_tail (laid_tail hL1)))
  have HE : Hid (ErrS w) := Lib.hid (errS_of (laid_tail (laid_tail (laid_tail (laid_tail (laid_tail hL1))))))
  have HM : Hid (MaxL w) := Lib.hid (maxL_of hS)
  clear hL hL1 hS
  unfold maxLen at k0
  by_cases hn0 : a0.size ≤ 1048576
  case neg =>
    have t1 : decide ((1048576 : Int) < (a0.size : Int)) = true := decide_eq_true (by omega)
    go_enter Tryd.func4, Tryd.ntmps4
    go_wp2_with fail
    go_ret
    exact ⟨rfl, Below.refl _ _⟩
  have t1 : decide ((1048576 : Int) < (a0.size : Int)) = false := decide_eq_false (by omega)
  have HS := Lib.hid (fun w' => spec_ReadMeasure a0 w' hn0)
  have HI := Lib.hid (fun (w' : World) (h1 : MaxL w') (h2 : Pow10 w') (h3 : ErrS w') => impl_ReadMeasure a0 w' hn0 h1 h2 h3)
  generalize (measR a0).isSome = bb at HS HI
  generalize measV a0 = R at HS HI
  have tb : (bb != bb) = false := by simp
  go_enter Tryd.func4, Tryd.ntmps4
  go_wp2_with fail
  refine (HS.out _).mono ?_; rintro e w1 ⟨rfl, b1⟩
  have V1 : Hid (Own (w1.alloc (.cells #[.string R.bell, .int .i64 R.part, .int .i64 R.value] 31)) w1.heap.size 31 [.string R.bell, .int .i64 R.part, .int .i64 R.value]) := Lib.hid (Own.new w1 _ _)
  have B1 : Hid (Below w.heap.size w (w1.alloc (.cells #[.string R.bell, .int .i64 R.part, .int .i64 R.value] 31))) := Lib.hid (b1.alloc b1.size _)
  clear b1
  go_wp2_with fail
  refine (HI.out _ (HM.out.below B1.out) (HP.out.below B1.out) (HE.out.below B1.out)).mono ?_; rintro e w2 ⟨rfl, b2⟩
  have V2 := Lib.hid (V1.out.below b2 V1.out.lt)
  have B2' := bnext B1.out b2
  have B2 : Hid (Below w.heap.size w (w2.alloc (.cells #[.string R.bell, .int .i64 R.part, .int .i64 R.value] 31))) := Lib.hid (B2'.alloc B2'.size _)
  have d0 : w2.cell? ⟨w1.heap.size, 0, none⟩ = some (.string R.bell) := V2.out.cell 0
  have d1 : w2.cell? ⟨w1.heap.size, 1, none⟩ = some (.int .i64 R.part) := V2.out.cell 1
  have d2 : w2.cell? ⟨w1.heap.size, 2, none⟩ = some (.int .i64 R.value) := V2.out.cell 2
  have hlt := V2.out.lt
  clear b2 B1 V1 B2'
  go_wp2_with fail
  refine (eqMeasure R _).mono ?_; rintro e w3 ⟨rfl, b3⟩
  have B3 := Lib.hid (bnext B2.out b3)
  go_wp2_with fail
  all_goals go_ret
  all_goals exact ⟨rfl, B3.out⟩
end Go.Proofs.YtklgkbiobggbiaaDoor
