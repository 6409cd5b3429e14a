/- FnExactReadGoal: the law. -/
import Derived.Test.YtklgkbiobggbiaaDoorRows
import Derived.Test.YtklgkbiobggbiaaDoorLaw
import Derived.Test.YtklgkbiobggbiaaDoorReadGlI
import Derived.Test.YtklgkbiobggbiaaDoorErrLaid
import Derived.Test.YtklgkbiobggbiaaDoorHSound
namespace Go.Proofs.YtklgkbiobggbiaaDoor
open Go.ChangeShapes Go.WideShapes Go.ChangeAt Go.RowKit Go.Deep Go.Joins
set_option linter.unusedVariables false
set_option maxRecDepth 100000
set_option linter.unusedSimpArgs false
theorem eqGoal (x : Gl) (w : World) : Calls Tryd.prog 21 #[.agg #[.int .i64 x.t.a, .int .i64 x.t.b, .int .i64 x.t.c, .int .i64 x.t.d, .int .i64 x.t.e, .int .i64 x.tol, .int .i64 x.most], .agg #[.int .i64 x.t.a, .int .i64 x.t.b, .int .i64 x.t.c, .int .i64 x.t.d, .int .i64 x.t.e, .int .i64 x.tol, .int .i64 x.most]] w fun r w' => r = .returned (.bool true) ∧ Below w.heap.size w w' := by
  have V2 : Hid (Own ((w.alloc (.cells #[.int .i64 x.t.a, .int .i64 x.t.b, .int .i64 x.t.c, .int .i64 x.t.d, .int .i64 x.t.e, .int .i64 x.tol, .int .i64 x.most] 45)).alloc (.cells #[.int .i64 x.t.a, .int .i64 x.t.b, .int .i64 x.t.c, .int .i64 x.t.d, .int .i64 x.t.e, .int .i64 x.tol, .int .i64 x.most] 45)) w.heap.size 45 [.int .i64 x.t.a, .int .i64 x.t.b, .int .i64 x.t.c, .int .i64 x.t.d, .int .i64 x.t.e, .int .i64 x.tol, .int .i64 x.most]) := Lib.hid ((Own.new w _ _).alloc _)
  have V3 : Hid (Own ((w.alloc (.cells #[.int .i64 x.t.a, .int .i64 x.t.b, .int .i64 x.t.c, .int .i64 x.t.d, .int .i64 x.t.e, .int .i64 x.tol, .int .i64 x.most] 45)).alloc (.cells #[.int .i64 x.t.a, .int .i64 x.t.b, .int .i64 x.t.c, .int .i64 x.t.d, .int .i64 x.t.e, .int .i64 x.tol, .int .i64 x.most] 45)) (w.heap.size + 1) 45 [.int .i64 x.t.a, .int .i64 x.t.b, .int .i64 x.t.c, .int .i64 x.t.d, .int .i64 x.t.e, .int .i64 x.tol, .int .i64 x.most]) := Lib.hid (Own.newAt _ _ (by simp))
  have HB : Hid (Below w.heap.size w ((w.alloc (.cells #[.int .i64 x.t.a, .int .i64 x.t.b, .int .i64 x.t.c, .int .i64 x.t.d, .int .i64 x.t.e, .int .i64 x.tol, .int .i64 x.most] 45)).alloc (.cells #[.int .i64 x.t.a, .int .i64 x.t.b, .int .i64 x.t.c, .int .i64 x.t.d, .int .i64 x.t.e, .int .i64 x.tol, .int .i64 x.most] 45))) := Lib.hid (by (repeat' (first | (with_reducible exact Below.refl _ _) | (with_reducible assumption) | (with_reducible refine below_dn ?_ _) | (with_reducible refine Below.drew ?_) | (with_reducible refine Below.alloc ?_ ?_ _) | (with_reducible refine Below.setCell ?_ ?_ _) | go_size)))
  have HE := Lib.hid (fun w' => eqSound x.t.a x.t.b x.t.c x.t.d x.t.e w')
  go_enter Tryd.func21, Tryd.ntmps21
  go_wp2_with fail
  generalize ((w.alloc (.cells #[.int .i64 x.t.a, .int .i64 x.t.b, .int .i64 x.t.c, .int .i64 x.t.d, .int .i64 x.t.e, .int .i64 x.tol, .int .i64 x.most] 45)).alloc (.cells #[.int .i64 x.t.a, .int .i64 x.t.b, .int .i64 x.t.c, .int .i64 x.t.d, .int .i64 x.t.e, .int .i64 x.tol, .int .i64 x.most] 45)) = w2 at *
  refine (HE.out _).mono ?_; rintro e w3 ⟨rfl, b3⟩
  have U2 := Lib.hid (V2.out.below b3 V2.out.lt)
  have U3 := Lib.hid (V3.out.below b3 V3.out.lt)
  have HB3 := Lib.hid (bnext HB.out b3)
  have a5 : w3.cell? ⟨w.heap.size, 5, none⟩ = some (.int .i64 x.tol) := U2.out.cell 5
  have a6 : w3.cell? ⟨w.heap.size, 6, none⟩ = some (.int .i64 x.most) := U2.out.cell 6
  have c5 : w3.cell? ⟨w.heap.size + 1, 5, none⟩ = some (.int .i64 x.tol) := U3.out.cell 5
  have c6 : w3.cell? ⟨w.heap.size + 1, 6, none⟩ = some (.int .i64 x.most) := U3.out.cell 6
  have l2 := U2.out.lt
  have l3 := U3.out.lt
  clear b3
  go_wp2_with fail
  go_ret
  exact ⟨rfl, HB3.out⟩
set_option maxHeartbeats 4000000 in
theorem FnExactReadGoal_walk (w : World) (a0 : ByteArray) (k0 : a0.size ≤ maxLen) (hL : laidMetH Tryd.prog Rows.fnExactReadGoalRow.laid w) (hS : w.ShapedOpen Tryd.prog) :
    Calls Tryd.prog 6 #[.string a0] w fun e w' => e = .returned (.bool true) ∧ Below w.heap.size w w' := by
  have hL1 : laidMet Tryd.prog Rows.fnExactReadGoalRow.laid w := hL
  have HP : Hid (Pow10 w) := Lib.hid (pow10_of (laid_tail (laid_tail hL1)))
  have HE : Hid (ErrS w) := Lib.hid (errS_of (laid_tail (laid_tail (laid_tail (laid_tail (laid_tail hL1))))))
  have HM : Hid (MaxL w) := Lib.hid (maxL_of hS)
  clear hL hL1 hS
  unfold maxLen at k0
  by_cases hn0 : a0.size ≤ 1048576
  case neg =>
    have t1 : decide ((1048576 : Int) < (a0.size : Int)) = true := decide_eq_true (by omega)
    go_enter Tryd.func6, Tryd.ntmps6
    go_wp2_with fail
    go_ret
    exact ⟨rfl, Below.refl _ _⟩
  have t1 : decide ((1048576 : Int) < (a0.size : Int)) = false := decide_eq_false (by omega)
  have HS := Lib.hid (fun w' => spec_ReadGoal a0 w' hn0)
  have HI := Lib.hid (fun (w' : World) (h1 : MaxL w') (h2 : Pow10 w') (h3 : ErrS w') => impl_ReadGoal a0 w' hn0 h1 h2 h3)
  generalize (glR a0).isSome = bb at HS HI
  generalize glV a0 = R at HS HI
  have tb : (bb != bb) = false := by simp
  go_enter Tryd.func6, Tryd.ntmps6
  go_wp2_with fail
  refine (HS.out _).mono ?_; rintro e w1 ⟨rfl, b1⟩
  have V1 : Hid (Own (w1.alloc (.cells #[.int .i64 R.t.a, .int .i64 R.t.b, .int .i64 R.t.c, .int .i64 R.t.d, .int .i64 R.t.e, .int .i64 R.tol, .int .i64 R.most] 45)) w1.heap.size 45 [.int .i64 R.t.a, .int .i64 R.t.b, .int .i64 R.t.c, .int .i64 R.t.d, .int .i64 R.t.e, .int .i64 R.tol, .int .i64 R.most]) := Lib.hid (Own.new w1 _ _)
  have B1 : Hid (Below w.heap.size w (w1.alloc (.cells #[.int .i64 R.t.a, .int .i64 R.t.b, .int .i64 R.t.c, .int .i64 R.t.d, .int .i64 R.t.e, .int .i64 R.tol, .int .i64 R.most] 45))) := Lib.hid (b1.alloc b1.size _)
  clear b1
  go_wp2_with fail
  refine (HI.out _ (HM.out.below B1.out) (HP.out.below B1.out) (HE.out.below B1.out)).mono ?_; rintro e w2 ⟨rfl, b2⟩
  have V2 := Lib.hid (V1.out.below b2 V1.out.lt)
  have B2' := bnext B1.out b2
  have B2 : Hid (Below w.heap.size w (w2.alloc (.cells #[.int .i64 R.t.a, .int .i64 R.t.b, .int .i64 R.t.c, .int .i64 R.t.d, .int .i64 R.t.e, .int .i64 R.tol, .int .i64 R.most] 45))) := Lib.hid (B2'.alloc B2'.size _)
  have d0 : w2.cell? ⟨w1.heap.size, 0, none⟩ = some (.int .i64 R.t.a) := V2.out.cell 0
  have d1 : w2.cell? ⟨w1.heap.size, 1, none⟩ = some (.int .i64 R.t.b) := V2.out.cell 1
  have d2 : w2.cell? ⟨w1.heap.size, 2, none⟩ = some (.int .i64 R.t.c) := V2.out.cell 2
  have d3 : w2.cell? ⟨w1.heap.size, 3, none⟩ = some (.int .i64 R.t.d) := V2.out.cell 3
  have d4 : w2.cell? ⟨w1.heap.size, 4, none⟩ = some (.int .i64 R.t.e) := V2.out.cell 4
  have d5 : w2.cell? ⟨w1.heap.size, 5, none⟩ = some (.int .i64 R.tol) := V2.out.cell 5
  have d6 : w2.cell? ⟨w1.heap.size, 6, none⟩ = some (.int .i64 R.most) := V2.out.cell 6
  have hlt := V2.out.lt
  clear b2 B1 V1 B2'
  go_wp2_with fail
  refine (eqGoal R _).mono ?_; rintro e w3 ⟨rfl, b3⟩
  have B3 := Lib.hid (bnext B2.out b3)
  go_wp2_with fail
  all_goals go_ret
  all_goals exact ⟨rfl, B3.out⟩
end Go.Proofs.YtklgkbiobggbiaaDoor
