/- FnClasses: the law. -/
import Derived.Test.YtcjalmkefagnhaaRows
import Derived.Test.YtcjalmkefagnhaaR8
import Derived.Test.YtcjalmkefagnhaaWorst
namespace Go.Proofs.Ytcjalmkefagnhaa
open Go.ChangeShapes Go.WideShapes Go.ChangeAt Go.RowKit Go.Deep Go.Joins
set_option linter.unusedVariables false
set_option linter.unusedSimpArgs false
theorem class_neg (x : Int) : classS (-x) = classS x := by
  have key : ∀ l : Int, inB (-x) (-l) l = inB x (-l) l := by
    intro l
    unfold inB
    rw [Bool.eq_iff_iff]
    simp
    omega
  unfold classS
  rw [key 20, key 50, key 100]
theorem class_mono (x y : Int) (h0 : 0 ≤ x) (h : x ≤ y) : classS x ≤ classS y := by
  unfold classS inB
  repeat' split
  all_goals simp at *
  all_goals omega
theorem worst_three (x y : Int) (h0 : 0 ≤ x) (h : x ≤ y) : worstS [x, -y, 0] = classS y := by
  have h1 := class_mono x y h0 h
  have h2 := classS_bd x
  have h3 := classS_bd y
  have e0 : classS 0 = 1 := by decide
  simp only [worstS, List.foldl_cons, List.foldl_nil, class_neg, e0]
  omega

set_option maxHeartbeats 400000 in
theorem FnClasses_walk (w : World) (v : Value) (xs : List UInt8) (h : Rd w.heap.size w v 1 xs.length (xs.flatMap putB) ∧ xs.length ≤ maxLen ∧ ∀ x ∈ xs, True) :
    Calls Try.prog 7 #[v] w fun e w' => e = .returned (.bool true) ∧ Below w.heap.size w w' := by
  obtain ⟨h, hm, _⟩ := h
  have h' := h
  obtain ⟨hL, ao, cap, rfl, hcap, hmax, hnil, hsome⟩ := h'
  clear hsome hnil
  by_cases hn : xs.length ≤ 1048576
  case neg =>
    have hn' : (1048576 : Int) < xs.length := by omega
    unfold maxLen at hm
    clear h
    go_enter Try.func7, Try.ntmps7
    go_wp2
    go_ret
    exact ⟨rfl, by (repeat' (first | (with_reducible exact Below.refl _ _) | (with_reducible assumption) | (with_reducible refine below_dn ?_ _) | (with_reducible refine Below.drew ?_) | (with_reducible refine Below.alloc ?_ ?_ _) | (with_reducible refine Below.setCell ?_ ?_ _) | go_size))⟩
  have hn' : ¬ (1048576 : Int) < xs.length := by omega
  have H := Lib.hid h; clear h
  have b1 := r8wide_bd xs 0 300 (by omega)
  have b2 := r8at_bd xs 2 100 (by omega)
  generalize hX : r8wide xs 0 300 = x at *
  generalize hD : r8at xs 2 100 = d at *
  have HX := Lib.hid hX; clear hX
  have HD := Lib.hid hD; clear hD
  have m1 := class_mono x (x + d) (by omega) (by omega)
  have m2 := classS_bd x
  have m3 := classS_bd (x + d)
  have W3 := Lib.hid (worst_three x (x + d) (by omega) (by omega))
  have WR : Hid (worstR [x, -(x + d), 0] = (classS (x + d), 0)) := (by simp [worstR, W3.out] : worstR [x, -(x + d), 0] = (classS (x + d), 0))
  go_enter Try.func7, Try.ntmps7
  go_wp2_with fail
  refine (laws_r8Wide _ _ xs _ H.out hn _ _ (by omega) (by omega) (by omega) (by omega)).mono ?_; rw [HX.out]; rintro e w1 ⟨rfl, rfl⟩
  go_wp2_with fail
  refine (laws_r8At _ _ xs _ H.out hn _ _ (by omega) (by omega) (by omega) (by omega)).mono ?_; rw [HD.out]; rintro e w1 ⟨rfl, rfl⟩
  go_wp2_with fail
  refine (impl_ClassOf _ _).mono ?_; rintro e w1 ⟨rfl, b1⟩
  go_wp2_with fail
  refine (impl_ClassOf _ _).mono ?_; rintro e w2 ⟨rfl, b2⟩
  have B2 := bnext b1 b2; clear b1 b2
  go_wp2_with fail
  refine (impl_WorstClass _ _ [x, -(x + d), 0] ((Own.new w2 2 ([x, -(x + d), 0].flatMap putI)).rd (s := 1) (n := 3) (by simp) rfl (by decide) 3 (by decide) (by decide)) (by simp)).mono ?_
  rw [WR.out]
  rintro e w3 ⟨rfl, b3⟩
  have B3 : Below w.heap.size w w3 := (B2.alloc B2.size _).trans (b3.mono (by have := B2.size; simp; omega)); clear B2 b3
  have eq1 := Lib.hid (class_neg x)
  have t1 : decide (1 ≤ classS x) = true := by simpa using m2.1
  have t2 : decide (classS x ≤ classS (x + d)) = true := by simpa using m1
  have t3 : decide (classS (x + d) ≤ 4) = true := by simpa using m3.2
  go_wp2_with fail
  refine (impl_ClassOf _ _).mono ?_; rw [eq1.out]; rintro e w4 ⟨rfl, b4⟩
  have B4 := bnext B3 b4; clear B3 b4
  go_wp2_with fail
  go_ret
  exact ⟨rfl, B4⟩
end Go.Proofs.Ytcjalmkefagnhaa
