/- What the two ways of rounding a quotient compute. -/
import Derived.Test.YtnbodmbagendnaaRows
import Derived.Test.YtnbodmbagendnaaIn
namespace Go.Proofs.Ytnbodmbagendnaa
open Go.ChangeShapes Go.WideShapes Go.ChangeAt Go.RowKit Go.Deep Go.Joins
set_option linter.unusedVariables false
set_option maxRecDepth 100000
set_option linter.unusedSimpArgs false
/-- the nearest integer to a / b, halves away from 0; b is positive -/
def divR (a b : Int) : Int := if a < 0 then -((b - 2 * a) / (2 * b)) else (2 * a + b) / (2 * b)

theorem half (q r b : Int) (hb : 0 < b) (h0 : 0 ≤ r) (h1 : r < b) : (2 * (b * q + r) + b) / (2 * b) = if b - r ≤ r then q + 1 else q := by
  have e : 2 * (b * q + r) + b = (2 * r + b) + q * (2 * b) := by
    have h1 : 2 * (b * q + r) = 2 * (b * q) + 2 * r := by omega
    have h2 : q * (2 * b) = 2 * (b * q) := by rw [Int.mul_comm q, Int.mul_assoc]
    omega
  rw [e, Int.add_mul_ediv_right _ _ (by omega)]
  split
  · rename_i h
    have : (2 * r + b) / (2 * b) = 1 := by
      have h2 : 2 * r + b = (2 * r - b) + 1 * (2 * b) := by omega
      rw [h2, Int.add_mul_ediv_right _ _ (by omega), Int.ediv_eq_zero_of_lt (by omega) (by omega)]
      omega
    omega
  · rename_i h
    have : (2 * r + b) / (2 * b) = 0 := Int.ediv_eq_zero_of_lt (by omega) (by omega)
    omega

/-- for a that is not negative -/
theorem divR_pos (a b : Int) (hb : 0 < b) (ha : 0 ≤ a) : divR a b = if b - a % b ≤ a % b then a / b + 1 else a / b := by
  unfold divR
  rw [if_neg (by omega)]
  have h := half (a / b) (a % b) b hb (Int.emod_nonneg _ (by omega)) (Int.emod_lt_of_pos _ hb)
  rw [Int.mul_ediv_add_emod] at h
  exact h
theorem divR_neg (a b : Int) (hb : 0 < b) (ha : a < 0) : divR a b = -(if b - (-a) % b ≤ (-a) % b then (-a) / b + 1 else (-a) / b) := by
  unfold divR
  rw [if_pos ha]
  have h := half ((-a) / b) ((-a) % b) b hb (Int.emod_nonneg _ (by omega)) (Int.emod_lt_of_pos _ hb)
  rw [Int.mul_ediv_add_emod] at h
  rw [← h]
  congr 2
  omega

theorem spec_l01Div (a b : Int) (w : World) (hb : 0 < b) (hb2 : b ≤ 1000000000000000000) (ha : -1000000000000000000 ≤ a) (ha2 : a ≤ 1000000000000000000) :
    Calls Try.prog 121 #[.int .i64 a, .int .i64 b] w fun e w' => e = .returned (.int .i64 (divR a b)) ∧ w = w' := by
  unfold divR
  by_cases h : a < 0
  · rw [if_pos h]
    have h1 : 0 ≤ (b - 2 * a) / (2 * b) := Int.ediv_nonneg (by omega) (by omega)
    have h2 : (b - 2 * a) / (2 * b) ≤ 4000000000000000000 := by
      apply Int.ediv_le_of_le_mul (by omega)
      have : b - 2 * a ≤ 4000000000000000000 := by omega
      have h3 : (4000000000000000000 : Int) * 1 ≤ 4000000000000000000 * (2 * b) := Int.mul_le_mul_of_nonneg_left (by omega) (by omega)
      omega
    go_enter Try.func121, Try.ntmps121
    go_wp2
    go_ret
    exact ⟨rfl, rfl⟩
  · rw [if_neg h]
    go_enter Try.func121, Try.ntmps121
    go_wp2
    go_ret
    exact ⟨rfl, rfl⟩

theorem impl_abs_pos (a : Int) (w : World) (h : 0 ≤ a) : Calls Try.prog 51 #[.int .i64 a] w fun e w' => e = .returned (.int .i64 a) ∧ w = w' := by
  go_enter Try.func51, Try.ntmps51
  go_wp2
  all_goals go_ret
  all_goals exact ⟨rfl, rfl⟩
theorem impl_abs_neg (a : Int) (w : World) (h : 0 ≤ a) (h2 : a ≤ 1000000000000000000) : Calls Try.prog 51 #[.int .i64 (-a)] w fun e w' => e = .returned (.int .i64 a) ∧ w = w' := by
  by_cases h0 : a = 0
  · subst h0
    go_enter Try.func51, Try.ntmps51
    go_wp2
    all_goals go_ret
    all_goals exact ⟨rfl, rfl⟩
  · have h1 : -a < 0 := by omega
    go_enter Try.func51, Try.ntmps51
    go_wp2
    all_goals go_ret
    all_goals exact ⟨by simp, rfl⟩

theorem impl_nearest (a b : Int) (w : World) (hb : 0 < b) (hb2 : b ≤ 1000000000000000000) (ha : -1000000000000000000 ≤ a) (ha2 : a ≤ 1000000000000000000) :
    Calls Try.prog 109 #[.int .i64 a, .int .i64 b] w fun e w' => e = .returned (.int .i64 (divR a b)) ∧ Drew w w' := by
  by_cases h : a < 0
  · rw [divR_neg a b hb h]
    obtain ⟨m, rfl⟩ : ∃ m, a = -m := ⟨-a, by omega⟩
    rw [Int.neg_neg]
    have h0 : 0 < m := by omega
    have h1 : 0 ≤ m / b := Int.ediv_nonneg (by omega) (by omega)
    have h2 : 0 ≤ m % b := Int.emod_nonneg _ (by omega)
    have h3 : m % b < b := Int.emod_lt_of_pos _ hb
    have h4 : m / b ≤ m := by
      apply Int.ediv_le_self _ (by omega)
    have e1 : (-m).tdiv b = -(m / b) := by rw [Int.neg_tdiv, Int.tdiv_eq_ediv_of_nonneg (by omega)]
    have e2 : (-m).tmod b = -(m % b) := by rw [Int.neg_tmod, Int.tmod_eq_emod_of_nonneg (by omega)]
    have d1 : decide (-m < 0) = true := by simpa using h
    have d2 : decide (b < 0) = false := by simp; omega
    clear h
    by_cases h5 : b - m % b ≤ m % b
    all_goals
      simp only [h5, if_true, if_false]
      go_enter Try.func109, Try.ntmps109
      go_wp2
      go_quiet ((first | (go_at_call 51; exact quietE (impl_abs_neg _ _ (by assumption) (by omega))) | (go_at_call 51; exact quietE (impl_abs_pos _ _ (by omega)))))
      go_wp2
      all_goals go_ret
      all_goals exact ⟨congrArg (fun x => Ending.returned (Value.int .i64 x)) (by omega), _, rfl⟩
  · rw [divR_pos a b hb (by omega)]
    have h1 : 0 ≤ a / b := Int.ediv_nonneg (by omega) (by omega)
    have h2 : 0 ≤ a % b := Int.emod_nonneg _ (by omega)
    have h3 : a % b < b := Int.emod_lt_of_pos _ hb
    have h4 : a / b ≤ a := Int.ediv_le_self _ (by omega)
    have d1 : decide (a < 0) = false := by simpa using h
    have d2 : decide (b < 0) = false := by simp; omega
    clear h
    by_cases h5 : b - a % b ≤ a % b
    all_goals
      simp only [h5, if_true, if_false]
      go_enter Try.func109, Try.ntmps109
      go_wp2
      go_quiet ((go_at_call 51; exact quietE (impl_abs_pos _ _ (by omega))))
      go_wp2
      all_goals go_ret
      all_goals exact ⟨rfl, _, rfl⟩
end Go.Proofs.Ytnbodmbagendnaa
