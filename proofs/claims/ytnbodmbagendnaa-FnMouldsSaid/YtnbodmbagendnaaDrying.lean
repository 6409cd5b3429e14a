/- DryingTime: both sides compute the same. -/
import Derived.Test.YtnbodmbagendnaaRows
import Derived.Test.YtnbodmbagendnaaLayersFor
namespace Go.Proofs.Ytnbodmbagendnaa
open Go.ChangeShapes Go.WideShapes Go.ChangeAt Go.RowKit Go.Deep Go.Joins
set_option linter.unusedVariables false
set_option maxRecDepth 100000
set_option linter.unusedSimpArgs false
theorem term_bd (p : Int) (h0 : 0 ≤ p) (h1 : p ≤ 20000000) (i : Int) (h2 : 1 ≤ i) (h3 : i ≤ 40) : 0 ≤ p * i ∧ p * i ≤ 800000000 ∧ 0 ≤ (p * i + 99) / 100 ∧ (p * i + 99) / 100 ≤ 8000001 := by
  have a : 0 ≤ p * i := Int.mul_nonneg h0 (by omega)
  have b : p * i ≤ 20000000 * 40 := Int.mul_le_mul h1 h3 (by omega) (by omega)
  omega
/-- the hours of k layers -/
def drySum (p : Int) : Nat → Int
  | 0 => 0
  | k + 1 => drySum p k + (p * ((k : Int) + 1) + 99) / 100
theorem drySum_bd (p : Int) (h0 : 0 ≤ p) (h1 : p ≤ 20000000) : ∀ k : Nat, k ≤ 40 → 0 ≤ drySum p k ∧ drySum p k ≤ k * 8000001 := by
  intro k
  induction k with
  | zero => intro _; simp [drySum]
  | succ k ih =>
    intro hk
    have := ih (by omega)
    have a := term_bd p h0 h1 ((k : Int) + 1) (by omega) (by omega)
    simp only [drySum]
    omega
theorem drySum_succ (p : Int) (k : Nat) : drySum p (k + 1) = drySum p k + (p * ((k : Int) + 1) + 99) / 100 := rfl

def dryS (a b h u : Int) : Int × Int :=
  if inB a 1 150000 && inB b 1 a && inB h 1 100000 && inB u 0 100 then (if 40 < (a + b - 1) / b then (0, 5) else (drySum (h * (100 + u)) ((a + b - 1) / b).toNat, 0)) else (0, 2)

theorem layers_bd (a b : Int) (h1 : 1 ≤ a) (h3 : 1 ≤ b) : 1 ≤ (a + b - 1) / b := by
  have : b * 1 ≤ a + b - 1 := by omega
  exact (Int.le_ediv_iff_mul_le (by omega)).2 (by omega)
theorem prod_bd (h u : Int) (hh : 1 ≤ h ∧ h ≤ 100000) (hu : 0 ≤ u ∧ u ≤ 100) : 0 ≤ h * (100 + u) ∧ h * (100 + u) ≤ 20000000 := by
  refine ⟨Int.mul_nonneg (by omega) (by omega), ?_⟩
  have := Int.mul_le_mul hh.2 (show 100 + u ≤ 200 by omega) (by omega) (by omega)
  omega

theorem impl_ceilDiv (a b : Int) (w : World) (h1 : 0 ≤ a) (h2 : a ≤ 1000000000000) (h3 : 1 ≤ b) (h4 : b ≤ 1000000) : Calls Try.prog 57 #[.int .i64 a, .int .i64 b] w fun e w' => e = .returned (.int .i64 ((a + b - 1) / b)) ∧ w = w' := by
  go_enter Try.func57, Try.ntmps57
  go_wp2
  go_ret
  exact ⟨rfl, rfl⟩

set_option maxHeartbeats 400000 in
theorem impl_DryingTime (a b h u : Int) (w : World) : Calls Try.prog 17 #[.int .i64 a, .int .i64 b, .int .i64 h, .int .i64 u] w fun e w' => e = .returned (.tuple #[.int .i64 (dryS a b h u).1, .int .i64 (dryS a b h u).2]) ∧ w = w' := by
  unfold dryS
  cases hC : inB h 1 100000
  case false =>
    go_enter Try.func17, Try.ntmps17
    go_wp2_with (first | (go_at_call 56; refine (within_is _ _ _ _ (by assumption)).mono ?_; rintro e w' ⟨rfl, rfl⟩))
    all_goals go_ret2
    all_goals exact ⟨by simp, rfl⟩
  cases hD : inB u 0 100
  case false =>
    go_enter Try.func17, Try.ntmps17
    go_wp2_with (first | (go_at_call 56; refine (within_is _ _ _ _ (by assumption)).mono ?_; rintro e w' ⟨rfl, rfl⟩))
    all_goals go_ret2
    all_goals exact ⟨by simp, rfl⟩
  cases hA : inB a 1 150000
  case false =>
    have hv : layersS a b = (0, 2) := by simp [layersS, hA]
    go_enter Try.func17, Try.ntmps17
    go_wp2_with (first | (go_at_call 56; refine (within_is _ _ _ _ (by assumption)).mono ?_; rintro e w' ⟨rfl, rfl⟩) | (go_at_call 16; refine (impl_LayersFor _ _ _).mono ?_; rintro e w' ⟨rfl, rfl⟩))
    all_goals go_ret2
    all_goals exact ⟨by simp, rfl⟩
  cases hB : inB b 1 a
  case false =>
    have hv : layersS a b = (0, 2) := by simp [layersS, hB]
    go_enter Try.func17, Try.ntmps17
    go_wp2_with (first | (go_at_call 56; refine (within_is _ _ _ _ (by assumption)).mono ?_; rintro e w' ⟨rfl, rfl⟩) | (go_at_call 16; refine (impl_LayersFor _ _ _).mono ?_; rintro e w' ⟨rfl, rfl⟩))
    all_goals go_ret2
    all_goals exact ⟨by simp, rfl⟩
  obtain ⟨h1, h2⟩ := inB_true hA
  obtain ⟨h3, h4⟩ := inB_true hB
  obtain ⟨h5, h6⟩ := inB_true hC
  obtain ⟨h7, h8⟩ := inB_true hD
  have hl := layers_bd a b h1 h3
  have hp := prod_bd h u ⟨h5, h6⟩ ⟨h7, h8⟩
  by_cases h9 : 40 < (a + b - 1) / b
  · have hv : layersS a b = (0, 5) := by simp [layersS, hA, hB, h9]
    simp only [h9, if_true]
    go_enter Try.func17, Try.ntmps17
    go_wp2_with (first | (go_at_call 56; refine (within_is _ _ _ _ (by assumption)).mono ?_; rintro e w' ⟨rfl, rfl⟩) | (go_at_call 16; refine (impl_LayersFor _ _ _).mono ?_; rintro e w' ⟨rfl, rfl⟩))
    all_goals go_ret2
    all_goals exact ⟨rfl, rfl⟩
  simp only [h9, if_false]
  have hv : layersS a b = ((a + b - 1) / b, 0) := by simp [layersS, hA, hB, h9]
  generalize hN : (a + b - 1) / b = N at *
  clear hN
  go_enter Try.func17, Try.ntmps17
  go_wp2_with (first | (go_at_call 56; refine (within_is _ _ _ _ (by assumption)).mono ?_; rintro e w' ⟨rfl, rfl⟩) | (go_at_call 16; refine (impl_LayersFor _ _ _).mono ?_; rintro e w' ⟨rfl, rfl⟩))
  clear hv
  go_loop [12, 13] (fun m i => ∃ k : Nat, k ≤ N.toNat ∧ i = .int .i64 (k + 1) ∧ m = .int .i64 (drySum (h * (100 + u)) k)) (fun _ i => (N + 1 - intOf i).toNat)
  case atStart => exact ⟨0, by omega, rfl, rfl⟩
  case round =>
    obtain ⟨k, hk, rfl, rfl⟩ := hrel
    by_cases hlt : (k : Int) + 1 ≤ N
    · have t1 := term_bd (h * (100 + u)) hp.1 hp.2 ((k : Int) + 1) (by omega) (by omega)
      have t2 := drySum_bd (h * (100 + u)) hp.1 hp.2 k (by omega)
      go_wp2_with (go_at_call 57; refine (impl_ceilDiv _ _ _ (by omega) (by omega) (by omega) (by omega)).mono ?_; rintro e w' ⟨rfl, rfl⟩)
      go_round
      case rel => exact ⟨k + 1, by omega, by go_num, congrArg (Value.int .i64) (by rw [drySum_succ]; omega)⟩
      case measure => simp [intOf]; omega
    · have e : Hid (k = N.toNat) := (by omega : k = N.toNat)
      go_wp2
      go_ret2
      exact ⟨by obtain rfl := e.out; rfl, rfl⟩
end Go.Proofs.Ytnbodmbagendnaa
