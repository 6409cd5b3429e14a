/- Contracts and plain facts, joined: Round, SplitS. -/
import Derived.Test.YtockglfoeagahaaGreatDoorRows
import Derived.Test.YtockglfoeagahaaGreatDoorZFnWarbleC
import Derived.Test.YtockglfoeagahaaGreatDoorZFnWarbleD
import Derived.Test.YtockglfoeagahaaGreatDoorZFnWarbleH
namespace Go.Proofs.YtockglfoeagahaaGreatDoor
open Go.ChangeShapes Go.WideShapes Go.ChangeAt Go.RowKit Go.Deep Go.Joins
set_option linter.unusedVariables false
set_option maxRecDepth 100000
set_option linter.unusedSimpArgs false
/-- the nearest integer to a / b, halves away from 0; b is positive -/
def divR (a b : Int) : Int := if a < 0 then -((b - 2 * a) / (2 * b)) else (2 * a + b) / (2 * b)

theorem half (q r b : Int) (hb : 0 < b) (h0 : 0 ≤ r) (h1 : r < b) : (2 * (b * q + r) + b) / (2 * b) = if b - r ≤ r then q + 1 else q := by
  have e : 2 * (b * q + r) + b = (2 * r + b) + q * (2 * b) := by
    have h1 : 2 * (b * q + r) = 2 * (b * q) + 2 * r := by omega
    have h2 : q * (2 * b) = 2 * (b * q) := by rw [Int.mul_comm q, Int.mul_assoc]
    omega
  rw [e, Int.add_mul_ediv_right _ _ (by omega)]
  split
  · rename_i h
    have : (2 * r + b) / (2 * b) = 1 := by
      have h2 : 2 * r + b = (2 * r - b) + 1 * (2 * b) := by omega
      rw [h2, Int.add_mul_ediv_right _ _ (by omega), Int.ediv_eq_zero_of_lt (by omega) (by omega)]
      omega
    omega
  · rename_i h
    have : (2 * r + b) / (2 * b) = 0 := Int.ediv_eq_zero_of_lt (by omega) (by omega)
    omega

/-- for a that is not negative -/
theorem divR_pos (a b : Int) (hb : 0 < b) (ha : 0 ≤ a) : divR a b = if b - a % b ≤ a % b then a / b + 1 else a / b := by
  unfold divR
  rw [if_neg (by omega)]
  have h := half (a / b) (a % b) b hb (Int.emod_nonneg _ (by omega)) (Int.emod_lt_of_pos _ hb)
  rw [Int.mul_ediv_add_emod] at h
  exact h
theorem divR_neg (a b : Int) (hb : 0 < b) (ha : a < 0) : divR a b = -(if b - (-a) % b ≤ (-a) % b then (-a) / b + 1 else (-a) / b) := by
  unfold divR
  rw [if_pos ha]
  have h := half ((-a) / b) ((-a) % b) b hb (Int.emod_nonneg _ (by omega)) (Int.emod_lt_of_pos _ hb)
  rw [Int.mul_ediv_add_emod] at h
  rw [← h]
  congr 2
  omega

theorem impl_abs_pos (a : Int) (w : World) (h : 0 ≤ a) : Calls Tryz.prog 90 #[.int .i64 a] w fun e w' => e = .returned (.int .i64 a) ∧ w = w' := by
  go_enter Tryz.func90, Tryz.ntmps90
  go_wp2
  all_goals go_ret
  all_goals exact ⟨rfl, rfl⟩
theorem impl_abs_neg (a : Int) (w : World) (h : 0 ≤ a) (h2 : a ≤ 1000000000000000000) : Calls Tryz.prog 90 #[.int .i64 (-a)] w fun e w' => e = .returned (.int .i64 a) ∧ w = w' := by
  by_cases h0 : a = 0
  · subst h0
    go_enter Tryz.func90, Tryz.ntmps90
    go_wp2
    all_goals go_ret
    all_goals exact ⟨rfl, rfl⟩
  · have h1 : -a < 0 := by omega
    go_enter Tryz.func90, Tryz.ntmps90
    go_wp2
    all_goals go_ret
    all_goals exact ⟨by simp, rfl⟩

theorem impl_nearest (a b : Int) (w : World) (hb : 0 < b) (hb2 : b ≤ 1000000000000000000) (ha : -1000000000000000000 ≤ a) (ha2 : a ≤ 1000000000000000000) :
    Calls Tryz.prog 65 #[.int .i64 a, .int .i64 b] w fun e w' => e = .returned (.int .i64 (divR a b)) ∧ Drew w w' := by
  by_cases h : a < 0
  · rw [divR_neg a b hb h]
    obtain ⟨m, rfl⟩ : ∃ m, a = -m := ⟨-a, by omega⟩
    rw [Int.neg_neg]
    have h0 : 0 < m := by omega
    have h1 : 0 ≤ m / b := Int.ediv_nonneg (by omega) (by omega)
    have h2 : 0 ≤ m % b := Int.emod_nonneg _ (by omega)
    have h3 : m % b < b := Int.emod_lt_of_pos _ hb
    have h4 : m / b ≤ m := by
      apply Int.ediv_le_self _ (by omega)
    have e1 : (-m).tdiv b = -(m / b) := by rw [Int.neg_tdiv, Int.tdiv_eq_ediv_of_nonneg (by omega)]
    have e2 : (-m).tmod b = -(m % b) := by rw [Int.neg_tmod, Int.tmod_eq_emod_of_nonneg (by omega)]
    have d1 : decide (-m < 0) = true := by simpa using h
    have d2 : decide (b < 0) = false := by simp; omega
    clear h
    by_cases h5 : b - m % b ≤ m % b
    all_goals
      simp only [h5, if_true, if_false]
      go_enter Tryz.func65, Tryz.ntmps65
      go_wp2
      go_quiet ((first | (go_at_call 90; exact quietE (impl_abs_neg _ _ (by assumption) (by omega))) | (go_at_call 90; exact quietE (impl_abs_pos _ _ (by omega)))))
      go_wp2
      all_goals go_ret
      all_goals exact ⟨congrArg (fun x => Ending.returned (Value.int .i64 x)) (by omega), _, rfl⟩
  · rw [divR_pos a b hb (by omega)]
    have h1 : 0 ≤ a / b := Int.ediv_nonneg (by omega) (by omega)
    have h2 : 0 ≤ a % b := Int.emod_nonneg _ (by omega)
    have h3 : a % b < b := Int.emod_lt_of_pos _ hb
    have h4 : a / b ≤ a := Int.ediv_le_self _ (by omega)
    have d1 : decide (a < 0) = false := by simpa using h
    have d2 : decide (b < 0) = false := by simp; omega
    clear h
    by_cases h5 : b - a % b ≤ a % b
    all_goals
      simp only [h5, if_true, if_false]
      go_enter Tryz.func65, Tryz.ntmps65
      go_wp2
      go_quiet ((go_at_call 90; exact quietE (impl_abs_pos _ _ (by omega))))
      go_wp2
      all_goals go_ret
      all_goals exact ⟨rfl, _, rfl⟩
end Go.Proofs.YtockglfoeagahaaGreatDoor
namespace Go.Proofs.YtockglfoeagahaaGreatDoor
open Go.ChangeShapes Go.WideShapes Go.ChangeAt Go.RowKit Go.Deep Go.Joins
set_option linter.unusedVariables false
set_option maxRecDepth 100000
set_option linter.unusedSimpArgs false
def cosS (d : Int) : Int := sineS (d + 90)
theorem cosS_mod (d : Int) : sineS (d % 360 + 90) = cosS d := by
  unfold cosS sineS
  rw [show (d % 360 + 90) % 360 = (d + 90) % 360 by omega]
theorem cosS_bd (d : Int) : -1000000 ≤ cosS d ∧ cosS d ≤ 1000000 := sineS_bd _
theorem validSpotS_true {xs : List Spot} (h : validSpotS xs = true) : xs.length ≤ 16 ∧ ∀ x ∈ xs, spotB x = true := by
  simp only [validSpotS, Bool.and_eq_true, decide_eq_true_eq] at h
  refine ⟨h.2, fun x hx => ?_⟩
  obtain ⟨i, hi, rfl⟩ := List.mem_iff_getElem.1 hx
  have := allK_true h.1 i hi
  unfold stepB at this
  rw [List.getElem?_eq_getElem hi] at this
  simp only [Bool.and_eq_true] at this
  exact this.1
theorem spotB_nums {x : Spot} (h : spotB x = true) : (0 ≤ x.angle ∧ x.angle ≤ 359) ∧ -1000 ≤ x.weight ∧ x.weight ≤ 1000 := by
  simp only [spotB, weightB, Bool.and_eq_true] at h
  exact ⟨inB_true h.1, inB_true h.2.2⟩
/-- the sum of weights times f of the angles -/
def wsum (f : Int → Int) (n : Int) (xs : List Spot) : Int := (xs.map fun x => x.weight * f (2 * n * x.angle)).sum
theorem wsum_succ (f : Int → Int) (n : Int) (xs : List Spot) (k : Nat) (hk : k < xs.length) : wsum f n (xs.take (k + 1)) = wsum f n (xs.take k) + xs[k].weight * f (2 * n * xs[k].angle) := by
  unfold wsum
  rw [List.take_succ_eq_append_getElem hk, List.map_append, List.sum_append]
  simp
theorem abs_mul {a b m n : Int} (ha : -m ≤ a ∧ a ≤ m) (hb : -n ≤ b ∧ b ≤ n) : -(m * n) ≤ a * b ∧ a * b ≤ m * n := by
  have hm : 0 ≤ m := by omega
  have hn : 0 ≤ n := by omega
  have h1 : (a * b).natAbs ≤ m.natAbs * n.natAbs := by
    rw [Int.natAbs_mul]
    exact Nat.mul_le_mul (by omega) (by omega)
  have h2 : ((m.natAbs * n.natAbs : Nat) : Int) = m * n := by
    push_cast
    rw [Int.natAbs_of_nonneg hm, Int.natAbs_of_nonneg hn]
  omega
theorem term_bd {x : Spot} (h : spotB x = true) {f : Int} (hf : -1000000 ≤ f ∧ f ≤ 1000000) : -1000000000 ≤ x.weight * f ∧ x.weight * f ≤ 1000000000 := by
  have := abs_mul (m := 1000) (n := 1000000) (spotB_nums h).2 hf
  omega
theorem wsum_bd (f : Int → Int) (hf : ∀ d, -1000000 ≤ f d ∧ f d ≤ 1000000) (n : Int) : ∀ (xs : List Spot), (∀ x ∈ xs, spotB x = true) → -(xs.length * 1000000000) ≤ wsum f n xs ∧ wsum f n xs ≤ xs.length * 1000000000
  | [], _ => by simp [wsum]
  | x :: xs, h => by
    have ih := wsum_bd f hf n xs (fun y hy => h y (List.mem_cons_of_mem _ hy))
    have h1 := term_bd (h x (List.mem_cons_self ..)) (hf (2 * n * x.angle))
    have e : wsum f n (x :: xs) = x.weight * f (2 * n * x.angle) + wsum f n xs := by simp [wsum]
    rw [e, List.length_cons]
    push_cast
    omega
theorem wsum_take_bd (f : Int → Int) (hf : ∀ d, -1000000 ≤ f d ∧ f d ≤ 1000000) (n : Int) {xs : List Spot} (h : ∀ x ∈ xs, spotB x = true) (hl : xs.length ≤ 16) (k : Nat) : -16000000000 ≤ wsum f n (xs.take k) ∧ wsum f n (xs.take k) ≤ 16000000000 := by
  have h1 := wsum_bd f hf n (xs.take k) (fun x hx => h x (List.mem_of_mem_take hx))
  have h2 : (xs.take k).length ≤ 16 := by rw [List.length_take]; omega
  omega
theorem divR_thou {a : Int} (h : -16000000000 ≤ a ∧ a ≤ 16000000000) : -16000000 ≤ divR a 1000 ∧ divR a 1000 ≤ 16000000 := by
  unfold divR
  split <;> omega
theorem angle_bd {n a : Int} (hn : 2 ≤ n ∧ n ≤ 6) (ha : 0 ≤ a ∧ a ≤ 359) : 0 ≤ 2 * n * a ∧ 2 * n * a ≤ 4308 := by
  have h1 : 0 ≤ 2 * n * a := Int.mul_nonneg (by omega) ha.1
  have h2 : 2 * n * a ≤ 12 * 359 := Int.mul_le_mul (by omega) ha.2 ha.1 (by omega)
  omega
noncomputable def splitN (n : Int) (xs : List Spot) : Int := rootS (divR (wsum cosS n xs) 1000 * divR (wsum cosS n xs) 1000 + divR (wsum sineS n xs) 1000 * divR (wsum sineS n xs) 1000)
theorem sq_abs {c : Int} (h : -16000000 ≤ c ∧ c ≤ 16000000) : 0 ≤ c * c ∧ c * c ≤ 256000000000000 := by
  have h1 := abs_mul h h
  refine ⟨?_, by omega⟩
  rcases Int.le_total 0 c with h2 | h2
  · exact Int.mul_nonneg h2 h2
  · have := Int.mul_nonneg (a := -c) (b := -c) (by omega) (by omega)
    rw [Int.neg_mul_neg] at this; exact this
def codeW (xs : List Spot) (n : Int) : Int := if validSpotS xs then (if inB n 2 6 then 0 else 2) else 1
theorem codeW_zero {xs : List Spot} {n : Int} (h : codeW xs n = 0) : validSpotS xs = true ∧ inB n 2 6 = true := by
  unfold codeW at h
  cases hV : validSpotS xs <;> cases hB : inB n 2 6 <;> rw [hV, hB] at h <;> simp at h
  exact ⟨rfl, rfl⟩
/-- the first of the angles 0 to k at which v is greatest, and v there -/
def bestN (v : Int → Int) : Nat → Int × Int
  | 0 => (0, v 0)
  | k + 1 => if (bestN v k).2 < v (k + 1 : Nat) then ((k + 1 : Nat), v (k + 1 : Nat)) else bestN v k
theorem bestN_bd {v : Int → Int} {m : Int} (h : ∀ d, -m ≤ v d ∧ v d ≤ m) : ∀ k, (0 ≤ (bestN v k).1 ∧ (bestN v k).1 ≤ k) ∧ (-m ≤ (bestN v k).2 ∧ (bestN v k).2 ≤ m)
  | 0 => ⟨⟨Int.le_refl _, Int.le_refl _⟩, h 0⟩
  | k + 1 => by
    have ih := bestN_bd h k
    unfold bestN
    split
    · exact ⟨by simp; omega, h _⟩
    · exact ⟨by omega, ih.2⟩
def waveV (c s d : Int) : Int := c * cosS d + s * sineS d
theorem waveV_bd {c s : Int} (hc : -16000000 ≤ c ∧ c ≤ 16000000) (hs : -16000000 ≤ s ∧ s ≤ 16000000) (d : Int) : -32000000000000 ≤ waveV c s d ∧ waveV c s d ≤ 32000000000000 := by
  have h1 := abs_mul hc (cosS_bd d)
  have h2 := abs_mul hs (sineS_bd d)
  unfold waveV
  omega
noncomputable def splitOfS (xs : List Spot) (n : Int) : Int × Int := if codeW xs n = 0 then (splitN n xs, 0) else (0, codeW xs n)
def splitAngleS (xs : List Spot) (n : Int) : Int × Int :=
  if codeW xs n = 0 then
    (if divR (wsum cosS n xs) 1000 = 0 ∧ divR (wsum sineS n xs) 1000 = 0 then (0, 6) else ((bestN (waveV (divR (wsum cosS n xs) 1000) (divR (wsum sineS n xs) 1000)) 359).1, 0))
  else (0, codeW xs n)
end Go.Proofs.YtockglfoeagahaaGreatDoor
