/- The split of a partial: plain facts. -/
import Derived.Test.YtldbahcpjhmhpaaDoorRows
import Derived.Test.YtldbahcpjhmhpaaDoorRoot
import Derived.Test.YtldbahcpjhmhpaaDoorSine
import Derived.Test.YtldbahcpjhmhpaaDoorOneSpot
import Derived.Test.YtldbahcpjhmhpaaDoorVSpot
import Derived.Test.YtldbahcpjhmhpaaDoorRound
namespace Go.Proofs.YtldbahcpjhmhpaaDoor
open Go.ChangeShapes Go.WideShapes Go.ChangeAt Go.RowKit Go.Deep Go.Joins
set_option linter.unusedVariables false
set_option maxRecDepth 100000
set_option linter.unusedSimpArgs false
def cosS (d : Int) : Int := sineS (d + 90)
theorem cosS_mod (d : Int) : sineS (d % 360 + 90) = cosS d := by
  unfold cosS sineS
  rw [show (d % 360 + 90) % 360 = (d + 90) % 360 by omega]
theorem cosS_bd (d : Int) : -1000000 ≤ cosS d ∧ cosS d ≤ 1000000 := sineS_bd _
theorem validSpotS_true {xs : List Spot} (h : validSpotS xs = true) : xs.length ≤ 16 ∧ ∀ x ∈ xs, spotB x = true := by
  simp only [validSpotS, Bool.and_eq_true, decide_eq_true_eq] at h
  refine ⟨h.2, fun x hx => ?_⟩
  obtain ⟨i, hi, rfl⟩ := List.mem_iff_getElem.1 hx
  have := allK_true h.1 i hi
  unfold stepB at this
  rw [List.getElem?_eq_getElem hi] at this
  simp only [Bool.and_eq_true] at this
  exact this.1
theorem spotB_nums {x : Spot} (h : spotB x = true) : (0 ≤ x.angle ∧ x.angle ≤ 359) ∧ -1000 ≤ x.weight ∧ x.weight ≤ 1000 := by
  simp only [spotB, weightB, Bool.and_eq_true] at h
  exact ⟨inB_true h.1, inB_true h.2.2⟩
/-- the sum of weights times f of the angles -/
def wsum (f : Int → Int) (n : Int) (xs : List Spot) : Int := (xs.map fun x => x.weight * f (2 * n * x.angle)).sum
theorem wsum_succ (f : Int → Int) (n : Int) (xs : List Spot) (k : Nat) (hk : k < xs.length) : wsum f n (xs.take (k + 1)) = wsum f n (xs.take k) + xs[k].weight * f (2 * n * xs[k].angle) := by
  unfold wsum
  rw [List.take_succ_eq_append_getElem hk, List.map_append, List.sum_append]
  simp
theorem abs_mul {a b m n : Int} (ha : -m ≤ a ∧ a ≤ m) (hb : -n ≤ b ∧ b ≤ n) : -(m * n) ≤ a * b ∧ a * b ≤ m * n := by
  have hm : 0 ≤ m := by omega
  have hn : 0 ≤ n := by omega
  have h1 : (a * b).natAbs ≤ m.natAbs * n.natAbs := by
    rw [Int.natAbs_mul]
    exact Nat.mul_le_mul (by omega) (by omega)
  have h2 : ((m.natAbs * n.natAbs : Nat) : Int) = m * n := by
    push_cast
    rw [Int.natAbs_of_nonneg hm, Int.natAbs_of_nonneg hn]
  omega
theorem term_bd {x : Spot} (h : spotB x = true) {f : Int} (hf : -1000000 ≤ f ∧ f ≤ 1000000) : -1000000000 ≤ x.weight * f ∧ x.weight * f ≤ 1000000000 := by
  have := abs_mul (m := 1000) (n := 1000000) (spotB_nums h).2 hf
  omega
theorem wsum_bd (f : Int → Int) (hf : ∀ d, -1000000 ≤ f d ∧ f d ≤ 1000000) (n : Int) : ∀ (xs : List Spot), (∀ x ∈ xs, spotB x = true) → -(xs.length * 1000000000) ≤ wsum f n xs ∧ wsum f n xs ≤ xs.length * 1000000000
  | [], _ => by simp [wsum]
  | x :: xs, h => by
    have ih := wsum_bd f hf n xs (fun y hy => h y (List.mem_cons_of_mem _ hy))
    have h1 := term_bd (h x (List.mem_cons_self ..)) (hf (2 * n * x.angle))
    have e : wsum f n (x :: xs) = x.weight * f (2 * n * x.angle) + wsum f n xs := by simp [wsum]
    rw [e, List.length_cons]
    push_cast
    omega
theorem wsum_take_bd (f : Int → Int) (hf : ∀ d, -1000000 ≤ f d ∧ f d ≤ 1000000) (n : Int) {xs : List Spot} (h : ∀ x ∈ xs, spotB x = true) (hl : xs.length ≤ 16) (k : Nat) : -16000000000 ≤ wsum f n (xs.take k) ∧ wsum f n (xs.take k) ≤ 16000000000 := by
  have h1 := wsum_bd f hf n (xs.take k) (fun x hx => h x (List.mem_of_mem_take hx))
  have h2 : (xs.take k).length ≤ 16 := by rw [List.length_take]; omega
  omega
theorem divR_thou {a : Int} (h : -16000000000 ≤ a ∧ a ≤ 16000000000) : -16000000 ≤ divR a 1000 ∧ divR a 1000 ≤ 16000000 := by
  unfold divR
  split <;> omega
theorem angle_bd {n a : Int} (hn : 2 ≤ n ∧ n ≤ 6) (ha : 0 ≤ a ∧ a ≤ 359) : 0 ≤ 2 * n * a ∧ 2 * n * a ≤ 4308 := by
  have h1 : 0 ≤ 2 * n * a := Int.mul_nonneg (by omega) ha.1
  have h2 : 2 * n * a ≤ 12 * 359 := Int.mul_le_mul (by omega) ha.2 ha.1 (by omega)
  omega
noncomputable def splitN (n : Int) (xs : List Spot) : Int := rootS (divR (wsum cosS n xs) 1000 * divR (wsum cosS n xs) 1000 + divR (wsum sineS n xs) 1000 * divR (wsum sineS n xs) 1000)
theorem sq_abs {c : Int} (h : -16000000 ≤ c ∧ c ≤ 16000000) : 0 ≤ c * c ∧ c * c ≤ 256000000000000 := by
  have h1 := abs_mul h h
  refine ⟨?_, by omega⟩
  rcases Int.le_total 0 c with h2 | h2
  · exact Int.mul_nonneg h2 h2
  · have := Int.mul_nonneg (a := -c) (b := -c) (by omega) (by omega)
    rw [Int.neg_mul_neg] at this; exact this
def codeW (xs : List Spot) (n : Int) : Int := if validSpotS xs then (if inB n 2 6 then 0 else 2) else 1
theorem codeW_zero {xs : List Spot} {n : Int} (h : codeW xs n = 0) : validSpotS xs = true ∧ inB n 2 6 = true := by
  unfold codeW at h
  cases hV : validSpotS xs <;> cases hB : inB n 2 6 <;> rw [hV, hB] at h <;> simp at h
  exact ⟨rfl, rfl⟩
/-- the first of the angles 0 to k at which v is greatest, and v there -/
def bestN (v : Int → Int) : Nat → Int × Int
  | 0 => (0, v 0)
  | k + 1 => if (bestN v k).2 < v (k + 1 : Nat) then ((k + 1 : Nat), v (k + 1 : Nat)) else bestN v k
theorem bestN_bd {v : Int → Int} {m : Int} (h : ∀ d, -m ≤ v d ∧ v d ≤ m) : ∀ k, (0 ≤ (bestN v k).1 ∧ (bestN v k).1 ≤ k) ∧ (-m ≤ (bestN v k).2 ∧ (bestN v k).2 ≤ m)
  | 0 => ⟨⟨Int.le_refl _, Int.le_refl _⟩, h 0⟩
  | k + 1 => by
    have ih := bestN_bd h k
    unfold bestN
    split
    · exact ⟨by simp; omega, h _⟩
    · exact ⟨by omega, ih.2⟩
def waveV (c s d : Int) : Int := c * cosS d + s * sineS d
theorem waveV_bd {c s : Int} (hc : -16000000 ≤ c ∧ c ≤ 16000000) (hs : -16000000 ≤ s ∧ s ≤ 16000000) (d : Int) : -32000000000000 ≤ waveV c s d ∧ waveV c s d ≤ 32000000000000 := by
  have h1 := abs_mul hc (cosS_bd d)
  have h2 := abs_mul hs (sineS_bd d)
  unfold waveV
  omega
noncomputable def splitOfS (xs : List Spot) (n : Int) : Int × Int := if codeW xs n = 0 then (splitN n xs, 0) else (0, codeW xs n)
def splitAngleS (xs : List Spot) (n : Int) : Int × Int :=
  if codeW xs n = 0 then
    (if divR (wsum cosS n xs) 1000 = 0 ∧ divR (wsum sineS n xs) 1000 = 0 then (0, 6) else ((bestN (waveV (divR (wsum cosS n xs) 1000) (divR (wsum sineS n xs) 1000)) 359).1, 0))
  else (0, codeW xs n)
end Go.Proofs.YtldbahcpjhmhpaaDoor
