/- Contracts and plain facts, joined: Sine, SplitS, AddI, ClonS. -/
import Derived.Test.YtnbodmbagendnaaGreatDoorRows
import Derived.Test.YtnbodmbagendnaaGreatDoorZFnMeltsC
import Derived.Test.YtnbodmbagendnaaGreatDoorZFnMeltsF
import Derived.Test.YtnbodmbagendnaaGreatDoorZFnMeltsS
import Derived.Test.YtnbodmbagendnaaGreatDoorZFnMeltsT
import Derived.Test.YtnbodmbagendnaaGreatDoorZFnMeltsV
import Derived.Lib.SliceRun
namespace Go.Proofs.YtnbodmbagendnaaGreatDoor
open Go.ChangeShapes Go.WideShapes Go.ChangeAt Go.RowKit Go.Deep Go.Joins
set_option linter.unusedVariables false
set_option maxRecDepth 100000
set_option linter.unusedSimpArgs false
def sinT : List Int := [0, 17452, 34899, 52336, 69756, 87156, 104528, 121869, 139173, 156434, 173648, 190809, 207912, 224951, 241922, 258819, 275637, 292372, 309017, 325568, 342020, 358368, 374607, 390731, 406737, 422618, 438371, 453990, 469472, 484810, 500000, 515038, 529919, 544639, 559193, 573576, 587785, 601815, 615661, 629320, 642788, 656059, 669131, 681998, 694658, 707107, 719340, 731354, 743145, 754710, 766044, 777146, 788011, 798636, 809017, 819152, 829038, 838671, 848048, 857167, 866025, 874620, 882948, 891007, 898794, 906308, 913545, 920505, 927184, 933580, 939693, 945519, 951057, 956305, 961262, 965926, 970296, 974370, 978148, 981627, 984808, 987688, 990268, 992546, 994522, 996195, 997564, 998630, 999391, 999848, 1000000]
theorem sinT_len : sinT.length = 91 := rfl
def tab (i : Nat) : Int := sinT[i]?.getD 0
theorem tab_bd (i : Nat) (h : i < 91) : 0 ≤ tab i ∧ tab i ≤ 1000000 := by
  have key : ∀ j : Fin 91, 0 ≤ tab j.1 ∧ tab j.1 ≤ 1000000 := by decide +kernel
  exact key ⟨i, h⟩
theorem tab_get (i : Nat) (h : i < 91) : (sinT.flatMap putI)[i]? = some (.int .i64 (tab i)) := by
  rw [putI_get sinT i h]
  unfold tab
  rw [List.getElem?_eq_getElem (by rw [sinT_len]; exact h)]
  rfl
/-- the sine at an angle from 0 to 359 -/
def sinN (t : Nat) : Int := if t ≤ 90 then tab t else if t ≤ 180 then tab (180 - t) else if t ≤ 270 then -tab (t - 180) else -tab (360 - t)
theorem sinN_bd (t : Nat) (h : t < 360) : -1000000 ≤ sinN t ∧ sinN t ≤ 1000000 := by
  unfold sinN
  have h1 := tab_bd t
  have h2 := tab_bd (180 - t)
  have h3 := tab_bd (t - 180)
  have h4 := tab_bd (360 - t)
  split
  · omega
  · split
    · omega
    · split <;> omega
def sineS (d : Int) : Int := sinN (d % 360).toNat
theorem sineS_bd (d : Int) : -1000000 ≤ sineS d ∧ sineS d ≤ 1000000 := sinN_bd _ (by omega)


theorem turn_eq (d : Int) : (d.tmod 360 + 360) % 360 = d % 360 := by
  rcases Int.le_total 0 d with h | h
  · rw [Int.tmod_eq_emod_of_nonneg h]; omega
  · obtain ⟨m, rfl⟩ : ∃ m, d = -m := ⟨-d, by omega⟩
    rw [Int.neg_tmod, Int.tmod_eq_emod_of_nonneg (by omega)]; omega
theorem turn_bd (d : Int) : -359 ≤ d.tmod 360 ∧ d.tmod 360 ≤ 359 := by
  have h1 := Int.tmod_lt_of_pos d (b := 360) (by omega)
  have h2 : -360 < d.tmod 360 := Int.lt_tmod_of_pos d (by omega)
  omega
end Go.Proofs.YtnbodmbagendnaaGreatDoor
namespace Go.Proofs.YtnbodmbagendnaaGreatDoor
open Go.ChangeShapes Go.WideShapes Go.ChangeAt Go.RowKit Go.Deep Go.Joins
set_option linter.unusedVariables false
set_option maxRecDepth 100000
set_option linter.unusedSimpArgs false
def cosS (d : Int) : Int := sineS (d + 90)
theorem cosS_mod (d : Int) : sineS (d % 360 + 90) = cosS d := by
  unfold cosS sineS
  rw [show (d % 360 + 90) % 360 = (d + 90) % 360 by omega]
theorem cosS_bd (d : Int) : -1000000 ≤ cosS d ∧ cosS d ≤ 1000000 := sineS_bd _
theorem validSpotS_true {xs : List Spot} (h : validSpotS xs = true) : xs.length ≤ 16 ∧ ∀ x ∈ xs, spotB x = true := by
  simp only [validSpotS, Bool.and_eq_true, decide_eq_true_eq] at h
  refine ⟨h.2, fun x hx => ?_⟩
  obtain ⟨i, hi, rfl⟩ := List.mem_iff_getElem.1 hx
  have := allK_true h.1 i hi
  unfold stepB at this
  rw [List.getElem?_eq_getElem hi] at this
  simp only [Bool.and_eq_true] at this
  exact this.1
theorem spotB_nums {x : Spot} (h : spotB x = true) : (0 ≤ x.angle ∧ x.angle ≤ 359) ∧ -1000 ≤ x.weight ∧ x.weight ≤ 1000 := by
  simp only [spotB, weightB, Bool.and_eq_true] at h
  exact ⟨inB_true h.1, inB_true h.2.2⟩
/-- the sum of weights times f of the angles -/
def wsum (f : Int → Int) (n : Int) (xs : List Spot) : Int := (xs.map fun x => x.weight * f (2 * n * x.angle)).sum
theorem wsum_succ (f : Int → Int) (n : Int) (xs : List Spot) (k : Nat) (hk : k < xs.length) : wsum f n (xs.take (k + 1)) = wsum f n (xs.take k) + xs[k].weight * f (2 * n * xs[k].angle) := by
  unfold wsum
  rw [List.take_succ_eq_append_getElem hk, List.map_append, List.sum_append]
  simp
theorem abs_mul {a b m n : Int} (ha : -m ≤ a ∧ a ≤ m) (hb : -n ≤ b ∧ b ≤ n) : -(m * n) ≤ a * b ∧ a * b ≤ m * n := by
  have hm : 0 ≤ m := by omega
  have hn : 0 ≤ n := by omega
  have h1 : (a * b).natAbs ≤ m.natAbs * n.natAbs := by
    rw [Int.natAbs_mul]
    exact Nat.mul_le_mul (by omega) (by omega)
  have h2 : ((m.natAbs * n.natAbs : Nat) : Int) = m * n := by
    push_cast
    rw [Int.natAbs_of_nonneg hm, Int.natAbs_of_nonneg hn]
  omega
theorem term_bd {x : Spot} (h : spotB x = true) {f : Int} (hf : -1000000 ≤ f ∧ f ≤ 1000000) : -1000000000 ≤ x.weight * f ∧ x.weight * f ≤ 1000000000 := by
  have := abs_mul (m := 1000) (n := 1000000) (spotB_nums h).2 hf
  omega
theorem wsum_bd (f : Int → Int) (hf : ∀ d, -1000000 ≤ f d ∧ f d ≤ 1000000) (n : Int) : ∀ (xs : List Spot), (∀ x ∈ xs, spotB x = true) → -(xs.length * 1000000000) ≤ wsum f n xs ∧ wsum f n xs ≤ xs.length * 1000000000
  | [], _ => by simp [wsum]
  | x :: xs, h => by
    have ih := wsum_bd f hf n xs (fun y hy => h y (List.mem_cons_of_mem _ hy))
    have h1 := term_bd (h x (List.mem_cons_self ..)) (hf (2 * n * x.angle))
    have e : wsum f n (x :: xs) = x.weight * f (2 * n * x.angle) + wsum f n xs := by simp [wsum]
    rw [e, List.length_cons]
    push_cast
    omega
theorem wsum_take_bd (f : Int → Int) (hf : ∀ d, -1000000 ≤ f d ∧ f d ≤ 1000000) (n : Int) {xs : List Spot} (h : ∀ x ∈ xs, spotB x = true) (hl : xs.length ≤ 16) (k : Nat) : -16000000000 ≤ wsum f n (xs.take k) ∧ wsum f n (xs.take k) ≤ 16000000000 := by
  have h1 := wsum_bd f hf n (xs.take k) (fun x hx => h x (List.mem_of_mem_take hx))
  have h2 : (xs.take k).length ≤ 16 := by rw [List.length_take]; omega
  omega
theorem divR_thou {a : Int} (h : -16000000000 ≤ a ∧ a ≤ 16000000000) : -16000000 ≤ divR a 1000 ∧ divR a 1000 ≤ 16000000 := by
  unfold divR
  split <;> omega
theorem angle_bd {n a : Int} (hn : 2 ≤ n ∧ n ≤ 6) (ha : 0 ≤ a ∧ a ≤ 359) : 0 ≤ 2 * n * a ∧ 2 * n * a ≤ 4308 := by
  have h1 : 0 ≤ 2 * n * a := Int.mul_nonneg (by omega) ha.1
  have h2 : 2 * n * a ≤ 12 * 359 := Int.mul_le_mul (by omega) ha.2 ha.1 (by omega)
  omega
noncomputable def splitN (n : Int) (xs : List Spot) : Int := rootS (divR (wsum cosS n xs) 1000 * divR (wsum cosS n xs) 1000 + divR (wsum sineS n xs) 1000 * divR (wsum sineS n xs) 1000)
theorem sq_abs {c : Int} (h : -16000000 ≤ c ∧ c ≤ 16000000) : 0 ≤ c * c ∧ c * c ≤ 256000000000000 := by
  have h1 := abs_mul h h
  refine ⟨?_, by omega⟩
  rcases Int.le_total 0 c with h2 | h2
  · exact Int.mul_nonneg h2 h2
  · have := Int.mul_nonneg (a := -c) (b := -c) (by omega) (by omega)
    rw [Int.neg_mul_neg] at this; exact this
def codeW (xs : List Spot) (n : Int) : Int := if validSpotS xs then (if inB n 2 6 then 0 else 2) else 1
theorem codeW_zero {xs : List Spot} {n : Int} (h : codeW xs n = 0) : validSpotS xs = true ∧ inB n 2 6 = true := by
  unfold codeW at h
  cases hV : validSpotS xs <;> cases hB : inB n 2 6 <;> rw [hV, hB] at h <;> simp at h
  exact ⟨rfl, rfl⟩
/-- the first of the angles 0 to k at which v is greatest, and v there -/
def bestN (v : Int → Int) : Nat → Int × Int
  | 0 => (0, v 0)
  | k + 1 => if (bestN v k).2 < v (k + 1 : Nat) then ((k + 1 : Nat), v (k + 1 : Nat)) else bestN v k
theorem bestN_bd {v : Int → Int} {m : Int} (h : ∀ d, -m ≤ v d ∧ v d ≤ m) : ∀ k, (0 ≤ (bestN v k).1 ∧ (bestN v k).1 ≤ k) ∧ (-m ≤ (bestN v k).2 ∧ (bestN v k).2 ≤ m)
  | 0 => ⟨⟨Int.le_refl _, Int.le_refl _⟩, h 0⟩
  | k + 1 => by
    have ih := bestN_bd h k
    unfold bestN
    split
    · exact ⟨by simp; omega, h _⟩
    · exact ⟨by omega, ih.2⟩
def waveV (c s d : Int) : Int := c * cosS d + s * sineS d
theorem waveV_bd {c s : Int} (hc : -16000000 ≤ c ∧ c ≤ 16000000) (hs : -16000000 ≤ s ∧ s ≤ 16000000) (d : Int) : -32000000000000 ≤ waveV c s d ∧ waveV c s d ≤ 32000000000000 := by
  have h1 := abs_mul hc (cosS_bd d)
  have h2 := abs_mul hs (sineS_bd d)
  unfold waveV
  omega
noncomputable def splitOfS (xs : List Spot) (n : Int) : Int × Int := if codeW xs n = 0 then (splitN n xs, 0) else (0, codeW xs n)
def splitAngleS (xs : List Spot) (n : Int) : Int × Int :=
  if codeW xs n = 0 then
    (if divR (wsum cosS n xs) 1000 = 0 ∧ divR (wsum sineS n xs) 1000 = 0 then (0, 6) else ((bestN (waveV (divR (wsum cosS n xs) 1000) (divR (wsum sineS n xs) 1000)) 359).1, 0))
  else (0, codeW xs n)
end Go.Proofs.YtnbodmbagendnaaGreatDoor
namespace Go.Proofs.YtnbodmbagendnaaGreatDoor
open Go.ChangeShapes Go.WideShapes Go.ChangeAt Go.RowKit Go.Deep Go.Joins
set_option linter.unusedVariables false
set_option maxRecDepth 100000
set_option linter.unusedSimpArgs false
theorem cmpI_neg {x y : Int} : cmpI x y < 0 ↔ x < y := by
  unfold cmpI
  split
  · simp; omega
  · split
    · simp; omega
    · simp; omega
theorem cmpI_zero {x y : Int} : cmpI x y = 0 ↔ x = y := by
  unfold cmpI
  split
  · simp; omega
  · split
    · simp; omega
    · simp; omega
/-- angles that rise -/
def SortedA (xs : List Spot) : Prop := ∀ i j (hi : i < xs.length) (hj : j < xs.length), i < j → xs[i].angle < xs[j].angle
theorem sorted_step {xs : List Spot} (h : ∀ j (hj : j + 1 < xs.length), xs[j].angle < xs[j + 1].angle) : SortedA xs := by
  intro i j hi hj hij
  obtain ⟨m, rfl⟩ : ∃ m, j = i + 1 + m := ⟨j - (i + 1), by omega⟩
  clear hij
  induction m with
  | zero => exact h i hj
  | succ m ih => exact Int.lt_trans (ih (by omega)) (h (i + 1 + m) hj)
theorem validSpotS_sorted {xs : List Spot} (h : validSpotS xs = true) : SortedA xs := by
  refine sorted_step fun j hj => ?_
  unfold validSpotS at h
  rw [Bool.and_eq_true] at h
  have h1 := allK_true h.1 (j + 1) hj
  unfold stepB at h1
  simp only [List.getElem?_eq_getElem hj, List.getElem?_eq_getElem (show j < xs.length by omega), Bool.and_eq_true] at h1
  simpa [ltKSpot] using h1.2
theorem found_lt {xs : List Spot} {s : Spot} {k : Nat} (hs : SortedA xs) (hf : Found (cmpSpot xs s) xs.length k) : k ≤ xs.length ∧ (∀ i (h : i < xs.length), i < k → xs[i].angle < s.angle) ∧ (∀ i (h : i < xs.length), k ≤ i → s.angle ≤ xs[i].angle) := by
  obtain ⟨h0, hp⟩ := hf
  have hF : Falls (cmpSpot xs s) xs.length := fun a b hab hb hc => by
    rw [cmpSpot_at hb] at hc
    rw [cmpSpot_at (show a < xs.length by omega)]
    simp only [cmpI_neg] at hc ⊢
    rcases Nat.lt_or_eq_of_le hab with h1 | h1
    · exact Int.lt_trans (hs a b (by omega) hb h1) hc
    · subst h1; exact hc
  obtain ⟨h1, h2⟩ := hp hF
  refine ⟨h0, fun i h hi => ?_, fun i h hi => ?_⟩
  · have := h1 i hi
    rw [cmpSpot_at h] at this
    exact cmpI_neg.1 this
  · have := h2 i hi h
    rw [cmpSpot_at h] at this
    have h3 : ¬ (cmpI xs[i].angle s.angle < 0) := by show ¬ _ ; simp only at this; omega
    rw [cmpI_neg] at h3
    omega
theorem run_pre {s : Spot} {xs : List Spot} {k : Nat} (hk : k ≤ xs.length) (h : ∀ i (hi : i < xs.length), i < k → xs[i].angle < s.angle) : ∀ j, j ≤ k → runA s xs j = some (xs.take j, false)
  | 0, _ => rfl
  | j + 1, hj => by
    rw [runA_succ (by omega) (run_pre hk h j (by omega))]
    have h1 := h j (by omega) (by omega)
    unfold stepA
    have e1 : decide (s.angle < xs[j].angle) = false := decide_eq_false (by omega)
    have e2 : ¬ xs[j].angle = s.angle := by omega
    simp only [e1, Bool.and_false, Bool.false_eq_true, if_false, if_neg e2, Bool.or_false]
    rw [List.take_append_getElem]
theorem run_post {s : Spot} {xs : List Spot} {j0 : Nat} {o : List Spot} (hr : runA s xs j0 = some (o, true)) (h : ∀ i (hi : i < xs.length), j0 ≤ i → xs[i].angle ≠ s.angle) : ∀ m, j0 + m ≤ xs.length → runA s xs (j0 + m) = some (o ++ (xs.drop j0).take m, true)
  | 0, _ => by simpa using hr
  | m + 1, hm => by
    rw [← Nat.add_assoc, runA_succ (by omega) (run_post hr h m (by omega))]
    have h1 := h (j0 + m) (by omega) (by omega)
    unfold stepA
    simp only [Bool.not_true, Bool.false_and, Bool.false_eq_true, if_false, if_neg h1, Bool.true_or]
    rw [List.append_assoc]
    congr 3
    rw [← List.take_append_getElem (show m < (xs.drop j0).length by rw [List.length_drop]; omega), List.getElem_drop]
theorem run_all {s : Spot} {xs : List Spot} {j0 : Nat} {o : List Spot} (hj : j0 ≤ xs.length) (hr : runA s xs j0 = some (o, true)) (h : ∀ i (hi : i < xs.length), j0 ≤ i → xs[i].angle ≠ s.angle) : runA s xs xs.length = some (o ++ xs.drop j0, true) := by
  have := run_post hr h (xs.length - j0) (by omega)
  rw [show j0 + (xs.length - j0) = xs.length from by omega, List.take_of_length_le (by rw [List.length_drop]; exact Nat.le_refl _)] at this
  exact this
/-- no spot has this angle -/
theorem addL_miss {s : Spot} {xs : List Spot} {k : Nat} (hk : k ≤ xs.length) (h1 : ∀ i (hi : i < xs.length), i < k → xs[i].angle < s.angle) (h2 : ∀ i (hi : i < xs.length), k ≤ i → s.angle < xs[i].angle) :
    addL s xs = if 16 ≤ xs.length then ([], 5) else (xs.take k ++ (s :: xs.drop k), 0) := by
  have hp := run_pre hk h1 k (Nat.le_refl _)
  rcases Nat.lt_or_eq_of_le hk with hlt | heq
  · have hs : runA s xs (k + 1) = some (xs.take k ++ [s] ++ [xs[k]], true) := by
      rw [runA_succ hlt hp]
      have := h2 k hlt (Nat.le_refl _)
      unfold stepA
      have e1 : decide (s.angle < xs[k].angle) = true := decide_eq_true this
      have e2 : ¬ xs[k].angle = s.angle := by omega
      simp only [e1, Bool.not_false, Bool.true_and, if_true, if_neg e2, Bool.false_or]
    have ha := run_all (by omega) hs fun i hi hki => by have := h2 i hi (by omega); omega
    have e : xs.take k ++ [s] ++ [xs[k]] ++ xs.drop (k + 1) = xs.take k ++ (s :: xs.drop k) := by
      rw [List.drop_eq_getElem_cons hlt]
      simp
    rw [e] at ha
    unfold addL
    rw [ha]
    unfold endA
    have hl : (xs.take k ++ (s :: xs.drop k)).length = xs.length + 1 := by simp; omega
    simp only [if_true, hl]
    by_cases h16 : 16 ≤ xs.length
    · rw [if_pos (by omega), if_pos h16]
    · rw [if_neg (by omega), if_neg h16]
  · subst heq
    unfold addL
    rw [hp]
    unfold endA
    simp only [List.take_length, List.drop_length, Bool.false_eq_true, if_false, List.length_append, List.length_cons, List.length_nil]
    by_cases h16 : 16 ≤ xs.length
    · rw [if_pos (by omega), if_pos h16]
    · rw [if_neg (by omega), if_neg h16]
/-- spot k has this angle -/
theorem addL_hit {s : Spot} {xs : List Spot} {k : Nat} (hs : SortedA xs) (hl : xs.length ≤ 16) (hk : k < xs.length) (he : xs[k].angle = s.angle) :
    addL s xs = if xs[k].weight + s.weight = 0 then (xs.take k ++ xs.drop (k + 1), 0) else if weightB (xs[k].weight + s.weight) = true then (xs.set k ⟨xs[k].angle, xs[k].weight + s.weight⟩, 0) else ([], 6) := by
  have hp := run_pre (s := s) (Nat.le_of_lt hk) (fun i hi hik => by have := hs i k hi hk hik; omega) k (Nat.le_refl _)
  have hq : ∀ i (hi : i < xs.length), k + 1 ≤ i → xs[i].angle ≠ s.angle := fun i hi hik => by have := hs k i hk hi (by omega); omega
  have e1 : decide (s.angle < xs[k].angle) = false := decide_eq_false (by omega)
  have hstep := runA_succ hk hp
  unfold stepA at hstep
  simp only [e1, Bool.and_false, Bool.false_eq_true, if_false, if_pos he] at hstep
  by_cases hz : xs[k].weight + s.weight = 0
  · rw [if_pos hz] at hstep ⊢
    have ha := run_all (by omega) hstep hq
    unfold addL
    rw [ha]
    unfold endA
    have hl2 : (xs.take k ++ xs.drop (k + 1)).length ≤ 16 := by simp; omega
    simp only [if_true]
    rw [if_neg (by omega)]
  · rw [if_neg hz] at hstep ⊢
    by_cases hw : weightB (xs[k].weight + s.weight) = true
    · rw [if_pos hw] at hstep ⊢
      have ha := run_all (by omega) hstep hq
      have e : xs.take k ++ [⟨xs[k].angle, xs[k].weight + s.weight⟩] ++ xs.drop (k + 1) = xs.set k ⟨xs[k].angle, xs[k].weight + s.weight⟩ := by
        rw [List.set_eq_take_append_cons_drop, if_pos hk]
        simp
      rw [e] at ha
      unfold addL
      rw [ha]
      unfold endA
      simp only [if_true, List.length_set]
      rw [if_neg (by omega)]
    · rw [if_neg hw] at hstep ⊢
      exact addL_bad hk hstep
end Go.Proofs.YtnbodmbagendnaaGreatDoor
namespace Go.Proofs.YtnbodmbagendnaaGreatDoor
open Go.ChangeShapes Go.WideShapes Go.ChangeAt Go.RowKit Go.Deep Go.Joins
set_option linter.unusedVariables false
set_option maxRecDepth 100000
set_option linter.unusedSimpArgs false
theorem Spot_one (xs : List Spot) : ∀ u ∈ xs.flatMap Spot.put, u.oneCell' = true := by
  intro u hu
  obtain ⟨x, _, hx⟩ := List.mem_flatMap.1 hu
  simp [Spot.put] at hx
  rcases hx with rfl | rfl <;> rfl
theorem spot_one2 (a b : Int) : ∀ u ∈ [Value.int .i64 a, Value.int .i64 b], u.oneCell' = true := by
  intro u hu
  simp at hu
  rcases hu with rfl | rfl <;> rfl
theorem take_flat (xs : List Spot) : ∀ k, (xs.flatMap Spot.put).take (k * 2) = (xs.take k).flatMap Spot.put := by
  induction xs with
  | nil => intro k; simp
  | cons x xs ih =>
    intro k
    cases k with
    | zero => simp
    | succ k =>
      rw [show (k + 1) * 2 = k * 2 + 2 from by omega]
      show ((.int .i64 x.angle) :: (.int .i64 x.weight) :: xs.flatMap Spot.put).take (k * 2 + 2) = (x :: xs.take k).flatMap Spot.put
      rw [List.take_succ_cons, List.take_succ_cons, ih k]
      rfl
theorem drop_flat (xs : List Spot) : ∀ k, (xs.flatMap Spot.put).drop (k * 2) = (xs.drop k).flatMap Spot.put := by
  induction xs with
  | nil => intro k; simp
  | cons x xs ih =>
    intro k
    cases k with
    | zero => simp
    | succ k =>
      rw [show (k + 1) * 2 = k * 2 + 2 from by omega]
      show ((.int .i64 x.angle) :: (.int .i64 x.weight) :: xs.flatMap Spot.put).drop (k * 2 + 2) = (xs.drop k).flatMap Spot.put
      rw [List.drop_succ_cons, List.drop_succ_cons, ih k]
theorem ins_flat (xs : List Spot) (s : Spot) (k : Nat) : (xs.flatMap Spot.put).take (k * 2) ++ ([.int .i64 s.angle, .int .i64 s.weight] ++ (xs.flatMap Spot.put).drop (k * 2)) = (xs.take k ++ (s :: xs.drop k)).flatMap Spot.put := by
  rw [take_flat, drop_flat, List.flatMap_append]
  rfl
theorem del_flat (xs : List Spot) (k : Nat) : (xs.flatMap Spot.put).take (k * 2) ++ (xs.flatMap Spot.put).drop ((k + 1) * 2) = (xs.take k ++ xs.drop (k + 1)).flatMap Spot.put := by
  rw [take_flat, drop_flat, List.flatMap_append]
theorem set_flat1 (xs : List Spot) (n : Int) : ∀ k (h : k < xs.length), (xs.flatMap Spot.put).set (k * 2 + 1) (.int .i64 n) = (xs.set k ⟨xs[k].angle, n⟩).flatMap Spot.put := by
  induction xs with
  | nil => intro k h; simp at h
  | cons x xs ih =>
    intro k h
    cases k with
    | zero => rfl
    | succ k =>
      rw [show (k + 1) * 2 + 1 = k * 2 + 1 + 2 from by omega]
      show ((.int .i64 x.angle) :: (.int .i64 x.weight) :: (xs.flatMap Spot.put).set (k * 2 + 1) (.int .i64 n)) = _
      rw [ih k (by simpa using h)]
      rfl
theorem set_flat0 (xs : List Spot) (n : Int) : ∀ k (h : k < xs.length), (xs.flatMap Spot.put).set (k * 2) (.int .i64 n) = (xs.set k ⟨n, xs[k].weight⟩).flatMap Spot.put := by
  induction xs with
  | nil => intro k h; simp at h
  | cons x xs ih =>
    intro k h
    cases k with
    | zero => rfl
    | succ k =>
      rw [show (k + 1) * 2 = k * 2 + 2 from by omega]
      show ((.int .i64 x.angle) :: (.int .i64 x.weight) :: (xs.flatMap Spot.put).set (k * 2) (.int .i64 n)) = _
      rw [ih k (by simpa using h)]
      rfl
/-- a store into a slice of one's own -/
theorem own_setI {w : World} {base g cap n s : Nat} {E : TypeId} {L : List Value} (h : w.ownsRow base E s (.slice (some ⟨g, 0, none⟩) n cap) n L) (i : Nat) (hi : i < n * s) (u : Value) : (w.setCell ⟨g, i, none⟩ u).ownsRow base E s (.slice (some ⟨g, 0, none⟩) n cap) n (L.set i u) := by
  obtain ⟨h1, h2⟩ := h
  rcases h2 with ⟨e, _⟩ | ⟨g', cap', cur, e, hb, hg, hn, hm, hs, ht⟩
  · cases e
  · injection e with q1 q2 q3
    injection q1 with q4
    injection q4 with q5
    subst q5; subst q3
    have ho : Own w g E cur.toList := by unfold Own; simpa using hg
    refine row_of_own (ho.set i u) hb hn hm (by simpa using hs) (by rw [List.length_set, h1]) ?_
    rw [List.take_set, ht]
theorem own_base {w : World} {base base' n s : Nat} {E : TypeId} {v : Value} {L : List Value} (h : w.ownsRow base E s v n L) (hb : base' ≤ base) : w.ownsRow base' E s v n L := by
  obtain ⟨h1, h2⟩ := h
  refine ⟨h1, ?_⟩
  rcases h2 with h2 | ⟨g, cap, cur, e, hb0, rest⟩
  · exact .inl h2
  · exact .inr ⟨g, cap, cur, e, Nat.le_trans hb hb0, rest⟩
/-- its cells -/
theorem own_cellI {w : World} {base g cap n s : Nat} {E : TypeId} {L : List Value} (h : w.ownsRow base E s (.slice (some ⟨g, 0, none⟩) n cap) n L) (i : Nat) (hi : i < n * s) : w.cell? ⟨g, i, none⟩ = L[i]? ∧ w.frozen? ⟨g, i, none⟩ = false ∧ g < w.heap.size ∧ base ≤ g := by
  obtain ⟨h1, h2⟩ := h
  rcases h2 with ⟨e, _⟩ | ⟨g', cap', cur, e, hb, hg, hn, hm, hs, ht⟩
  · cases e
  · injection e with q1 q2 q3
    injection q1 with q4
    injection q4 with q5
    subst q5; subst q3
    have ho : Own w g E cur.toList := by unfold Own; simpa using hg
    refine ⟨?_, ho.free i, ho.lt, hb⟩
    rw [ho.cell, ← ht, List.getElem?_take_of_lt hi]
end Go.Proofs.YtnbodmbagendnaaGreatDoor
