/- Contracts and plain facts, joined: AddI. -/
import Derived.Test.YtockglfoeagahaaGreatDoorRows
import Derived.Test.YtockglfoeagahaaGreatDoorZFnWarbleF
import Derived.Test.YtockglfoeagahaaGreatDoorZFnWarbleG
import Derived.Test.YtockglfoeagahaaGreatDoorZFnWarbleI
namespace Go.Proofs.YtockglfoeagahaaGreatDoor
open Go.ChangeShapes Go.WideShapes Go.ChangeAt Go.RowKit Go.Deep Go.Joins
set_option linter.unusedVariables false
set_option maxRecDepth 100000
set_option linter.unusedSimpArgs false
theorem cmpI_neg {x y : Int} : cmpI x y < 0 ↔ x < y := by
  unfold cmpI
  split
  · simp; omega
  · split
    · simp; omega
    · simp; omega
theorem cmpI_zero {x y : Int} : cmpI x y = 0 ↔ x = y := by
  unfold cmpI
  split
  · simp; omega
  · split
    · simp; omega
    · simp; omega
/-- angles that rise -/
def SortedA (xs : List Spot) : Prop := ∀ i j (hi : i < xs.length) (hj : j < xs.length), i < j → xs[i].angle < xs[j].angle
theorem sorted_step {xs : List Spot} (h : ∀ j (hj : j + 1 < xs.length), xs[j].angle < xs[j + 1].angle) : SortedA xs := by
  intro i j hi hj hij
  obtain ⟨m, rfl⟩ : ∃ m, j = i + 1 + m := ⟨j - (i + 1), by omega⟩
  clear hij
  induction m with
  | zero => exact h i hj
  | succ m ih => exact Int.lt_trans (ih (by omega)) (h (i + 1 + m) hj)
theorem validSpotS_sorted {xs : List Spot} (h : validSpotS xs = true) : SortedA xs := by
  refine sorted_step fun j hj => ?_
  unfold validSpotS at h
  rw [Bool.and_eq_true] at h
  have h1 := allK_true h.1 (j + 1) hj
  unfold stepB at h1
  simp only [List.getElem?_eq_getElem hj, List.getElem?_eq_getElem (show j < xs.length by omega), Bool.and_eq_true] at h1
  simpa [ltKSpot] using h1.2
theorem found_lt {xs : List Spot} {s : Spot} {k : Nat} (hs : SortedA xs) (hf : Found (cmpSpot xs s) xs.length k) : k ≤ xs.length ∧ (∀ i (h : i < xs.length), i < k → xs[i].angle < s.angle) ∧ (∀ i (h : i < xs.length), k ≤ i → s.angle ≤ xs[i].angle) := by
  obtain ⟨h0, hp⟩ := hf
  have hF : Falls (cmpSpot xs s) xs.length := fun a b hab hb hc => by
    rw [cmpSpot_at hb] at hc
    rw [cmpSpot_at (show a < xs.length by omega)]
    simp only [cmpI_neg] at hc ⊢
    rcases Nat.lt_or_eq_of_le hab with h1 | h1
    · exact Int.lt_trans (hs a b (by omega) hb h1) hc
    · subst h1; exact hc
  obtain ⟨h1, h2⟩ := hp hF
  refine ⟨h0, fun i h hi => ?_, fun i h hi => ?_⟩
  · have := h1 i hi
    rw [cmpSpot_at h] at this
    exact cmpI_neg.1 this
  · have := h2 i hi h
    rw [cmpSpot_at h] at this
    have h3 : ¬ (cmpI xs[i].angle s.angle < 0) := by show ¬ _ ; simp only at this; omega
    rw [cmpI_neg] at h3
    omega
theorem run_pre {s : Spot} {xs : List Spot} {k : Nat} (hk : k ≤ xs.length) (h : ∀ i (hi : i < xs.length), i < k → xs[i].angle < s.angle) : ∀ j, j ≤ k → runA s xs j = some (xs.take j, false)
  | 0, _ => rfl
  | j + 1, hj => by
    rw [runA_succ (by omega) (run_pre hk h j (by omega))]
    have h1 := h j (by omega) (by omega)
    unfold stepA
    have e1 : decide (s.angle < xs[j].angle) = false := decide_eq_false (by omega)
    have e2 : ¬ xs[j].angle = s.angle := by omega
    simp only [e1, Bool.and_false, Bool.false_eq_true, if_false, if_neg e2, Bool.or_false]
    rw [List.take_append_getElem]
theorem run_post {s : Spot} {xs : List Spot} {j0 : Nat} {o : List Spot} (hr : runA s xs j0 = some (o, true)) (h : ∀ i (hi : i < xs.length), j0 ≤ i → xs[i].angle ≠ s.angle) : ∀ m, j0 + m ≤ xs.length → runA s xs (j0 + m) = some (o ++ (xs.drop j0).take m, true)
  | 0, _ => by simpa using hr
  | m + 1, hm => by
    rw [← Nat.add_assoc, runA_succ (by omega) (run_post hr h m (by omega))]
    have h1 := h (j0 + m) (by omega) (by omega)
    unfold stepA
    simp only [Bool.not_true, Bool.false_and, Bool.false_eq_true, if_false, if_neg h1, Bool.true_or]
    rw [List.append_assoc]
    congr 3
    rw [← List.take_append_getElem (show m < (xs.drop j0).length by rw [List.length_drop]; omega), List.getElem_drop]
theorem run_all {s : Spot} {xs : List Spot} {j0 : Nat} {o : List Spot} (hj : j0 ≤ xs.length) (hr : runA s xs j0 = some (o, true)) (h : ∀ i (hi : i < xs.length), j0 ≤ i → xs[i].angle ≠ s.angle) : runA s xs xs.length = some (o ++ xs.drop j0, true) := by
  have := run_post hr h (xs.length - j0) (by omega)
  rw [show j0 + (xs.length - j0) = xs.length from by omega, List.take_of_length_le (by rw [List.length_drop]; exact Nat.le_refl _)] at this
  exact this
/-- no spot has this angle -/
theorem addL_miss {s : Spot} {xs : List Spot} {k : Nat} (hk : k ≤ xs.length) (h1 : ∀ i (hi : i < xs.length), i < k → xs[i].angle < s.angle) (h2 : ∀ i (hi : i < xs.length), k ≤ i → s.angle < xs[i].angle) :
    addL s xs = if 16 ≤ xs.length then ([], 5) else (xs.take k ++ (s :: xs.drop k), 0) := by
  have hp := run_pre hk h1 k (Nat.le_refl _)
  rcases Nat.lt_or_eq_of_le hk with hlt | heq
  · have hs : runA s xs (k + 1) = some (xs.take k ++ [s] ++ [xs[k]], true) := by
      rw [runA_succ hlt hp]
      have := h2 k hlt (Nat.le_refl _)
      unfold stepA
      have e1 : decide (s.angle < xs[k].angle) = true := decide_eq_true this
      have e2 : ¬ xs[k].angle = s.angle := by omega
      simp only [e1, Bool.not_false, Bool.true_and, if_true, if_neg e2, Bool.false_or]
    have ha := run_all (by omega) hs fun i hi hki => by have := h2 i hi (by omega); omega
    have e : xs.take k ++ [s] ++ [xs[k]] ++ xs.drop (k + 1) = xs.take k ++ (s :: xs.drop k) := by
      rw [List.drop_eq_getElem_cons hlt]
      simp
    rw [e] at ha
    unfold addL
    rw [ha]
    unfold endA
    have hl : (xs.take k ++ (s :: xs.drop k)).length = xs.length + 1 := by simp; omega
    simp only [if_true, hl]
    by_cases h16 : 16 ≤ xs.length
    · rw [if_pos (by omega), if_pos h16]
    · rw [if_neg (by omega), if_neg h16]
  · subst heq
    unfold addL
    rw [hp]
    unfold endA
    simp only [List.take_length, List.drop_length, Bool.false_eq_true, if_false, List.length_append, List.length_cons, List.length_nil]
    by_cases h16 : 16 ≤ xs.length
    · rw [if_pos (by omega), if_pos h16]
    · rw [if_neg (by omega), if_neg h16]
/-- spot k has this angle -/
theorem addL_hit {s : Spot} {xs : List Spot} {k : Nat} (hs : SortedA xs) (hl : xs.length ≤ 16) (hk : k < xs.length) (he : xs[k].angle = s.angle) :
    addL s xs = if xs[k].weight + s.weight = 0 then (xs.take k ++ xs.drop (k + 1), 0) else if weightB (xs[k].weight + s.weight) = true then (xs.set k ⟨xs[k].angle, xs[k].weight + s.weight⟩, 0) else ([], 6) := by
  have hp := run_pre (s := s) (Nat.le_of_lt hk) (fun i hi hik => by have := hs i k hi hk hik; omega) k (Nat.le_refl _)
  have hq : ∀ i (hi : i < xs.length), k + 1 ≤ i → xs[i].angle ≠ s.angle := fun i hi hik => by have := hs k i hk hi (by omega); omega
  have e1 : decide (s.angle < xs[k].angle) = false := decide_eq_false (by omega)
  have hstep := runA_succ hk hp
  unfold stepA at hstep
  simp only [e1, Bool.and_false, Bool.false_eq_true, if_false, if_pos he] at hstep
  by_cases hz : xs[k].weight + s.weight = 0
  · rw [if_pos hz] at hstep ⊢
    have ha := run_all (by omega) hstep hq
    unfold addL
    rw [ha]
    unfold endA
    have hl2 : (xs.take k ++ xs.drop (k + 1)).length ≤ 16 := by simp; omega
    simp only [if_true]
    rw [if_neg (by omega)]
  · rw [if_neg hz] at hstep ⊢
    by_cases hw : weightB (xs[k].weight + s.weight) = true
    · rw [if_pos hw] at hstep ⊢
      have ha := run_all (by omega) hstep hq
      have e : xs.take k ++ [⟨xs[k].angle, xs[k].weight + s.weight⟩] ++ xs.drop (k + 1) = xs.set k ⟨xs[k].angle, xs[k].weight + s.weight⟩ := by
        rw [List.set_eq_take_append_cons_drop, if_pos hk]
        simp
      rw [e] at ha
      unfold addL
      rw [ha]
      unfold endA
      simp only [if_true, List.length_set]
      rw [if_neg (by omega)]
    · rw [if_neg hw] at hstep ⊢
      exact addL_bad hk hstep
end Go.Proofs.YtockglfoeagahaaGreatDoor
