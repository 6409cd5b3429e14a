/- FnPlacing: the most moulds that can be placed: the plain law. -/
import Derived.Test.YtgjcmfacdnngjaaRows
import Derived.Test.YtgjcmfacdnngjaaMem
namespace Go.Proofs.Ytgjcmfacdnngjaa
open Go.ChangeShapes Go.WideShapes Go.ChangeAt Go.RowKit Go.Deep Go.Joins
set_option linter.unusedVariables false
set_option maxRecDepth 100000
set_option linter.unusedSimpArgs false
def bitU (u k : Nat) : Bool := u / 2 ^ k % 2 == 1
def setU (u k : Nat) : Nat := if bitU u k then u else u + 2 ^ k
theorem setU_lt : ∀ u < 16, ∀ k < 4, setU u k < 16 := by decide
theorem bit_setU : ∀ u < 16, ∀ k < 4, ∀ j < 4, bitU (setU u k) j = (bitU u j || j == k) := by decide
/-- the best of one mould's holes, m being the most so far; f is what the rest can do -/
def bestU (f : Nat → Nat) (u n : Nat) : List Nat → Nat → Nat
  | [], m => m
  | k :: ks, m => bestU f u n ks (if !bitU u k && decide (m < n) then max m (1 + f (setU u k)) else m)
/-- how many of the moulds can have a hole that is not used -/
def mostU : List (List Nat) → Nat → Nat
  | [], _ => 0
  | c :: cs, u => bestU (mostU cs) u (cs.length + 1) c (mostU cs u)
theorem bestU_ge (f : Nat → Nat) (u n : Nat) : ∀ (ks : List Nat) (m : Nat), m ≤ bestU f u n ks m
  | [], m => Nat.le_refl m
  | k :: ks, m => by
    refine Nat.le_trans ?_ (bestU_ge f u n ks _)
    split
    · exact Nat.le_max_left _ _
    · exact Nat.le_refl _
theorem bestU_le {f : Nat → Nat} {u n : Nat} (hf : ∀ k, 1 + f (setU u k) ≤ n) : ∀ (ks : List Nat) (m : Nat), m ≤ n → bestU f u n ks m ≤ n
  | [], _, h => h
  | k :: ks, m, h => bestU_le hf ks _ (by
    split
    · exact Nat.max_le.2 ⟨h, hf k⟩
    · exact h)
theorem mostU_le : ∀ (cs : List (List Nat)) (u : Nat), mostU cs u ≤ cs.length
  | [], _ => Nat.le_refl 0
  | c :: cs, u => by
    refine bestU_le (fun k => ?_) c _ ?_
    · have := mostU_le cs (setU u k); omega
    · have := mostU_le cs u; omega
theorem bestU_hole {f : Nat → Nat} {u n : Nat} (hf : ∀ k, 1 + f (setU u k) ≤ n) {k : Nat} (hk : bitU u k = false) : ∀ (ks : List Nat) (m : Nat), m ≤ n → k ∈ ks → 1 + f (setU u k) ≤ bestU f u n ks m
  | [], _, _, h => by cases h
  | j :: ks, m, hm, h => by
    rcases List.mem_cons.1 h with rfl | h
    · refine Nat.le_trans ?_ (bestU_ge f u n ks _)
      rw [hk]
      by_cases hlt : m < n
      · simp [hlt]; exact Nat.le_max_right _ _
      · have := hf k; simp [hlt]; omega
    · refine bestU_hole hf hk ks _ ?_ h
      split
      · exact Nat.max_le.2 ⟨hm, hf j⟩
      · exact hm
theorem mostU_skip (c : List Nat) (cs : List (List Nat)) (u : Nat) : mostU cs u ≤ mostU (c :: cs) u := bestU_ge _ _ _ c _
theorem mostU_take {c : List Nat} {cs : List (List Nat)} {u k : Nat} (hk : k ∈ c) (hb : bitU u k = false) : 1 + mostU cs (setU u k) ≤ mostU (c :: cs) u :=
  bestU_hole (fun j => by have := mostU_le cs (setU u j); omega) hb c _ (by have := mostU_le cs u; omega) hk
theorem bestU_is {f : Nat → Nat} {u n : Nat} : ∀ (ks : List Nat) (m : Nat), bestU f u n ks m = m ∨ ∃ k ∈ ks, bitU u k = false ∧ bestU f u n ks m = 1 + f (setU u k)
  | [], m => .inl rfl
  | k :: ks, m => by
    have e : bestU f u n (k :: ks) m = bestU f u n ks (if !bitU u k && decide (m < n) then max m (1 + f (setU u k)) else m) := rfl
    rw [e]
    rcases bestU_is (f := f) (u := u) (n := n) ks (if !bitU u k && decide (m < n) then max m (1 + f (setU u k)) else m) with q | ⟨j, hj, hb, q⟩
    · rw [q]
      split
      · next hc =>
        rw [Bool.and_eq_true] at hc
        rcases Nat.le_total (1 + f (setU u k)) m with h | h
        · exact .inl (Nat.max_eq_left h)
        · exact .inr ⟨k, List.mem_cons_self .., by simpa using hc.1, Nat.max_eq_right h⟩
      · exact .inl rfl
    · exact .inr ⟨j, List.mem_cons_of_mem _ hj, hb, q⟩
theorem setU_comm : ∀ u < 16, ∀ k < 4, ∀ j < 4, setU (setU u k) j = setU (setU u j) k := by decide
/-- a placement: each mould's hole fits it and is not used -/
def okP : List (List Nat) → Nat → List (Option Nat) → Prop
  | [], _, [] => True
  | _ :: cs, u, none :: p => okP cs u p
  | c :: cs, u, some k :: p => k ∈ c ∧ bitU u k = false ∧ okP cs (setU u k) p
  | _, _, _ => False
def cntP : List (Option Nat) → Nat
  | [] => 0
  | none :: p => cntP p
  | some _ :: p => 1 + cntP p
def endU : Nat → List (Option Nat) → Nat
  | u, [] => u
  | u, none :: p => endU u p
  | u, some k :: p => endU (setU u k) p
theorem okP_le : ∀ (cs : List (List Nat)) (u : Nat) (p : List (Option Nat)), okP cs u p → cntP p ≤ mostU cs u
  | [], _, [], _ => Nat.le_refl 0
  | c :: cs, u, none :: p, h => Nat.le_trans (okP_le cs u p h) (mostU_skip c cs u)
  | c :: cs, u, some k :: p, h => by
    have ih := okP_le cs (setU u k) p h.2.2
    have := mostU_take (cs := cs) h.1 h.2.1
    show 1 + cntP p ≤ _
    omega
/-- the program's placement: left is the most that can still be placed -/
def placeU : List (List Nat) → Nat → Nat → List (Option Nat)
  | [], _, _ => []
  | c :: cs, u, left => match c.find? fun k => !bitU u k && (1 + mostU cs (setU u k) == left) with
    | some k => some k :: placeU cs (setU u k) (left - 1)
    | none => none :: placeU cs u left
theorem place_ok : ∀ (cs : List (List Nat)) (u : Nat), okP cs u (placeU cs u (mostU cs u)) ∧ cntP (placeU cs u (mostU cs u)) = mostU cs u
  | [], _ => ⟨trivial, rfl⟩
  | c :: cs, u => by
    unfold placeU
    cases hf : c.find? fun k => !bitU u k && (1 + mostU cs (setU u k) == mostU (c :: cs) u) with
    | some k =>
      have h1 := List.find?_some hf
      have h2 := List.mem_of_find?_eq_some hf
      simp only [Bool.and_eq_true, Bool.not_eq_true', beq_iff_eq] at h1
      have e : mostU (c :: cs) u - 1 = mostU cs (setU u k) := by omega
      obtain ⟨a, b⟩ := place_ok cs (setU u k)
      simp only [e]
      exact ⟨⟨h2, h1.1, a⟩, by show 1 + cntP _ = _; omega⟩
    | none =>
      have h1 := List.find?_eq_none.1 hf
      have e : mostU (c :: cs) u = mostU cs u := by
        rcases bestU_is (f := mostU cs) (u := u) (n := cs.length + 1) c (mostU cs u) with q | ⟨k, hk, hb, q⟩
        · exact q
        · exact absurd (by rw [hb, Bool.not_false, Bool.true_and, beq_iff_eq]; exact q.symm) (h1 k hk)
      obtain ⟨a, b⟩ := place_ok cs u
      simp only [e]
      exact ⟨a, b⟩
theorem endU_bit : ∀ (cs : List (List Nat)) (u : Nat) (p : List (Option Nat)), u < 16 → (∀ c ∈ cs, ∀ k ∈ c, k < 4) → okP cs u p → ∀ j < 4, bitU u j = true → bitU (endU u p) j = true
  | [], _, [], _, _, _, _, _, h => h
  | c :: cs, u, none :: p, hu, hc, h, j, hj, hb => endU_bit cs u p hu (fun c' h' => hc c' (List.mem_cons_of_mem _ h')) h j hj hb
  | c :: cs, u, some k :: p, hu, hc, h, j, hj, hb => by
    have hk := hc c (List.mem_cons_self ..) k h.1
    exact endU_bit cs (setU u k) p (setU_lt u hu k hk) (fun c' h' => hc c' (List.mem_cons_of_mem _ h')) h.2.2 j hj (by rw [bit_setU u hu k hk j hj, hb, Bool.true_or])
theorem okP_more : ∀ (cs : List (List Nat)) (u : Nat) (p : List (Option Nat)) (k : Nat), u < 16 → k < 4 → (∀ c ∈ cs, ∀ j ∈ c, j < 4) → okP cs u p → bitU (endU u p) k = false → okP cs (setU u k) p
  | [], _, [], _, _, _, _, _, _ => trivial
  | c :: cs, u, none :: p, k, hu, hk, hc, h, hb => okP_more cs u p k hu hk (fun c' h' => hc c' (List.mem_cons_of_mem _ h')) h hb
  | c :: cs, u, some j :: p, k, hu, hk, hc, h, hb => by
    have hj := hc c (List.mem_cons_self ..) j h.1
    have hcs : ∀ c' ∈ cs, ∀ i ∈ c', i < 4 := fun c' h' => hc c' (List.mem_cons_of_mem _ h')
    have hne : j ≠ k := fun e => by
      subst e
      have := endU_bit cs (setU u j) p (setU_lt u hu j hj) hcs h.2.2 j hj (by rw [bit_setU u hu j hj j hj]; simp)
      rw [show endU u (some j :: p) = endU (setU u j) p from rfl, this] at hb
      cases hb
    refine ⟨h.1, ?_, ?_⟩
    · rw [bit_setU u hu k hk j hj, h.2.1]; simp [hne]
    · rw [setU_comm u hu k hk j hj]
      exact okP_more cs (setU u j) p k (setU_lt u hu j hj) hk hcs h.2.2 hb
theorem okP_ins : ∀ (cs : List (List Nat)) (u : Nat) (p : List (Option Nat)) (i k : Nat) (c : List Nat), u < 16 → (∀ c ∈ cs, ∀ j ∈ c, j < 4) → okP cs u p → p[i]? = some none → cs[i]? = some c → k ∈ c → bitU (endU u p) k = false → ∃ p', okP cs u p' ∧ cntP p' = cntP p + 1
  | [], _, [], i, _, _, _, _, _, h, _, _, _ => by simp at h
  | c0 :: cs, u, none :: p, 0, k, c, hu, hc, h, _, h2, hk, hb => by
    simp at h2; subst h2
    have hk4 := hc c0 (List.mem_cons_self ..) k hk
    have hbu : bitU u k = false := by
      cases q : bitU u k with
      | false => rfl
      | true =>
        have hb2 : bitU (endU u p) k = false := hb
        rw [endU_bit cs u p hu (fun c' h' => hc c' (List.mem_cons_of_mem _ h')) h k hk4 q] at hb2; cases hb2
    exact ⟨some k :: p, ⟨hk, hbu, okP_more cs u p k hu hk4 (fun c' h' => hc c' (List.mem_cons_of_mem _ h')) h hb⟩, by show 1 + cntP p = cntP p + 1; omega⟩
  | c0 :: cs, u, some j :: p, 0, k, c, _, _, _, h1, _, _, _ => by simp at h1
  | c0 :: cs, u, none :: p, i + 1, k, c, hu, hc, h, h1, h2, hk, hb => by
    obtain ⟨p', a, b⟩ := okP_ins cs u p i k c hu (fun c' h' => hc c' (List.mem_cons_of_mem _ h')) h (by simpa using h1) (by simpa using h2) hk hb
    exact ⟨none :: p', a, b⟩
  | c0 :: cs, u, some j :: p, i + 1, k, c, hu, hc, h, h1, h2, hk, hb => by
    have hj := hc c0 (List.mem_cons_self ..) j h.1
    obtain ⟨p', a, b⟩ := okP_ins cs (setU u j) p i k c (setU_lt u hu j hj) (fun c' h' => hc c' (List.mem_cons_of_mem _ h')) h.2.2 (by simpa using h1) (by simpa using h2) hk hb
    exact ⟨some j :: p', ⟨h.1, h.2.1, a⟩, by show 1 + cntP p' = 1 + cntP p + 1; omega⟩
/-- a mould without a hole fits no hole that is left -/
theorem place_max (cs : List (List Nat)) (i k : Nat) (c : List Nat) (hc : ∀ c ∈ cs, ∀ j ∈ c, j < 4) (h1 : (placeU cs 0 (mostU cs 0))[i]? = some none) (h2 : cs[i]? = some c) (hk : k ∈ c) : bitU (endU 0 (placeU cs 0 (mostU cs 0))) k = true := by
  cases q : bitU (endU 0 (placeU cs 0 (mostU cs 0))) k with
  | true => rfl
  | false =>
    obtain ⟨a, b⟩ := place_ok cs 0
    obtain ⟨p', a', b'⟩ := okP_ins cs 0 _ i k c (by decide) hc a h1 h2 hk q
    have := okP_le cs 0 p' a'
    omega
end Go.Proofs.Ytgjcmfacdnngjaa
