/- The metal of a melt: plain facts. -/
import Derived.Test.YtdliabgdgjboiaaRows
import Derived.Test.YtdliabgdgjboiaaChosenR
import Derived.Test.YtdliabgdgjboiaaValidMeltsS
import Derived.Test.YtdliabgdgjboiaaRound
namespace Go.Proofs.Ytdliabgdgjboiaa
open Go.ChangeShapes Go.WideShapes Go.ChangeAt Go.RowKit Go.Deep Go.Joins
set_option linter.unusedVariables false
set_option maxRecDepth 100000
set_option linter.unusedSimpArgs false
theorem allK_intro {f : Nat → Bool} : ∀ {n : Nat}, (∀ k, k < n → f k = true) → allK f n = true
  | 0, _ => rfl
  | n + 1, h => by rw [allK_succ, allK_intro (fun k hk => h k (by omega)), h n (by omega)]; rfl
theorem chosen_get {xs : List Ingot} {ids : List ByteArray} : ∀ {m : Nat} {cs : List Int}, m ≤ ids.length → chosenL xs (ids.take m) = some cs → ∀ (k : Nat) (hk : k < ids.length), k < m → ∃ j : Nat, cs[k]? = some (j : Int) ∧ idK xs ids[k] = some j
  | 0, _, _, _ => fun k _ hk => by omega
  | m + 1, cs, hm, h => by
    intro k hkl hk
    rw [chosen_succ xs ids m (by omega)] at h
    cases e : chosenL xs (ids.take m) with
    | none => rw [e] at h; cases h
    | some l =>
      rw [e] at h
      cases e2 : idK xs ids[m] with
      | none => rw [e2] at h; cases h
      | some j =>
        rw [e2] at h
        cases h
        have hl := chosen_len (by omega) e
        rcases Nat.lt_or_ge k m with h1 | h1
        · obtain ⟨j', e3, e4⟩ := chosen_get (by omega) e k hkl h1
          exact ⟨j', by rw [List.getElem?_append_left (by omega)]; exact e3, e4⟩
        · obtain rfl : k = m := by omega
          exact ⟨j, by rw [List.getElem?_append_right (by omega), hl, Nat.sub_self]; rfl, e2⟩
/-- texts that rise -/
def RisesT (ids : List ByteArray) : Prop := ∀ i j (_ : i < j) (hj : j < ids.length), ltName ids[i] ids[j] = true
theorem risesT_of {ids : List ByteArray} (h : allK (stepB nameB ltName ids) ids.length = true) : RisesT ids := by
  have hok : ∀ k (hk : k < ids.length), nameB ids[k] = true := fun k hk => by
    have := allK_true h k hk
    unfold stepB at this
    rw [List.getElem?_eq_getElem hk] at this
    simp only [Bool.and_eq_true] at this
    exact this.1
  have step : ∀ k (hk : k + 1 < ids.length), ltName ids[k] ids[k + 1] = true := fun k hk => by
    have h1 := allK_true h (k + 1) hk
    rw [stepB_pos hk (by omega) (hok (k + 1) hk)] at h1
    exact h1
  intro i j hij hj
  induction j with
  | zero => omega
  | succ j ih =>
    rcases Nat.lt_or_ge i j with h1 | h1
    · exact ltName_trans (ih h1 (by omega)) (step j hj)
    · obtain rfl : i = j := by omega
      exact step i hj
theorem meltB_parts {x : Melt} (h : meltB x = true) : nameB x.id = true ∧ 1 ≤ x.ingots.length ∧ x.ingots.length ≤ 16 ∧ allK (stepB nameB ltName x.ingots) x.ingots.length = true ∧ 1 ≤ x.mass ∧ x.mass ≤ 320000000 := by
  simp only [meltB, Bool.and_eq_true, decide_eq_true_eq] at h
  exact ⟨h.1, h.2.1, h.2.2.1, h.2.2.2.1, inB_true h.2.2.2.2⟩
theorem choice_of {xs : List Ingot} (hr : Rises xs) {ids : List ByteArray} (hi : RisesT ids) {cs : List Int} (h : chosenL xs ids = some cs) : choiceB xs.length cs = true := by
  have h0 : chosenL xs (ids.take ids.length) = some cs := by rw [take_all (Nat.le_refl _)]; exact h
  have hl := chosen_len (Nat.le_refl _) h0
  have hget : ∀ k (hk : k < cs.length), ∃ j : Nat, cs[k] = (j : Int) ∧ idK xs (ids[k]'(by omega)) = some j := fun k hk => by
    obtain ⟨j, e1, e2⟩ := chosen_get (Nat.le_refl _) h0 k (by omega) (by omega)
    rw [List.getElem?_eq_getElem hk] at e1
    exact ⟨j, by simpa using e1, e2⟩
  have hok : ∀ k (hk : k < cs.length), okC xs.length cs[k] = true := fun k hk => by
    obtain ⟨j, e1, e2⟩ := hget k hk
    obtain ⟨hj, _⟩ := idK_some e2
    rw [e1]
    exact inB_mk ⟨by omega, by omega⟩
  refine allK_intro fun k hk => ?_
  by_cases h1 : k = 0
  · exact stepB_k0 hk h1 (hok k hk)
  · refine stepB_yes hk (by omega) (hok k hk) ?_
    obtain ⟨j1, e1, e2⟩ := hget (k - 1) (by omega)
    obtain ⟨j2, e3, e4⟩ := hget k hk
    rw [e1, e3]
    obtain ⟨l1, a1⟩ := idK_some e2
    obtain ⟨l2, a2⟩ := idK_some e4
    have hlt := hi (k - 1) k (by omega) (by omega)
    have : j1 < j2 := by
      rcases Nat.lt_trichotomy j1 j2 with h | h | h
      · exact h
      · subst h
        rw [a1] at a2
        rw [a2, ltName_irrefl] at hlt; cases hlt
      · have h3 := hr j2 j1 h l1
        rw [a1, a2] at h3
        have := ltName_trans hlt h3
        rw [ltName_irrefl] at this; cases this
    simp only [ltC, decide_eq_true_eq]; omega
/-- the metal of a melt whose ingots exist -/
def metalS (xs : List Ingot) (ids : List ByteArray) : Int := (chosenL xs ids).elim 0 (sumK massF xs)
def mostS (xs : List Ingot) (ids : List ByteArray) : Int := metalS xs ids - divR (metalS xs ids * 20000) 1000000
def askS (xs : List Ingot) (x : Melt) : Int := if validIngotS xs && meltB x then (if (chosenL xs x.ingots).isSome then 0 else 3) else 1
theorem metalS_some {xs : List Ingot} {ids : List ByteArray} {cs : List Int} (h : chosenL xs ids = some cs) : metalS xs ids = sumK massF xs cs := by unfold metalS; rw [h]; rfl
end Go.Proofs.Ytdliabgdgjboiaa
