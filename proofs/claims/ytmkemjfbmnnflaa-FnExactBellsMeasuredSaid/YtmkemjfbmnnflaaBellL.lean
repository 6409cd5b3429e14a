/- Texts in ascending order without repeats: what the library and the reference give is the same. -/
import Derived.Test.YtmkemjfbmnnflaaRows
import Derived.Test.YtmkemjfbmnnflaaCmpStr
import Derived.Sort.Walk0
import Derived.Lib.SlicesCompact
namespace Go.Proofs.Ytmkemjfbmnnflaa
open Go.ChangeShapes Go.WideShapes Go.ChangeAt Go.RowKit Go.Deep Go.Joins
set_option linter.unusedVariables false
set_option maxRecDepth 100000
set_option linter.unusedSimpArgs false
open Go.Lib in
theorem leK_iff (x y : List UInt8) : x ≤ y ↔ Op.bytesLess y x = false := by
  rw [Go.Proofs.bytesLess_eq, decide_eq_false_iff_not]
  exact Iff.rfl
theorem leK_trans {x y z : List UInt8} (h1 : x ≤ y) (h2 : y ≤ z) : x ≤ z := by
  rw [leK_iff] at *
  have n1 := not_less x y
  have n2 := not_less y z
  rw [h1] at n1
  rw [h2] at n2
  simp only [Bool.not_false, Bool.true_eq, Bool.or_eq_true, beq_iff_eq] at n1 n2
  rcases n1 with a | rfl
  · rcases n2 with b | rfl
    · cases h : Op.bytesLess z x
      · rfl
      · have c := less_trans _ _ _ a b
        have d := less_trans _ _ _ c h
        rw [less_irrefl] at d; cases d
    · exact h1
  · exact h2
theorem leK_total (x y : List UInt8) : x ≤ y ∨ y ≤ x := by
  rw [leK_iff, leK_iff]
  cases h : Op.bytesLess y x
  · exact .inl rfl
  · right
    cases h2 : Op.bytesLess x y
    · rfl
    · have d := less_trans _ _ _ h h2
      rw [less_irrefl] at d; cases d
def ltK (x y : List UInt8) : Prop := Op.bytesLess x y = true
theorem ltK_of {x y : List UInt8} (h : x ≤ y) (hn : x ≠ y) : ltK x y := by
  rw [leK_iff] at h
  have n := not_less x y
  rw [h] at n
  simp only [Bool.not_false, Bool.true_eq, Bool.or_eq_true, beq_iff_eq] at n
  rcases n with a | a
  · exact a
  · exact absurd a hn
theorem ltK_asymm {x y : List UInt8} (h1 : ltK x y) (h2 : ltK y x) : False := by
  have d := less_trans _ _ _ h1 h2
  rw [less_irrefl] at d; cases d
theorem ltK_lt_of_le {x y z : List UInt8} (h1 : x ≤ y) (h2 : ltK y z) : ltK x z := by
  rw [leK_iff] at h1
  have n := not_less x y
  rw [h1] at n
  simp only [Bool.not_false, Bool.true_eq, Bool.or_eq_true, beq_iff_eq] at n
  rcases n with a | rfl
  · exact less_trans _ _ _ a h2
  · exact h2
/-- two lists that rise, with the same members, are one -/
theorem rises_unique {a b : List (List UInt8)} (ha : a.Pairwise ltK) (hb : b.Pairwise ltK) (h : ∀ x, x ∈ a ↔ x ∈ b) : a = b := by
  have na : a.Nodup := ha.imp (fun {x y} hxy e => by subst e; exact ltK_asymm hxy hxy)
  have nb : b.Nodup := hb.imp (fun {x y} hxy e => by subst e; exact ltK_asymm hxy hxy)
  have hp : a.Perm b := (List.perm_ext_iff_of_nodup na nb).2 h
  exact List.Perm.eq_of_pairwise (le := ltK) (fun x y _ _ h1 h2 => (ltK_asymm h1 h2).elim) ha hb hp
def sortK (L : List (List UInt8)) : List (List UInt8) := L.mergeSort fun x y => decide (x ≤ y)
theorem sortK_perm (L : List (List UInt8)) : (sortK L).Perm L := List.mergeSort_perm L _
theorem sortK_le (L : List (List UInt8)) : (sortK L).Pairwise (· ≤ ·) :=
  (List.pairwise_mergeSort (le := fun x y => decide (x ≤ y)) (fun a b c h1 h2 => by simp only [decide_eq_true_eq] at *; exact leK_trans h1 h2) (fun a b => by rw [Bool.or_eq_true]; simp only [decide_eq_true_eq]; exact leK_total a b) L).imp fun {a b} h => by simpa using h
open Go.Lib in
theorem compact_facts (L : List (List UInt8)) (hs : L.Pairwise (· ≤ ·)) : ∀ m, m ≤ L.length → (compactUpTo L.toArray m).Pairwise ltK ∧ (∀ x, x ∈ compactUpTo L.toArray m ↔ x ∈ L.take m)
  | 0, _ => by simp [compactUpTo]
  | m + 1, hm => by
    obtain ⟨h1, h2⟩ := compact_facts L hs m (by omega)
    have hml : m < L.length := by omega
    have em : L.toArray[m]! = L[m] := by simp [hml]
    rw [compactUpTo_succ, em]
    have et : L.take (m + 1) = L.take m ++ [L[m]] := List.take_succ_eq_append_getElem hml
    by_cases hk : keeps L.toArray m = true
    · rw [if_pos hk]
      refine ⟨List.pairwise_append.2 ⟨h1, List.pairwise_singleton _ _, fun a ha b hb => ?_⟩, fun x => by rw [et, List.mem_append, List.mem_append, h2 x]⟩
      simp only [List.mem_singleton] at hb
      subst hb
      have ha' := (h2 a).1 ha
      obtain ⟨i, hi, rfl⟩ := List.mem_iff_getElem.1 ha'
      rw [List.length_take] at hi
      rw [List.getElem_take]
      have hm0 : 0 < m := by omega
      have hne : L[m - 1]'(by omega) ≠ L[m] := by
        unfold keeps at hk
        have e1 : L.toArray[m - 1]! = L[m - 1]'(by omega) := by simp [show m - 1 < L.length by omega]
        rw [em, e1, decide_eq_true_eq] at hk
        rcases hk with hk | hk
        · omega
        · exact fun e => hk e.symm
      have hlt : ltK (L[m - 1]'(by omega)) L[m] := ltK_of (List.pairwise_iff_getElem.1 hs (m - 1) m (by omega) hml (by omega)) hne
      by_cases e : i = m - 1
      · subst e; exact hlt
      · exact ltK_lt_of_le (List.pairwise_iff_getElem.1 hs i (m - 1) (by omega) (by omega) (by omega)) hlt
    · rw [if_neg hk, List.append_nil]
      refine ⟨h1, fun x => ?_⟩
      rw [et, List.mem_append, h2 x]
      have : L[m] ∈ L.take m := by
        unfold keeps at hk
        rw [decide_eq_true_eq] at hk
        have hm0 : ¬ m = 0 := fun e => hk (.inl e)
        have e1 : L.toArray[m - 1]! = L[m - 1]'(by omega) := by simp [show m - 1 < L.length by omega]
        have e2 : L[m] = L[m - 1]'(by omega) := by
          rw [em, e1] at hk
          exact Classical.not_not.1 fun h => hk (.inr h)
        rw [e2]
        exact List.mem_iff_getElem.2 ⟨m - 1, by rw [List.length_take]; omega, by rw [List.getElem_take]⟩
      constructor
      · exact fun h => .inl h
      · rintro (h | h)
        · exact h
        · simp only [List.mem_singleton] at h
          rw [h]; exact this
/-- the bells: each once, in order -/
def bellK (L : List (List UInt8)) : List (List UInt8) := Go.Lib.compact (sortK L)
theorem bellK_facts (L : List (List UInt8)) : (bellK L).Pairwise ltK ∧ ∀ x, x ∈ bellK L ↔ x ∈ L := by
  have h := compact_facts (sortK L) (sortK_le L) (sortK L).length (Nat.le_refl _)
  refine ⟨h.1, fun x => (h.2 x).trans ?_⟩
  rw [List.take_length]
  exact (sortK_perm L).mem_iff
theorem bellK_eq {out L : List (List UInt8)} (h1 : out.Pairwise ltK) (h2 : ∀ x, x ∈ out ↔ x ∈ L) : out = bellK L :=
  rises_unique h1 (bellK_facts L).1 fun x => (h2 x).trans ((bellK_facts L).2 x).symm
theorem bellK_len (L : List (List UInt8)) : (bellK L).length ≤ L.length := by
  unfold bellK Go.Lib.compact Go.Lib.compactUpTo
  rw [List.length_map]
  have h := List.length_filter_le (Go.Lib.keeps (sortK L).toArray) (List.range (sortK L).length)
  rw [List.length_range, (sortK_perm L).length_eq] at h
  rw [(sortK_perm L).length_eq]
  exact h
end Go.Proofs.Ytmkemjfbmnnflaa
