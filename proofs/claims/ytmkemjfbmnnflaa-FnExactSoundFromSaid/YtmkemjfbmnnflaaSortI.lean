/- Numbers in ascending order. -/
import Derived.Test.YtmkemjfbmnnflaaRows
import Derived.Test.YtmkemjfbmnnflaaLaw
namespace Go.Proofs.Ytmkemjfbmnnflaa
open Go.ChangeShapes Go.WideShapes Go.ChangeAt Go.RowKit Go.Deep Go.Joins
set_option linter.unusedVariables false
set_option maxRecDepth 100000
set_option linter.unusedSimpArgs false
/-- numbers in ascending order -/
def sortI (zs : List Int) : List Int := zs.mergeSort fun x y => decide (x ≤ y)
theorem sortI_perm (zs : List Int) : (sortI zs).Perm zs := List.mergeSort_perm zs _
theorem sortI_len (zs : List Int) : (sortI zs).length = zs.length := (sortI_perm zs).length_eq
theorem sortI_le (zs : List Int) : (sortI zs).Pairwise (· ≤ ·) :=
  (List.pairwise_mergeSort (le := fun x y => decide (x ≤ y)) (fun a b c h1 h2 => by simp only [decide_eq_true_eq] at *; omega) (fun a b => by rw [Bool.or_eq_true]; simp only [decide_eq_true_eq]; omega) zs).imp fun {a b} h => by simpa using h
theorem sortI_eq {zs ys : List Int} (hp : ys.Perm zs) (hs : ys.Pairwise (· ≤ ·)) : ys = sortI zs :=
  List.Perm.eq_of_pairwise (le := (· ≤ ·)) (fun a b _ _ h1 h2 => by omega) hs (sortI_le zs) (hp.trans (sortI_perm zs).symm)
theorem ins_sorted {out : List Int} {v : Int} {k : Nat} (hk : k ≤ out.length) (hs : out.Pairwise (· ≤ ·)) (h1 : ∀ i (h : i < out.length), k ≤ i → v < out[i]) (h2 : ∀ h : k - 1 < out.length, 0 < k → out[k - 1] ≤ v) : (out.take k ++ v :: out.drop k).Pairwise (· ≤ ·) := by
  have hd : ∀ b ∈ out.drop k, v < b := fun b hb => by
    obtain ⟨i, hi, rfl⟩ := List.mem_iff_getElem.1 hb
    rw [List.length_drop] at hi
    rw [List.getElem_drop]
    exact h1 (k + i) (by omega) (by omega)
  have ht : ∀ a ∈ out.take k, a ≤ v := fun a ha => by
    obtain ⟨i, hi, rfl⟩ := List.mem_iff_getElem.1 ha
    rw [List.length_take] at hi
    rw [List.getElem_take]
    have h3 := h2 (by omega) (by omega)
    by_cases e : i = k - 1
    · subst e; exact h3
    · have := List.pairwise_iff_getElem.1 hs i (k - 1) (by omega) (by omega) (by omega)
      omega
  rw [List.pairwise_append]
  refine ⟨hs.sublist (List.take_sublist k out), ?_, fun a ha b hb => ?_⟩
  · rw [List.pairwise_cons]
    exact ⟨fun b hb => by have := hd b hb; omega, hs.sublist (List.drop_sublist k out)⟩
  · rcases List.mem_cons.1 hb with rfl | hb
    · exact ht a ha
    · have := ht a ha; have := hd b hb; omega
theorem ins_perm {α : Type} (out : List α) (v : α) (k : Nat) : (out.take k ++ v :: out.drop k).Perm (out ++ [v]) := by
  have h1 : (out.take k ++ v :: out.drop k).Perm (v :: (out.take k ++ out.drop k)) := List.perm_middle
  rw [List.take_append_drop] at h1
  exact h1.trans (List.perm_append_singleton v out).symm
end Go.Proofs.Ytmkemjfbmnnflaa
