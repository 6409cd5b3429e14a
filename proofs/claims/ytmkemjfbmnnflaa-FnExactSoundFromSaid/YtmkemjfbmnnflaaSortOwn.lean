/- slices.Sort at int64, on a slice of one's own. -/
import Derived.Test.YtmkemjfbmnnflaaRows
import Derived.Test.YtmkemjfbmnnflaaSortI
import Derived.Test.YtmkemjfbmnnflaaAcc
import Derived.Test.YtmkemjfbmnnflaaCopyInts
import Derived.Shelf.SortM.Plain
import Derived.Shelf.SortM.SortNone
import Derived.Ground.SlgmProg
import Derived.Sort.OwnSortedInts
namespace Go.Proofs.Ytmkemjfbmnnflaa
open Go.ChangeShapes Go.WideShapes Go.ChangeAt Go.RowKit Go.Deep Go.Joins
set_option linter.unusedVariables false
set_option maxRecDepth 100000
set_option linter.unusedSimpArgs false
open Go.Sort Go.Shelf in
theorem sort_own {P : Program} {ρ} (L : SlLaysM.n5 P ρ) {w : World} {base : Nat} {e : TypeId} {v : Value} {n : Nat} {zs : List Int} (h : w.ownsRow base e 1 v n (zs.flatMap putI)) (hn : n ≤ 1048576) :
    Calls P (ρ.f 5) #[v] w fun e' w' => e' = .returned (.tuple #[]) ∧ w'.ownsRow base e 1 v n ((sortI zs).flatMap putI) ∧ w.grownBy w' v.ownBlock := by
  have ef : ∀ xs : List Int, xs.flatMap putI = xs.map (Value.int .i64) := fun xs => by
    induction xs with
    | nil => rfl
    | cons x xs ih => rw [List.flatMap_cons, ih]; rfl
  rw [ef] at h
  rw [ef]
  obtain ⟨h1, h2⟩ := h
  rw [List.length_map, Nat.mul_one] at h1
  subst h1
  rcases h2 with ⟨rfl, h0⟩ | ⟨g, cap, cur, rfl, hb, hg, hnc, hm, hs, ht⟩
  · have hz : zs = [] := List.eq_nil_of_length_eq_zero h0
    subst hz
    exact (AnyM.slices_Sort_int_none L none 0 w).mono fun e' w' ⟨a, b⟩ => by
      subst b
      exact ⟨a, ⟨by simp [sortI], .inl ⟨rfl, rfl⟩⟩, World.grownBy.refl _ _⟩
  · rw [Nat.mul_one] at ht
    refine (AnyM.slices_Sort_int L g 0 cap zs w (holds_of_blockI hg ht) (Array.getElem?_eq_some_iff.1 hg).1 (by omega)).mono fun e' w' ⟨a, q, os, hw⟩ => ?_
    subst hw
    exact ⟨a, ownsRow_sortedI (sortI_len zs) hb hg hnc hm hs, grownBy_sortedI _⟩
end Go.Proofs.Ytmkemjfbmnnflaa
