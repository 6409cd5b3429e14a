/- Spots turned: what both sides compute. -/
import Derived.Test.YtkolgfmjajlpgaaDoorRows
import Derived.Test.YtkolgfmjajlpgaaDoorAddI
import Derived.Test.YtkolgfmjajlpgaaDoorSine
namespace Go.Proofs.YtkolgfmjajlpgaaDoor
open Go.ChangeShapes Go.WideShapes Go.ChangeAt Go.RowKit Go.Deep Go.Joins
set_option linter.unusedVariables false
set_option maxRecDepth 100000
set_option linter.unusedSimpArgs false
theorem sorted_iff {xs : List Spot} : SortedA xs ↔ xs.Pairwise fun a b => a.angle < b.angle := by
  unfold SortedA
  exact (List.pairwise_iff_getElem (R := fun a b : Spot => a.angle < b.angle)).symm
theorem exists_pos {xs : List Spot} (hs : SortedA xs) (a : Int) : ∀ n, n ≤ xs.length → ∃ k, k ≤ n ∧ (∀ i (h : i < xs.length), i < k → xs[i].angle < a) ∧ (∀ i (h : i < xs.length), k ≤ i → i < n → a ≤ xs[i].angle)
  | 0, _ => ⟨0, Nat.le_refl _, fun i _ h => by omega, fun i _ _ h => by omega⟩
  | n + 1, hn => by
    obtain ⟨k, hk, h1, h2⟩ := exists_pos hs a n (by omega)
    by_cases h : xs[n].angle < a
    · refine ⟨n + 1, Nat.le_refl _, fun i hi hin => ?_, fun i hi _ _ => by omega⟩
      rcases Nat.lt_or_eq_of_le (Nat.le_of_lt_succ hin) with h3 | h3
      · exact Int.lt_trans (hs i n hi (by omega) h3) h
      · subst h3; exact h
    · refine ⟨k, by omega, h1, fun i hi hki hin => ?_⟩
      rcases Nat.lt_or_eq_of_le (Nat.le_of_lt_succ hin) with h3 | h3
      · exact h2 i hi hki h3
      · subst h3; omega
/-- a spot at a new angle -/
theorem addL_ins {o : List Spot} {s : Spot} (ho : SortedA o) (hn : ∀ x ∈ o, x.angle ≠ s.angle) (hl : o.length < 16) : ∃ o', addL s o = (o', 0) ∧ SortedA o' ∧ o'.Perm (s :: o) := by
  obtain ⟨k, hk, h1, h2⟩ := exists_pos ho s.angle o.length (Nat.le_refl _)
  have h3 : ∀ i (h : i < o.length), k ≤ i → s.angle < o[i].angle := fun i h hki => by
    have a := h2 i h hki h
    have b := hn o[i] (List.getElem_mem h)
    omega
  refine ⟨o.take k ++ (s :: o.drop k), by rw [addL_miss hk h1 h3, if_neg (by omega)], ?_, ?_⟩
  · rw [sorted_iff, List.pairwise_append]
    have hp := sorted_iff.1 ho
    refine ⟨hp.sublist (List.take_sublist _ _), List.pairwise_cons.2 ⟨fun x hx => ?_, hp.sublist (List.drop_sublist _ _)⟩, fun x hx y hy => ?_⟩
    · obtain ⟨i, hi, rfl⟩ := List.getElem_of_mem hx
      rw [List.getElem_drop]
      exact h3 _ _ (by omega)
    · obtain ⟨i, hi, rfl⟩ := List.getElem_of_mem hx
      rw [List.getElem_take]
      have hi' : i < k := by rw [List.length_take] at hi; omega
      have hx1 := h1 i (by omega) hi'
      rcases List.mem_cons.1 hy with rfl | hy
      · exact hx1
      · obtain ⟨j, hj, rfl⟩ := List.getElem_of_mem hy
        rw [List.getElem_drop]
        exact Int.lt_trans hx1 (h3 _ _ (by omega))
  · exact List.perm_middle.trans (by rw [List.take_append_drop])
/-- a spot turned -/
def tA (by_ : Int) (x : Spot) : Spot := ⟨(x.angle + by_ % 360) % 360, x.weight⟩
theorem tA_inj {d : Int} {x y : Spot} (hx : 0 ≤ x.angle ∧ x.angle ≤ 359) (hy : 0 ≤ y.angle ∧ y.angle ≤ 359) (h : (tA d x).angle = (tA d y).angle) : x.angle = y.angle := by
  unfold tA at h
  simp only at h
  omega
/-- the spots turned, added one by one -/
def turnF (d : Int) (xs : List Spot) : Nat → List Spot
  | 0 => []
  | k + 1 => match xs[k]? with
    | some x => (addL (tA d x) (turnF d xs k)).1
    | none => turnF d xs k
theorem turnF_succ {d : Int} {xs : List Spot} {k : Nat} (h : k < xs.length) : turnF d xs (k + 1) = (addL (tA d xs[k]) (turnF d xs k)).1 := by
  show (match xs[k]? with
    | some x => (addL (tA d x) (turnF d xs k)).1
    | none => turnF d xs k) = _
  rw [List.getElem?_eq_getElem h]
theorem turnF_is {d : Int} {xs : List Spot} (hv : validSpotS xs = true) : ∀ k, k ≤ xs.length → SortedA (turnF d xs k) ∧ (turnF d xs k).Perm ((xs.take k).map (tA d))
  | 0, _ => ⟨fun i j hi => by simp [turnF] at hi, by simp [turnF]⟩
  | k + 1, hk => by
    obtain ⟨h1, h2⟩ := turnF_is hv k (by omega)
    obtain ⟨h16, hb⟩ := validSpotS_true hv
    have hs := validSpotS_sorted hv
    have hlen : (turnF d xs k).length = k := by rw [h2.length_eq, List.length_map, List.length_take]; omega
    have hno : ∀ x ∈ turnF d xs k, x.angle ≠ (tA d xs[k]).angle := fun x hx e => by
      obtain ⟨y, hy, rfl⟩ := List.mem_map.1 (h2.mem_iff.1 hx)
      obtain ⟨i, hi, rfl⟩ := List.getElem_of_mem hy
      rw [List.length_take] at hi
      rw [List.getElem_take] at e
      have e2 := tA_inj (spotB_nums (hb _ (List.getElem_mem (by omega)))).1 (spotB_nums (hb _ (List.getElem_mem (by omega)))).1 e
      have := hs i k (by omega) (by omega) (by omega)
      omega
    obtain ⟨o', e, h3, h4⟩ := addL_ins h1 hno (by omega)
    rw [turnF_succ (by omega), e]
    refine ⟨h3, h4.trans ?_⟩
    rw [← List.take_append_getElem (show k < xs.length by omega), List.map_append]
    exact (List.Perm.cons _ h2).trans ((List.perm_append_comm (l₁ := [tA d xs[k]])))
/-- the only list of these spots in order -/
theorem sorted_unique {a b : List Spot} (ha : SortedA a) (hb : SortedA b) (hp : a.Perm b) : a = b := by
  refine List.Perm.eq_of_pairwise (le := fun x y : Spot => x.angle < y.angle) ?_ (sorted_iff.1 ha) (sorted_iff.1 hb) hp
  intro x y _ _ h1 h2
  omega
def turnS (xs : List Spot) (d : Int) : List Spot := if validSpotS xs = true then turnF d xs xs.length else []
def turnC (xs : List Spot) : Int := if validSpotS xs = true then 0 else 1
end Go.Proofs.YtkolgfmjajlpgaaDoor
