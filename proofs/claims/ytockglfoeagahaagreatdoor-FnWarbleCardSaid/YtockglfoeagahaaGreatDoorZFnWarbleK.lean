/- Contracts and plain facts, joined: TurnL, BestL. -/
import Derived.Test.YtockglfoeagahaaGreatDoorRows
import Derived.Test.YtockglfoeagahaaGreatDoorZFnWarbleH
import Derived.Test.YtockglfoeagahaaGreatDoorZFnWarbleI
import Derived.Test.YtockglfoeagahaaGreatDoorZFnWarbleJ
namespace Go.Proofs.YtockglfoeagahaaGreatDoor
open Go.ChangeShapes Go.WideShapes Go.ChangeAt Go.RowKit Go.Deep Go.Joins
set_option linter.unusedVariables false
set_option maxRecDepth 100000
set_option linter.unusedSimpArgs false
theorem sorted_iff {xs : List Spot} : SortedA xs ↔ xs.Pairwise fun a b => a.angle < b.angle := by
  unfold SortedA
  exact (List.pairwise_iff_getElem (R := fun a b : Spot => a.angle < b.angle)).symm
theorem exists_pos {xs : List Spot} (hs : SortedA xs) (a : Int) : ∀ n, n ≤ xs.length → ∃ k, k ≤ n ∧ (∀ i (h : i < xs.length), i < k → xs[i].angle < a) ∧ (∀ i (h : i < xs.length), k ≤ i → i < n → a ≤ xs[i].angle)
  | 0, _ => ⟨0, Nat.le_refl _, fun i _ h => by omega, fun i _ _ h => by omega⟩
  | n + 1, hn => by
    obtain ⟨k, hk, h1, h2⟩ := exists_pos hs a n (by omega)
    by_cases h : xs[n].angle < a
    · refine ⟨n + 1, Nat.le_refl _, fun i hi hin => ?_, fun i hi _ _ => by omega⟩
      rcases Nat.lt_or_eq_of_le (Nat.le_of_lt_succ hin) with h3 | h3
      · exact Int.lt_trans (hs i n hi (by omega) h3) h
      · subst h3; exact h
    · refine ⟨k, by omega, h1, fun i hi hki hin => ?_⟩
      rcases Nat.lt_or_eq_of_le (Nat.le_of_lt_succ hin) with h3 | h3
      · exact h2 i hi hki h3
      · subst h3; omega
/-- a spot at a new angle -/
theorem addL_ins {o : List Spot} {s : Spot} (ho : SortedA o) (hn : ∀ x ∈ o, x.angle ≠ s.angle) (hl : o.length < 16) : ∃ o', addL s o = (o', 0) ∧ SortedA o' ∧ o'.Perm (s :: o) := by
  obtain ⟨k, hk, h1, h2⟩ := exists_pos ho s.angle o.length (Nat.le_refl _)
  have h3 : ∀ i (h : i < o.length), k ≤ i → s.angle < o[i].angle := fun i h hki => by
    have a := h2 i h hki h
    have b := hn o[i] (List.getElem_mem h)
    omega
  refine ⟨o.take k ++ (s :: o.drop k), by rw [addL_miss hk h1 h3, if_neg (by omega)], ?_, ?_⟩
  · rw [sorted_iff, List.pairwise_append]
    have hp := sorted_iff.1 ho
    refine ⟨hp.sublist (List.take_sublist _ _), List.pairwise_cons.2 ⟨fun x hx => ?_, hp.sublist (List.drop_sublist _ _)⟩, fun x hx y hy => ?_⟩
    · obtain ⟨i, hi, rfl⟩ := List.getElem_of_mem hx
      rw [List.getElem_drop]
      exact h3 _ _ (by omega)
    · obtain ⟨i, hi, rfl⟩ := List.getElem_of_mem hx
      rw [List.getElem_take]
      have hi' : i < k := by rw [List.length_take] at hi; omega
      have hx1 := h1 i (by omega) hi'
      rcases List.mem_cons.1 hy with rfl | hy
      · exact hx1
      · obtain ⟨j, hj, rfl⟩ := List.getElem_of_mem hy
        rw [List.getElem_drop]
        exact Int.lt_trans hx1 (h3 _ _ (by omega))
  · exact List.perm_middle.trans (by rw [List.take_append_drop])
/-- a spot turned -/
def tA (by_ : Int) (x : Spot) : Spot := ⟨(x.angle + by_ % 360) % 360, x.weight⟩
theorem tA_inj {d : Int} {x y : Spot} (hx : 0 ≤ x.angle ∧ x.angle ≤ 359) (hy : 0 ≤ y.angle ∧ y.angle ≤ 359) (h : (tA d x).angle = (tA d y).angle) : x.angle = y.angle := by
  unfold tA at h
  simp only at h
  omega
/-- the spots turned, added one by one -/
def turnF (d : Int) (xs : List Spot) : Nat → List Spot
  | 0 => []
  | k + 1 => match xs[k]? with
    | some x => (addL (tA d x) (turnF d xs k)).1
    | none => turnF d xs k
theorem turnF_succ {d : Int} {xs : List Spot} {k : Nat} (h : k < xs.length) : turnF d xs (k + 1) = (addL (tA d xs[k]) (turnF d xs k)).1 := by
  show (match xs[k]? with
    | some x => (addL (tA d x) (turnF d xs k)).1
    | none => turnF d xs k) = _
  rw [List.getElem?_eq_getElem h]
theorem turnF_is {d : Int} {xs : List Spot} (hv : validSpotS xs = true) : ∀ k, k ≤ xs.length → SortedA (turnF d xs k) ∧ (turnF d xs k).Perm ((xs.take k).map (tA d))
  | 0, _ => ⟨fun i j hi => by simp [turnF] at hi, by simp [turnF]⟩
  | k + 1, hk => by
    obtain ⟨h1, h2⟩ := turnF_is hv k (by omega)
    obtain ⟨h16, hb⟩ := validSpotS_true hv
    have hs := validSpotS_sorted hv
    have hlen : (turnF d xs k).length = k := by rw [h2.length_eq, List.length_map, List.length_take]; omega
    have hno : ∀ x ∈ turnF d xs k, x.angle ≠ (tA d xs[k]).angle := fun x hx e => by
      obtain ⟨y, hy, rfl⟩ := List.mem_map.1 (h2.mem_iff.1 hx)
      obtain ⟨i, hi, rfl⟩ := List.getElem_of_mem hy
      rw [List.length_take] at hi
      rw [List.getElem_take] at e
      have e2 := tA_inj (spotB_nums (hb _ (List.getElem_mem (by omega)))).1 (spotB_nums (hb _ (List.getElem_mem (by omega)))).1 e
      have := hs i k (by omega) (by omega) (by omega)
      omega
    obtain ⟨o', e, h3, h4⟩ := addL_ins h1 hno (by omega)
    rw [turnF_succ (by omega), e]
    refine ⟨h3, h4.trans ?_⟩
    rw [← List.take_append_getElem (show k < xs.length by omega), List.map_append]
    exact (List.Perm.cons _ h2).trans ((List.perm_append_comm (l₁ := [tA d xs[k]])))
/-- the only list of these spots in order -/
theorem sorted_unique {a b : List Spot} (ha : SortedA a) (hb : SortedA b) (hp : a.Perm b) : a = b := by
  refine List.Perm.eq_of_pairwise (le := fun x y : Spot => x.angle < y.angle) ?_ (sorted_iff.1 ha) (sorted_iff.1 hb) hp
  intro x y _ _ h1 h2
  omega
def turnS (xs : List Spot) (d : Int) : List Spot := if validSpotS xs = true then turnF d xs xs.length else []
def turnC (xs : List Spot) : Int := if validSpotS xs = true then 0 else 1
end Go.Proofs.YtockglfoeagahaaGreatDoor
namespace Go.Proofs.YtockglfoeagahaaGreatDoor
open Go.ChangeShapes Go.WideShapes Go.ChangeAt Go.RowKit Go.Deep Go.Joins
set_option linter.unusedVariables false
set_option maxRecDepth 100000
set_option linter.unusedSimpArgs false
theorem allK_mk {f : Nat → Bool} : ∀ {n : Nat}, (∀ k, k < n → f k = true) → allK f n = true
  | 0, _ => rfl
  | n + 1, h => by rw [allK_succ, allK_mk fun k hk => h k (by omega), h n (by omega)]; rfl
theorem validSpotS_mk {xs : List Spot} (hl : xs.length ≤ 16) (hs : SortedA xs) (hb : ∀ x ∈ xs, spotB x = true) : validSpotS xs = true := by
  unfold validSpotS
  rw [Bool.and_eq_true]
  refine ⟨allK_mk fun k hk => ?_, by simpa using hl⟩
  have hO := hb xs[k] (List.getElem_mem hk)
  by_cases h0 : k = 0
  · exact stepB_k0 hk h0 hO
  · refine stepB_yes hk (by omega) hO ?_
    unfold ltKSpot
    exact decide_eq_true (hs (k - 1) k (by omega) hk (by omega))
theorem spotB_mk {x : Spot} (h1 : inB x.angle 0 359 = true) (h2 : weightB x.weight = true) : spotB x = true := by unfold spotB; rw [h1, h2]; rfl
theorem spotB_inB {x : Spot} (h : spotB x = true) : inB x.angle 0 359 = true ∧ weightB x.weight = true := by
  unfold spotB at h
  rw [Bool.and_eq_true] at h
  exact h
/-- valid spots with one more are valid -/
theorem addL_valid {xs : List Spot} {s : Spot} (hv : validSpotS xs = true) (hs : spotB s = true) (h0 : (addL s xs).2 = 0) : validSpotS (addL s xs).1 = true := by
  obtain ⟨h16, hb⟩ := validSpotS_true hv
  have ho := validSpotS_sorted hv
  obtain ⟨k, hk, h1, h2⟩ := exists_pos ho s.angle xs.length (Nat.le_refl _)
  by_cases hit : ∃ h : k < xs.length, xs[k].angle = s.angle
  · obtain ⟨hlt, he⟩ := hit
    have e := addL_hit ho h16 hlt he
    by_cases hz : xs[k].weight + s.weight = 0
    · rw [if_pos hz] at e
      rw [e]
      rw [← List.eraseIdx_eq_take_drop_succ]
      have hsub := List.eraseIdx_sublist xs k
      refine validSpotS_mk (by have := hsub.length_le; show (xs.eraseIdx k).length ≤ 16; omega) (sorted_iff.2 ((sorted_iff.1 ho).sublist hsub)) fun x hx => hb x (hsub.subset hx)
    · rw [if_neg hz] at e
      by_cases hw : weightB (xs[k].weight + s.weight) = true
      · rw [if_pos hw] at e
        rw [e]
        refine validSpotS_mk (by show (xs.set k _).length ≤ 16; rw [List.length_set]; exact h16) ?_ fun x hx => ?_
        · intro i j hi hj hij
          have hi' : i < xs.length := by simpa using hi
          have hj' : j < xs.length := by simpa using hj
          have := ho i j hi' hj' hij
          simp only [List.getElem_set]
          split
          · rename_i q; subst q
            split
            · omega
            · exact this
          · split
            · rename_i q; subst q; exact this
            · exact this
        · rcases List.mem_or_eq_of_mem_set hx with h | rfl
          · exact hb x h
          · exact spotB_mk (spotB_inB (hb _ (List.getElem_mem hlt))).1 hw
      · rw [if_neg hw] at e
        rw [e] at h0; cases h0
  · have h3 : ∀ i (h : i < xs.length), k ≤ i → s.angle < xs[i].angle := fun i h hki => by
      have a := h2 i h hki h
      rcases Nat.lt_or_eq_of_le hki with q | q
      · have := ho k i (by omega) h q
        have a2 := h2 k (by omega) (Nat.le_refl _) (by omega)
        omega
      · subst q
        have : xs[k].angle ≠ s.angle := fun e => hit ⟨h, e⟩
        omega
    have e := addL_miss hk h1 h3
    by_cases hl : 16 ≤ xs.length
    · rw [if_pos hl] at e; rw [e] at h0; cases h0
    · have hno : ∀ x ∈ xs, x.angle ≠ s.angle := fun x hx => by
        obtain ⟨i, hi, rfl⟩ := List.getElem_of_mem hx
        by_cases hik : i < k
        · have := h1 i hi hik; omega
        · have := h3 i hi (by omega); omega
      obtain ⟨o', e2, hs2, hp⟩ := addL_ins ho hno (by omega)
      rw [e2]
      refine validSpotS_mk (by show o'.length ≤ 16; rw [hp.length_eq]; simp; omega) hs2 fun x hx => ?_
      rcases List.mem_cons.1 (hp.mem_iff.1 hx) with rfl | h
      · exact hs
      · exact hb x h
/-- the best of the first angles: it, the split with it; -1 if there is none -/
noncomputable def bestA (xs : List Spot) (n m : Int) : Nat → Int × Int
  | 0 => (-1, 0)
  | d + 1 => if (addL ⟨d, m⟩ xs).2 ≠ 0 then bestA xs n m d else
      if (bestA xs n m d).1 < 0 ∨ splitN n (addL ⟨d, m⟩ xs).1 < (bestA xs n m d).2 then ((d : Int), splitN n (addL ⟨d, m⟩ xs).1) else bestA xs n m d
theorem bestA_bad {xs : List Spot} {n m : Int} {d : Nat} (h : (addL ⟨d, m⟩ xs).2 ≠ 0) : bestA xs n m (d + 1) = bestA xs n m d := if_pos h
theorem bestA_take {xs : List Spot} {n m : Int} {d : Nat} (h : (addL ⟨d, m⟩ xs).2 = 0) (h2 : (bestA xs n m d).1 < 0 ∨ splitN n (addL ⟨d, m⟩ xs).1 < (bestA xs n m d).2) : bestA xs n m (d + 1) = ((d : Int), splitN n (addL ⟨d, m⟩ xs).1) := (if_neg (fun q => q h)).trans (if_pos h2)
theorem bestA_keep {xs : List Spot} {n m : Int} {d : Nat} (h : (addL ⟨d, m⟩ xs).2 = 0) (h2 : ¬ ((bestA xs n m d).1 < 0 ∨ splitN n (addL ⟨d, m⟩ xs).1 < (bestA xs n m d).2)) : bestA xs n m (d + 1) = bestA xs n m d := (if_neg (fun q => q h)).trans (if_neg h2)
theorem bestA_is {xs : List Spot} {n m : Int} : ∀ d, bestA xs n m d = (-1, 0) ∨ ∃ a : Nat, a < d ∧ (addL ⟨a, m⟩ xs).2 = 0 ∧ bestA xs n m d = ((a : Int), splitN n (addL ⟨a, m⟩ xs).1)
  | 0 => .inl rfl
  | d + 1 => by
    have ih := bestA_is (xs := xs) (n := n) (m := m) d
    have ih2 : bestA xs n m d = (-1, 0) ∨ ∃ a : Nat, a < d + 1 ∧ (addL ⟨a, m⟩ xs).2 = 0 ∧ bestA xs n m d = ((a : Int), splitN n (addL ⟨a, m⟩ xs).1) := by
      rcases ih with h | ⟨a, h1, h2, h3⟩
      · exact .inl h
      · exact .inr ⟨a, by omega, h2, h3⟩
    by_cases h : (addL ⟨d, m⟩ xs).2 = 0
    · by_cases h2 : (bestA xs n m d).1 < 0 ∨ splitN n (addL ⟨d, m⟩ xs).1 < (bestA xs n m d).2
      · rw [bestA_take h h2]
        exact .inr ⟨d, by omega, h, rfl⟩
      · rw [bestA_keep h h2]; exact ih2
    · rw [bestA_bad h]; exact ih2
/-- the first error of BestSpot -/
noncomputable def bestC (xs : List Spot) (n m : Int) : Int := if codeW xs n ≠ 0 then codeW xs n else if weightB m = true then (if (bestA xs n m 360).1 < 0 then 5 else 0) else 2
noncomputable def bestS (xs : List Spot) (n m : Int) : Int × Int := if bestC xs n m = 0 then bestA xs n m 360 else (0, 0)
/-- spots added as long as it helps -/
noncomputable def quietF (n m lim : Int) : Nat → List Spot → Int → List Spot
  | 0, xs, _ => xs
  | q + 1, xs, now => if lim < now then
      if (bestA xs n m 360).1 < 0 ∨ now ≤ (bestA xs n m 360).2 then xs else quietF n m lim q (addL ⟨(bestA xs n m 360).1, m⟩ xs).1 (bestA xs n m 360).2
    else xs
noncomputable def quietC (xs : List Spot) (n m lim : Int) : Int := if codeW xs n ≠ 0 then codeW xs n else if (weightB m && inB lim 0 100000000) = true then 0 else 2
noncomputable def quietS (xs : List Spot) (n m lim : Int) : List Spot := if quietC xs n m lim = 0 then quietF n m lim (splitN n xs).toNat xs (splitN n xs) else []
end Go.Proofs.YtockglfoeagahaaGreatDoor
