/- Contracts and plain facts, joined: DelSpot. -/
import Derived.Test.YtockglfoeagahaaGreatDoorRows
import Derived.Test.YtockglfoeagahaaGreatDoorZFnWarbleB
import Derived.Test.YtockglfoeagahaaGreatDoorZFnWarbleL
import Derived.Deep.RegionLaw
import Derived.Shelf.Spec.SlicesInsertGrow
namespace Go.Proofs.YtockglfoeagahaaGreatDoor
open Go.ChangeShapes Go.WideShapes Go.ChangeAt Go.RowKit Go.Deep Go.Joins
set_option linter.unusedVariables false
set_option maxRecDepth 100000
set_option linter.unusedSimpArgs false
set_option maxHeartbeats 8000000 in
/-- slices.Delete of one element, on a slice of one's own -/
theorem del_Spot (w : World) (base : Nat) (r : Value) (n k : Nat) (L : List Value) (hr : w.ownsRow base 38 2 r n L) (h1c : ∀ u ∈ L, u.oneCell' = true) (hk : k < n) (hn : n ≤ 1048576) (hbase : base ≤ w.heap.size) :
    Calls Tryz.prog 51 #[r, .int .i64 k, .int .i64 ((k : Int) + 1)] w fun e w' => ∃ ao cap, e = .returned (.slice ao (n - 1) cap) ∧ w'.ownsRow base 38 2 (.slice ao (n - 1) cap) (n - 1) (L.take (k * 2) ++ L.drop ((k + 1) * 2)) ∧ Below base w w' := by
  obtain ⟨i0, hi, hz0, hz1, hz2⟩ := info_parts Spot_info
  have mixed : Tryz.prog.follows .mixedOrders = true := by kernel_rfl
  obtain ⟨h1, h2⟩ := hr
  rcases h2 with ⟨rfl, h0⟩ | ⟨g, cap, cur, rfl, hb, hg, hnc, hmx, hs, ht⟩
  · omega
  have HG : Hid (Own w g 38 cur.toList) := Lib.hid (by unfold Own; simpa using hg)
  have hgw : g < w.heap.size := HG.out.lt
  have H1c := Lib.hid h1c
  have hmx2 : cap ≤ 9223372036854775807 := hmx
  obtain ⟨A, hA⟩ : ∃ A, A = L.take (k * 2) := ⟨_, rfl⟩
  obtain ⟨X, hX⟩ : ∃ X, X = (L.drop (k * 2)).take 2 := ⟨_, rfl⟩
  obtain ⟨D, hD⟩ : ∃ D, D = L.drop ((k + 1) * 2) := ⟨_, rfl⟩
  have hk1 : (k + 1) * 2 = k * 2 + 2 := by rw [Nat.add_mul, Nat.one_mul]
  have hk2 : (k + 1 + (n - (k + 1))) * 2 = n * 2 := by rw [show k + 1 + (n - (k + 1)) = n from by omega]
  rw [Nat.add_mul] at hk2
  have hkn : (n - 1) * 2 + 2 = n * 2 := by rw [← Nat.succ_mul, show (n - 1).succ = n from by omega]
  have hk3 : (k + (n - (k + 1))) * 2 = (n - 1) * 2 := by rw [show k + (n - (k + 1)) = n - 1 from by omega]
  rw [Nat.add_mul] at hk3
  have hncS : n * 2 ≤ cap * 2 := Nat.mul_le_mul_right _ hnc
  have hAl : A.length = k * 2 := by rw [hA, List.length_take, h1]; omega
  have hXl : X.length = 2 := by rw [hX, List.length_take, List.length_drop, h1]; omega
  have hDl : D.length = (n - (k + 1)) * 2 := by rw [hD, List.length_drop, h1]; omega
  have hAB : L = A ++ (X ++ D) := by rw [hA, hX, hD, hk1, ← List.drop_drop, List.take_append_drop, List.take_append_drop]
  obtain ⟨S, hS⟩ : ∃ S, S = cur.toList.drop (n * 2) := ⟨_, rfl⟩
  have hcur : cur.toList = A ++ (X ++ (D ++ S)) := by rw [← List.append_assoc X, ← List.append_assoc, ← hAB, hS, ← ht, List.take_append_drop]
  have hSl : S.length = cap * 2 - n * 2 := by rw [hS, List.length_drop, Array.length_toList, hs]
  have hcs : Hid (∀ j u, D[j]? = some u → w.cell? ⟨g, k * 2 + 2 + j, none⟩ = some u) := Lib.hid fun j u hj => by
    have hj' := (List.getElem?_eq_some_iff.1 hj).1
    rw [HG.out.cell, hcur, ← hAl, List.getElem?_append_right (by omega), show A.length + 2 + j - A.length = X.length + j from by omega, List.getElem?_append_right (by omega), show X.length + j - X.length = j from by omega, List.getElem?_append_left hj', hj]
  have h1D : Hid (∀ u ∈ D, u.oneCell' = true) := Lib.hid fun u hu => H1c.out u (by rw [hAB]; exact List.mem_append_right _ (List.mem_append_right _ hu))
  rw [hcur] at HG
  rw [← hA, ← hD]
  have hne : ((k : Int) == (k : Int) + 1) = false := beq_eq_false_iff_ne.2 (by omega)
  have hb1 : (0 : Int) ≤ (k : Int) + 1 := by omega
  have htn : ((k : Int) + 1).toNat = k + 1 := by omega
  have hb2 : (k : Int) + 1 ≤ (n : Int) := by omega
  have hb3 : (n : Int) ≤ (cap : Int) := by omega
  have hb4 : (k : Int) ≤ (k : Int) + 1 := by omega
  have hb5 : (k : Int) ≤ (cap : Int) := by omega
  have hb6 : ¬ (cap = k) := by omega
  have ekn : k + (n - (k + 1)) = n - 1 := by omega
  have ekc : ((n - 1 : Nat) : Int) ≤ (n : Int) := by omega
  have hb7 : ¬ (cap = n - 1) := by omega
  have hnn : n - (n - 1) = 1 := by omega
  clear ht hs hcur hS hg hA hX hD hAB h1c h1
  have fin : ∀ w3 (Z : List Value), Hid (Z.length = 1 * 2) → Hid (Own w3 g 38 (splice (splice (A ++ (X ++ (D ++ S))) (k * 2) D) ((n - 1) * 2) Z)) → w3.ownsRow base 38 2 (.slice (some ⟨g, 0, none⟩) (n - 1) cap) (n - 1) (A ++ D) := fun w3 Z hZ ho => by
    have hZ' := hZ.out
    have hl1 : (splice (A ++ (X ++ (D ++ S))) (k * 2) D).length = cap * 2 := by rw [length_splice _ _ _ (by simp only [List.length_append]; omega)]; simp only [List.length_append]; omega
    refine row_of_own ho.out hb (by omega) hmx (by rw [length_splice _ _ _ (by rw [hl1]; omega), hl1]) (by simp only [List.length_append]; omega) ?_
    have := splice_del A X D S Z (by omega)
    rw [show A.length + D.length = (n - 1) * 2 from by omega, hAl] at this
    exact this
  go_enter Tryz.func51, Tryz.ntmps51
  by_cases hcj : cap = k + 1
  · obtain rfl : n = k + 1 := by omega
    subst hcj
    have hD0 : D = [] := List.eq_nil_of_length_eq_zero (by rw [hDl]; simp)
    clear hb6 hb7
    go_wp2_with fail
    go_region_law_o (refine sappN rfl _ _ 24 38 rfl i0 2 Tryz.underlying24 hi hz1 g k (k + 1) (by simp [Act.eval, Act.put]) ⟨g, 0, none⟩ 0 0 (by simp [Act.eval, Act.put]) (A ++ (X ++ (D ++ S))) (by exact HG.out) D (by rw [hD0]; rfl) (fun j u hj => by rw [hD0] at hj; cases hj) h1D.out (by omega) (by simp only [List.length_append]; omega) base w ((Below.refl _ _).drew) hb ?_; intro w1 ho1 hb1' hk1'; rw [Nat.add_zero])
    go_wp2_with (refine clrN rfl _ 24 38 rfl Tryz.underlying24 (.agg #[.int .i64 0, .int .i64 0]) Tryz.zeroValue38 (by decide) 2 (by rfl) g (k * 2) 1 _ (by rfl) (by decide) _ ho1.out (by rw [length_splice _ _ _ (by simp only [List.length_append]; omega)]; simp only [List.length_append]; omega) base w hb1'.out hb ?_; intro Z w2 hZ ho2 hb2' hk2')
    go_ret
    exact ⟨some ⟨g, 0, none⟩, k + 1, rfl, fin _ Z hZ ho2, hb2'.out⟩
  · go_wp2_with fail
    go_region_law_o (refine sappN rfl _ _ 24 38 rfl i0 2 Tryz.underlying24 hi hz1 g k cap (by simp [Act.eval, Act.put]) ⟨g, k * 2 + 2, none⟩ (n - (k + 1)) (cap - (k + 1)) (by simp [Act.eval, Act.put]) (A ++ (X ++ (D ++ S))) (by exact HG.out) D hDl (fun j u hj => by rw [Addr.add_lit]; exact hcs.out j u hj) h1D.out (by omega) (by simp only [List.length_append]; omega) base w ((Below.refl _ _).drew) hb ?_; intro w1 ho1 hb1' hk1'; rw [ekn])
    go_wp2_with (refine clrN rfl _ 24 38 rfl Tryz.underlying24 (.agg #[.int .i64 0, .int .i64 0]) Tryz.zeroValue38 (by decide) 2 (by rfl) g ((n - 1) * 2) 1 _ (by rfl) (by decide) _ ho1.out (by rw [length_splice _ _ _ (by simp only [List.length_append]; omega)]; simp only [List.length_append]; omega) base w hb1'.out hb ?_; intro Z w2 hZ ho2 hb2' hk2')
    go_ret
    exact ⟨some ⟨g, 0, none⟩, cap, rfl, fin _ Z hZ ho2, hb2'.out⟩
end Go.Proofs.YtockglfoeagahaaGreatDoor
