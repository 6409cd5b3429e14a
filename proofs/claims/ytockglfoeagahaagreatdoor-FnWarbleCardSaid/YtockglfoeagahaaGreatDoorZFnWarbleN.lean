/- Contracts and plain facts, joined: InsSpot. -/
import Derived.Test.YtockglfoeagahaaGreatDoorRows
import Derived.Test.YtockglfoeagahaaGreatDoorZFnWarbleB
import Derived.Test.YtockglfoeagahaaGreatDoorZFnWarbleL
import Derived.Deep.RegionLaw
import Derived.Shelf.Spec.SlicesInsertGrow
namespace Go.Proofs.YtockglfoeagahaaGreatDoor
open Go.ChangeShapes Go.WideShapes Go.ChangeAt Go.RowKit Go.Deep Go.Joins
set_option linter.unusedVariables false
set_option maxRecDepth 100000
set_option linter.unusedSimpArgs false
set_option maxHeartbeats 8000000 in
/-- slices.Insert of one element, on a slice of one's own -/
theorem ins_Spot (w : World) (base : Nat) (r : Value) (n k : Nat) (L vs : List Value) (vb : Nat) (hr : w.ownsRow base 38 2 r n L) (h1c : ∀ u ∈ L, u.oneCell' = true) (hk : k ≤ n) (hn : n ≤ 1048576)
    (hv : Own w vb 38 vs) (hvl : vs.length = 2) (h1v : ∀ u ∈ vs, u.oneCell' = true) (hne : ∀ g, r.ownBlock = some g → vb ≠ g) (hbase : base ≤ w.heap.size) :
    Calls Tryz.prog 50 #[r, .int .i64 k, .slice (some ⟨vb, 0, none⟩) 1 1] w fun e w' => ∃ ao cap, e = .returned (.slice ao (n + 1) cap) ∧ w'.ownsRow base 38 2 (.slice ao (n + 1) cap) (n + 1) (L.take (k * 2) ++ (vs ++ L.drop (k * 2))) ∧ Below base w w' := by
  obtain ⟨i0, hi, hz0, hz1, hz2⟩ := info_parts Spot_info
  have hvr : Hid (Rd w.heap.size w (.slice (some ⟨vb, 0, none⟩) 1 1) 2 1 vs) := Lib.hid (hv.rd hv.lt (by rw [hvl]) (by decide) 1 (by decide) (by decide))
  have hLl := hr.1
  by_cases hkn : k = n
  · subst hkn
    have e1 : Hid (L.take (k * 2) ++ (vs ++ L.drop (k * 2)) = L ++ vs) := Lib.hid (by rw [List.take_of_length_le (by omega), List.drop_eq_nil_of_le (by omega), List.append_nil])
    rw [e1.out]
    have HR := Lib.hid hr
    have H1 := Lib.hid h1v
    have hvw := hv.lt
    rcases own_form hr with ⟨rfl, rfl⟩ | ⟨g, cap, rfl⟩
    all_goals clear hr h1c hv hne e1
    all_goals go_enter Tryz.func50, Tryz.ntmps50
    · have hkk : ((0 : Int) == 0) = true := rfl
      go_wp2_with (at_builtin; go_loud (refine app_sl rfl _ _ 24 38 i0 (.agg #[.int .i64 0, .int .i64 0]) 2 16 Tryz.underlying24 hi hz0 hz1 hz2 (by rfl) (by decide) rfl _ base _ _ L (by rfl) HR.out _ 1 vs (by rfl) hvr.out H1.out (by omega) (by decide) hbase ?_; intro ao cap' w' hown hg hB; have HO := Lib.hid hown; have HB := Lib.hid (hB w (Below.refl _ _)); have HG := Lib.hid (KeptO.grown hg); clear hown hg hB))
      go_ret
      exact ⟨ao, cap', rfl, HO.out, HB.out⟩
    · obtain ⟨h1, h2⟩ := HR.out
      rcases h2 with ⟨e0, _⟩ | ⟨g', cap', cur, e0, hb, hg, hnc, hmx, hs, ht⟩
      · cases e0
      obtain ⟨rfl, rfl⟩ : g = g' ∧ cap = cap' := by injection e0 with q1 q2 q3; injection q1 with q4; injection q4 with q5; exact ⟨q5, q3⟩
      have hnI : (k : Int) ≤ (k : Int) := Int.le_refl _
      have hkk : ((k : Int) == (k : Int)) = true := beq_self_eq_true _
      clear ht hs hg h1
      go_wp2_with (at_builtin; go_loud (refine app_sl rfl _ _ 24 38 i0 (.agg #[.int .i64 0, .int .i64 0]) 2 16 Tryz.underlying24 hi hz0 hz1 hz2 (by rfl) (by decide) rfl _ base _ _ L (by rfl) HR.out _ 1 vs (by rfl) hvr.out H1.out (by omega) (by decide) hbase ?_; intro ao cap' w' hown hg hB; have HO := Lib.hid hown; have HB := Lib.hid (hB w (Below.refl _ _)); have HG := Lib.hid (KeptO.grown hg); clear hown hg hB))
      all_goals go_ret
      all_goals exact ⟨ao, cap', rfl, HO.out, HB.out⟩
  · obtain ⟨h1, h2⟩ := hr
    rcases h2 with ⟨rfl, h0⟩ | ⟨g, cap, cur, rfl, hb, hg, hnc, hmx, hs, ht⟩
    · omega
    have hgv : vb ≠ g := hne g rfl
    have HG : Hid (Own w g 38 cur.toList) := Lib.hid (by unfold Own; simpa using hg)
    have hgw : g < w.heap.size := HG.out.lt
    have hvw := hv.lt
    have HV := Lib.hid hv
    have H1v := Lib.hid h1v
    have H1c := Lib.hid h1c
    have hmx2 : cap ≤ 9223372036854775807 := hmx
    have hkS : (k + (n - k)) * 2 = n * 2 := by rw [show k + (n - k) = n from by omega]
    rw [Nat.add_mul] at hkS
    obtain ⟨A, hA⟩ : ∃ A, A = L.take (k * 2) := ⟨_, rfl⟩
    obtain ⟨B, hBd⟩ : ∃ B, B = L.drop (k * 2) := ⟨_, rfl⟩
    have hAl : A.length = k * 2 := by rw [hA, List.length_take, h1]; omega
    have hBl : B.length = (n - k) * 2 := by rw [hBd, List.length_drop, h1]; omega
    have hAB : L = A ++ B := by rw [hA, hBd, List.take_append_drop]
    obtain ⟨S, hS⟩ : ∃ S, S = cur.toList.drop (n * 2) := ⟨_, rfl⟩
    have hcur : cur.toList = A ++ (B ++ S) := by rw [← List.append_assoc, ← hAB, hS, ← ht, List.take_append_drop]
    have hSl : S.length = cap * 2 - n * 2 := by rw [hS, List.length_drop, Array.length_toList, hs]
    have hcs : Hid (∀ j u, B[j]? = some u → w.cell? ⟨g, k * 2 + j, none⟩ = some u) := Lib.hid fun j u hj => by
      have hj' := (List.getElem?_eq_some_iff.1 hj).1
      rw [HG.out.cell, hcur, ← hAl, List.getElem?_append_right (by omega), show A.length + j - A.length = j from by omega, List.getElem?_append_left hj', hj]
    have hcsA : Hid (∀ j u, A[j]? = some u → w.cell? ⟨g, j, none⟩ = some u) := Lib.hid fun j u hj => by
      have hj' := (List.getElem?_eq_some_iff.1 hj).1
      rw [HG.out.cell, hcur, List.getElem?_append_left hj', hj]
    have hcv : Hid (∀ j u, vs[j]? = some u → w.cell? ⟨vb, 0 + j, none⟩ = some u) := Lib.hid fun j u hj => by rw [Nat.zero_add, HV.out.cell, hj]
    have h1B : Hid (∀ u ∈ B, u.oneCell' = true) := Lib.hid fun u hu => H1c.out u (by rw [hAB]; exact List.mem_append_right _ hu)
    rw [hcur] at HG
    rw [← hA, ← hBd]
    have hsz : ((Tryz.prog.info? 38).map (·.size)) = some 2 := by rw [hi]; simp [hz1]
    have hz2' : ¬ ((k : Int) = (n : Int)) := by omega
    have hw1 : IntKind.i64.wrap ((k : Int) + 1) = (k : Int) + 1 := by rw [IntKind.wrap_i64]; omega
    have hw2 : IntKind.i64.wrap ((n : Int) + 1) = (n : Int) + 1 := by rw [IntKind.wrap_i64]; omega
    have hb1 : (0 : Int) ≤ (k : Int) + 1 := by omega
    have htn : ((k : Int) + 1).toNat = k + 1 := by omega
    have htn2 : ((n : Int) + 1).toNat = n + 1 := by omega
    have hb3 : (k : Int) ≤ (n : Int) := by omega
    have hb4 : ¬ (cap = k) := by omega
    have mixed : Tryz.prog.follows .mixedOrders = true := by kernel_rfl
    clear ht hs hcur hS hg hA hBd hAB hv h1v h1c hne h1
    by_cases hroom : n + 1 ≤ cap
    · have hb2 : ¬ (cap = k + 1) := by omega
      have hb5 : (k : Int) + 1 ≤ (n : Int) + 1 := by omega
      have hb6 : (k : Int) ≤ (n : Int) + 1 := by omega
      have hb7 : (n : Int) + 1 ≤ (cap : Int) := by omega
      have hb8 : ¬ ((cap : Int) < (n : Int) + 1) := by omega
      have hb9 : decide ((cap : Int) < (n : Int) + 1) = false := decide_eq_false hb8
      have hb10 : (k : Int) + 1 ≤ (cap : Int) := by omega
      have hkr : (k + 1) * 2 = k * 2 + 2 := by rw [Nat.add_mul, Nat.one_mul]
      have hcl : (n + 1) * 2 ≤ cap * 2 := Nat.mul_le_mul_right _ hroom
      rw [Nat.add_mul, Nat.one_mul] at hcl
      have hsa : w.shape? vb = some (38, 2) := by
        have := HV.out
        unfold Own at this
        simp [World.shape?, this, hvl]
      have hsb : w.shape? g = some (38, (A ++ (B ++ S)).length) := by
        have := HG.out
        unfold Own at this
        simp [World.shape?, this]
      have hov : ∀ lb cb, (callFunc 77 #[.slice (some ⟨vb, 0, none⟩) 1 1, .slice (some ⟨g, k * 2 + 2, none⟩) lb cb]).run Tryz.prog w = .ok (.value (.bool false)) w := fun lb cb => by
        rw [run_callFunc_extern Tryz.func77 (by kernel_rfl) (by kernel_rfl) (by kernel_rfl) (e := Extern.SlicesOverlaps.overlaps #[24, 24] #[4]) (by kernel_rfl),
          Lib.run_overlaps_apart w 24 4 38 Tryz.underlying24 2 Tryz.sizeOf38 ⟨vb, 0, none⟩ ⟨g, k * 2 + 2, none⟩ 1 1 lb cb hgv 38 38 2 _ hsa hsb (by simp only [List.length_append]; omega) (HV.out.free 0) (HV.out.free 2)]
        rfl
      go_enter Tryz.func50, Tryz.ntmps50
      go_wp2_with (simp only [hov])
      go_region_law_o (refine scopyN rfl _ _ 24 38 rfl 2 Tryz.underlying24 hsz g (k * 2 + 2) (n - k) (cap - (k + 1)) g (k * 2) (n + 1 - k) (cap - k) (by simp [Act.eval, Act.put]) (by simp [Act.eval, Act.put]) (A ++ (B ++ S)) (by exact HG.out) (n - k) (by simp only [Nat.min_def]; split <;> omega) B hBl (by exact hcs.out) (by simp only [List.length_append]; omega) h1B.out base w ((Below.refl _ _).drew) hb ?_; intro w1 ho1 hb1 hk1)
      go_wp2_with ((refine copyN rfl _ _ 24 38 rfl 2 Tryz.underlying24 hsz g (k * 2) (n + 1 - k) (cap - k) vb 0 1 1 (by rfl) (by rfl) (splice (A ++ (B ++ S)) (k * 2 + 2) B) ho1.out 1 (by simp only [Nat.min_def]; split <;> omega) vs (by rw [hvl]) (fun j u hj => by have e : Own w1 vb 38 vs := (hk1.out vb hgv).trans HV.out; rw [Nat.zero_add, e.cell, hj]) (by rw [length_splice _ _ _ (by simp only [List.length_append]; omega), hvl]; simp only [List.length_append]; omega) H1v.out base w hb1.out hb ?_; intro w2 ho2 hb2' hk2))
      go_ret
      have eS := splice_in A B S vs (by omega)
      rw [hAl, hvl] at eS
      have ho3 := ho2.out
      rw [eS] at ho3
      refine ⟨some ⟨g, 0, none⟩, cap, rfl, row_of_own ho3 hb hroom hmx (by simp only [List.length_append, List.length_drop]; omega) (by simp only [List.length_append]; omega) ?_, hb2'.out⟩
      rw [show A ++ (vs ++ (B ++ S.drop 2)) = (A ++ (vs ++ B)) ++ S.drop 2 from by simp only [List.append_assoc]]
      exact List.take_left' (by simp only [List.length_append]; omega)
    · have hb9 : decide ((cap : Int) < (n : Int) + 1) = true := decide_eq_true (by omega)
      have hb10 : (k : Int) ≤ (cap : Int) := by omega
      have hw3 : IntKind.i64.wrap ((n : Int) + 1 - k) = (n : Int) + 1 - k := by rw [IntKind.wrap_i64]; omega
      have hkS2 : (k + (n + 1 - k)) * 2 = (n + 1) * 2 := by rw [show k + (n + 1 - k) = n + 1 from by omega]
      go_enter Tryz.func50, Tryz.ntmps50
      have hgN : g ≠ w.heap.size := by omega
      have ek : k + (n + 1 - k) = n + 1 := by omega
      have hb5 : (k : Int) + 1 ≤ (n : Int) + 1 := by omega
      have hb6 : (k : Int) ≤ (n : Int) + 1 := by omega
      have hvN : vb ≠ w.heap.size := by omega
      go_wp2_with (first
        | (at_builtin; refine appzN rfl _ _ 24 3 38 rfl i0 (.agg #[.int .i64 0, .int .i64 0]) 2 16 Tryz.underlying24 Tryz.underlying3 hi hz0 hz1 hz2 (by rfl) (by decide) (by decide) g k cap (n + 1 - k) _ (by rfl) (by rfl) (by omega) (by omega) (by omega) (by omega) A hAl hcsA.out ?_; intro cap2 Z w1 ho1 hl1 hc1 hm1 hb1 hs1; have HO1 := Lib.hid ho1; have HB1 := Lib.hid hb1; have hZl : Z.length = cap2 * 2 - k * 2 := (by rw [List.length_append] at hl1; omega); have hcz : (k + (n + 1 - k)) * 2 ≤ cap2 * 2 := Nat.mul_le_mul_right _ hc1; rw [ek] at hc1 hcz ⊢; have hd1 : ¬ (cap2 = k) := (by omega); have hd2 : ¬ (cap2 = k + 1) := (by omega); clear ho1 hb1 hl1)
        | (refine copyN rfl _ _ 24 38 rfl 2 Tryz.underlying24 hsz w.heap.size (k * 2) (n + 1 - k) (cap2 - k) vb 0 1 1 (by rfl) (by rfl) (A ++ Z) HO1.out 1 (by simp only [Nat.min_def]; split <;> omega) vs (by rw [hvl]) (fun j u hj => by rw [Nat.zero_add, (HV.out.below HB1.out hvw).cell, hj]) (by rw [hvl]; simp only [List.length_append]; omega) H1v.out base w (HB1.out.mono hbase) hbase ?_; intro w2 ho2 hb2 hk2))
      go_region_law_o (refine scopyN rfl _ _ 24 38 rfl 2 Tryz.underlying24 hsz w.heap.size (k * 2 + 2) (n - k) (cap2 - (k + 1)) g (k * 2) (n - k) (cap - k) (by simp [Act.eval, Act.put]) (by simp [Act.eval, Act.put]) (splice (A ++ Z) (k * 2) vs) (by exact ho2.out) (n - k) (by simp only [Nat.min_def]; split <;> omega) B hBl (fun j u hj => by have e : Own w1 g 38 (A ++ (B ++ S)) := HG.out.below HB1.out hgw; have e2 : Own w2 g 38 (A ++ (B ++ S)) := (hk2.out g hgN).trans e; have e3 := e2.cell (k * 2 + j); rw [← hcs.out j u hj]; exact e3.trans (HG.out.cell _).symm) (by rw [length_splice _ _ _ (by rw [hvl]; simp only [List.length_append]; omega)]; simp only [List.length_append]; omega) h1B.out base w (hb2.out.drew) hbase ?_; intro w3 ho3 hb3' hk3)
      go_wp2_with fail
      go_ret
      have eS := splice_new A B Z vs (by rw [hvl]; omega)
      rw [hAl, hvl] at eS
      have ho4 := ho3.out
      rw [eS] at ho4
      refine ⟨some ⟨w.heap.size, 0, none⟩, cap2, rfl, row_of_own ho4 hbase (by omega) hm1 (by simp only [List.length_append, List.length_drop]; omega) (by simp only [List.length_append]; omega) ?_, hb3'.out⟩
      rw [show A ++ (vs ++ (B ++ Z.drop (2 + B.length))) = (A ++ (vs ++ B)) ++ Z.drop (2 + B.length) from by simp only [List.append_assoc]]
      exact List.take_left' (by simp only [List.length_append]; omega)
end Go.Proofs.YtockglfoeagahaaGreatDoor
