/- Contracts and plain facts, joined: AddP. -/
import Derived.Test.YtockglfoeagahaaGreatDoorRows
import Derived.Test.YtockglfoeagahaaGreatDoorZFnWarbleM
import Derived.Test.YtockglfoeagahaaGreatDoorZFnWarbleN
import Derived.Test.YtockglfoeagahaaGreatDoorZFnWarbleO
namespace Go.Proofs.YtockglfoeagahaaGreatDoor
open Go.ChangeShapes Go.WideShapes Go.ChangeAt Go.RowKit Go.Deep Go.Joins
set_option linter.unusedVariables false
set_option maxRecDepth 100000
set_option linter.unusedSimpArgs false
set_option maxHeartbeats 8000000 in
theorem impl_addSpot (w : World) (v : Value) (xs : List Spot) (s : Spot) (h : Rd w.heap.size w v 2 xs.length (xs.flatMap Spot.put)) (hn : xs.length ≤ 16) (hs : SortedA xs) (hw : ∀ x ∈ xs, -1000 ≤ x.weight ∧ x.weight ≤ 1000) (hsw : -1000 ≤ s.weight ∧ s.weight ≤ 1000) :
    Calls Tryz.prog 33 #[v, .agg #[.int .i64 s.angle, .int .i64 s.weight]] w fun e w' => ∃ r : Value, e = .returned (.tuple #[r, .int .i64 (addL s xs).2]) ∧ w'.ownsRow w.heap.size 38 2 r (addL s xs).1.length ((addL s xs).1.flatMap Spot.put) ∧ Below w.heap.size w w' := by
  have H := Lib.hid h
  have Hw := Lib.hid hw
  have Hs := Lib.hid hs
  have mixed : Tryz.prog.follows .mixedOrders = true := by kernel_rfl
  obtain ⟨ao, cap, rfl⟩ := h.form
  have HV0 := Lib.hid (Own.new w 38 [.int .i64 s.angle, .int .i64 s.weight])
  have HB0 := Lib.hid (show Below w.heap.size w (w.alloc (.cells #[.int .i64 s.angle, .int .i64 s.weight] 38)) from by (repeat' (first | (with_reducible exact Below.refl _ _) | (with_reducible assumption) | (with_reducible refine below_dn ?_ _) | (with_reducible refine Below.drew ?_) | (with_reducible refine Below.alloc ?_ ?_ _) | (with_reducible refine Below.setCell ?_ ?_ _) | go_size)))
  clear h hw hs
  go_enter Tryz.func33, Tryz.ntmps33
  go_wp2_with fail
  refine (clone_Spot _ _ xs.length _ (by exact H.out.up HB0.out) (Spot_one xs) (by omega)).mono ?_; rintro e w1 ⟨r, rfl, o1, b1⟩
  have HV := Lib.hid (HV0.out.below b1 (by simp))
  have HB := Lib.hid (HB0.out.trans (b1.mono (by simp)))
  have O := Lib.hid (own_base o1 (show w.heap.size + 1 ≤ _ by simp))
  clear HV0 HB0 o1 b1
  have z0 := HV.out.cell 0
  have z1 := HV.out.cell 1
  have zl := HV.out.lt
  go_wp2_with fail
  refine (BinarySearch_Spot _ _ xs s (own_rd O.out) (by omega)).mono ?_; rintro e w2 ⟨⟨k, rfl, hf⟩, b2⟩
  clear z0 z1 zl
  have HV2 := Lib.hid (HV.out.below b2 HV.out.lt)
  have HB2 := Lib.hid (bnext HB.out b2)
  have O2 := Lib.hid (own_below O.out b2 (Nat.le_refl _))
  clear HV HB O b2
  obtain ⟨hk, h1, h2⟩ := found_lt Hs.out hf
  clear hf
  by_cases hit : k < xs.length ∧ cmpSpot xs s k = 0
  · obtain ⟨hlt, hz⟩ := hit
    have e : (decide (k < xs.length) && decide (cmpSpot xs s k = 0)) = true := by rw [decide_eq_true hlt, decide_eq_true hz]; rfl
    rw [e]
    rw [cmpSpot_at hlt] at hz
    have he : xs[k].angle = s.angle := cmpI_zero.1 hz
    have er := Lib.hid (addL_hit Hs.out hn hlt he)
    have hb := Hw.out xs[k] (List.getElem_mem hlt)
    rcases own_form O2.out with ⟨_, q⟩ | ⟨g, cap2, rfl⟩
    · omega
    obtain ⟨c1, f1, hg, hg0⟩ := own_cellI O2.out (k * 2 + 1) (by omega)
    rw [Spot_get1 xs k hlt] at c1
    have z1 := HV2.out.cell 1
    have zl := HV2.out.lt
    have hne : ¬ (g = w.heap.size) := by omega
    obtain ⟨S, hS⟩ : ∃ S : Int, xs[k].weight + s.weight = S := ⟨_, rfl⟩
    have hSb : -2000 ≤ S ∧ S ≤ 2000 := by omega
    rw [hS] at er
    have O3 := own_setI O2.out (k * 2 + 1) (by omega) (.int .i64 S)
    have c2 := (own_cellI O3 (k * 2 + 1) (by omega)).1
    rw [List.getElem?_set_self (by rw [Spot_len]; omega)] at c2
    rw [set_flat1 xs _ k hlt] at O3
    have O3' : Hid (World.ownsRow (w2.setCell ⟨g, k * 2 + 1, none⟩ (.int .i64 S)).drew _ _ _ _ _ _) := Lib.hid O3
    have C2 : Hid ((w2.setCell ⟨g, k * 2 + 1, none⟩ (.int .i64 S)).drew.cell? ⟨g, k * 2 + 1, none⟩ = some (.int .i64 S)) := Lib.hid c2
    have HB3 := Lib.hid ((Below.setCell HB2.out (show w.heap.size ≤ g by omega) (.int .i64 S) : Below w.heap.size w (w2.setCell ⟨g, k * 2 + 1, none⟩ (.int .i64 S))).drew)
    have G3 : Hid (g < (w2.setCell ⟨g, k * 2 + 1, none⟩ (.int .i64 S)).drew.heap.size) := Lib.hid (by simp [World.setCell]; exact hg)
    have hws : Hid (w.heap.size + 1 ≤ (w2.setCell ⟨g, k * 2 + 1, none⟩ (.int .i64 S)).drew.heap.size) := Lib.hid (by simp [World.setCell]; omega)
    have HLT : Hid (0 < xs.length - k) := Lib.hid (by omega)
    clear e hz he h1 h2 O3 c2
    go_wp2_with fail
    go_region
    clear c1 f1 hg hg0 z1 zl HV2 HB2 O2
    generalize (w2.setCell ⟨g, k * 2 + 1, none⟩ (.int .i64 S)).drew = w3 at *
    have c3 := C2.out
    have g3 := G3.out
    by_cases hz : S = 0
    · have er2 := er.out
      rw [if_pos hz] at er2
      have ER := Lib.hid er2; clear er2 er
      have t3 : (S == 0) = true := beq_iff_eq.2 hz
      clear hz hS
      go_wp2_with fail
      refine (del_Spot _ (w.heap.size + 1) _ xs.length k _ O3'.out (Spot_one _) hlt (by omega) hws.out).mono ?_; rintro e w4 ⟨ao4, cap4, rfl, o4, b4⟩
      rw [del_flat] at o4
      have eq1 : (xs.set k ⟨xs[k].angle, S⟩).take k ++ (xs.set k ⟨xs[k].angle, S⟩).drop (k + 1) = xs.take k ++ xs.drop (k + 1) := by
        rw [List.take_set, List.drop_set, if_pos (Nat.lt_succ_self k), List.set_eq_of_length_le (by rw [List.length_take]; omega)]
      rw [eq1] at o4
      have hl4 : Hid (xs.length - 1 = (xs.take k ++ xs.drop (k + 1)).length) := Lib.hid (by simp; omega)
      have O4 := Lib.hid o4; clear o4 eq1
      go_wp2_with fail
      go_ret2
      exact ⟨_, by rw [ER.out]; try rfl, by rw [ER.out]; show World.ownsRow _ _ _ _ _ (xs.take k ++ xs.drop (k + 1)).length _; rw [← hl4.out]; exact own_base O4.out (Nat.le_succ _), HB3.out.trans (b4.mono (Nat.le_succ _))⟩
    · have er2 := er.out
      rw [if_neg hz] at er2
      have t3 : (S == 0) = false := beq_eq_false_iff_ne.2 hz
      have HWt := Lib.hid (fun w' => impl_isWeight S w')
      clear hz hS er
      cases hwb : weightB S
      all_goals rw [hwb] at HWt er2
      · rw [if_neg (by decide)] at er2
        have ER := Lib.hid er2; clear er2 hwb
        go_wp2_with (go_at_call 30; refine (HWt.out _).mono ?_; rintro ew ww ⟨rfl, rfl⟩)
        go_ret2
        exact ⟨_, by rw [ER.out]; try rfl, by rw [ER.out]; exact own_nil _ _ _ _, HB3.out⟩
      · rw [if_pos rfl] at er2
        have ER := Lib.hid er2; clear er2 hwb
        go_wp2_with (go_at_call 30; refine (HWt.out _).mono ?_; rintro ew ww ⟨rfl, rfl⟩)
        go_ret2
        exact ⟨_, by rw [ER.out]; try rfl, by rw [ER.out]; show World.ownsRow _ _ _ _ _ (xs.set k _).length _; rw [List.length_set]; exact own_base O3'.out (Nat.le_succ _), HB3.out⟩
  · have e : (decide (k < xs.length) && decide (cmpSpot xs s k = 0)) = false := by
      by_cases hlt : k < xs.length
      · rw [decide_eq_true hlt, decide_eq_false (fun q => hit ⟨hlt, q⟩)]; rfl
      · rw [decide_eq_false hlt]; rfl
    rw [e]
    have h3 : ∀ i (h : i < xs.length), k ≤ i → s.angle < xs[i].angle := fun i h hki => by
      have a := h2 i h hki
      rcases Nat.lt_or_eq_of_le hki with q | q
      · have b := Hs.out k i (by omega) h q
        have a2 := h2 k (by omega) (Nat.le_refl _)
        omega
      · subst q
        have : xs[k].angle ≠ s.angle := fun e => hit ⟨h, by rw [cmpSpot_at h]; exact cmpI_zero.2 e⟩
        omega
    have er := Lib.hid (addL_miss hk h1 h3)
    clear h1 h2 h3 e hit
    by_cases hL : 16 ≤ xs.length
    · have er2 : Hid (addL s xs = ([], 5)) := Lib.hid (by rw [er.out, if_pos hL])
      have t1 : decide ((16 : Int) ≤ (xs.length : Int)) = true := decide_eq_true (by omega)
      clear er hL
      go_wp2_with fail
      go_ret2
      exact ⟨_, by rw [er2.out]; try rfl, by rw [er2.out]; exact own_nil _ _ _ _, HB2.out⟩
    · have er2 : Hid (addL s xs = (xs.take k ++ (s :: xs.drop k), 0)) := Lib.hid (by rw [er.out, if_neg hL])
      have t1 : decide ((16 : Int) ≤ (xs.length : Int)) = false := decide_eq_false (by omega)
      have z0 := HV2.out.cell 0
      have z1 := HV2.out.cell 1
      have zl := HV2.out.lt
      clear er
      go_wp2_with fail
      refine (ins_Spot _ (w.heap.size + 1) _ xs.length k _ [.int .i64 s.angle, .int .i64 s.weight] w2.heap.size (by exact O2.out.alloc _) (Spot_one xs) hk (by omega) (by exact Own.new w2 _ _) rfl (spot_one2 _ _) (fun g hg => by have := (O2.out.lt g hg).2; omega) (by simp; omega)).mono ?_; rintro e w3 ⟨ao3, cap3, rfl, o3, b3⟩
      have hl3 : Hid (xs.length + 1 = (xs.take k ++ (s :: xs.drop k)).length) := Lib.hid (by simp; omega)
      rw [ins_flat] at o3
      have O3 := Lib.hid o3; clear o3
      go_wp2_with fail
      go_ret2
      refine ⟨_, by rw [er2.out]; try rfl, by rw [er2.out]; show World.ownsRow _ _ _ _ _ (xs.take k ++ (s :: xs.drop k)).length _; rw [← hl3.out]; exact own_base O3.out (Nat.le_succ _), ?_⟩
      exact (HB2.out.alloc HB2.out.size _).trans (b3.mono (Nat.le_succ _))
end Go.Proofs.YtockglfoeagahaaGreatDoor
