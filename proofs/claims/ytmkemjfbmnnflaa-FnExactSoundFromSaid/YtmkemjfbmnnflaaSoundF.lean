/- SoundFrom: both sides compute the same. -/
import Derived.Test.YtmkemjfbmnnflaaRows
import Derived.Test.YtmkemjfbmnnflaaSoundV
namespace Go.Proofs.Ytmkemjfbmnnflaa
open Go.ChangeShapes Go.WideShapes Go.ChangeAt Go.RowKit Go.Deep Go.Joins
set_option linter.unusedVariables false
set_option maxRecDepth 100000
set_option linter.unusedSimpArgs false
def mI (xs : List Measure) (bell : ByteArray) (k : Nat) : Int := meanI (sortI (valF xs bell ((k : Int) + 1)))
def hasV (xs : List Measure) (bell : ByteArray) (k : Nat) : Bool := decide (0 < (valF xs bell ((k : Int) + 1)).length)
def msL (xs : List Measure) (bell : ByteArray) (n : Nat) : List Int := (List.range n).map (mI xs bell)
def sndC (xs : List Measure) (bell : ByteArray) : Int := if validMeasureS xs = true then if allK (hasV xs bell) 5 = true then if rise5 (mI xs bell 0) (mI xs bell 1) (mI xs bell 2) (mI xs bell 3) (mI xs bell 4) = true then 0 else 6 else 3 else 1
def sndV (xs : List Measure) (bell : ByteArray) (k : Nat) : Int := if sndC xs bell = 0 then mI xs bell k else 0
theorem msL_len (xs : List Measure) (bell : ByteArray) (n : Nat) : (msL xs bell n).length = n := by unfold msL; rw [List.length_map, List.length_range]
theorem msL_succ (xs : List Measure) (bell : ByteArray) (n : Nat) : msL xs bell (n + 1) = msL xs bell n ++ [mI xs bell n] := by unfold msL; rw [List.range_succ, List.map_append]; rfl
theorem msL_five (xs : List Measure) (bell : ByteArray) : msL xs bell 5 = [mI xs bell 0, mI xs bell 1, mI xs bell 2, mI xs bell 3, mI xs bell 4] := rfl
theorem int_snoc5 (xs : List Int) (a : Int) : (xs ++ [a]).flatMap putI = xs.flatMap putI ++ [.int .i64 a] := by rw [List.flatMap_append]; rfl
theorem sndC_bad {xs : List Measure} (h : validMeasureS xs = false) (bell : ByteArray) : sndC xs bell = 1 := by unfold sndC; rw [h]; rfl
theorem sndC_none {xs : List Measure} (h : validMeasureS xs = true) {bell : ByteArray} {k : Nat} (hk : k < 5) (hv : ¬ 0 < (valF xs bell ((k : Int) + 1)).length) : sndC xs bell = 3 := by
  unfold sndC
  rw [h, allK_false (hasV xs bell) 5 k hk (by unfold hasV; exact decide_eq_false hv)]; rfl
theorem sndC_rise {xs : List Measure} (h : validMeasureS xs = true) {bell : ByteArray} (ha : allK (hasV xs bell) 5 = true) : sndC xs bell = if rise5 (mI xs bell 0) (mI xs bell 1) (mI xs bell 2) (mI xs bell 3) (mI xs bell 4) = true then 0 else 6 := by
  unfold sndC
  rw [h, ha, if_pos rfl, if_pos rfl]
theorem sndV_no {xs : List Measure} {bell : ByteArray} (h : ¬ sndC xs bell = 0) (k : Nat) : sndV xs bell k = 0 := if_neg h
theorem sndV_yes {xs : List Measure} {bell : ByteArray} (h : sndC xs bell = 0) (k : Nat) : sndV xs bell k = mI xs bell k := if_pos h
theorem mI_bd {xs : List Measure} (h : validMeasureS xs = true) {bell : ByteArray} {k : Nat} (hv : hasV xs bell k = true) : 10000 ≤ mI xs bell k ∧ mI xs bell k ≤ 20000000 := by
  have hf := valF_all h bell ((k : Int) + 1)
  unfold hasV at hv
  exact meanI_bd (by rw [sortI_len]; exact of_decide_eq_true hv) (fun z hz => hf.2 z ((sortI_perm _).mem_iff.1 hz))
theorem mI_all {xs : List Measure} (h : validMeasureS xs = true) {bell : ByteArray} (ha : allK (hasV xs bell) 5 = true) : ∀ z ∈ [mI xs bell 0, mI xs bell 1, mI xs bell 2, mI xs bell 3, mI xs bell 4], 10000 ≤ z ∧ z ≤ 20000000 := by
  intro z hz
  have hb := fun k (hk : k < 5) => mI_bd h (allK_true ha k hk)
  simp at hz
  rcases hz with rfl | rfl | rfl | rfl | rfl
  · exact hb 0 (by omega)
  · exact hb 1 (by omega)
  · exact hb 2 (by omega)
  · exact hb 3 (by omega)
  · exact hb 4 (by omega)

theorem Below.wide0 {B B' : Nat} {a b : World} (h : Below B a b) (hB : B' ≤ B) : Below B' a b := ⟨h.os, h.tape, h.output, h.size, fun i hi => h.block i (by omega)⟩
theorem own_far {B g : Nat} {a b : World} {E : TypeId} {L : List Value} (h : Below B a b) (o : Own a g E L) (hg : g < B) : Own b g E L := (h.block g hg).trans o

set_option maxHeartbeats 4000000 in
theorem spec_SoundFrom (w : World) (v : Value) (xs : List Measure) (bell : ByteArray) (h : Rd w.heap.size w v 3 xs.length (xs.flatMap Measure.put)) (hn : xs.length ≤ 1048576) (hok : ∀ x ∈ xs, x.ok) :
    Calls Try.prog 36 #[v, .string bell] w fun e w' => e = .returned (.tuple #[.agg #[.int .i64 (sndV xs bell 0), .int .i64 (sndV xs bell 1), .int .i64 (sndV xs bell 2), .int .i64 (sndV xs bell 3), .int .i64 (sndV xs bell 4)], .int .i64 (sndC xs bell)]) ∧ Below w.heap.size w w' := by
  have HX := Lib.hid (Own.new w 47 [.int .i64 0, .int .i64 0, .int .i64 0, .int .i64 0, .int .i64 0])
  have HB := Lib.hid (show Below w.heap.size w (w.alloc (.cells #[.int .i64 0, .int .i64 0, .int .i64 0, .int .i64 0, .int .i64 0] 47)) from by (repeat' (first | (with_reducible exact Below.refl _ _) | (with_reducible assumption) | (with_reducible refine below_dn ?_ _) | (with_reducible refine Below.drew ?_) | (with_reducible refine Below.alloc ?_ ?_ _) | (with_reducible refine Below.setCell ?_ ?_ _) | go_size)))
  have HH := Lib.hid h
  cases hV : validMeasureS xs
  case false =>
    have ec := Lib.hid (sndC_bad hV bell)
    have ev0 := Lib.hid (sndV_no (xs := xs) (bell := bell) (by rw [ec.out]; decide) 0)
    have ev1 := Lib.hid (sndV_no (xs := xs) (bell := bell) (by rw [ec.out]; decide) 1)
    have ev2 := Lib.hid (sndV_no (xs := xs) (bell := bell) (by rw [ec.out]; decide) 2)
    have ev3 := Lib.hid (sndV_no (xs := xs) (bell := bell) (by rw [ec.out]; decide) 3)
    have ev4 := Lib.hid (sndV_no (xs := xs) (bell := bell) (by rw [ec.out]; decide) 4)
    have H := Lib.hid (spec_l11Ok_is _ v xs (h.up HB.out) hn hok hV)
    clear h hok hV
    go_enter Try.func36, Try.ntmps36
    go_wp2_with fail
    refine H.out.mono ?_; rintro e1 w1 ⟨rfl, b1⟩
    have HX' := Lib.hid (HX.out.below b1 HX.out.lt); clear HX; have HX := HX'; clear HX'
    have HB' := Lib.hid (bnext HB.out b1); clear HB; have HB := HB'; clear HB'
    clear b1
    have O1 := HX.out
    have q0 : w1.cell? ⟨w.heap.size, 0, none⟩ = some (.int .i64 0) := O1.cell 0
    have q1 : w1.cell? ⟨w.heap.size, 1, none⟩ = some (.int .i64 0) := O1.cell 1
    have q2 : w1.cell? ⟨w.heap.size, 2, none⟩ = some (.int .i64 0) := O1.cell 2
    have q3 : w1.cell? ⟨w.heap.size, 3, none⟩ = some (.int .i64 0) := O1.cell 3
    have q4 : w1.cell? ⟨w.heap.size, 4, none⟩ = some (.int .i64 0) := O1.cell 4
    have f0 := O1.free 0
    have f1 := O1.free 1
    have f2 := O1.free 2
    have f3 := O1.free 3
    have f4 := O1.free 4
    have hlt := O1.lt
    have hne : ¬ w.heap.size = w1.heap.size := by omega
    clear O1
    go_wp2_with fail
    have hb := HB.out
    exact bodyPost_ret (v := .tuple #[.agg #[.int .i64 0, .int .i64 0, .int .i64 0, .int .i64 0, .int .i64 0], .int .i64 1]) (by simp [results, Try.results36, go_sem, q0, q1, q2, q3, q4, hlt, hne]) rfl ⟨by simp only [ec.out, ev0.out, ev1.out, ev2.out, ev3.out, ev4.out], by (repeat' (first | (with_reducible exact Below.refl _ _) | (with_reducible assumption) | (with_reducible refine below_dn ?_ _) | (with_reducible refine Below.drew ?_) | (with_reducible refine Below.alloc ?_ ?_ _) | (with_reducible refine Below.setCell ?_ ?_ _) | go_size))⟩
  have h64 := (validMeasureS_parts hV).1
  have H := Lib.hid (spec_l11Ok_is _ v xs (h.up HB.out) hn hok hV)
  obtain ⟨i0, hi, hz0, hz1, hz2⟩ := info_parts info_i64
  clear h hok
  go_enter Try.func36, Try.ntmps36
  go_wp2_with fail
  refine H.out.mono ?_; rintro e1 w1 ⟨rfl, b1⟩
  have HX' := Lib.hid (HX.out.below b1 HX.out.lt); clear HX; have HX := HX'; clear HX'
  have HB' := Lib.hid (bnext HB.out b1); clear HB; have HB := HB'; clear HB'
  have hs1 := HX.out.lt
  clear b1 H
  go_wp2_with fail
  have HXn := Lib.hid (HX.out.alloc (.cells #[] 2))
  have HBn := Lib.hid (HB.out.alloc HB.out.size (.cells #[] 2))
  go_loopw [6, 7, 8] (fun r i _ wr => ∃ (n : Nat), n ≤ 5 ∧ i = .int .i64 ((n : Int) + 1) ∧ allK (hasV xs bell) n = true ∧ wr.ownsRow (w.heap.size + 1) 2 1 r n ((msL xs bell n).flatMap putI) ∧ Own wr w.heap.size 47 [.int .i64 0, .int .i64 0, .int .i64 0, .int .i64 0, .int .i64 0] ∧ Below w.heap.size w wr) (fun _ i _ _ => (6 - intOf i).toNat)
  case atStart => exact ⟨0, Nat.zero_le _, rfl, rfl, own_empty w1 _ _ _ (by omega), HXn.out, HBn.out⟩
  case round =>
    clear HX HB HXn HBn
    obtain ⟨n, hn5, rfl, hall, hown, hX, hB⟩ := hrel
    have Hall := Lib.hid hall; clear hall
    have HO := Lib.hid hown; clear hown
    have HX := Lib.hid hX; clear hX
    have HB := Lib.hid hB
    by_cases hlt : n < 5
    · have tg : decide ((n : Int) + 1 ≤ 5) = true := decide_eq_true (by omega)
      have HV1 := Lib.hid (spec_l11Values wr v xs bell ((n : Int) + 1) (HH.out.up hB) h64)
      have hf := valF_all hV bell ((n : Int) + 1)
      clear hB
      by_cases hv : 0 < (valF xs bell ((n : Int) + 1)).length
      · have e2 : Hid (allK (hasV xs bell) (n + 1) = true) := Lib.hid (by rw [allK_succ, Hall.out]; unfold hasV; rw [decide_eq_true hv]; rfl)
        have em : Hid (msL xs bell (n + 1) = msL xs bell n ++ [mI xs bell n]) := Lib.hid (msL_succ xs bell n)
        have HM := Lib.hid (fun w' r (q : Rd w'.heap.size w' r 1 (sortI (valF xs bell ((n : Int) + 1))).length ((sortI (valF xs bell ((n : Int) + 1))).flatMap putI)) => spec_l11Mean w' r _ q (by rw [sortI_len]; exact hv) (by rw [sortI_len]; exact hf.1) (fun z hz => hf.2 z ((sortI_perm _).mem_iff.1 hz)))
        change Hid (∀ (w' : World) (r : Value), Rd w'.heap.size w' r 1 (sortI (valF xs bell ((n : Int) + 1))).length ((sortI (valF xs bell ((n : Int) + 1))).flatMap putI) → Calls Try.prog 50 #[r] w' fun e w'' => e = .returned (.int .i64 (mI xs bell n)) ∧ Below w'.heap.size w' w'') at HM
        have hsl := Lib.hid (sortI_len (valF xs bell ((n : Int) + 1)))
        have hvz : (((valF xs bell ((n : Int) + 1)).length : Int) == 0) = false := beq_eq_false_iff_ne.2 (by omega)
        have hvz2 : decide ((valF xs bell ((n : Int) + 1)).length = 0) = false := decide_eq_false (by omega)
        clear hf
        generalize mI xs bell n = mm at *
        generalize msL xs bell n = J at *
        go_wp2_with fail
        refine HV1.out.mono ?_; rintro e1 w2 ⟨r2, rfl, o2, b2⟩
        obtain ⟨ro, rc, er⟩ := (own_rd o2).form
        subst er
        have hrd := own_rd o2
        rw [← hsl.out] at hrd
        have HRD := Lib.hid hrd
        have HX' := Lib.hid (HX.out.below b2 HX.out.lt); clear HX; have HX := HX'; clear HX'
        have HB' := Lib.hid (bnext HB.out b2); clear HB; have HB := HB'; clear HB'
        have HO1 := Lib.hid (own_below HO.out b2 (Nat.le_refl _))
        have HMM := Lib.hid (HM.out _ _ HRD.out)
        rw [hsl.out] at HMM
        clear b2 o2 hrd HV1 HM
        generalize (valF xs bell ((n : Int) + 1)).length = vl at *
        go_wp2_with fail
        refine HMM.out.mono ?_; rintro e2' w3 ⟨rfl, b3⟩
        have HX' := Lib.hid (HX.out.below b3 HX.out.lt); clear HX; have HX := HX'; clear HX'
        have HB' := Lib.hid (bnext HB.out b3); clear HB; have HB := HB'; clear HB'
        have HO2 := Lib.hid (own_below HO1.out b3 (Nat.le_refl _))
        have hws : w.heap.size + 1 ≤ w3.heap.size := HX.out.lt
        clear b3 HO1 HMM
        go_wp2_with (at_builtin; refine app_el rfl _ _ 24 2 i0 (.int .i64 0) 1 8 Try.underlying24 hi hz0 hz1 hz2 rfl (by decide) rfl w3 (w.heap.size + 1) _ _ (J.flatMap putI) (by rfl) HO2.out [.int .i64 mm] rfl (by intro u hu; simp at hu; subst hu; rfl) (by rfl) (by omega) (by decide) hws ?_; intro g gc w9 hown9 hB9 hz9)
        have HX9 := HX.out
        have HB10 := Lib.hid (HB.out.trans ((hB9 w3 (Below.refl _ _)).mono (by omega)))
        have HX10 := Lib.hid (own_far (hB9 w3 (Below.refl _ _)) HX9 (by omega))
        have HO9 := Lib.hid hown9
        clear hown9 hB9
        go_roundw
        case rel => exact ⟨n + 1, by omega, by go_num, e2.out, by rw [em.out, int_snoc5]; exact HO9.out, HX10.out, HB10.out⟩
        case measure => simp [intOf]; omega
      · have ec := Lib.hid (sndC_none hV hlt hv)
        have ev0 := Lib.hid (sndV_no (xs := xs) (bell := bell) (by rw [ec.out]; decide) 0)
        have ev1 := Lib.hid (sndV_no (xs := xs) (bell := bell) (by rw [ec.out]; decide) 1)
        have ev2 := Lib.hid (sndV_no (xs := xs) (bell := bell) (by rw [ec.out]; decide) 2)
        have ev3 := Lib.hid (sndV_no (xs := xs) (bell := bell) (by rw [ec.out]; decide) 3)
        have ev4 := Lib.hid (sndV_no (xs := xs) (bell := bell) (by rw [ec.out]; decide) 4)
        have hvz : (valF xs bell ((n : Int) + 1)).length = 0 := by omega
        rw [hvz] at HV1
        clear hf hv hvz
        go_wp2_with fail
        refine HV1.out.mono ?_; rintro e1 w2 ⟨r2, rfl, o2, b2⟩
        obtain ⟨ro, rc, er⟩ := (own_rd o2).form
        subst er
        have HX' := Lib.hid (HX.out.below b2 HX.out.lt); clear HX; have HX := HX'; clear HX'
        have HB' := Lib.hid (bnext HB.out b2); clear HB; have HB := HB'; clear HB'
        clear b2 o2
        have O2 := HX.out
        have q0 : w2.cell? ⟨w.heap.size, 0, none⟩ = some (.int .i64 0) := O2.cell 0
        have q1 : w2.cell? ⟨w.heap.size, 1, none⟩ = some (.int .i64 0) := O2.cell 1
        have q2 : w2.cell? ⟨w.heap.size, 2, none⟩ = some (.int .i64 0) := O2.cell 2
        have q3 : w2.cell? ⟨w.heap.size, 3, none⟩ = some (.int .i64 0) := O2.cell 3
        have q4 : w2.cell? ⟨w.heap.size, 4, none⟩ = some (.int .i64 0) := O2.cell 4
        have f0 := O2.free 0
        have f1 := O2.free 1
        have f2 := O2.free 2
        have f3 := O2.free 3
        have f4 := O2.free 4
        have hlt := O2.lt
        have hne : ¬ w.heap.size = w2.heap.size := by omega
        clear O2
        go_wp2_with fail
        have hb := HB.out
        exact bodyPost_ret (v := .tuple #[.agg #[.int .i64 0, .int .i64 0, .int .i64 0, .int .i64 0, .int .i64 0], .int .i64 3]) (by simp [results, Try.results36, go_sem, q0, q1, q2, q3, q4, hlt, hne]) rfl ⟨by simp only [ec.out, ev0.out, ev1.out, ev2.out, ev3.out, ev4.out], by (repeat' (first | (with_reducible exact Below.refl _ _) | (with_reducible assumption) | (with_reducible refine below_dn ?_ _) | (with_reducible refine Below.drew ?_) | (with_reducible refine Below.alloc ?_ ?_ _) | (with_reducible refine Below.setCell ?_ ?_ _) | go_size))⟩
    · obtain rfl : n = 5 := by omega
      have hrd := own_rd HO.out
      rw [msL_five] at hrd
      obtain ⟨so, sc, rfl⟩ := hrd.form
      have HS5 := Lib.hid (spec_sound wr _ (mI xs bell 0) (mI xs bell 1) (mI xs bell 2) (mI xs bell 3) (mI xs bell 4) hrd)
      have hz := mI_all hV Hall.out
      have tg : decide (((5 : Nat) : Int) + 1 ≤ 5) = false := by decide
      have ecr := sndC_rise hV Hall.out
      have HXr := HX
      clear hrd
      cases hR : rise5 (mI xs bell 0) (mI xs bell 1) (mI xs bell 2) (mI xs bell 3) (mI xs bell 4)
      case false =>
        have ec : Hid (sndC xs bell = 6) := Lib.hid (by rw [ecr, hR]; rfl)
        have ev0 := Lib.hid (sndV_no (xs := xs) (bell := bell) (by rw [ec.out]; decide) 0)
        have ev1 := Lib.hid (sndV_no (xs := xs) (bell := bell) (by rw [ec.out]; decide) 1)
        have ev2 := Lib.hid (sndV_no (xs := xs) (bell := bell) (by rw [ec.out]; decide) 2)
        have ev3 := Lib.hid (sndV_no (xs := xs) (bell := bell) (by rw [ec.out]; decide) 3)
        have ev4 := Lib.hid (sndV_no (xs := xs) (bell := bell) (by rw [ec.out]; decide) 4)
        generalize mI xs bell 0 = m0 at *
        generalize mI xs bell 1 = m1 at *
        generalize mI xs bell 2 = m2 at *
        generalize mI xs bell 3 = m3 at *
        generalize mI xs bell 4 = m4 at *
        go_wp2_with fail
        refine HS5.out.mono ?_; rintro e1 w2 ⟨rfl, b2⟩
        have HX' := Lib.hid (HX.out.below b2 HX.out.lt); clear HX; have HX := HX'; clear HX'
        have HB' := Lib.hid (bnext HB.out b2); clear HB; have HB := HB'; clear HB'
        have V9 := Lib.hid (Own.new w2 47 (L5 m0 m1 m2 m3 m4))
        have HV := Lib.hid (spec_l04Ok _ _ m0 m1 m2 m3 m4 V9.out hz)
        rw [hR] at HV
        have hw2 := HB.out.size
        have HX2 := Lib.hid (HX.out.alloc (.cells #[.int .i64 m0, .int .i64 m1, .int .i64 m2, .int .i64 m3, .int .i64 m4] 47))
        have HB2 := Lib.hid (HB.out.alloc hw2 (.cells #[.int .i64 m0, .int .i64 m1, .int .i64 m2, .int .i64 m3, .int .i64 m4] 47))
        clear HX HB b2
        have HX := HX2
        have HB := HB2
        clear HX2 HB2
        go_wp2_with fail
        refine HV.out.mono ?_; rintro e2 w3 ⟨rfl, b3⟩
        have HX' := Lib.hid (HX.out.below b3 HX.out.lt); clear HX; have HX := HX'; clear HX'
        have HB' := Lib.hid (HB.out.trans (b3.mono HB.out.size)); clear HB; have HB := HB'; clear HB'
        have V93 := Lib.hid (V9.out.below b3 V9.out.lt)
        have n0 : (_ : Option Value) = some (.int .i64 m0) := V93.out.cell 0
        have n1 : (_ : Option Value) = some (.int .i64 m1) := V93.out.cell 1
        have n2 : (_ : Option Value) = some (.int .i64 m2) := V93.out.cell 2
        have n3 : (_ : Option Value) = some (.int .i64 m3) := V93.out.cell 3
        have n4 : (_ : Option Value) = some (.int .i64 m4) := V93.out.cell 4
        have nl := V93.out.lt
        clear b3 HV
        have O3 := HX.out
        have q0 : w3.cell? ⟨w.heap.size, 0, none⟩ = some (.int .i64 0) := O3.cell 0
        have q1 : w3.cell? ⟨w.heap.size, 1, none⟩ = some (.int .i64 0) := O3.cell 1
        have q2 : w3.cell? ⟨w.heap.size, 2, none⟩ = some (.int .i64 0) := O3.cell 2
        have q3 : w3.cell? ⟨w.heap.size, 3, none⟩ = some (.int .i64 0) := O3.cell 3
        have q4 : w3.cell? ⟨w.heap.size, 4, none⟩ = some (.int .i64 0) := O3.cell 4
        have f0 := O3.free 0
        have f1 := O3.free 1
        have f2 := O3.free 2
        have f3 := O3.free 3
        have f4 := O3.free 4
        have hlt := O3.lt
        have hne : ¬ w.heap.size = w3.heap.size := by omega
        clear O3
        go_wp2_with fail
        have hb := HB.out
        exact bodyPost_ret (v := .tuple #[.agg #[.int .i64 0, .int .i64 0, .int .i64 0, .int .i64 0, .int .i64 0], .int .i64 6]) (by simp [results, Try.results36, go_sem, q0, q1, q2, q3, q4, hlt, hne]) rfl ⟨by simp only [ec.out, ev0.out, ev1.out, ev2.out, ev3.out, ev4.out], by (repeat' (first | (with_reducible exact Below.refl _ _) | (with_reducible assumption) | (with_reducible refine below_dn ?_ _) | (with_reducible refine Below.drew ?_) | (with_reducible refine Below.alloc ?_ ?_ _) | (with_reducible refine Below.setCell ?_ ?_ _) | go_size))⟩
      case true =>
        have ec : Hid (sndC xs bell = 0) := Lib.hid (by rw [ecr, hR]; rfl)
        have ev0 := Lib.hid (sndV_yes (xs := xs) (bell := bell) ec.out 0)
        have ev1 := Lib.hid (sndV_yes (xs := xs) (bell := bell) ec.out 1)
        have ev2 := Lib.hid (sndV_yes (xs := xs) (bell := bell) ec.out 2)
        have ev3 := Lib.hid (sndV_yes (xs := xs) (bell := bell) ec.out 3)
        have ev4 := Lib.hid (sndV_yes (xs := xs) (bell := bell) ec.out 4)
        generalize mI xs bell 0 = m0 at *
        generalize mI xs bell 1 = m1 at *
        generalize mI xs bell 2 = m2 at *
        generalize mI xs bell 3 = m3 at *
        generalize mI xs bell 4 = m4 at *
        go_wp2_with fail
        refine HS5.out.mono ?_; rintro e1 w2 ⟨rfl, b2⟩
        have HX' := Lib.hid (HX.out.below b2 HX.out.lt); clear HX; have HX := HX'; clear HX'
        have HB' := Lib.hid (bnext HB.out b2); clear HB; have HB := HB'; clear HB'
        have V9 := Lib.hid (Own.new w2 47 (L5 m0 m1 m2 m3 m4))
        have HV := Lib.hid (spec_l04Ok _ _ m0 m1 m2 m3 m4 V9.out hz)
        rw [hR] at HV
        have hw2 := HB.out.size
        have HX2 := Lib.hid (HX.out.alloc (.cells #[.int .i64 m0, .int .i64 m1, .int .i64 m2, .int .i64 m3, .int .i64 m4] 47))
        have HB2 := Lib.hid (HB.out.alloc hw2 (.cells #[.int .i64 m0, .int .i64 m1, .int .i64 m2, .int .i64 m3, .int .i64 m4] 47))
        clear HX HB b2
        have HX := HX2
        have HB := HB2
        clear HX2 HB2
        go_wp2_with fail
        refine HV.out.mono ?_; rintro e2 w3 ⟨rfl, b3⟩
        have HX' := Lib.hid (HX.out.below b3 HX.out.lt); clear HX; have HX := HX'; clear HX'
        have HB' := Lib.hid (HB.out.trans (b3.mono HB.out.size)); clear HB; have HB := HB'; clear HB'
        have V93 := Lib.hid (V9.out.below b3 V9.out.lt)
        have n0 : (_ : Option Value) = some (.int .i64 m0) := V93.out.cell 0
        have n1 : (_ : Option Value) = some (.int .i64 m1) := V93.out.cell 1
        have n2 : (_ : Option Value) = some (.int .i64 m2) := V93.out.cell 2
        have n3 : (_ : Option Value) = some (.int .i64 m3) := V93.out.cell 3
        have n4 : (_ : Option Value) = some (.int .i64 m4) := V93.out.cell 4
        have nl := V93.out.lt
        clear b3 HV
        have O3 := HX.out
        have q0 : w3.cell? ⟨w.heap.size, 0, none⟩ = some (.int .i64 0) := O3.cell 0
        have q1 : w3.cell? ⟨w.heap.size, 1, none⟩ = some (.int .i64 0) := O3.cell 1
        have q2 : w3.cell? ⟨w.heap.size, 2, none⟩ = some (.int .i64 0) := O3.cell 2
        have q3 : w3.cell? ⟨w.heap.size, 3, none⟩ = some (.int .i64 0) := O3.cell 3
        have q4 : w3.cell? ⟨w.heap.size, 4, none⟩ = some (.int .i64 0) := O3.cell 4
        have f0 := O3.free 0
        have f1 := O3.free 1
        have f2 := O3.free 2
        have f3 := O3.free 3
        have f4 := O3.free 4
        have hlt := O3.lt
        have hne : ¬ w.heap.size = w3.heap.size := by omega
        clear O3
        go_wp2_with fail
        have hb := HB.out
        exact bodyPost_ret (v := .tuple #[.agg #[.int .i64 m0, .int .i64 m1, .int .i64 m2, .int .i64 m3, .int .i64 m4], .int .i64 0]) (by simp [results, Try.results36, go_sem, q0, q1, q2, q3, q4, hlt, hne]) rfl ⟨by simp only [ec.out, ev0.out, ev1.out, ev2.out, ev3.out, ev4.out], by (repeat' (first | (with_reducible exact Below.refl _ _) | (with_reducible assumption) | (with_reducible refine below_dn ?_ _) | (with_reducible refine Below.drew ?_) | (with_reducible refine Below.alloc ?_ ?_ _) | (with_reducible refine Below.setCell ?_ ?_ _) | go_size))⟩


theorem meanS_yes {xs : List Measure} {bell : ByteArray} {n : Nat} (h : askM xs bell ((n : Int) + 1) = 0) : meanS xs bell ((n : Int) + 1) = mI xs bell n := if_pos h
theorem meanS_no {xs : List Measure} {bell : ByteArray} {n : Nat} (h : ¬ askM xs bell ((n : Int) + 1) = 0) : meanS xs bell ((n : Int) + 1) = 0 := if_neg h
set_option maxHeartbeats 4000000 in
theorem impl_SoundFrom (w : World) (v : Value) (xs : List Measure) (bell : ByteArray) (h : Rd w.heap.size w v 3 xs.length (xs.flatMap Measure.put)) (hn : xs.length ≤ 1048576) (hok : ∀ x ∈ xs, x.ok) :
    Calls Try.prog 37 #[v, .string bell] w fun e w' => e = .returned (.tuple #[.agg #[.int .i64 (sndV xs bell 0), .int .i64 (sndV xs bell 1), .int .i64 (sndV xs bell 2), .int .i64 (sndV xs bell 3), .int .i64 (sndV xs bell 4)], .int .i64 (sndC xs bell)]) ∧ Below w.heap.size w w' := by
  have HX := Lib.hid (Own.new w 47 [.int .i64 0, .int .i64 0, .int .i64 0, .int .i64 0, .int .i64 0])
  have HB := Lib.hid (show Below w.heap.size w (w.alloc (.cells #[.int .i64 0, .int .i64 0, .int .i64 0, .int .i64 0, .int .i64 0] 47)) from by (repeat' (first | (with_reducible exact Below.refl _ _) | (with_reducible assumption) | (with_reducible refine below_dn ?_ _) | (with_reducible refine Below.drew ?_) | (with_reducible refine Below.alloc ?_ ?_ _) | (with_reducible refine Below.setCell ?_ ?_ _) | go_size)))
  have HH := Lib.hid h
  have Hok := Lib.hid hok
  obtain ⟨i0, hi, hz0, hz1, hz2⟩ := info_parts info_i64
  clear h hok
  go_enter Try.func37, Try.ntmps37
  go_wp2_with fail
  go_loopw [6, 7, 8, 9] (fun r i _ _ wr => ∃ (n : Nat), n ≤ 5 ∧ i = .int .i64 ((n : Int) + 1) ∧ allK (hasV xs bell) n = true ∧ (n = 0 ∨ validMeasureS xs = true) ∧ wr.ownsRow (w.heap.size + 1) 2 1 r n ((msL xs bell n).flatMap putI) ∧ Own wr w.heap.size 47 [.int .i64 0, .int .i64 0, .int .i64 0, .int .i64 0, .int .i64 0] ∧ Below w.heap.size w wr) (fun _ i _ _ _ => (6 - intOf i).toNat)
  case atStart => exact ⟨0, Nat.zero_le _, rfl, rfl, .inl rfl, own_nil _ _ _ _, HX.out, HB.out⟩
  case round =>
    clear HX HB
    obtain ⟨n, hn5, rfl, hall, hnv, hown, hX, hB⟩ := hrel
    have Hall := Lib.hid hall; clear hall
    have HO := Lib.hid hown; clear hown
    have HX := Lib.hid hX; clear hX
    have HB := Lib.hid hB
    by_cases hlt : n < 5
    · have tg : decide ((n : Int) + 1 ≤ 5) = true := decide_eq_true (by omega)
      cases hV : validMeasureS xs
      case false =>
        have ec := Lib.hid (sndC_bad hV bell)
        have ea := Lib.hid (askM_bad hV bell ((n : Int) + 1))
        have ev0 := Lib.hid (sndV_no (xs := xs) (bell := bell) (by rw [ec.out]; decide) 0)
        have ev1 := Lib.hid (sndV_no (xs := xs) (bell := bell) (by rw [ec.out]; decide) 1)
        have ev2 := Lib.hid (sndV_no (xs := xs) (bell := bell) (by rw [ec.out]; decide) 2)
        have ev3 := Lib.hid (sndV_no (xs := xs) (bell := bell) (by rw [ec.out]; decide) 3)
        have ev4 := Lib.hid (sndV_no (xs := xs) (bell := bell) (by rw [ec.out]; decide) 4)
        clear hnv hV
        have HM := Lib.hid (impl_MeanOf wr v xs bell ((n : Int) + 1) (HH.out.up hB) hn Hok.out)
        rw [ea.out] at HM
        have tq : (((1 : Int)) != 0) = true := by decide
        clear hB
        generalize meanS xs bell ((n : Int) + 1) = mz at *
        go_wp2_with fail
        refine HM.out.mono ?_; rintro e1 w2 ⟨rfl, b2⟩
        have HX' := Lib.hid (HX.out.below b2 HX.out.lt); clear HX; have HX := HX'; clear HX'
        have HB' := Lib.hid (bnext HB.out b2); clear HB; have HB := HB'; clear HB'
        clear b2
        have O2 := HX.out
        have q0 : w2.cell? ⟨w.heap.size, 0, none⟩ = some (.int .i64 0) := O2.cell 0
        have q1 : w2.cell? ⟨w.heap.size, 1, none⟩ = some (.int .i64 0) := O2.cell 1
        have q2 : w2.cell? ⟨w.heap.size, 2, none⟩ = some (.int .i64 0) := O2.cell 2
        have q3 : w2.cell? ⟨w.heap.size, 3, none⟩ = some (.int .i64 0) := O2.cell 3
        have q4 : w2.cell? ⟨w.heap.size, 4, none⟩ = some (.int .i64 0) := O2.cell 4
        have f0 := O2.free 0
        have f1 := O2.free 1
        have f2 := O2.free 2
        have f3 := O2.free 3
        have f4 := O2.free 4
        have hlt := O2.lt
        have hne : ¬ w.heap.size = w2.heap.size := by omega
        clear O2
        go_wp2_with fail
        have hb := HB.out
        exact bodyPost_ret (v := .tuple #[.agg #[.int .i64 0, .int .i64 0, .int .i64 0, .int .i64 0, .int .i64 0], .int .i64 1]) (by simp [results, Try.results37, go_sem, q0, q1, q2, q3, q4, hlt, hne]) rfl ⟨by simp only [ec.out, ev0.out, ev1.out, ev2.out, ev3.out, ev4.out], by (repeat' (first | (with_reducible exact Below.refl _ _) | (with_reducible assumption) | (with_reducible refine below_dn ?_ _) | (with_reducible refine Below.drew ?_) | (with_reducible refine Below.alloc ?_ ?_ _) | (with_reducible refine Below.setCell ?_ ?_ _) | go_size))⟩
      by_cases hv : 0 < (valF xs bell ((n : Int) + 1)).length
      · have hv1 : askM xs bell ((n : Int) + 1) = 0 := askM_some hV (inB_mk (by omega)) (by omega)
        have ea := Lib.hid hv1
        have e2 : Hid (allK (hasV xs bell) (n + 1) = true) := Lib.hid (by rw [allK_succ, Hall.out]; unfold hasV; rw [decide_eq_true hv]; rfl)
        have em : Hid (msL xs bell (n + 1) = msL xs bell n ++ [mI xs bell n]) := Lib.hid (msL_succ xs bell n)
        have HM := Lib.hid (impl_MeanOf wr v xs bell ((n : Int) + 1) (HH.out.up hB) hn Hok.out)
        rw [ea.out, meanS_yes hv1] at HM
        have HVV := Lib.hid hV
        clear hB hv hv1 hV hnv
        generalize mI xs bell n = mm at *
        generalize msL xs bell n = J at *
        go_wp2_with fail
        refine HM.out.mono ?_; rintro e1 w3 ⟨rfl, b3⟩
        have HX' := Lib.hid (HX.out.below b3 HX.out.lt); clear HX; have HX := HX'; clear HX'
        have HB' := Lib.hid (bnext HB.out b3); clear HB; have HB := HB'; clear HB'
        have HO2 := Lib.hid (own_below HO.out b3 (Nat.le_refl _))
        have hws : w.heap.size + 1 ≤ w3.heap.size := HX.out.lt
        clear b3 HM
        go_wp2_with (at_builtin; refine app_el rfl _ _ 24 2 i0 (.int .i64 0) 1 8 Try.underlying24 hi hz0 hz1 hz2 rfl (by decide) rfl w3 (w.heap.size + 1) _ _ (J.flatMap putI) (by rfl) HO2.out [.int .i64 mm] rfl (by intro u hu; simp at hu; subst hu; rfl) (by rfl) (by omega) (by decide) hws ?_; intro g gc w9 hown9 hB9 hz9)
        have HX9 := HX.out
        have HB10 := Lib.hid (HB.out.trans ((hB9 w3 (Below.refl _ _)).mono (by omega)))
        have HX10 := Lib.hid (own_far (hB9 w3 (Below.refl _ _)) HX9 (by omega))
        have HO9 := Lib.hid hown9
        clear hown9 hB9
        go_roundw
        case rel => exact ⟨n + 1, by omega, by go_num, e2.out, .inr (by first | exact HVV.out | trivial), by rw [em.out, int_snoc5]; exact HO9.out, HX10.out, HB10.out⟩
        case measure => simp [intOf]; omega
      · have ec := Lib.hid (sndC_none hV hlt hv)
        have ea := Lib.hid (askM_none hV (inB_mk (by omega)) (by omega) : askM xs bell ((n : Int) + 1) = 3)
        have ev0 := Lib.hid (sndV_no (xs := xs) (bell := bell) (by rw [ec.out]; decide) 0)
        have ev1 := Lib.hid (sndV_no (xs := xs) (bell := bell) (by rw [ec.out]; decide) 1)
        have ev2 := Lib.hid (sndV_no (xs := xs) (bell := bell) (by rw [ec.out]; decide) 2)
        have ev3 := Lib.hid (sndV_no (xs := xs) (bell := bell) (by rw [ec.out]; decide) 3)
        have ev4 := Lib.hid (sndV_no (xs := xs) (bell := bell) (by rw [ec.out]; decide) 4)
        clear hnv hV hv
        have HM := Lib.hid (impl_MeanOf wr v xs bell ((n : Int) + 1) (HH.out.up hB) hn Hok.out)
        rw [ea.out] at HM
        have tq : (((3 : Int)) != 0) = true := by decide
        clear hB
        generalize meanS xs bell ((n : Int) + 1) = mz at *
        go_wp2_with fail
        refine HM.out.mono ?_; rintro e1 w2 ⟨rfl, b2⟩
        have HX' := Lib.hid (HX.out.below b2 HX.out.lt); clear HX; have HX := HX'; clear HX'
        have HB' := Lib.hid (bnext HB.out b2); clear HB; have HB := HB'; clear HB'
        clear b2
        have O2 := HX.out
        have q0 : w2.cell? ⟨w.heap.size, 0, none⟩ = some (.int .i64 0) := O2.cell 0
        have q1 : w2.cell? ⟨w.heap.size, 1, none⟩ = some (.int .i64 0) := O2.cell 1
        have q2 : w2.cell? ⟨w.heap.size, 2, none⟩ = some (.int .i64 0) := O2.cell 2
        have q3 : w2.cell? ⟨w.heap.size, 3, none⟩ = some (.int .i64 0) := O2.cell 3
        have q4 : w2.cell? ⟨w.heap.size, 4, none⟩ = some (.int .i64 0) := O2.cell 4
        have f0 := O2.free 0
        have f1 := O2.free 1
        have f2 := O2.free 2
        have f3 := O2.free 3
        have f4 := O2.free 4
        have hlt := O2.lt
        have hne : ¬ w.heap.size = w2.heap.size := by omega
        clear O2
        go_wp2_with fail
        have hb := HB.out
        exact bodyPost_ret (v := .tuple #[.agg #[.int .i64 0, .int .i64 0, .int .i64 0, .int .i64 0, .int .i64 0], .int .i64 3]) (by simp [results, Try.results37, go_sem, q0, q1, q2, q3, q4, hlt, hne]) rfl ⟨by simp only [ec.out, ev0.out, ev1.out, ev2.out, ev3.out, ev4.out], by (repeat' (first | (with_reducible exact Below.refl _ _) | (with_reducible assumption) | (with_reducible refine below_dn ?_ _) | (with_reducible refine Below.drew ?_) | (with_reducible refine Below.alloc ?_ ?_ _) | (with_reducible refine Below.setCell ?_ ?_ _) | go_size))⟩
    · have hV : validMeasureS xs = true := hnv.resolve_left (by omega)
      obtain rfl : n = 5 := by omega
      have hrd := own_rd HO.out
      rw [msL_five] at hrd
      obtain ⟨so, sc, rfl⟩ := hrd.form
      have HS5 := Lib.hid (impl_sound wr _ (mI xs bell 0) (mI xs bell 1) (mI xs bell 2) (mI xs bell 3) (mI xs bell 4) hrd)
      have hz := mI_all hV Hall.out
      have tg : decide (((5 : Nat) : Int) + 1 ≤ 5) = false := by decide
      have ecr := sndC_rise hV Hall.out
      have HXr := HX
      clear hrd
      cases hR : rise5 (mI xs bell 0) (mI xs bell 1) (mI xs bell 2) (mI xs bell 3) (mI xs bell 4)
      case false =>
        have ec : Hid (sndC xs bell = 6) := Lib.hid (by rw [ecr, hR]; rfl)
        have ev0 := Lib.hid (sndV_no (xs := xs) (bell := bell) (by rw [ec.out]; decide) 0)
        have ev1 := Lib.hid (sndV_no (xs := xs) (bell := bell) (by rw [ec.out]; decide) 1)
        have ev2 := Lib.hid (sndV_no (xs := xs) (bell := bell) (by rw [ec.out]; decide) 2)
        have ev3 := Lib.hid (sndV_no (xs := xs) (bell := bell) (by rw [ec.out]; decide) 3)
        have ev4 := Lib.hid (sndV_no (xs := xs) (bell := bell) (by rw [ec.out]; decide) 4)
        generalize mI xs bell 0 = m0 at *
        generalize mI xs bell 1 = m1 at *
        generalize mI xs bell 2 = m2 at *
        generalize mI xs bell 3 = m3 at *
        generalize mI xs bell 4 = m4 at *
        go_wp2_with fail
        refine HS5.out.mono ?_; rintro e1 w2 ⟨rfl, b2⟩
        have HX' := Lib.hid (HX.out.below b2 HX.out.lt); clear HX; have HX := HX'; clear HX'
        have HB' := Lib.hid (bnext HB.out b2); clear HB; have HB := HB'; clear HB'
        have V9 := Lib.hid (Own.new w2 47 (L5 m0 m1 m2 m3 m4))
        have HV := Lib.hid (impl_ValidSound (w2.alloc (.cells #[.int .i64 m0, .int .i64 m1, .int .i64 m2, .int .i64 m3, .int .i64 m4] 47)) m0 m1 m2 m3 m4 hz)
        rw [hR] at HV
        have hw2 := HB.out.size
        have HX2 := Lib.hid (HX.out.alloc (.cells #[.int .i64 m0, .int .i64 m1, .int .i64 m2, .int .i64 m3, .int .i64 m4] 47))
        have HB2 := Lib.hid (HB.out.alloc hw2 (.cells #[.int .i64 m0, .int .i64 m1, .int .i64 m2, .int .i64 m3, .int .i64 m4] 47))
        clear HX HB b2
        have HX := HX2
        have HB := HB2
        clear HX2 HB2
        go_wp2_with fail
        refine HV.out.mono ?_; rintro e2 w3 ⟨rfl, b3⟩
        have HX' := Lib.hid (HX.out.below b3 HX.out.lt); clear HX; have HX := HX'; clear HX'
        have HB' := Lib.hid (HB.out.trans (b3.mono HB.out.size)); clear HB; have HB := HB'; clear HB'
        have V93 := Lib.hid (V9.out.below b3 V9.out.lt)
        have n0 : (_ : Option Value) = some (.int .i64 m0) := V93.out.cell 0
        have n1 : (_ : Option Value) = some (.int .i64 m1) := V93.out.cell 1
        have n2 : (_ : Option Value) = some (.int .i64 m2) := V93.out.cell 2
        have n3 : (_ : Option Value) = some (.int .i64 m3) := V93.out.cell 3
        have n4 : (_ : Option Value) = some (.int .i64 m4) := V93.out.cell 4
        have nl := V93.out.lt
        clear b3 HV
        have O3 := HX.out
        have q0 : w3.cell? ⟨w.heap.size, 0, none⟩ = some (.int .i64 0) := O3.cell 0
        have q1 : w3.cell? ⟨w.heap.size, 1, none⟩ = some (.int .i64 0) := O3.cell 1
        have q2 : w3.cell? ⟨w.heap.size, 2, none⟩ = some (.int .i64 0) := O3.cell 2
        have q3 : w3.cell? ⟨w.heap.size, 3, none⟩ = some (.int .i64 0) := O3.cell 3
        have q4 : w3.cell? ⟨w.heap.size, 4, none⟩ = some (.int .i64 0) := O3.cell 4
        have f0 := O3.free 0
        have f1 := O3.free 1
        have f2 := O3.free 2
        have f3 := O3.free 3
        have f4 := O3.free 4
        have hlt := O3.lt
        have hne : ¬ w.heap.size = w3.heap.size := by omega
        clear O3
        go_wp2_with fail
        have hb := HB.out
        exact bodyPost_ret (v := .tuple #[.agg #[.int .i64 0, .int .i64 0, .int .i64 0, .int .i64 0, .int .i64 0], .int .i64 6]) (by simp [results, Try.results37, go_sem, q0, q1, q2, q3, q4, hlt, hne]) rfl ⟨by simp only [ec.out, ev0.out, ev1.out, ev2.out, ev3.out, ev4.out], by (repeat' (first | (with_reducible exact Below.refl _ _) | (with_reducible assumption) | (with_reducible refine below_dn ?_ _) | (with_reducible refine Below.drew ?_) | (with_reducible refine Below.alloc ?_ ?_ _) | (with_reducible refine Below.setCell ?_ ?_ _) | go_size))⟩
      case true =>
        have ec : Hid (sndC xs bell = 0) := Lib.hid (by rw [ecr, hR]; rfl)
        have ev0 := Lib.hid (sndV_yes (xs := xs) (bell := bell) ec.out 0)
        have ev1 := Lib.hid (sndV_yes (xs := xs) (bell := bell) ec.out 1)
        have ev2 := Lib.hid (sndV_yes (xs := xs) (bell := bell) ec.out 2)
        have ev3 := Lib.hid (sndV_yes (xs := xs) (bell := bell) ec.out 3)
        have ev4 := Lib.hid (sndV_yes (xs := xs) (bell := bell) ec.out 4)
        generalize mI xs bell 0 = m0 at *
        generalize mI xs bell 1 = m1 at *
        generalize mI xs bell 2 = m2 at *
        generalize mI xs bell 3 = m3 at *
        generalize mI xs bell 4 = m4 at *
        go_wp2_with fail
        refine HS5.out.mono ?_; rintro e1 w2 ⟨rfl, b2⟩
        have HX' := Lib.hid (HX.out.below b2 HX.out.lt); clear HX; have HX := HX'; clear HX'
        have HB' := Lib.hid (bnext HB.out b2); clear HB; have HB := HB'; clear HB'
        have V9 := Lib.hid (Own.new w2 47 (L5 m0 m1 m2 m3 m4))
        have HV := Lib.hid (impl_ValidSound (w2.alloc (.cells #[.int .i64 m0, .int .i64 m1, .int .i64 m2, .int .i64 m3, .int .i64 m4] 47)) m0 m1 m2 m3 m4 hz)
        rw [hR] at HV
        have hw2 := HB.out.size
        have HX2 := Lib.hid (HX.out.alloc (.cells #[.int .i64 m0, .int .i64 m1, .int .i64 m2, .int .i64 m3, .int .i64 m4] 47))
        have HB2 := Lib.hid (HB.out.alloc hw2 (.cells #[.int .i64 m0, .int .i64 m1, .int .i64 m2, .int .i64 m3, .int .i64 m4] 47))
        clear HX HB b2
        have HX := HX2
        have HB := HB2
        clear HX2 HB2
        go_wp2_with fail
        refine HV.out.mono ?_; rintro e2 w3 ⟨rfl, b3⟩
        have HX' := Lib.hid (HX.out.below b3 HX.out.lt); clear HX; have HX := HX'; clear HX'
        have HB' := Lib.hid (HB.out.trans (b3.mono HB.out.size)); clear HB; have HB := HB'; clear HB'
        have V93 := Lib.hid (V9.out.below b3 V9.out.lt)
        have n0 : (_ : Option Value) = some (.int .i64 m0) := V93.out.cell 0
        have n1 : (_ : Option Value) = some (.int .i64 m1) := V93.out.cell 1
        have n2 : (_ : Option Value) = some (.int .i64 m2) := V93.out.cell 2
        have n3 : (_ : Option Value) = some (.int .i64 m3) := V93.out.cell 3
        have n4 : (_ : Option Value) = some (.int .i64 m4) := V93.out.cell 4
        have nl := V93.out.lt
        clear b3 HV
        have O3 := HX.out
        have q0 : w3.cell? ⟨w.heap.size, 0, none⟩ = some (.int .i64 0) := O3.cell 0
        have q1 : w3.cell? ⟨w.heap.size, 1, none⟩ = some (.int .i64 0) := O3.cell 1
        have q2 : w3.cell? ⟨w.heap.size, 2, none⟩ = some (.int .i64 0) := O3.cell 2
        have q3 : w3.cell? ⟨w.heap.size, 3, none⟩ = some (.int .i64 0) := O3.cell 3
        have q4 : w3.cell? ⟨w.heap.size, 4, none⟩ = some (.int .i64 0) := O3.cell 4
        have f0 := O3.free 0
        have f1 := O3.free 1
        have f2 := O3.free 2
        have f3 := O3.free 3
        have f4 := O3.free 4
        have hlt := O3.lt
        have hne : ¬ w.heap.size = w3.heap.size := by omega
        clear O3
        go_wp2_with fail
        have hb := HB.out
        exact bodyPost_ret (v := .tuple #[.agg #[.int .i64 m0, .int .i64 m1, .int .i64 m2, .int .i64 m3, .int .i64 m4], .int .i64 0]) (by simp [results, Try.results37, go_sem, q0, q1, q2, q3, q4, hlt, hne]) rfl ⟨by simp only [ec.out, ev0.out, ev1.out, ev2.out, ev3.out, ev4.out], by (repeat' (first | (with_reducible exact Below.refl _ _) | (with_reducible assumption) | (with_reducible refine below_dn ?_ _) | (with_reducible refine Below.drew ?_) | (with_reducible refine Below.alloc ?_ ?_ _) | (with_reducible refine Below.setCell ?_ ?_ _) | go_size))⟩
end Go.Proofs.Ytmkemjfbmnnflaa
