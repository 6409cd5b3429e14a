/- AddSpot: both sides compute the same. -/
import Derived.Test.YtkolgfmjajlpgaaRows
import Derived.Test.YtkolgfmjajlpgaaAddP
import Derived.Test.YtkolgfmjajlpgaaAddS
import Derived.Test.YtkolgfmjajlpgaaSplit
namespace Go.Proofs.Ytkolgfmjajlpgaa
open Go.ChangeShapes Go.WideShapes Go.ChangeAt Go.RowKit Go.Deep Go.Joins
set_option linter.unusedVariables false
set_option maxRecDepth 100000
set_option linter.unusedSimpArgs false
def addC (xs : List Spot) (s : Spot) : Int := if validSpotS xs = true then (if spotB s = true then (addL s xs).2 else 2) else 1
def addR (xs : List Spot) (s : Spot) : List Spot := if validSpotS xs = true ∧ spotB s = true then (addL s xs).1 else []
theorem add_bad {xs : List Spot} {s : Spot} (h : validSpotS xs = false) : addC xs s = 1 ∧ addR xs s = [] := by
  unfold addC addR
  rw [h]
  exact ⟨rfl, if_neg (fun q => by cases q.1)⟩
theorem add_range {xs : List Spot} {s : Spot} (h : validSpotS xs = true) (h2 : spotB s = false) : addC xs s = 2 ∧ addR xs s = [] := by
  unfold addC addR
  rw [h, h2]
  exact ⟨rfl, if_neg (fun q => by cases q.2)⟩
theorem add_good {xs : List Spot} {s : Spot} (h : validSpotS xs = true) (h2 : spotB s = true) : addC xs s = (addL s xs).2 ∧ addR xs s = (addL s xs).1 := by
  unfold addC addR
  rw [h, h2]
  exact ⟨rfl, if_pos ⟨rfl, rfl⟩⟩
theorem endA_len (s : Spot) (r : Option (List Spot × Bool)) : (endA s r).1.length ≤ 16 := by
  cases r with
  | none => exact Nat.zero_le _
  | some p =>
    obtain ⟨o, d⟩ := p
    show (if 16 < (if d then o else o ++ [s]).length then (([], 5) : List Spot × Int) else (if d then o else o ++ [s], 0)).1.length ≤ 16
    by_cases h : 16 < (if d then o else o ++ [s]).length
    · rw [if_pos h]; exact Nat.zero_le _
    · rw [if_neg h]; exact Nat.le_of_not_lt h
theorem addL_len (s : Spot) (xs : List Spot) : (addL s xs).1.length ≤ 16 := endA_len s _
theorem addR_len (xs : List Spot) (s : Spot) : (addR xs s).length ≤ 16 := by
  unfold addR
  split
  · exact addL_len s xs
  · exact Nat.zero_le _
theorem weights_of {xs : List Spot} (h : ∀ x ∈ xs, spotB x = true) : ∀ x ∈ xs, -1000 ≤ x.weight ∧ x.weight ≤ 1000 := fun x hx => (spotB_nums (h x hx)).2

theorem spec_AddSpot (w : World) (v : Value) (xs : List Spot) (s : Spot) (h : Rd w.heap.size w v 2 xs.length (xs.flatMap Spot.put)) (hl : xs.length ≤ 1048576) (hok : ∀ x ∈ xs, x.ok) :
    Calls Try.prog 17 #[v, .agg #[.int .i64 s.angle, .int .i64 s.weight]] w fun e w' => ∃ r : Value, e = .returned (.tuple #[r, .int .i64 (addC xs s)]) ∧ w'.ownsRow w.heap.size 34 2 r (addR xs s).length ((addR xs s).flatMap Spot.put) ∧ Below w.heap.size w w' := by
  have H := Lib.hid h
  have Hok := Lib.hid hok
  have HV := Lib.hid (Own.new w 34 [.int .i64 s.angle, .int .i64 s.weight])
  have HB := Lib.hid (show Below w.heap.size w (w.alloc (.cells #[.int .i64 s.angle, .int .i64 s.weight] 34)) from by (repeat' (first | (with_reducible exact Below.refl _ _) | (with_reducible assumption) | (with_reducible refine below_dn ?_ _) | (with_reducible refine Below.drew ?_) | (with_reducible refine Below.alloc ?_ ?_ _) | (with_reducible refine Below.setCell ?_ ?_ _) | go_size)))
  clear h hok
  cases hV : validSpotS xs
  · obtain ⟨e1, e2⟩ := add_bad (s := s) hV
    rw [e1, e2]
    have HW := Lib.hid hV; clear hV e1 e2
    go_enter Try.func17, Try.ntmps17
    go_wp2_with fail
    refine (spec_l12Ok_is _ _ xs (by exact H.out.up HB.out) hl Hok.out HW.out).mono ?_; rintro e w1 ⟨rfl, b1⟩
    go_wp2_with fail
    go_ret2
    exact ⟨_, rfl, own_nil _ _ _ _, HB.out.trans (b1.mono (by simp))⟩
  obtain ⟨h16, hall⟩ := validSpotS_true hV
  have hW := weights_of hall
  cases hS : spotB s
  · obtain ⟨e1, e2⟩ := add_range hV hS
    rw [e1, e2]
    have HW := Lib.hid hV; clear hV e1 e2 hall hW
    have HS := Lib.hid hS; clear hS
    go_enter Try.func17, Try.ntmps17
    go_wp2_with fail
    refine (spec_l12Ok_is _ _ xs (by exact H.out.up HB.out) hl Hok.out HW.out).mono ?_; rintro e w1 ⟨rfl, b1⟩
    have HV1 := Lib.hid (HV.out.below b1 (by simp))
    have HB1 := Lib.hid (HB.out.trans (b1.mono (by simp))); clear b1
    have n0 := HV1.out.cell 0
    have n1 := HV1.out.cell 1
    have nl := HV1.out.lt
    go_wp2_with fail
    refine (spec_l12One_is s _ _ _ HS.out n0 n1).mono ?_; rintro e w2 ⟨rfl, b2⟩
    clear n0 n1 nl
    go_wp2_with fail
    go_ret2
    exact ⟨_, rfl, own_nil _ _ _ _, bnext HB1.out b2⟩
  · obtain ⟨e1, e2⟩ := add_good hV hS
    rw [e1, e2]
    have HW := Lib.hid hV; clear hV e1 e2 hall
    have hsw := (spotB_nums hS).2
    have HS := Lib.hid hS; clear hS
    have HWW := Lib.hid hW; clear hW
    go_enter Try.func17, Try.ntmps17
    go_wp2_with fail
    refine (spec_l12Ok_is _ _ xs (by exact H.out.up HB.out) hl Hok.out HW.out).mono ?_; rintro e w1 ⟨rfl, b1⟩
    have HV1 := Lib.hid (HV.out.below b1 (by simp))
    have HB1 := Lib.hid (HB.out.trans (b1.mono (by simp))); clear b1
    have n0 := HV1.out.cell 0
    have n1 := HV1.out.cell 1
    have nl := HV1.out.lt
    go_wp2_with fail
    refine (spec_l12One_is s _ _ _ HS.out n0 n1).mono ?_; rintro e w2 ⟨rfl, b2⟩
    clear n0 n1 nl
    have HV2 := Lib.hid (HV1.out.below b2 HV1.out.lt)
    have HB2 := Lib.hid (bnext HB1.out b2); clear b2
    have n0 := HV2.out.cell 0
    have n1 := HV2.out.cell 1
    have nl := HV2.out.lt
    go_wp2_with fail
    refine (spec_l12Add _ _ xs s (by exact H.out.up HB2.out) h16 HWW.out hsw).mono ?_; rintro e w3 ⟨r, rfl, o3, b3⟩
    clear n0 n1 nl
    have O3 := Lib.hid (own_base o3 (Nat.le_trans HB2.out.size (Nat.le_succ _)))
    have HB3 := Lib.hid (bnext HB2.out b3); clear b3 o3
    go_wp2_with fail
    go_ret2
    exact ⟨_, rfl, O3.out, HB3.out⟩

theorem impl_AddSpot (w : World) (v : Value) (xs : List Spot) (s : Spot) (h : Rd w.heap.size w v 2 xs.length (xs.flatMap Spot.put)) (hl : xs.length ≤ 1048576) (hok : ∀ x ∈ xs, x.ok) (hso : s.ok) :
    Calls Try.prog 19 #[v, .agg #[.int .i64 s.angle, .int .i64 s.weight]] w fun e w' => ∃ r : Value, e = .returned (.tuple #[r, .int .i64 (addC xs s)]) ∧ w'.ownsRow w.heap.size 34 2 r (addR xs s).length ((addR xs s).flatMap Spot.put) ∧ Below w.heap.size w w' := by
  have H := Lib.hid h
  have Hok := Lib.hid hok
  have Hso := Lib.hid hso
  have HV := Lib.hid (Own.new w 34 [.int .i64 s.angle, .int .i64 s.weight])
  have HB := Lib.hid (show Below w.heap.size w (w.alloc (.cells #[.int .i64 s.angle, .int .i64 s.weight] 34)) from by (repeat' (first | (with_reducible exact Below.refl _ _) | (with_reducible assumption) | (with_reducible refine below_dn ?_ _) | (with_reducible refine Below.drew ?_) | (with_reducible refine Below.alloc ?_ ?_ _) | (with_reducible refine Below.setCell ?_ ?_ _) | go_size)))
  clear h hok hso
  cases hV : validSpotS xs
  · obtain ⟨e1, e2⟩ := add_bad (s := s) hV
    rw [e1, e2]
    have HW := Lib.hid hV; clear hV e1 e2
    go_enter Try.func19, Try.ntmps19
    go_wp2_with fail
    refine (impl_ValidSpots_is _ _ xs (by exact H.out.up HB.out) hl Hok.out HW.out).mono ?_; rintro e w1 ⟨rfl, b1⟩
    go_wp2_with fail
    go_ret2
    exact ⟨_, rfl, own_nil _ _ _ _, HB.out.trans (b1.mono (by simp))⟩
  obtain ⟨h16, hall⟩ := validSpotS_true hV
  have hW := weights_of hall
  have hSo := validSpotS_sorted hV
  cases hS : spotB s
  · obtain ⟨e1, e2⟩ := add_range hV hS
    rw [e1, e2]
    have HW := Lib.hid hV; clear hV e1 e2 hall hW hSo
    have HS := Lib.hid hS; clear hS
    go_enter Try.func19, Try.ntmps19
    go_wp2_with fail
    refine (impl_ValidSpots_is _ _ xs (by exact H.out.up HB.out) hl Hok.out HW.out).mono ?_; rintro e w1 ⟨rfl, b1⟩
    have HV1 := Lib.hid (HV.out.below b1 (by simp))
    have HB1 := Lib.hid (HB.out.trans (b1.mono (by simp))); clear b1
    have n0 := HV1.out.cell 0
    have n1 := HV1.out.cell 1
    have nl := HV1.out.lt
    go_wp2_with fail
    refine (impl_isSpot_is s _ HS.out Hso.out).mono ?_; rintro e w2 ⟨rfl, b2⟩
    clear n0 n1 nl
    go_wp2_with fail
    go_ret2
    exact ⟨_, rfl, own_nil _ _ _ _, bnext HB1.out b2⟩
  · obtain ⟨e1, e2⟩ := add_good hV hS
    rw [e1, e2]
    have HW := Lib.hid hV; clear hV e1 e2 hall
    have hsw := (spotB_nums hS).2
    have HS := Lib.hid hS; clear hS
    have HWW := Lib.hid hW; clear hW
    have HSo := Lib.hid hSo; clear hSo
    go_enter Try.func19, Try.ntmps19
    go_wp2_with fail
    refine (impl_ValidSpots_is _ _ xs (by exact H.out.up HB.out) hl Hok.out HW.out).mono ?_; rintro e w1 ⟨rfl, b1⟩
    have HV1 := Lib.hid (HV.out.below b1 (by simp))
    have HB1 := Lib.hid (HB.out.trans (b1.mono (by simp))); clear b1
    have n0 := HV1.out.cell 0
    have n1 := HV1.out.cell 1
    have nl := HV1.out.lt
    go_wp2_with fail
    refine (impl_isSpot_is s _ HS.out Hso.out).mono ?_; rintro e w2 ⟨rfl, b2⟩
    clear n0 n1 nl
    have HV2 := Lib.hid (HV1.out.below b2 HV1.out.lt)
    have HB2 := Lib.hid (bnext HB1.out b2); clear b2
    have n0 := HV2.out.cell 0
    have n1 := HV2.out.cell 1
    have nl := HV2.out.lt
    go_wp2_with fail
    refine (impl_addSpot _ _ xs s (by exact H.out.up HB2.out) h16 HSo.out HWW.out hsw).mono ?_; rintro e w3 ⟨r, rfl, o3, b3⟩
    clear n0 n1 nl
    have O3 := Lib.hid (own_base o3 HB2.out.size)
    have HB3 := Lib.hid (bnext HB2.out b3); clear b3 o3
    go_wp2_with fail
    go_ret2
    exact ⟨_, rfl, O3.out, HB3.out⟩
end Go.Proofs.Ytkolgfmjajlpgaa
