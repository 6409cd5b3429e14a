/- Contracts and plain facts, joined: AddTop, SplitTop. -/
import Derived.Test.YtockglfoeagahaaGreatDoorRows
import Derived.Test.YtockglfoeagahaaGreatDoorZFnWarbleP
import Derived.Test.YtockglfoeagahaaGreatDoorZFnWarbleQ
import Derived.Test.YtockglfoeagahaaGreatDoorZFnWarbleR
namespace Go.Proofs.YtockglfoeagahaaGreatDoor
open Go.ChangeShapes Go.WideShapes Go.ChangeAt Go.RowKit Go.Deep Go.Joins
set_option linter.unusedVariables false
set_option maxRecDepth 100000
set_option linter.unusedSimpArgs false
def addC (xs : List Spot) (s : Spot) : Int := if validSpotS xs = true then (if spotB s = true then (addL s xs).2 else 2) else 1
def addR (xs : List Spot) (s : Spot) : List Spot := if validSpotS xs = true ∧ spotB s = true then (addL s xs).1 else []
theorem add_bad {xs : List Spot} {s : Spot} (h : validSpotS xs = false) : addC xs s = 1 ∧ addR xs s = [] := by
  unfold addC addR
  rw [h]
  exact ⟨rfl, if_neg (fun q => by cases q.1)⟩
theorem add_range {xs : List Spot} {s : Spot} (h : validSpotS xs = true) (h2 : spotB s = false) : addC xs s = 2 ∧ addR xs s = [] := by
  unfold addC addR
  rw [h, h2]
  exact ⟨rfl, if_neg (fun q => by cases q.2)⟩
theorem add_good {xs : List Spot} {s : Spot} (h : validSpotS xs = true) (h2 : spotB s = true) : addC xs s = (addL s xs).2 ∧ addR xs s = (addL s xs).1 := by
  unfold addC addR
  rw [h, h2]
  exact ⟨rfl, if_pos ⟨rfl, rfl⟩⟩
theorem endA_len (s : Spot) (r : Option (List Spot × Bool)) : (endA s r).1.length ≤ 16 := by
  cases r with
  | none => exact Nat.zero_le _
  | some p =>
    obtain ⟨o, d⟩ := p
    show (if 16 < (if d then o else o ++ [s]).length then (([], 5) : List Spot × Int) else (if d then o else o ++ [s], 0)).1.length ≤ 16
    by_cases h : 16 < (if d then o else o ++ [s]).length
    · rw [if_pos h]; exact Nat.zero_le _
    · rw [if_neg h]; exact Nat.le_of_not_lt h
theorem addL_len (s : Spot) (xs : List Spot) : (addL s xs).1.length ≤ 16 := endA_len s _
theorem addR_len (xs : List Spot) (s : Spot) : (addR xs s).length ≤ 16 := by
  unfold addR
  split
  · exact addL_len s xs
  · exact Nat.zero_le _
theorem weights_of {xs : List Spot} (h : ∀ x ∈ xs, spotB x = true) : ∀ x ∈ xs, -1000 ≤ x.weight ∧ x.weight ≤ 1000 := fun x hx => (spotB_nums (h x hx)).2

theorem impl_AddSpot (w : World) (v : Value) (xs : List Spot) (s : Spot) (h : Rd w.heap.size w v 2 xs.length (xs.flatMap Spot.put)) (hl : xs.length ≤ 1048576) (hok : ∀ x ∈ xs, x.ok) (hso : s.ok) :
    Calls Tryz.prog 12 #[v, .agg #[.int .i64 s.angle, .int .i64 s.weight]] w fun e w' => ∃ r : Value, e = .returned (.tuple #[r, .int .i64 (addC xs s)]) ∧ w'.ownsRow w.heap.size 38 2 r (addR xs s).length ((addR xs s).flatMap Spot.put) ∧ Below w.heap.size w w' := by
  have H := Lib.hid h
  have Hok := Lib.hid hok
  have Hso := Lib.hid hso
  have HV := Lib.hid (Own.new w 38 [.int .i64 s.angle, .int .i64 s.weight])
  have HB := Lib.hid (show Below w.heap.size w (w.alloc (.cells #[.int .i64 s.angle, .int .i64 s.weight] 38)) from by (repeat' (first | (with_reducible exact Below.refl _ _) | (with_reducible assumption) | (with_reducible refine below_dn ?_ _) | (with_reducible refine Below.drew ?_) | (with_reducible refine Below.alloc ?_ ?_ _) | (with_reducible refine Below.setCell ?_ ?_ _) | go_size)))
  clear h hok hso
  cases hV : validSpotS xs
  · obtain ⟨e1, e2⟩ := add_bad (s := s) hV
    rw [e1, e2]
    have HW := Lib.hid hV; clear hV e1 e2
    go_enter Tryz.func12, Tryz.ntmps12
    go_wp2_with fail
    refine (impl_ValidSpots_is _ _ xs (by exact H.out.up HB.out) hl Hok.out HW.out).mono ?_; rintro e w1 ⟨rfl, b1⟩
    go_wp2_with fail
    go_ret2
    exact ⟨_, rfl, own_nil _ _ _ _, HB.out.trans (b1.mono (by simp))⟩
  obtain ⟨h16, hall⟩ := validSpotS_true hV
  have hW := weights_of hall
  have hSo := validSpotS_sorted hV
  cases hS : spotB s
  · obtain ⟨e1, e2⟩ := add_range hV hS
    rw [e1, e2]
    have HW := Lib.hid hV; clear hV e1 e2 hall hW hSo
    have HS := Lib.hid hS; clear hS
    go_enter Tryz.func12, Tryz.ntmps12
    go_wp2_with fail
    refine (impl_ValidSpots_is _ _ xs (by exact H.out.up HB.out) hl Hok.out HW.out).mono ?_; rintro e w1 ⟨rfl, b1⟩
    have HV1 := Lib.hid (HV.out.below b1 (by simp))
    have HB1 := Lib.hid (HB.out.trans (b1.mono (by simp))); clear b1
    have n0 := HV1.out.cell 0
    have n1 := HV1.out.cell 1
    have nl := HV1.out.lt
    go_wp2_with fail
    refine (impl_isSpot_is s _ HS.out Hso.out).mono ?_; rintro e w2 ⟨rfl, b2⟩
    clear n0 n1 nl
    go_wp2_with fail
    go_ret2
    exact ⟨_, rfl, own_nil _ _ _ _, bnext HB1.out b2⟩
  · obtain ⟨e1, e2⟩ := add_good hV hS
    rw [e1, e2]
    have HW := Lib.hid hV; clear hV e1 e2 hall
    have hsw := (spotB_nums hS).2
    have HS := Lib.hid hS; clear hS
    have HWW := Lib.hid hW; clear hW
    have HSo := Lib.hid hSo; clear hSo
    go_enter Tryz.func12, Tryz.ntmps12
    go_wp2_with fail
    refine (impl_ValidSpots_is _ _ xs (by exact H.out.up HB.out) hl Hok.out HW.out).mono ?_; rintro e w1 ⟨rfl, b1⟩
    have HV1 := Lib.hid (HV.out.below b1 (by simp))
    have HB1 := Lib.hid (HB.out.trans (b1.mono (by simp))); clear b1
    have n0 := HV1.out.cell 0
    have n1 := HV1.out.cell 1
    have nl := HV1.out.lt
    go_wp2_with fail
    refine (impl_isSpot_is s _ HS.out Hso.out).mono ?_; rintro e w2 ⟨rfl, b2⟩
    clear n0 n1 nl
    have HV2 := Lib.hid (HV1.out.below b2 HV1.out.lt)
    have HB2 := Lib.hid (bnext HB1.out b2); clear b2
    have n0 := HV2.out.cell 0
    have n1 := HV2.out.cell 1
    have nl := HV2.out.lt
    go_wp2_with fail
    refine (impl_addSpot _ _ xs s (by exact H.out.up HB2.out) h16 HSo.out HWW.out hsw).mono ?_; rintro e w3 ⟨r, rfl, o3, b3⟩
    clear n0 n1 nl
    have O3 := Lib.hid (own_base o3 HB2.out.size)
    have HB3 := Lib.hid (bnext HB2.out b3); clear b3 o3
    go_wp2_with fail
    go_ret2
    exact ⟨_, rfl, O3.out, HB3.out⟩
end Go.Proofs.YtockglfoeagahaaGreatDoor
namespace Go.Proofs.YtockglfoeagahaaGreatDoor
open Go.ChangeShapes Go.WideShapes Go.ChangeAt Go.RowKit Go.Deep Go.Joins
set_option linter.unusedVariables false
set_option maxRecDepth 100000
set_option linter.unusedSimpArgs false
theorem impl_waved (w : World) (v : Value) (xs : List Spot) (n : Int) (h : Rd w.heap.size w v 2 xs.length (xs.flatMap Spot.put)) (hl : xs.length ≤ 1048576) (hok : ∀ x ∈ xs, x.ok) :
    Calls Tryz.prog 21 #[v, .int .i64 n] w fun e w' => e = .returned (.int .i64 (codeW xs n)) ∧ Below w.heap.size w w' := by
  have H := Lib.hid h; clear h
  have Hok := Lib.hid hok; clear hok
  cases hV : validSpotS xs
  · have e : Hid (codeW xs n = 1) := (by unfold codeW; rw [hV]; rfl : codeW xs n = 1)
    have HV := Lib.hid hV; clear hV
    go_enter Tryz.func21, Tryz.ntmps21
    go_wp2_with fail
    refine (impl_ValidSpots_is _ _ xs H.out hl Hok.out HV.out).mono ?_; rintro e1 w1 ⟨rfl, b1⟩
    go_wp2_with fail
    go_ret
    exact ⟨by rw [e.out]; rfl, b1⟩
  cases hB : inB n 2 6
  · have e : Hid (codeW xs n = 2) := (by unfold codeW; rw [hV, hB]; rfl : codeW xs n = 2)
    have HV := Lib.hid hV; clear hV
    have HI := Lib.hid hB; clear hB
    go_enter Tryz.func21, Tryz.ntmps21
    go_wp2_with fail
    refine (impl_ValidSpots_is _ _ xs H.out hl Hok.out HV.out).mono ?_; rintro e1 w1 ⟨rfl, b1⟩
    go_wp2_with (first | (go_at_call 37; refine (within_is _ _ _ _ HI.out).mono ?_; rintro e w' ⟨rfl, rfl⟩))
    go_ret
    exact ⟨by rw [e.out]; rfl, b1⟩
  · have e : Hid (codeW xs n = 0) := (by unfold codeW; rw [hV, hB]; rfl : codeW xs n = 0)
    have HV := Lib.hid hV; clear hV
    have HI := Lib.hid hB; clear hB
    go_enter Tryz.func21, Tryz.ntmps21
    go_wp2_with fail
    refine (impl_ValidSpots_is _ _ xs H.out hl Hok.out HV.out).mono ?_; rintro e1 w1 ⟨rfl, b1⟩
    go_wp2_with (first | (go_at_call 37; refine (within_is _ _ _ _ HI.out).mono ?_; rintro e w' ⟨rfl, rfl⟩))
    go_ret
    exact ⟨by rw [e.out]; rfl, b1⟩

theorem impl_SplitOf (w : World) (v : Value) (xs : List Spot) (n : Int) (hs : Sines w) (hg : 0 < w.heap.size) (h : Rd w.heap.size w v 2 xs.length (xs.flatMap Spot.put)) (hl : xs.length ≤ 1048576) (hok : ∀ x ∈ xs, x.ok) :
    Calls Tryz.prog 6 #[v, .int .i64 n] w fun e w' => e = .returned (.tuple #[.int .i64 (splitOfS xs n).1, .int .i64 (splitOfS xs n).2]) ∧ Below w.heap.size w w' := by
  have HW := Lib.hid (impl_waved w v xs n h hl hok)
  have H := Lib.hid h; clear h hok
  have HS := Lib.hid hs; clear hs
  have HG := Lib.hid hg; clear hg
  by_cases h0 : codeW xs n = 0
  · obtain ⟨hV, hB⟩ := codeW_zero h0
    obtain ⟨h16, hall⟩ := validSpotS_true hV
    have e : Hid (splitOfS xs n = (splitN n xs, 0)) := (if_pos h0 : splitOfS xs n = (splitN n xs, 0))
    have HI := Lib.hid (inB_true hB)
    have HA := Lib.hid hall
    have H0 := Lib.hid h0
    clear hV hB hall h0
    go_enter Tryz.func6, Tryz.ntmps6
    go_wp2_with fail
    refine HW.out.mono ?_; rw [H0.out]; rintro e1 w1 ⟨rfl, b1⟩
    have HB1 := Lib.hid b1; clear b1
    go_wp2_with fail
    refine (impl_splitOf _ _ xs n (HS.out.below HB1.out HG.out) (Nat.lt_of_lt_of_le HG.out HB1.out.size) (by exact H.out.up HB1.out) h16 HA.out HI.out).mono ?_; rintro e2 w2 ⟨rfl, b2⟩
    have HB2 := Lib.hid (bnext HB1.out b2); clear b2
    go_wp2_with fail
    go_ret2
    exact ⟨by rw [e.out]; rfl, HB2.out⟩
  · have e : Hid (splitOfS xs n = (0, codeW xs n)) := (if_neg h0 : splitOfS xs n = (0, codeW xs n))
    have t0 : (codeW xs n != 0) = true := bne_iff_ne.2 h0
    have H0 := Lib.hid h0; clear h0
    go_enter Tryz.func6, Tryz.ntmps6
    go_wp2_with fail
    refine HW.out.mono ?_; rintro e1 w1 ⟨rfl, b1⟩
    go_wp2_with fail
    go_ret2
    exact ⟨by rw [e.out]; rfl, b1⟩

/-- the loops over the angles -/
theorem bestN_succ (v : Int → Int) (k : Nat) : bestN v (k + 1) = if (bestN v k).2 < v (k + 1 : Nat) then (((k + 1 : Nat) : Int), v (k + 1 : Nat)) else bestN v k := rfl
end Go.Proofs.YtockglfoeagahaaGreatDoor
