/- SplitOf, SplitAngle: both sides compute the same. -/
import Derived.Test.YtegfgcgjoojdmaaDoorRows
import Derived.Test.YtegfgcgjoojdmaaDoorSplit
namespace Go.Proofs.YtegfgcgjoojdmaaDoor
open Go.ChangeShapes Go.WideShapes Go.ChangeAt Go.RowKit Go.Deep Go.Joins
set_option linter.unusedVariables false
set_option maxRecDepth 100000
set_option linter.unusedSimpArgs false
theorem impl_waved (w : World) (v : Value) (xs : List Spot) (n : Int) (h : Rd w.heap.size w v 2 xs.length (xs.flatMap Spot.put)) (hl : xs.length ≤ 1048576) (hok : ∀ x ∈ xs, x.ok) :
    Calls Tryd.prog 18 #[v, .int .i64 n] w fun e w' => e = .returned (.int .i64 (codeW xs n)) ∧ Below w.heap.size w w' := by
  have H := Lib.hid h; clear h
  have Hok := Lib.hid hok; clear hok
  cases hV : validSpotS xs
  · have e : Hid (codeW xs n = 1) := (by unfold codeW; rw [hV]; rfl : codeW xs n = 1)
    have HV := Lib.hid hV; clear hV
    go_enter Tryd.func18, Tryd.ntmps18
    go_wp2_with fail
    refine (impl_ValidSpots_is _ _ xs H.out hl Hok.out HV.out).mono ?_; rintro e1 w1 ⟨rfl, b1⟩
    go_wp2_with fail
    go_ret
    exact ⟨by rw [e.out]; rfl, b1⟩
  cases hB : inB n 2 6
  · have e : Hid (codeW xs n = 2) := (by unfold codeW; rw [hV, hB]; rfl : codeW xs n = 2)
    have HV := Lib.hid hV; clear hV
    have HI := Lib.hid hB; clear hB
    go_enter Tryd.func18, Tryd.ntmps18
    go_wp2_with fail
    refine (impl_ValidSpots_is _ _ xs H.out hl Hok.out HV.out).mono ?_; rintro e1 w1 ⟨rfl, b1⟩
    go_wp2_with (first | (go_at_call 30; refine (within_is _ _ _ _ HI.out).mono ?_; rintro e w' ⟨rfl, rfl⟩))
    go_ret
    exact ⟨by rw [e.out]; rfl, b1⟩
  · have e : Hid (codeW xs n = 0) := (by unfold codeW; rw [hV, hB]; rfl : codeW xs n = 0)
    have HV := Lib.hid hV; clear hV
    have HI := Lib.hid hB; clear hB
    go_enter Tryd.func18, Tryd.ntmps18
    go_wp2_with fail
    refine (impl_ValidSpots_is _ _ xs H.out hl Hok.out HV.out).mono ?_; rintro e1 w1 ⟨rfl, b1⟩
    go_wp2_with (first | (go_at_call 30; refine (within_is _ _ _ _ HI.out).mono ?_; rintro e w' ⟨rfl, rfl⟩))
    go_ret
    exact ⟨by rw [e.out]; rfl, b1⟩

theorem impl_SplitOf (w : World) (v : Value) (xs : List Spot) (n : Int) (hs : Sines w) (hg : 0 < w.heap.size) (h : Rd w.heap.size w v 2 xs.length (xs.flatMap Spot.put)) (hl : xs.length ≤ 1048576) (hok : ∀ x ∈ xs, x.ok) :
    Calls Tryd.prog 11 #[v, .int .i64 n] w fun e w' => e = .returned (.tuple #[.int .i64 (splitOfS xs n).1, .int .i64 (splitOfS xs n).2]) ∧ Below w.heap.size w w' := by
  have HW := Lib.hid (impl_waved w v xs n h hl hok)
  have H := Lib.hid h; clear h hok
  have HS := Lib.hid hs; clear hs
  have HG := Lib.hid hg; clear hg
  by_cases h0 : codeW xs n = 0
  · obtain ⟨hV, hB⟩ := codeW_zero h0
    obtain ⟨h16, hall⟩ := validSpotS_true hV
    have e : Hid (splitOfS xs n = (splitN n xs, 0)) := (if_pos h0 : splitOfS xs n = (splitN n xs, 0))
    have HI := Lib.hid (inB_true hB)
    have HA := Lib.hid hall
    have H0 := Lib.hid h0
    clear hV hB hall h0
    go_enter Tryd.func11, Tryd.ntmps11
    go_wp2_with fail
    refine HW.out.mono ?_; rw [H0.out]; rintro e1 w1 ⟨rfl, b1⟩
    have HB1 := Lib.hid b1; clear b1
    go_wp2_with fail
    refine (impl_splitOf _ _ xs n (HS.out.below HB1.out HG.out) (Nat.lt_of_lt_of_le HG.out HB1.out.size) (by exact H.out.up HB1.out) h16 HA.out HI.out).mono ?_; rintro e2 w2 ⟨rfl, b2⟩
    have HB2 := Lib.hid (bnext HB1.out b2); clear b2
    go_wp2_with fail
    go_ret2
    exact ⟨by rw [e.out]; rfl, HB2.out⟩
  · have e : Hid (splitOfS xs n = (0, codeW xs n)) := (if_neg h0 : splitOfS xs n = (0, codeW xs n))
    have t0 : (codeW xs n != 0) = true := bne_iff_ne.2 h0
    have H0 := Lib.hid h0; clear h0
    go_enter Tryd.func11, Tryd.ntmps11
    go_wp2_with fail
    refine HW.out.mono ?_; rintro e1 w1 ⟨rfl, b1⟩
    go_wp2_with fail
    go_ret2
    exact ⟨by rw [e.out]; rfl, b1⟩

set_option maxHeartbeats 1000000 in
theorem spec_SplitOf (w : World) (v : Value) (xs : List Spot) (n : Int) (h : Rd w.heap.size w v 2 xs.length (xs.flatMap Spot.put)) (hl : xs.length ≤ 1048576) (hok : ∀ x ∈ xs, x.ok) :
    Calls Tryd.prog 10 #[v, .int .i64 n] w fun e w' => e = .returned (.tuple #[.int .i64 (splitOfS xs n).1, .int .i64 (splitOfS xs n).2]) ∧ Below w.heap.size w w' := by
  have H := Lib.hid h; clear h
  have Hok := Lib.hid hok; clear hok
  cases hV : validSpotS xs
  · have e : Hid (splitOfS xs n = (0, 1)) := (by unfold splitOfS codeW; rw [hV]; rfl : splitOfS xs n = (0, 1))
    have HV := Lib.hid hV; clear hV
    go_enter Tryd.func10, Tryd.ntmps10
    go_wp2_with fail
    refine (spec_l12Ok_is _ _ xs H.out hl Hok.out HV.out).mono ?_; rintro e1 w1 ⟨rfl, b1⟩
    go_wp2_with fail
    go_ret2
    exact ⟨by rw [e.out]; rfl, b1⟩
  obtain ⟨h16, hall⟩ := validSpotS_true hV
  have HA := Lib.hid hall; clear hall
  cases hB : inB n 2 6
  · have e : Hid (splitOfS xs n = (0, 2)) := (by unfold splitOfS codeW; rw [hV, hB]; rfl : splitOfS xs n = (0, 2))
    have HV := Lib.hid hV; clear hV
    have HI := Lib.hid hB; clear hB
    go_enter Tryd.func10, Tryd.ntmps10
    go_wp2_with fail
    refine (spec_l12Ok_is _ _ xs H.out hl Hok.out HV.out).mono ?_; rintro e1 w1 ⟨rfl, b1⟩
    go_wp2_with (first | (go_at_call 13; refine (spec_l12Waves_is _ _ HI.out).mono ?_; rintro e w' ⟨rfl, rfl⟩))
    go_ret2
    exact ⟨by rw [e.out]; rfl, b1⟩
  · have e : Hid (splitOfS xs n = (splitN n xs, 0)) := (by unfold splitOfS codeW; rw [hV, hB]; rfl : splitOfS xs n = (splitN n xs, 0))
    have HV := Lib.hid hV; clear hV
    have HI := Lib.hid hB; clear hB
    go_enter Tryd.func10, Tryd.ntmps10
    go_wp2_with fail
    refine (spec_l12Ok_is _ _ xs H.out hl Hok.out HV.out).mono ?_; rintro e1 w1 ⟨rfl, b1⟩
    have HB1 := Lib.hid b1; clear b1
    go_wp2_with (first | (go_at_call 13; refine (spec_l12Waves_is _ _ HI.out).mono ?_; rintro e w' ⟨rfl, rfl⟩))
    refine (spec_l12Table _).mono ?_; rintro e2 w2 ⟨g, rfl, hg, ho, b2⟩
    have HO := Lib.hid ho; clear ho
    have HB2 := Lib.hid (bnext HB1.out b2); clear b2
    go_wp2_with fail
    refine (spec_l12Split _ _ _ xs n (HO.out.rd HO.out.lt rfl (by decide) _ (Nat.le_refl _) (by decide)) (by exact H.out.up HB2.out) h16 HA.out (inB_true HI.out)).mono ?_; rintro e3 w3 ⟨rfl, b3⟩
    have HB3 := Lib.hid (bnext HB2.out b3); clear b3
    go_wp2_with fail
    go_ret2
    exact ⟨by rw [e.out]; rfl, HB3.out⟩

/-- the loops over the angles -/
theorem bestN_succ (v : Int → Int) (k : Nat) : bestN v (k + 1) = if (bestN v k).2 < v (k + 1 : Nat) then (((k + 1 : Nat) : Int), v (k + 1 : Nat)) else bestN v k := rfl

set_option maxHeartbeats 4000000 in
theorem spec_SplitAngle (w : World) (v : Value) (xs : List Spot) (n : Int) (h : Rd w.heap.size w v 2 xs.length (xs.flatMap Spot.put)) (hl : xs.length ≤ 1048576) (hok : ∀ x ∈ xs, x.ok) :
    Calls Tryd.prog 6 #[v, .int .i64 n] w fun e w' => e = .returned (.tuple #[.int .i64 (splitAngleS xs n).1, .int .i64 (splitAngleS xs n).2]) ∧ Below w.heap.size w w' := by
  have H := Lib.hid h; clear h
  have Hok := Lib.hid hok; clear hok
  cases hV : validSpotS xs
  · have e : Hid (splitAngleS xs n = (0, 1)) := (by unfold splitAngleS codeW; rw [hV]; rfl : splitAngleS xs n = (0, 1))
    have HV := Lib.hid hV; clear hV
    go_enter Tryd.func6, Tryd.ntmps6
    go_wp2_with fail
    refine (spec_l12Ok_is _ _ xs H.out hl Hok.out HV.out).mono ?_; rintro e1 w1 ⟨rfl, b1⟩
    go_wp2_with fail
    go_ret2
    exact ⟨by rw [e.out]; rfl, b1⟩
  obtain ⟨h16, hall⟩ := validSpotS_true hV
  cases hB : inB n 2 6
  · have e : Hid (splitAngleS xs n = (0, 2)) := (by unfold splitAngleS codeW; rw [hV, hB]; rfl : splitAngleS xs n = (0, 2))
    have HV := Lib.hid hV; clear hV
    have HI := Lib.hid hB; clear hB hall
    go_enter Tryd.func6, Tryd.ntmps6
    go_wp2_with fail
    refine (spec_l12Ok_is _ _ xs H.out hl Hok.out HV.out).mono ?_; rintro e1 w1 ⟨rfl, b1⟩
    go_wp2_with (first | (go_at_call 13; refine (spec_l12Waves_is _ _ HI.out).mono ?_; rintro e w' ⟨rfl, rfl⟩))
    go_ret2
    exact ⟨by rw [e.out]; rfl, b1⟩
  have e : Hid (splitAngleS xs n = if divR (wsum cosS n xs) 1000 = 0 ∧ divR (wsum sineS n xs) 1000 = 0 then (0, 6) else ((bestN (waveV (divR (wsum cosS n xs) 1000) (divR (wsum sineS n xs) 1000)) 359).1, 0)) :=
    (by unfold splitAngleS codeW; rw [hV, hB]; rfl : splitAngleS xs n = if divR (wsum cosS n xs) 1000 = 0 ∧ divR (wsum sineS n xs) 1000 = 0 then (0, 6) else ((bestN (waveV (divR (wsum cosS n xs) 1000) (divR (wsum sineS n xs) 1000)) 359).1, 0))
  have hn := inB_true hB
  have h1 := wsum_take_bd cosS cosS_bd n hall h16 xs.length
  have h2 := wsum_take_bd sineS sineS_bd n hall h16 xs.length
  rw [List.take_of_length_le (Nat.le_refl _)] at h1 h2
  have q1 := divR_thou h1
  have q2 := divR_thou h2
  have HX := Lib.hid (fun w t (ht : Rd w.heap.size w t 1 91 (sinT.flatMap putI)) (hr : Rd w.heap.size w v 2 xs.length (xs.flatMap Spot.put)) => spec_l12Sums w t v xs n ht hr h16 hall hn)
  have HV := Lib.hid hV
  have HI := Lib.hid hB
  clear hV hB hall h1 h2 hn
  generalize divR (wsum cosS n xs) 1000 = c at *
  generalize divR (wsum sineS n xs) 1000 = s at *
  by_cases hz : c = 0 ∧ s = 0
  · obtain ⟨rfl, rfl⟩ := hz
    rw [if_pos ⟨rfl, rfl⟩] at e
    go_enter Tryd.func6, Tryd.ntmps6
    go_wp2_with fail
    refine (spec_l12Ok_is _ _ xs H.out hl Hok.out HV.out).mono ?_; rintro e1 w1 ⟨rfl, b1⟩
    have HB1 := Lib.hid b1; clear b1
    go_wp2_with (first | (go_at_call 13; refine (spec_l12Waves_is _ _ HI.out).mono ?_; rintro e w' ⟨rfl, rfl⟩))
    refine (spec_l12Table _).mono ?_; rintro e2 w2 ⟨g, rfl, hg, ho, b2⟩
    have HO := Lib.hid ho; clear ho
    have HB2 := Lib.hid (bnext HB1.out b2); clear b2
    go_wp2_with fail
    refine (HX.out _ _ (HO.out.rd HO.out.lt rfl (by decide) _ (Nat.le_refl _) (by decide)) (by exact H.out.up HB2.out)).mono ?_; rintro e3 w3 ⟨rfl, b3⟩
    have HB3 := Lib.hid (bnext HB2.out b3); clear b3
    go_wp2_with fail
    go_ret2
    exact ⟨by rw [e.out]; rfl, HB3.out⟩
  rw [if_neg hz] at e
  have hz2 : ((c == 0) && (s == 0)) = false := by
    cases h1 : (c == 0) <;> cases h2 : (s == 0) <;> simp at h1 h2 ⊢
    exact hz ⟨h1, h2⟩
  have hz3 : (c == 0) = false ∨ ((c == 0) = true ∧ (s == 0) = false) := by
    cases h1 : (c == 0)
    · exact .inl rfl
    · rw [h1] at hz2; exact .inr ⟨rfl, by simpa using hz2⟩
  clear hz hz2
  have hvb := bestN_bd (v := waveV c s) (waveV_bd q1 q2)
  have HVB := Lib.hid hvb; clear hvb
  have HSU := Lib.hid (bestN_succ (waveV c s))
  have i1 := abs_mul q1 (sineS_bd 90)
  have i2 := abs_mul q2 (sineS_bd 0)
  have E0 : Hid ((bestN (waveV c s) 0).2 = c * sineS 90 + s * sineS 0) := (rfl : (bestN (waveV c s) 0).2 = c * sineS 90 + s * sineS 0)
  rcases hz3 with hz3 | ⟨hz3, hz4⟩
  all_goals
    go_enter Tryd.func6, Tryd.ntmps6
    go_wp2_with fail
    refine (spec_l12Ok_is _ _ xs H.out hl Hok.out HV.out).mono ?_; rintro e1 w1 ⟨rfl, b1⟩
    have HB1 := Lib.hid b1; clear b1
    go_wp2_with (first | (go_at_call 13; refine (spec_l12Waves_is _ _ HI.out).mono ?_; rintro e w' ⟨rfl, rfl⟩))
    refine (spec_l12Table _).mono ?_; rintro e2 w2 ⟨g, rfl, hg, ho, b2⟩
    have HO := Lib.hid ho; clear ho
    have HB2 := Lib.hid (bnext HB1.out b2); clear b2
    have HRT := Lib.hid (HO.out.rd (B := w2.heap.size) (s := 1) (n := 91) HO.out.lt rfl (by decide) 91 (Nat.le_refl _) (by decide))
    go_wp2_with fail
    refine (HX.out _ _ HRT.out (by exact H.out.up HB2.out)).mono ?_; rintro e3 w3 ⟨rfl, b3⟩
    have HB3 := Lib.hid (bnext HB2.out b3)
    have HRU := Lib.hid (HRT.out.up b3); clear b3 HB2 HRT
    go_wp2_with fail
    refine (spec_l12Sine_is (r := sineS 90) w3.heap.size 90 _ _ ⟨by omega, by omega⟩ HRU.out rfl).mono ?_; rintro e4 w4 ⟨rfl, rfl⟩
    go_wp2_with fail
    refine (spec_l12Sine_is (r := sineS 0) w3.heap.size 0 _ _ ⟨by omega, by omega⟩ HRU.out rfl).mono ?_; rintro e4 w4 ⟨rfl, rfl⟩
    go_wp2_with fail
    go_loop [9, 10, 11, 12] (fun b m d _ => ∃ k : Nat, k ≤ 359 ∧ d = .int .i64 ((k + 1 : Nat) : Int) ∧ b = .int .i64 (bestN (waveV c s) k).1 ∧ m = .int .i64 (bestN (waveV c s) k).2) (fun _ _ d _ => 360 - (intOf d).toNat)
    case atStart => exact ⟨0, by omega, rfl, rfl, by rw [E0.out]⟩
    case round =>
      obtain ⟨k, hk, rfl, rfl, rfl⟩ := hrel
      obtain ⟨⟨f1, f2⟩, f3, f4⟩ := HVB.out k
      have HK := Lib.hid (HSU.out k)
      by_cases hlt : k < 359
      · obtain ⟨u1, hu1, t1, t2⟩ : ∃ u, cosS ((k + 1 : Nat) : Int) = u ∧ -16000000000000 ≤ c * u ∧ c * u ≤ 16000000000000 := ⟨_, rfl, by have := abs_mul q1 (cosS_bd ((k + 1 : Nat) : Int)); omega⟩
        obtain ⟨u2, hu2, t3, t4⟩ : ∃ u, sineS ((k + 1 : Nat) : Int) = u ∧ -16000000000000 ≤ s * u ∧ s * u ≤ 16000000000000 := ⟨_, rfl, by have := abs_mul q2 (sineS_bd ((k + 1 : Nat) : Int)); omega⟩
        have EV : Hid (waveV c s ((k + 1 : Nat) : Int) = c * u1 + s * u2) := (by unfold waveV; rw [hu1, hu2] : waveV c s ((k + 1 : Nat) : Int) = c * u1 + s * u2)
        have U1 := Lib.hid (show sineS (((k + 1 : Nat) : Int) + 90) = u1 from hu1)
        have U2 := Lib.hid hu2
        clear hu1 hu2
        by_cases hgt : (bestN (waveV c s) k).2 < c * u1 + s * u2
        · have ER : Hid (bestN (waveV c s) (k + 1) = (((k + 1 : Nat) : Int), c * u1 + s * u2)) := (by rw [HK.out, EV.out, if_pos hgt] : bestN (waveV c s) (k + 1) = (((k + 1 : Nat) : Int), c * u1 + s * u2))
          clear HK
          generalize bestN (waveV c s) k = bb at *
          go_wp2_with fail
          refine (spec_l12Sine_is w3.heap.size _ _ _ ⟨by omega, by omega⟩ HRU.out U1.out).mono ?_; rintro e4 w4 ⟨rfl, rfl⟩
          go_wp2_with fail
          refine (spec_l12Sine_is w3.heap.size _ _ _ ⟨by omega, by omega⟩ HRU.out U2.out).mono ?_; rintro e4 w4 ⟨rfl, rfl⟩
          go_wp2_with fail
          go_round
          case rel => exact ⟨k + 1, by omega, by go_num, by rw [ER.out]; try rfl, by rw [ER.out]⟩
          case measure => simp [intOf]; omega
        · have ER : Hid (bestN (waveV c s) (k + 1) = bestN (waveV c s) k) := (by rw [HK.out, EV.out, if_neg hgt] : bestN (waveV c s) (k + 1) = bestN (waveV c s) k)
          clear HK
          generalize bestN (waveV c s) k = bb at *
          go_wp2_with fail
          refine (spec_l12Sine_is w3.heap.size _ _ _ ⟨by omega, by omega⟩ HRU.out U1.out).mono ?_; rintro e4 w4 ⟨rfl, rfl⟩
          go_wp2_with fail
          refine (spec_l12Sine_is w3.heap.size _ _ _ ⟨by omega, by omega⟩ HRU.out U2.out).mono ?_; rintro e4 w4 ⟨rfl, rfl⟩
          go_wp2_with fail
          go_round
          case rel => exact ⟨k + 1, by omega, by go_num, by rw [ER.out]; try rfl, by rw [ER.out]⟩
          case measure => simp [intOf]; omega
      · obtain rfl : k = 359 := by omega
        go_wp2_with fail
        go_ret2
        exact ⟨by rw [e.out]; rfl, HB3.out⟩

set_option maxHeartbeats 4000000 in
theorem impl_SplitAngle (w : World) (v : Value) (xs : List Spot) (n : Int) (hs : Sines w) (hg : 0 < w.heap.size) (h : Rd w.heap.size w v 2 xs.length (xs.flatMap Spot.put)) (hl : xs.length ≤ 1048576) (hok : ∀ x ∈ xs, x.ok) :
    Calls Tryd.prog 8 #[v, .int .i64 n] w fun e w' => e = .returned (.tuple #[.int .i64 (splitAngleS xs n).1, .int .i64 (splitAngleS xs n).2]) ∧ Below w.heap.size w w' := by
  have HW := Lib.hid (impl_waved w v xs n h hl hok)
  have H := Lib.hid h; clear h hok
  have HS := Lib.hid hs; clear hs
  have HG := Lib.hid hg; clear hg
  by_cases h0 : codeW xs n = 0
  case neg =>
    have e : Hid (splitAngleS xs n = (0, codeW xs n)) := (if_neg h0 : splitAngleS xs n = (0, codeW xs n))
    have t0 : (codeW xs n != 0) = true := bne_iff_ne.2 h0
    have H0 := Lib.hid h0; clear h0
    go_enter Tryd.func8, Tryd.ntmps8
    go_wp2_with fail
    refine HW.out.mono ?_; rintro e1 w1 ⟨rfl, b1⟩
    go_wp2_with fail
    go_ret2
    exact ⟨by rw [e.out]; rfl, b1⟩
  obtain ⟨hV, hB⟩ := codeW_zero h0
  obtain ⟨h16, hall⟩ := validSpotS_true hV
  have e : Hid (splitAngleS xs n = if divR (wsum cosS n xs) 1000 = 0 ∧ divR (wsum sineS n xs) 1000 = 0 then (0, 6) else ((bestN (waveV (divR (wsum cosS n xs) 1000) (divR (wsum sineS n xs) 1000)) 359).1, 0)) :=
    (if_pos h0 : splitAngleS xs n = if divR (wsum cosS n xs) 1000 = 0 ∧ divR (wsum sineS n xs) 1000 = 0 then (0, 6) else ((bestN (waveV (divR (wsum cosS n xs) 1000) (divR (wsum sineS n xs) 1000)) 359).1, 0))
  have hn := inB_true hB
  have h1 := wsum_take_bd cosS cosS_bd n hall h16 xs.length
  have h2 := wsum_take_bd sineS sineS_bd n hall h16 xs.length
  rw [List.take_of_length_le (Nat.le_refl _)] at h1 h2
  have q1 := divR_thou h1
  have q2 := divR_thou h2
  have HX := Lib.hid (fun w' (hb : Below w.heap.size w w') => impl_waveSums w' v xs n (HS.out.below hb HG.out) (Nat.lt_of_lt_of_le HG.out hb.size) (H.out.up hb) h16 hall hn)
  have H0 := Lib.hid h0
  clear hV hB hall h1 h2 hn h0
  generalize divR (wsum cosS n xs) 1000 = c at *
  generalize divR (wsum sineS n xs) 1000 = s at *
  by_cases hz : c = 0 ∧ s = 0
  · obtain ⟨rfl, rfl⟩ := hz
    rw [if_pos ⟨rfl, rfl⟩] at e
    go_enter Tryd.func8, Tryd.ntmps8
    go_wp2_with fail
    refine HW.out.mono ?_; rw [H0.out]; rintro e1 w1 ⟨rfl, b1⟩
    have HB1 := Lib.hid b1; clear b1
    go_wp2_with fail
    refine (HX.out _ HB1.out).mono ?_; rintro e2 w2 ⟨rfl, b2⟩
    have HB2 := Lib.hid (bnext HB1.out b2); clear b2
    go_wp2_with fail
    go_ret2
    exact ⟨by rw [e.out]; rfl, HB2.out⟩
  rw [if_neg hz] at e
  have hz3 : (c == 0) = false ∨ ((c == 0) = true ∧ (s == 0) = false) := by
    cases h1 : (c == 0)
    · exact .inl rfl
    · refine .inr ⟨rfl, ?_⟩
      cases h2 : (s == 0)
      · rfl
      · exact absurd ⟨by simpa using h1, by simpa using h2⟩ hz
  clear hz
  have hvb := bestN_bd (v := waveV c s) (waveV_bd q1 q2)
  have HVB := Lib.hid hvb; clear hvb
  have HSU := Lib.hid (bestN_succ (waveV c s))
  have E0 : Hid (bestN (waveV c s) 0 = (0, waveV c s 0)) := (rfl : bestN (waveV c s) 0 = (0, waveV c s 0))
  rcases hz3 with hz3 | ⟨hz3, hz4⟩
  all_goals
    go_enter Tryd.func8, Tryd.ntmps8
    go_wp2_with fail
    refine HW.out.mono ?_; rw [H0.out]; rintro e1 w1 ⟨rfl, b1⟩
    have HB1 := Lib.hid b1; clear b1
    go_wp2_with fail
    refine (HX.out _ HB1.out).mono ?_; rintro e2 w2 ⟨rfl, b2⟩
    have HB2 := Lib.hid (bnext HB1.out b2); clear b2
    have HSI := Lib.hid (HS.out.below HB2.out HG.out)
    go_wp2_with fail
    go_loop [9, 10, 31] (fun b m d => ∃ k : Nat, k ≤ 360 ∧ d = .int .i64 (k : Int) ∧ ((k = 0 ∧ b = .int .i64 0 ∧ m = .int .i64 0) ∨ (0 < k ∧ b = .int .i64 (bestN (waveV c s) (k - 1)).1 ∧ m = .int .i64 (bestN (waveV c s) (k - 1)).2))) (fun _ _ d => 360 - (intOf d).toNat)
    case atStart => exact ⟨0, by omega, rfl, .inl ⟨rfl, rfl, rfl⟩⟩
    case round =>
      obtain ⟨k, hk, rfl, hbm⟩ := hrel
      by_cases hlt : k < 360
      · obtain ⟨u1, hu1, t1, t2⟩ : ∃ u, cosS (k : Int) = u ∧ -16000000000000 ≤ c * u ∧ c * u ≤ 16000000000000 := ⟨_, rfl, by have := abs_mul q1 (cosS_bd (k : Int)); omega⟩
        obtain ⟨u2, hu2, t3, t4⟩ : ∃ u, sineS (k : Int) = u ∧ -16000000000000 ≤ s * u ∧ s * u ≤ 16000000000000 := ⟨_, rfl, by have := abs_mul q2 (sineS_bd (k : Int)); omega⟩
        have EV : Hid (waveV c s (k : Int) = c * u1 + s * u2) := (by unfold waveV; rw [hu1, hu2] : waveV c s (k : Int) = c * u1 + s * u2)
        have U1 := Lib.hid hu1
        have U2 := Lib.hid hu2
        clear hu1 hu2
        rcases hbm with ⟨rfl, rfl, rfl⟩ | ⟨hpos, rfl, rfl⟩
        · go_wp2_with fail
          refine (impl_WaveCosine_is _ _ ⟨by omega, by omega⟩ HSI.out U1.out).mono ?_; rintro e3 w3 ⟨rfl, rfl⟩
          go_wp2_with fail
          refine (impl_WaveSine_is _ _ ⟨by omega, by omega⟩ HSI.out U2.out).mono ?_; rintro e3 w3 ⟨rfl, rfl⟩
          go_wp2_with fail
          go_round
          case rel => exact ⟨1, by omega, by go_num, .inr ⟨by omega, rfl, by rw [E0.out]; exact congrArg (Value.int .i64) EV.out.symm⟩⟩
          case measure => simp [intOf]
        · obtain ⟨j, rfl⟩ : ∃ j, k = j + 1 := ⟨k - 1, by omega⟩
          simp only [Nat.add_sub_cancel]
          obtain ⟨⟨f1, f2⟩, f3, f4⟩ := HVB.out j
          have HK := Lib.hid (HSU.out j)
          have t0 : (((j + 1 : Nat) : Int) == 0) = false := beq_eq_false_iff_ne.2 (by omega)
          by_cases hgt : (bestN (waveV c s) j).2 < c * u1 + s * u2
          · have ER : Hid (bestN (waveV c s) (j + 1) = (((j + 1 : Nat) : Int), c * u1 + s * u2)) := (by rw [HK.out, EV.out, if_pos hgt] : bestN (waveV c s) (j + 1) = (((j + 1 : Nat) : Int), c * u1 + s * u2))
            clear HK
            have hd : decide ((bestN (waveV c s) j).2 < c * u1 + s * u2) = true := decide_eq_true hgt
            generalize bestN (waveV c s) j = bb at *
            go_wp2_with fail
            refine (impl_WaveCosine_is _ _ ⟨by omega, by omega⟩ HSI.out U1.out).mono ?_; rintro e3 w3 ⟨rfl, rfl⟩
            go_wp2_with fail
            refine (impl_WaveSine_is _ _ ⟨by omega, by omega⟩ HSI.out U2.out).mono ?_; rintro e3 w3 ⟨rfl, rfl⟩
            go_wp2_with fail
            go_round
            case rel => exact ⟨j + 1 + 1, by omega, by go_num, .inr ⟨by omega, by simp only [Nat.add_sub_cancel]; rw [ER.out]; try rfl, by simp only [Nat.add_sub_cancel]; rw [ER.out]⟩⟩
            case measure => simp [intOf]; omega
          · have ER : Hid (bestN (waveV c s) (j + 1) = bestN (waveV c s) j) := (by rw [HK.out, EV.out, if_neg hgt] : bestN (waveV c s) (j + 1) = bestN (waveV c s) j)
            clear HK
            have hd : decide ((bestN (waveV c s) j).2 < c * u1 + s * u2) = false := decide_eq_false hgt
            have HGT := Lib.hid hgt; clear hgt
            generalize bestN (waveV c s) j = bb at *
            go_wp2_with fail
            refine (impl_WaveCosine_is _ _ ⟨by omega, by omega⟩ HSI.out U1.out).mono ?_; rintro e3 w3 ⟨rfl, rfl⟩
            go_wp2_with fail
            refine (impl_WaveSine_is _ _ ⟨by omega, by omega⟩ HSI.out U2.out).mono ?_; rintro e3 w3 ⟨rfl, rfl⟩
            go_wp2_with fail
            go_round
            case rel => exact ⟨j + 1 + 1, by omega, by go_num, .inr ⟨by omega, by simp only [Nat.add_sub_cancel]; rw [ER.out]; try rfl, by simp only [Nat.add_sub_cancel]; rw [ER.out]⟩⟩
            case measure => simp [intOf]; omega
      · obtain rfl : k = 360 := by omega
        rcases hbm with ⟨h, _, _⟩ | ⟨_, rfl, rfl⟩
        · omega
        go_wp2_with fail
        go_ret2
        exact ⟨by rw [e.out]; rfl, HB2.out⟩
end Go.Proofs.YtegfgcgjoojdmaaDoor
