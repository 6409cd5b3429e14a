/- Contracts and plain facts, joined: BestP. -/
import Derived.Test.YtockglfoeagahaaGreatDoorRows
import Derived.Test.YtockglfoeagahaaGreatDoorZFnWarbleK
import Derived.Test.YtockglfoeagahaaGreatDoorZFnWarbleS
namespace Go.Proofs.YtockglfoeagahaaGreatDoor
open Go.ChangeShapes Go.WideShapes Go.ChangeAt Go.RowKit Go.Deep Go.Joins
set_option linter.unusedVariables false
set_option maxRecDepth 100000
set_option linter.unusedSimpArgs false
theorem addL_spot {xs : List Spot} {n m : Int} (hv : validSpotS xs = true) (hm : weightB m = true) {d : Nat} (hd : d < 360) (h0 : (addL ⟨d, m⟩ xs).2 = 0) : validSpotS (addL ⟨d, m⟩ xs).1 = true :=
  addL_valid hv (spotB_mk (inB_mk ⟨by show (0 : Int) ≤ (d : Int); omega, by show (d : Int) ≤ 359; omega⟩) hm) h0
theorem weightB_bd {m : Int} (h : weightB m = true) : -1000 ≤ m ∧ m ≤ 1000 := by
  unfold weightB at h
  rw [Bool.and_eq_true] at h
  exact inB_true h.2

/-- the spots with the best of the first angles -/
noncomputable def aftL (xs : List Spot) (n m : Int) (d : Nat) : List Spot := if (bestA xs n m d).1 < 0 then [] else (addL ⟨(bestA xs n m d).1, m⟩ xs).1
theorem aftL_take {xs : List Spot} {n m v : Int} {d : Nat} (h : bestA xs n m (d + 1) = ((d : Int), v)) : aftL xs n m (d + 1) = (addL ⟨d, m⟩ xs).1 := by
  unfold aftL
  rw [h]
  exact if_neg (by show ¬ ((d : Int) < 0); omega)
theorem aftL_keep {xs : List Spot} {n m : Int} {d : Nat} (h : bestA xs n m (d + 1) = bestA xs n m d) : aftL xs n m (d + 1) = aftL xs n m d := by
  unfold aftL
  rw [h]
theorem aftL_len (xs : List Spot) (n m : Int) (d : Nat) : (aftL xs n m d).length ≤ 16 := by
  unfold aftL
  split
  · exact Nat.zero_le _
  · exact addL_len _ _

set_option maxHeartbeats 4000000 in
theorem impl_bestSpot (w : World) (v : Value) (xs : List Spot) (n m : Int) (hs : Sines w) (hg : 0 < w.heap.size) (h : Rd w.heap.size w v 2 xs.length (xs.flatMap Spot.put)) (hv : validSpotS xs = true) (hm : weightB m = true) (hn : 2 ≤ n ∧ n ≤ 6) :
    Calls Tryz.prog 31 #[v, .int .i64 n, .int .i64 m] w fun e w' => ∃ r : Value, e = .returned (.tuple #[.int .i64 (bestA xs n m 360).1, r, .int .i64 (bestA xs n m 360).2]) ∧ w'.ownsRow w.heap.size 38 2 r (aftL xs n m 360).length ((aftL xs n m 360).flatMap Spot.put) ∧ Below w.heap.size w w' := by
  have HS := Lib.hid hs; clear hs
  have HG := Lib.hid hg; clear hg
  have H := Lib.hid h; clear h
  have HV := Lib.hid hv; clear hv
  have HM := Lib.hid hm
  have hmb := weightB_bd hm
  clear hm
  have hn' := Lib.hid hn; clear hn
  go_enter Tryz.func31, Tryz.ntmps31
  go_wp2_with fail
  go_loopw [9, 10, 11, 12, 13, 14, 15, 16] (fun b l r _ _ _ _ i wr => ∃ (d : Nat), d ≤ 360 ∧ i = .int .i64 d ∧ b = .int .i64 (bestA xs n m d).1 ∧ l = .int .i64 (bestA xs n m d).2 ∧ wr.ownsRow w.heap.size 38 2 r (aftL xs n m d).length ((aftL xs n m d).flatMap Spot.put) ∧ Below w.heap.size w wr) (fun _ _ _ _ _ _ _ i _ => 360 - (intOf i).toNat)
  case atStart => exact ⟨0, by omega, rfl, rfl, rfl, by rw [show aftL xs n m 0 = [] from if_pos (by show (-1 : Int) < 0; decide)]; exact own_nil _ _ _ _, Below.refl _ _⟩
  case round =>
    obtain ⟨d, hd, rfl, rfl, rfl, ho, hb⟩ := hrel
    have HB := Lib.hid hb; clear hb
    have HA := Lib.hid ho; clear ho
    by_cases hlt : d < 360
    · go_wp2_with fail
      refine (impl_addSpot _ _ xs ⟨d, m⟩ (by exact H.out.up HB.out) (validSpotS_true HV.out).1 (validSpotS_sorted HV.out) (weights_of (validSpotS_true HV.out).2) hmb).mono ?_; rintro e w1 ⟨r1, rfl, o1, b1⟩
      have HB1 := Lib.hid (bnext HB.out b1)
      have HA1 := Lib.hid (own_below HA.out b1 (Nat.le_refl _))
      have HO := Lib.hid (own_base o1 HB.out.size)
      clear b1 o1 HB HA
      by_cases hc : (addL ⟨d, m⟩ xs).2 = 0
      · rw [hc]
        have hval := addL_spot (n := n) HV.out HM.out hlt hc
        obtain ⟨h16, hall⟩ := validSpotS_true hval
        have HC := Lib.hid hc
        have HL := Lib.hid hall
        clear hc hval hall
        go_wp2_with fail
        refine (impl_splitOf _ _ (addL ⟨d, m⟩ xs).1 n (HS.out.below HB1.out HG.out) (Nat.lt_of_lt_of_le HG.out HB1.out.size) (own_rd HO.out) h16 HL.out hn'.out).mono ?_; rintro e w2 ⟨rfl, b2⟩
        have HB2 := Lib.hid (bnext HB1.out b2)
        have HA2 := Lib.hid (own_below HA1.out b2 (Nat.le_refl _))
        have HO2 := Lib.hid (own_below HO.out b2 (Nat.le_refl _))
        clear b2 HB1 HO HA1
        by_cases h1 : (bestA xs n m d).1 < 0
        · have e := Lib.hid (bestA_take HC.out (.inl h1))
          have t1 : decide ((bestA xs n m d).1 < 0) = true := decide_eq_true h1
          clear h1
          go_wp2_with fail
          go_roundw
          case rel => exact ⟨d + 1, by omega, by go_num, by rw [e.out], by rw [e.out], by rw [aftL_take e.out]; exact HO2.out, HB2.out⟩
          case measure => simp [intOf]; omega
        · have t1 : decide ((bestA xs n m d).1 < 0) = false := decide_eq_false h1
          by_cases h2 : splitN n (addL ⟨d, m⟩ xs).1 < (bestA xs n m d).2
          · have e := Lib.hid (bestA_take HC.out (.inr h2))
            have t2 : decide (splitN n (addL ⟨d, m⟩ xs).1 < (bestA xs n m d).2) = true := decide_eq_true h2
            clear h1 h2
            go_wp2_with fail
            go_roundw
            case rel => exact ⟨d + 1, by omega, by go_num, by rw [e.out], by rw [e.out], by rw [aftL_take e.out]; exact HO2.out, HB2.out⟩
            case measure => simp [intOf]; omega
          · have e := Lib.hid (bestA_keep HC.out (fun q => q.elim h1 h2))
            have t2 : decide (splitN n (addL ⟨d, m⟩ xs).1 < (bestA xs n m d).2) = false := decide_eq_false h2
            clear h1 h2
            go_wp2_with fail
            go_roundw
            case rel => exact ⟨d + 1, by omega, by go_num, by rw [e.out], by rw [e.out], by rw [aftL_keep e.out]; exact HA2.out, HB2.out⟩
            case measure => simp [intOf]; omega
      · have e := Lib.hid (bestA_bad (n := n) hc)
        have t1 : ((addL ⟨d, m⟩ xs).2 != 0) = true := bne_iff_ne.2 hc
        clear hc
        go_wp2_with fail
        go_roundw
        case rel => exact ⟨d + 1, by omega, by go_num, by rw [e.out], by rw [e.out], by rw [aftL_keep e.out]; exact HA1.out, HB1.out⟩
        case measure => simp [intOf]; omega
    · obtain rfl : d = 360 := by omega
      go_wp2_with fail
      go_ret3
      exact ⟨_, rfl, HA.out, HB.out⟩

theorem best_code {xs : List Spot} {n m : Int} (h : codeW xs n ≠ 0) : bestC xs n m = codeW xs n ∧ bestS xs n m = (0, 0) := by
  have e : bestC xs n m = codeW xs n := if_pos h
  exact ⟨e, by unfold bestS; rw [e]; exact if_neg h⟩
theorem best_weight {xs : List Spot} {n m : Int} (h : codeW xs n = 0) (hm : weightB m = false) : bestC xs n m = 2 ∧ bestS xs n m = (0, 0) := by
  have e : bestC xs n m = 2 := (if_neg (fun q => q h)).trans (by rw [hm]; rfl)
  exact ⟨e, by unfold bestS; rw [e]; rfl⟩
theorem best_full {xs : List Spot} {n m : Int} (h : codeW xs n = 0) (hm : weightB m = true) (hb : (bestA xs n m 360).1 < 0) : bestC xs n m = 5 ∧ bestS xs n m = (0, 0) := by
  have e : bestC xs n m = 5 := (if_neg (fun q => q h)).trans ((if_pos hm).trans (if_pos hb))
  exact ⟨e, by unfold bestS; rw [e]; rfl⟩
theorem best_good {xs : List Spot} {n m : Int} (h : codeW xs n = 0) (hm : weightB m = true) (hb : ¬ (bestA xs n m 360).1 < 0) : bestC xs n m = 0 ∧ bestS xs n m = bestA xs n m 360 := by
  have e : bestC xs n m = 0 := (if_neg (fun q => q h)).trans ((if_pos hm).trans (if_neg hb))
  exact ⟨e, by unfold bestS; rw [e]; rfl⟩
theorem codeW_bad {xs : List Spot} {n : Int} (h : validSpotS xs = false) : codeW xs n = 1 := by unfold codeW; rw [h]; rfl
theorem codeW_wave {xs : List Spot} {n : Int} (h : validSpotS xs = true) (h2 : inB n 2 6 = false) : codeW xs n = 2 := by unfold codeW; rw [h, h2]; rfl
theorem codeW_ok {xs : List Spot} {n : Int} (h : validSpotS xs = true) (h2 : inB n 2 6 = true) : codeW xs n = 0 := by unfold codeW; rw [h, h2]; rfl
theorem spec_l12Weight_is {b : Bool} (n : Int) (w : World) (h : weightB n = b) : Calls Tryz.prog 89 #[.int .i64 n] w fun e w' => e = .returned (.bool b) ∧ w = w' := by
  rw [← h]; exact spec_l12Weight n w
theorem impl_isWeight_is {b : Bool} (n : Int) (w : World) (h : weightB n = b) : Calls Tryz.prog 30 #[.int .i64 n] w fun e w' => e = .returned (.bool b) ∧ w = w' := by
  rw [← h]; exact impl_isWeight n w

set_option maxHeartbeats 2000000 in
theorem impl_BestSpot (w : World) (v : Value) (xs : List Spot) (n m : Int) (hs : Sines w) (hg : 0 < w.heap.size) (h : Rd w.heap.size w v 2 xs.length (xs.flatMap Spot.put)) (hl : xs.length ≤ 1048576) (hok : ∀ x ∈ xs, x.ok) :
    Calls Tryz.prog 11 #[v, .int .i64 n, .int .i64 m] w fun e w' => e = .returned (.tuple #[.int .i64 (bestS xs n m).1, .int .i64 (bestS xs n m).2, .int .i64 (bestC xs n m)]) ∧ Below w.heap.size w w' := by
  have HW := Lib.hid (impl_waved w v xs n h hl hok)
  have HS := Lib.hid hs; clear hs
  have HG := Lib.hid hg; clear hg
  have H := Lib.hid h; clear h hok
  by_cases hc : codeW xs n = 0
  case neg =>
    obtain ⟨e1, e2⟩ := best_code (m := m) hc
    rw [e1, e2]
    have t0 : (codeW xs n != 0) = true := bne_iff_ne.2 hc
    clear e1 e2 hc
    go_enter Tryz.func11, Tryz.ntmps11
    go_wp2_with fail
    refine HW.out.mono ?_; rintro e1 w1 ⟨rfl, b1⟩
    go_wp2_with fail
    go_ret3
    exact ⟨rfl, b1⟩
  obtain ⟨hV, hI⟩ := codeW_zero hc
  cases hM : weightB m
  · obtain ⟨e1, e2⟩ := best_weight hc hM
    rw [e1, e2]
    have HM := Lib.hid hM
    have HC := Lib.hid hc
    clear e1 e2 hc hV hI hM
    go_enter Tryz.func11, Tryz.ntmps11
    go_wp2_with fail
    refine HW.out.mono ?_; rw [HC.out]; rintro e1 w1 ⟨rfl, b1⟩
    go_wp2_with (first | (go_at_call 30; refine (impl_isWeight_is _ _ HM.out).mono ?_; rintro e w' ⟨rfl, rfl⟩))
    go_ret3
    exact ⟨rfl, b1⟩
  by_cases hb : (bestA xs n m 360).1 < 0
  · obtain ⟨e1, e2⟩ := best_full hc hM hb
    rw [e1, e2]
    have t1 : decide ((bestA xs n m 360).1 < 0) = true := decide_eq_true hb
    have HV := Lib.hid hV; have HC := Lib.hid hc; clear hV e1 e2 hc hb
    have HI := Lib.hid hI; clear hI
    have HM := Lib.hid hM; clear hM
    go_enter Tryz.func11, Tryz.ntmps11
    go_wp2_with fail
    refine HW.out.mono ?_; rw [HC.out]; rintro e1 w1 ⟨rfl, b1⟩
    have HB1 := Lib.hid b1; clear b1
    go_wp2_with (first | (go_at_call 30; refine (impl_isWeight_is _ _ HM.out).mono ?_; rintro e w' ⟨rfl, rfl⟩))
    refine (impl_bestSpot _ _ xs n m (HS.out.below HB1.out HG.out) (Nat.lt_of_lt_of_le HG.out HB1.out.size) (by exact H.out.up HB1.out) HV.out HM.out (inB_true HI.out)).mono ?_; rintro e2 w2 ⟨r, rfl, _, b2⟩
    have HB2 := Lib.hid (bnext HB1.out b2); clear b2
    go_wp2_with fail
    go_ret3
    exact ⟨rfl, HB2.out⟩
  · obtain ⟨e1, e2⟩ := best_good hc hM hb
    rw [e1, e2]
    have t1 : decide ((bestA xs n m 360).1 < 0) = false := decide_eq_false hb
    have HV := Lib.hid hV; have HC := Lib.hid hc; clear hV e1 e2 hc hb
    have HI := Lib.hid hI; clear hI
    have HM := Lib.hid hM; clear hM
    go_enter Tryz.func11, Tryz.ntmps11
    go_wp2_with fail
    refine HW.out.mono ?_; rw [HC.out]; rintro e1 w1 ⟨rfl, b1⟩
    have HB1 := Lib.hid b1; clear b1
    go_wp2_with (first | (go_at_call 30; refine (impl_isWeight_is _ _ HM.out).mono ?_; rintro e w' ⟨rfl, rfl⟩))
    refine (impl_bestSpot _ _ xs n m (HS.out.below HB1.out HG.out) (Nat.lt_of_lt_of_le HG.out HB1.out.size) (by exact H.out.up HB1.out) HV.out HM.out (inB_true HI.out)).mono ?_; rintro e2 w2 ⟨r, rfl, _, b2⟩
    have HB2 := Lib.hid (bnext HB1.out b2); clear b2
    go_wp2_with fail
    go_ret3
    exact ⟨rfl, HB2.out⟩
end Go.Proofs.YtockglfoeagahaaGreatDoor
