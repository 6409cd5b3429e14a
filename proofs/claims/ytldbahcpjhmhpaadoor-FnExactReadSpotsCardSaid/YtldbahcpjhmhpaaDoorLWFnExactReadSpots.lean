/- FnExactReadSpots: the law. -/
import Derived.Test.YtldbahcpjhmhpaaDoorRows
import Derived.Test.YtldbahcpjhmhpaaDoorLaw
import Derived.Test.YtldbahcpjhmhpaaDoorReadSpI
import Derived.Test.YtldbahcpjhmhpaaDoorErrLaid
import Derived.Test.YtldbahcpjhmhpaaDoorMarkSpot
namespace Go.Proofs.YtldbahcpjhmhpaaDoor
open Go.ChangeShapes Go.WideShapes Go.ChangeAt Go.RowKit Go.Deep Go.Joins
set_option linter.unusedVariables false
set_option maxRecDepth 100000
set_option linter.unusedSimpArgs false
theorem readL_len (s : ByteArray) : (readL s).length ≤ 1048576 := by
  cases h : readR s with
  | none => rw [(readL_none h).1]; exact Nat.zero_le _
  | some xs =>
    rw [(readL_some h).1]
    by_cases hd : s = ⟨#[45]⟩
    · rw [hd, readR_dash] at h
      obtain rfl : [] = xs := by simpa using h
      exact Nat.zero_le _
    · rw [readR_word hd] at h
      cases hr : readW (partsS 32 s) with
      | none => rw [hr] at h; cases h
      | some ys =>
        rw [hr] at h
        have h2 : (if validSpotS ys = true then some ys else none) = some xs := h
        split at h2
        · rename_i hv
          obtain rfl : ys = xs := by simpa using h2
          have := (validSpotS_parts hv).1
          omega
        · cases h2
set_option maxHeartbeats 2000000 in
theorem FnExactReadSpots_walk (w : World) (a0 : ByteArray) (k0 : a0.size ≤ maxLen) (hL : laidMetH Tryd.prog Rows.fnExactReadSpotsRow.laid w) (hS : w.ShapedOpen Tryd.prog) :
    Calls Tryd.prog 3 #[.string a0] w fun e w' => e = .returned (.bool true) ∧ Below w.heap.size w w' := by
  have hL1 : laidMet Tryd.prog Rows.fnExactReadSpotsRow.laid w := hL
  have HP : Hid (Pow10 w) := Lib.hid (pow10_of (laid_tail (laid_tail hL1)))
  have HE : Hid (ErrS w) := Lib.hid (errS_of (laid_tail (laid_tail (laid_tail (laid_tail (laid_tail hL1))))))
  have HM : Hid (MaxL w) := Lib.hid (maxL_of hS)
  clear hL hL1 hS
  unfold maxLen at k0
  by_cases hn0 : a0.size ≤ 1048576
  case neg =>
    have t1 : decide ((1048576 : Int) < (a0.size : Int)) = true := decide_eq_true (by omega)
    go_enter Tryd.func3, Tryd.ntmps3
    go_wp2_with fail
    go_ret
    exact ⟨rfl, Below.refl _ _⟩
  have t1 : decide ((1048576 : Int) < (a0.size : Int)) = false := decide_eq_false (by omega)
  have hnR := readL_len a0
  have HS := Lib.hid (fun w' => spec_ReadSpots a0 w' hn0)
  have HI := Lib.hid (fun (w' : World) (h1 : MaxL w') (h2 : Pow10 w') (h3 : ErrS w') => impl_ReadSpots a0 w' hn0 h1 h2 h3)
  generalize (readR a0).isSome = bb at HS HI
  generalize readL a0 = R at HS HI hnR
  have tb : (bb != bb) = false := by simp
  go_enter Tryd.func3, Tryd.ntmps3
  go_wp2_with fail
  refine (HS.out _).mono ?_; rintro e w1 ⟨r1, rfl, o1, b1⟩
  obtain ⟨ra1, rc1, rfl⟩ := (own_rd o1).form
  have R1 := Lib.hid (Held.of_row o1)
  have B1 := Lib.hid b1
  have sz1 := b1.size
  clear o1 b1
  go_wp2_with fail
  refine (HI.out _ (HM.out.below B1.out) (HP.out.below B1.out) (HE.out.below B1.out)).mono ?_; rintro e w2 ⟨r2, rfl, o2, b2⟩
  obtain ⟨ra2, rc2, rfl⟩ := (own_rd o2).form
  have R2 := Lib.hid (Held.of_row o2)
  have R1b := Lib.hid (R1.out.below b2)
  have B2 := Lib.hid (bnext B1.out b2)
  have sz2 := b2.size
  clear o2 b2 R1 B1
  go_wp2_with fail
  refine (eqSpotS _ _ _ R (by exact R2.out.rd) (by exact R1b.out.rd) hnR).mono ?_; rintro e w3 ⟨rfl, b3⟩
  have R1c := Lib.hid (R1b.out.below b3)
  have R2c := Lib.hid (R2.out.below b3)
  have B3 := Lib.hid (bnext B2.out b3)
  have sz3 := b3.size
  clear b3 R1b R2 B2
  obtain ⟨mm, hmm, hm1⟩ : ∃ mm : Int, 1 + 2 * ((R.length : Nat) : Int) = mm ∧ 1 ≤ mm := ⟨_, rfl, by omega⟩
  have tm : decide (mm < (0 : Int)) = false := decide_eq_false (by omega)
  have HMM := Lib.hid hmm; clear hmm
  go_wp2_with fail
  refine (toM (markSpotS _ _ _ _ _ _ _ (by exact R2c.out) hnR (by omega) (by omega)) HMM.out).mono ?_; rintro e w4 ⟨rfl, t4, o4⟩
  have R1d := Lib.hid (R1c.out.turn t4 (by omega))
  have R2d := Lib.hid o4
  have B4 := Lib.hid (B3.out.trans (t4.below (B := w.heap.size) (by omega) (by omega)))
  have sz4 := t4.size
  clear t4 o4 R1c R2c B3
  go_wp2_with fail
  refine (toM (heldSpotS _ _ _ _ (by exact R2d.out.rd) hnR (by omega) (by omega)) HMM.out).mono ?_; rintro e w5 ⟨rfl, b5⟩
  have R1e := Lib.hid (R1d.out.below b5)
  have R2e := Lib.hid (R2d.out.below b5)
  have B5 := Lib.hid (bnext B4.out b5)
  have sz5 := b5.size
  clear b5 R1d R2d B4
  go_wp2_with fail
  refine (HI.out _ (HM.out.below B5.out) (HP.out.below B5.out) (HE.out.below B5.out)).mono ?_; rintro e w6 ⟨r6, rfl, o6, b6⟩
  obtain ⟨ra6, rc6, rfl⟩ := (own_rd o6).form
  have R6 := Lib.hid (Held.of_row o6)
  have R1f := Lib.hid (R1e.out.below b6)
  have R2f := Lib.hid (R2e.out.below b6)
  have B6 := Lib.hid (bnext B5.out b6)
  have sz6 := b6.size
  clear o6 b6 R1e R2e B5
  go_wp2_with fail
  refine (eqSpotS _ _ _ R (by exact R6.out.rd) (by exact R1f.out.rd) hnR).mono ?_; rintro e w7 ⟨rfl, b7⟩
  have R2g := Lib.hid (R2f.out.below b7)
  have B7 := Lib.hid (bnext B6.out b7)
  clear b7 R1f R2f R6 B6
  go_wp2_with fail
  refine (toM (heldSpotS _ _ _ _ (by exact R2g.out.rd) hnR (by omega) (by omega)) HMM.out).mono ?_; rintro e w8 ⟨rfl, b8⟩
  have B8 := Lib.hid (bnext B7.out b8)
  go_wp2_with fail
  all_goals go_ret
  all_goals exact ⟨rfl, B8.out⟩
end Go.Proofs.YtldbahcpjhmhpaaDoor
