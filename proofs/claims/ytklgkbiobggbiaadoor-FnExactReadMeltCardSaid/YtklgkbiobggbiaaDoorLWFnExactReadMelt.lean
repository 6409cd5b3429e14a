/- FnExactReadMelt: the law. -/
import Derived.Test.YtklgkbiobggbiaaDoorRows
import Derived.Test.YtklgkbiobggbiaaDoorLaw
import Derived.Test.YtklgkbiobggbiaaDoorReadMeI
import Derived.Test.YtklgkbiobggbiaaDoorErrLaid
import Derived.Test.YtklgkbiobggbiaaDoorHMelt
import Derived.Test.YtklgkbiobggbiaaDoorMarkMel1
namespace Go.Proofs.YtklgkbiobggbiaaDoor
open Go.ChangeShapes Go.WideShapes Go.ChangeAt Go.RowKit Go.Deep Go.Joins
set_option linter.unusedVariables false
set_option maxRecDepth 100000
set_option linter.unusedSimpArgs false
theorem meltV_len (s : ByteArray) : (meltV s).ingots.length ≤ 1048576 := by
  cases h : meltR s with
  | none => rw [(meltV_none h).1]; exact Nat.zero_le _
  | some x =>
    rw [(meltV_some h).1]
    by_cases h3 : (partsS 32 s).length = 3
    · obtain ⟨a, b, c, hab⟩ := three_of h3
      cases hn : numS c with
      | none => rw [meltR_no hab hn] at h; cases h
      | some m =>
        rw [meltR_yes hab hn] at h
        by_cases hb : meltB (mkMelt a (partsS 44 b) m) = true
        · rw [if_pos hb] at h
          obtain rfl : mkMelt a (partsS 44 b) m = x := by simpa using h
          have := (meltB_facts hb).2.2.1
          omega
        · rw [if_neg hb] at h; cases h
    · rw [meltR_not3 h3] at h; cases h
set_option maxHeartbeats 4000000 in
theorem FnExactReadMelt_walk (w : World) (a0 : ByteArray) (k0 : a0.size ≤ maxLen) (hL : laidMetH Tryd.prog Rows.fnExactReadMeltRow.laid w) (hS : w.ShapedOpen Tryd.prog) :
    Calls Tryd.prog 5 #[.string a0] w fun e w' => e = .returned (.bool true) ∧ Below w.heap.size w w' := by
  have hL1 : laidMet Tryd.prog Rows.fnExactReadMeltRow.laid w := hL
  have HP : Hid (Pow10 w) := Lib.hid (pow10_of (laid_tail (laid_tail hL1)))
  have HE : Hid (ErrS w) := Lib.hid (errS_of (laid_tail (laid_tail (laid_tail (laid_tail (laid_tail hL1))))))
  have HM : Hid (MaxL w) := Lib.hid (maxL_of hS)
  clear hL hL1 hS
  unfold maxLen at k0
  by_cases hn0 : a0.size ≤ 1048576
  case neg =>
    have t1 : decide ((1048576 : Int) < (a0.size : Int)) = true := decide_eq_true (by omega)
    go_enter Tryd.func5, Tryd.ntmps5
    go_wp2_with fail
    go_ret
    exact ⟨rfl, Below.refl _ _⟩
  have t1 : decide ((1048576 : Int) < (a0.size : Int)) = false := decide_eq_false (by omega)
  have hs0 := fun w' => spec_ReadMelt a0 w' hn0
  have hi0 := fun (w' : World) (h1 : MaxL w') (h2 : Pow10 w') (h3 : ErrS w') => impl_ReadMelt a0 w' hn0 h1 h2 h3
  have hnR := meltV_len a0
  unfold MeltIs at hs0 hi0
  generalize (meltR a0).isSome = bb at hs0 hi0
  generalize meltV a0 = R at hs0 hi0 hnR
  have HS := Lib.hid hs0
  have HI := Lib.hid hi0
  clear hs0 hi0
  have tb : (bb != bb) = false := by simp
  go_enter Tryd.func5, Tryd.ntmps5
  go_wp2_with fail
  refine (HS.out _).mono ?_; rintro e w1 ⟨⟨r1, rfl, o1⟩, b1⟩
  obtain ⟨ra1, rc1, rfl⟩ := (own_rd o1).form
  have R1 : Hid (Held w.heap.size w1.heap.size (w1.alloc (.cells #[.string R.id, .slice ra1 R.ingots.length rc1, .int .i64 R.mass] 37)) 9 1 (.slice ra1 R.ingots.length rc1) R.ingots.length (R.ingots.flatMap putStr)) := Lib.hid ((Held.of_row o1).below ((Below.refl _ _).alloc (Nat.le_refl _) _))
  have VA : Hid (Own (w1.alloc (.cells #[.string R.id, .slice ra1 R.ingots.length rc1, .int .i64 R.mass] 37)) w1.heap.size 37 [.string R.id, .slice ra1 R.ingots.length rc1, .int .i64 R.mass]) := Lib.hid (Own.new w1 _ _)
  have B1 : Hid (Below w.heap.size w (w1.alloc (.cells #[.string R.id, .slice ra1 R.ingots.length rc1, .int .i64 R.mass] 37))) := Lib.hid (b1.alloc b1.size _)
  have s1 : w.heap.size ≤ w1.heap.size := b1.size
  have hW1 : (w1.alloc (.cells #[.string R.id, .slice ra1 R.ingots.length rc1, .int .i64 R.mass] 37)).heap.size = w1.heap.size + 1 := by simp
  clear o1 b1
  go_wp2_with fail
  refine (HI.out _ (HM.out.below B1.out) (HP.out.below B1.out) (HE.out.below B1.out)).mono ?_; rintro e w2 ⟨⟨r2, rfl, o2⟩, b2⟩
  obtain ⟨ra2, rc2, rfl⟩ := (own_rd o2).form
  have bA : Hid (Below w2.heap.size w2 (w2.alloc (.cells #[.string R.id, .slice ra2 R.ingots.length rc2, .int .i64 R.mass] 37))) := Lib.hid ((Below.refl _ _).alloc (Nat.le_refl _) _)
  have R2 : Hid (Held (w1.heap.size + 1) w2.heap.size (w2.alloc (.cells #[.string R.id, .slice ra2 R.ingots.length rc2, .int .i64 R.mass] 37)) 9 1 (.slice ra2 R.ingots.length rc2) R.ingots.length (R.ingots.flatMap putStr)) := Lib.hid (by
    have := (Held.of_row o2).below bA.out
    rw [hW1] at this; exact this)
  have R1b := Lib.hid ((R1.out.below b2).below bA.out)
  have VAb := Lib.hid ((VA.out.below b2 VA.out.lt).alloc (.cells #[.string R.id, .slice ra2 R.ingots.length rc2, .int .i64 R.mass] 37))
  have VG : Hid (Own (w2.alloc (.cells #[.string R.id, .slice ra2 R.ingots.length rc2, .int .i64 R.mass] 37)) w2.heap.size 37 [.string R.id, .slice ra2 R.ingots.length rc2, .int .i64 R.mass]) := Lib.hid (Own.new w2 _ _)
  have B2' := bnext B1.out b2
  have B2 : Hid (Below w.heap.size w (w2.alloc (.cells #[.string R.id, .slice ra2 R.ingots.length rc2, .int .i64 R.mass] 37))) := Lib.hid (B2'.alloc B2'.size _)
  have s2 : w1.heap.size + 1 ≤ w2.heap.size := by rw [← hW1]; exact b2.size
  have p0 : w2.cell? ⟨w1.heap.size, 0, none⟩ = some (.string R.id) := (VA.out.below b2 VA.out.lt).cell 0
  have p1 : w2.cell? ⟨w1.heap.size, 1, none⟩ = some (.slice ra1 R.ingots.length rc1) := (VA.out.below b2 VA.out.lt).cell 1
  have p2 : w2.cell? ⟨w1.heap.size, 2, none⟩ = some (.int .i64 R.mass) := (VA.out.below b2 VA.out.lt).cell 2
  have hl2 : w1.heap.size < w2.heap.size := by omega
  clear o2 b2 B2' B1 R1 VA bA hW1
  go_wp2_with fail
  refine (eqMelt R _ _ _ (by exact R2.out.rd) (by exact R1b.out.rd) hnR).mono ?_; rintro e w3 ⟨rfl, b3⟩
  have R1c := Lib.hid (R1b.out.below b3)
  have R2c := Lib.hid (R2.out.below b3)
  have VAc := Lib.hid (VAb.out.below b3 VAb.out.lt)
  have VGc := Lib.hid (VG.out.below b3 VG.out.lt)
  have B3 := Lib.hid (bnext B2.out b3)
  have s3 : w2.heap.size < w3.heap.size := VGc.out.lt
  have c0 : w3.cell? ⟨w2.heap.size, 0, none⟩ = some (.string R.id) := VGc.out.cell 0
  have c1 : w3.cell? ⟨w2.heap.size, 1, none⟩ = some (.slice ra2 R.ingots.length rc2) := VGc.out.cell 1
  have c2 : w3.cell? ⟨w2.heap.size, 2, none⟩ = some (.int .i64 R.mass) := VGc.out.cell 2
  clear b3 R1b R2 VAb VG B2 p0 p1 p2
  obtain ⟨mm, hmm, hm1⟩ : ∃ mm : Int, 1 + 1 * ((R.ingots.length : Nat) : Int) = mm ∧ 1 ≤ mm := ⟨_, rfl, by omega⟩
  have tm : decide (mm < (0 : Int)) = false := decide_eq_false (by omega)
  have HMM := Lib.hid hmm; clear hmm
  go_wp2_with fail
  refine (toM (markMelt1 _ _ _ _ _ _ _ _ _ (by exact R2c.out) (by omega) hnR (by omega) (by omega)) HMM.out).mono ?_; rintro e w4 ⟨rfl, t4, o4⟩
  have R1d := Lib.hid (R1c.out.turn t4 (by omega))
  have R2d := Lib.hid o4
  have VAd := Lib.hid (VAc.out.turn t4 (by omega))
  have VGd := Lib.hid (VGc.out.turn t4 (by omega))
  have B4 := Lib.hid (B3.out.trans (t4.below (B := w.heap.size) (by omega) (by omega)))
  have s4 := t4.size
  have e0 : w4.cell? ⟨w2.heap.size, 0, none⟩ = some (.string R.id) := VGd.out.cell 0
  have e1 : w4.cell? ⟨w2.heap.size, 1, none⟩ = some (.slice ra2 R.ingots.length rc2) := VGd.out.cell 1
  have e2 : w4.cell? ⟨w2.heap.size, 2, none⟩ = some (.int .i64 R.mass) := VGd.out.cell 2
  clear t4 o4 R1c R2c VAc VGc B3 c0 c1 c2
  go_wp2_with fail
  refine (toM (heldMelt1 _ _ _ _ _ _ (by exact R2d.out.rd) hnR (by omega) (by omega)) HMM.out).mono ?_; rintro e w5 ⟨rfl, b5⟩
  have R1e := Lib.hid (R1d.out.below b5)
  have R2e := Lib.hid (R2d.out.below b5)
  have VAe := Lib.hid (VAd.out.below b5 VAd.out.lt)
  have VGe := Lib.hid (VGd.out.below b5 VGd.out.lt)
  have B5 := Lib.hid (bnext B4.out b5)
  clear b5 R1d R2d VAd VGd B4 e0 e1 e2
  go_wp2_with fail
  refine (HI.out _ (HM.out.below B5.out) (HP.out.below B5.out) (HE.out.below B5.out)).mono ?_; rintro e w6 ⟨⟨r6, rfl, o6⟩, b6⟩
  obtain ⟨ra6, rc6, rfl⟩ := (own_rd o6).form
  have bA : Hid (Below w6.heap.size w6 (w6.alloc (.cells #[.string R.id, .slice ra6 R.ingots.length rc6, .int .i64 R.mass] 37))) := Lib.hid ((Below.refl _ _).alloc (Nat.le_refl _) _)
  have R6 := Lib.hid ((Held.of_row o6).below bA.out)
  have R1f := Lib.hid ((R1e.out.below b6).below bA.out)
  have R2f := Lib.hid ((R2e.out.below b6).below bA.out)
  have VAf' := VAe.out.below b6 VAe.out.lt
  have VGf := Lib.hid ((VGe.out.below b6 VGe.out.lt).below bA.out (VGe.out.below b6 VGe.out.lt).lt)
  have B6' := bnext B5.out b6
  have B6 : Hid (Below w.heap.size w (w6.alloc (.cells #[.string R.id, .slice ra6 R.ingots.length rc6, .int .i64 R.mass] 37))) := Lib.hid (B6'.alloc B6'.size _)
  have p0 : w6.cell? ⟨w1.heap.size, 0, none⟩ = some (.string R.id) := VAf'.cell 0
  have p1 : w6.cell? ⟨w1.heap.size, 1, none⟩ = some (.slice ra1 R.ingots.length rc1) := VAf'.cell 1
  have p2 : w6.cell? ⟨w1.heap.size, 2, none⟩ = some (.int .i64 R.mass) := VAf'.cell 2
  have hl6 : w1.heap.size < w6.heap.size := VAf'.lt
  clear o6 b6 R1e R2e VAe VGe B5 B6' bA VAf'
  go_wp2_with fail
  refine (eqMelt R _ _ _ (by exact R6.out.rd) (by exact R1f.out.rd) hnR).mono ?_; rintro e w7 ⟨rfl, b7⟩
  have R2g := Lib.hid (R2f.out.below b7)
  have VGg := Lib.hid (VGf.out.below b7 VGf.out.lt)
  have B7 := Lib.hid (bnext B6.out b7)
  have q0 : w7.cell? ⟨w2.heap.size, 0, none⟩ = some (.string R.id) := VGg.out.cell 0
  have q1 : w7.cell? ⟨w2.heap.size, 1, none⟩ = some (.slice ra2 R.ingots.length rc2) := VGg.out.cell 1
  have q2 : w7.cell? ⟨w2.heap.size, 2, none⟩ = some (.int .i64 R.mass) := VGg.out.cell 2
  clear b7 R1f R2f R6 VGf B6 p0 p1 p2
  go_wp2_with fail
  refine (toM (heldMelt1 _ _ _ _ _ _ (by exact R2g.out.rd) hnR (by omega) (by omega)) HMM.out).mono ?_; rintro e w8 ⟨rfl, b8⟩
  have B8 := Lib.hid (bnext B7.out b8)
  go_wp2_with fail
  all_goals go_ret
  all_goals exact ⟨rfl, B8.out⟩
end Go.Proofs.YtklgkbiobggbiaaDoor
