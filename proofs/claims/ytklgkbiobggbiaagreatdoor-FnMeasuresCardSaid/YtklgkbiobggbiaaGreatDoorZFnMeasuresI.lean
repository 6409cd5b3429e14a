/- Contracts and plain facts, joined: LWFnMeasures. -/
import Derived.Test.YtklgkbiobggbiaaGreatDoorRows
import Derived.Test.YtklgkbiobggbiaaGreatDoorZFnMeasuresH
namespace Go.Proofs.YtklgkbiobggbiaaGreatDoor
open Go.ChangeShapes Go.WideShapes Go.ChangeAt Go.RowKit Go.Deep Go.Joins
set_option linter.unusedVariables false
set_option maxRecDepth 100000
set_option linter.unusedSimpArgs false
set_option maxHeartbeats 4000000 in
theorem FnMeasures_walk (w : World) (v0 : Value) (xs : List UInt8) (k0 : Rd w.heap.size w v0 1 xs.length (xs.flatMap putB) ∧ xs.length ≤ maxLen ∧ ∀ x ∈ xs, True) (v1 : Value) (ys : List UInt8) (k1 : Rd w.heap.size w v1 1 ys.length (ys.flatMap putB) ∧ ys.length ≤ maxLen ∧ ∀ x ∈ ys, True) (hL : laidMetH Tryz.prog Rows.fnMeasuresRow.laid w) (hS : w.ShapedOpen Tryz.prog) :
    Calls Tryz.prog 3 #[v0, v1] w fun e w' => e = .returned (.bool true) ∧ Below w.heap.size w w' := by
  have hL1 : laidMet Tryz.prog Rows.fnMeasuresRow.laid w := hL
  have HP : Hid (Pow10 w) := Lib.hid (pow10_of (laid_tail (laid_tail hL1)))
  have HE : Hid (ErrS w) := Lib.hid (errS_of (laid_tail (laid_tail (laid_tail (laid_tail (laid_tail hL1))))))
  have HM : Hid (MaxL w) := Lib.hid (maxL_of hS)
  clear hL hL1 hS
  obtain ⟨h0, hm0, _⟩ := k0
  obtain ⟨h1, hm1, _⟩ := k1
  have H0 := Lib.hid h0
  have H1 := Lib.hid h1
  obtain ⟨o0, c0, rfl⟩ := h0.form
  obtain ⟨o1, c1, rfl⟩ := h1.form
  have HLG := Lib.hid (laws_r8Long w _ _ xs.length ys.length o0 o1 c0 c1 rfl rfl)
  clear h0 h1
  by_cases hn : xs.length ≤ 1048576 ∧ ys.length ≤ 1048576
  case neg =>
    have tl : (decide ((1048576 : Int) < xs.length) || decide ((1048576 : Int) < ys.length)) = true := by
      rw [Bool.or_eq_true, decide_eq_true_eq, decide_eq_true_eq]; omega
    rw [tl] at HLG
    clear tl hn H0 H1
    go_enter Tryz.func3, Tryz.ntmps3
    go_wp2_with fail
    refine HLG.out.mono ?_; rintro e w1 ⟨rfl, rfl⟩
    go_wp2_with fail
    go_ret
    exact ⟨rfl, Below.refl _ _⟩
  obtain ⟨hn0, hn1⟩ := hn
  have tl : (decide ((1048576 : Int) < xs.length) || decide ((1048576 : Int) < ys.length)) = false := by
    rw [Bool.or_eq_false_iff, decide_eq_false_iff_not, decide_eq_false_iff_not]; omega
  rw [tl] at HLG
  have HDR := Lib.hid (draw_measures w _ xs H0.out hm0)
  clear tl hm0 hm1 H0
  go_enter Tryz.func3, Tryz.ntmps3
  go_wp2_with fail
  refine HLG.out.mono ?_; rintro e w1 ⟨rfl, rfl⟩
  go_wp2_with fail
  refine HDR.out.mono ?_; rintro e w1 ⟨lv, ms, rfl, hd, ho, b1⟩
  have HR := Lib.hid (own_rd ho)
  have HD := Lib.hid hd
  have BA := Lib.hid b1
  have HY := Lib.hid (H1.out.up b1)
  have HP1 := Lib.hid (HP.out.below b1)
  have HE1 := Lib.hid (HE.out.below b1)
  have HM1 := Lib.hid (HM.out.below b1)
  have hl1 : 1 ≤ ms.length := hd.1.1
  have hl2 : ms.length ≤ 10 := hd.1.2
  have Hok : Hid (∀ x ∈ ms, x.ok) := Lib.hid (fun x hx => measOk_ok (hd.2 x hx))
  have HAt := Lib.hid (laws_r8AtB w1 _ ys _ HY.out hn1 0 ms.length (by omega) (by omega) hl1 (by omega))
  obtain ⟨_, lo, lc, rfl, _, _, _, hsome⟩ := own_rd ho
  obtain ⟨bb, off, rfl, hbb, hcc⟩ := hsome (by omega)
  clear hd ho b1 hsome HLG HDR H1 HP HE HM
  go_wp2_with fail
  refine HAt.out.mono ?_; rintro e w2 ⟨i, rfl, hi, rfl⟩
  have d0 : w1.cell? ⟨bb, off + i * 3, none⟩ = some (.string ms[i].bell) := by rw [hcc (i * 3) (by omega)]; exact Measure_get0 ms i hi
  have d1 : w1.cell? ⟨bb, off + i * 3 + 1, none⟩ = some (.int .i64 ms[i].part) := by rw [Nat.add_assoc, hcc (i * 3 + 1) (by omega)]; exact Measure_get1 ms i hi
  have d2 : w1.cell? ⟨bb, off + i * 3 + 2, none⟩ = some (.int .i64 ms[i].value) := by rw [Nat.add_assoc, hcc (i * 3 + 2) (by omega)]; exact Measure_get2 ms i hi
  have HMM := Lib.hid (show ms[i] ∈ ms from List.getElem_mem hi)
  clear hcc HAt
  generalize ms[i] = M at *
  have hmb := (HD.out.2 M HMM.out).1
  have hms := (HD.out.2 M HMM.out).2
  have HBK := Lib.hid (meas_back hmb)
  have hN := nums_of HD.out HMM.out
  obtain ⟨f1, f2, f3, f4⟩ := zs_facts HD.out HMM.out
  have f0 := meas_ask HD.out HMM.out
  obtain ⟨lv, hlv⟩ : ∃ lv : Value, .slice (some ⟨bb, off, none⟩) ms.length lc = lv := ⟨_, rfl⟩
  have HV1 := Lib.hid (fun (w' : World) (h : Rd w'.heap.size w' (.slice (some ⟨bb, off, none⟩) ms.length lc) 3 ms.length (ms.flatMap Measure.put)) => by
    have q := impl_ValuesOf w' _ ms M.bell M.part h (by omega) Hok.out
    rw [f0, f1] at q; exact q)
  have HV2 := Lib.hid (fun (w' : World) (h : Rd w'.heap.size w' (.slice (some ⟨bb, off, none⟩) ms.length lc) 3 ms.length (ms.flatMap Measure.put)) => by
    have q := impl_MeanOf w' _ ms M.bell M.part h (by omega) Hok.out
    rw [f0, f2] at q; exact q)
  have HV3 := Lib.hid (fun (w' : World) (h : Rd w'.heap.size w' (.slice (some ⟨bb, off, none⟩) ms.length lc) 3 ms.length (ms.flatMap Measure.put)) => by
    have q := impl_MedianOf w' _ ms M.bell M.part h (by omega) Hok.out
    rw [f0, f3] at q; exact q)
  have HV4 := Lib.hid (fun (w' : World) (h : Rd w'.heap.size w' (.slice (some ⟨bb, off, none⟩) ms.length lc) 3 ms.length (ms.flatMap Measure.put)) => by
    have q := impl_SpreadOf w' _ ms M.bell M.part h (by omega) Hok.out
    rw [f0, f4] at q; exact q)
  clear f0 f1 f2 f3 f4 hlv lv
  generalize meanI (zsM ms M) = mn at *
  generalize medI (zsM ms M) = md at *
  generalize spI (zsM ms M) = sp at *
  generalize zsM ms M = Z at *
  have HN := Lib.hid hN
  have z0 := hN.len0
  have z1 := hN.len1
  clear hN hmb
  have RD : Hid (∀ w', Below w1.heap.size w1 w' → Rd w'.heap.size w' (.slice (some ⟨bb, off, none⟩) ms.length lc) 3 ms.length (ms.flatMap Measure.put)) := Lib.hid (fun w' b => HR.out.up b)
  have C2 : Hid (Below w1.heap.size w1 (w1.alloc (.cells #[.string M.bell, .int .i64 M.part, .int .i64 M.value] 27))) := Lib.hid ((Below.refl _ _).alloc (Nat.le_refl _) _)
  have V2 : Hid (Own (w1.alloc (.cells #[.string M.bell, .int .i64 M.part, .int .i64 M.value] 27)) w1.heap.size 27 [.string M.bell, .int .i64 M.part, .int .i64 M.value]) := Lib.hid (Own.new w1 _ _)
  clear HR
  go_wp2_with fail
  refine (HV1.out _ (by exact RD.out _ C2.out)).mono ?_; rintro e w3 ⟨rv, rfl, o3, b3⟩
  have C3 := Lib.hid (bnext C2.out b3)
  have V3 := Lib.hid (V2.out.below b3 V2.out.lt)
  have HZ3 := Lib.hid (own_rd o3)
  obtain ⟨_, zo, zc, rfl, _, _, _, hsz⟩ := own_rd o3
  obtain ⟨zb, zf, rfl, hzb, hzc⟩ := hsz z0
  have q0 : w3.cell? ⟨w1.heap.size, 0, none⟩ = some (.string M.bell) := V3.out.cell 0
  have q1 : w3.cell? ⟨w1.heap.size, 1, none⟩ = some (.int .i64 M.part) := V3.out.cell 1
  have q2 : w3.cell? ⟨w1.heap.size, 2, none⟩ = some (.int .i64 M.value) := V3.out.cell 2
  have ql := V3.out.lt
  have HZC := Lib.hid hzc
  clear o3 b3 V2 C2 hsz hzc HV1
  go_wp2_with fail
  refine (HV2.out _ (RD.out _ C3.out)).mono ?_; rintro e w4 ⟨rfl, b4⟩
  have C4 := Lib.hid (bnext C3.out b4)
  have V4 := Lib.hid (V3.out.below b4 V3.out.lt)
  have D4 := Lib.hid (show Below w3.heap.size w3 w4 from b4)
  have q0 : w4.cell? ⟨w1.heap.size, 0, none⟩ = some (.string M.bell) := V4.out.cell 0
  have q1 : w4.cell? ⟨w1.heap.size, 1, none⟩ = some (.int .i64 M.part) := V4.out.cell 1
  have q2 : w4.cell? ⟨w1.heap.size, 2, none⟩ = some (.int .i64 M.value) := V4.out.cell 2
  have ql := V4.out.lt
  clear b4 V3 C3 HV2
  go_wp2_with fail
  refine (HV3.out _ (RD.out _ C4.out)).mono ?_; rintro e w5 ⟨rfl, b5⟩
  have C5 := Lib.hid (bnext C4.out b5)
  have V5 := Lib.hid (V4.out.below b5 V4.out.lt)
  have D5 := Lib.hid (bnext D4.out b5)
  have q0 : w5.cell? ⟨w1.heap.size, 0, none⟩ = some (.string M.bell) := V5.out.cell 0
  have q1 : w5.cell? ⟨w1.heap.size, 1, none⟩ = some (.int .i64 M.part) := V5.out.cell 1
  have q2 : w5.cell? ⟨w1.heap.size, 2, none⟩ = some (.int .i64 M.value) := V5.out.cell 2
  have ql := V5.out.lt
  clear b5 V4 C4 D4 HV3
  go_wp2_with fail
  refine (HV4.out _ (RD.out _ C5.out)).mono ?_; rintro e w6 ⟨rfl, b6⟩
  have C6 := Lib.hid (bnext C5.out b6)
  have V6 := Lib.hid (V5.out.below b6 V5.out.lt)
  have D6 := Lib.hid (bnext D5.out b6)
  have tz : decide (Z.length < 1) = false := decide_eq_false (by omega)
  have tzI : decide ((Z.length : Int) < 1) = false := decide_eq_false (by omega)
  have tsp : decide (sp < 0) = false := decide_eq_false (by have := HN.out.sp0; omega)
  have z6 : zb < w6.heap.size := Nat.lt_of_lt_of_le hzb D6.out.size
  clear b6 V5 C5 D5 HV4 d0 d1 d2 q0 q1 q2 ql
  go_wp2_with fail
  go_loopw [15, 16] (fun f i wr => ∃ (k : Nat) (b : Bool), k ≤ Z.length ∧ i = .int .i64 k ∧ f = .bool b ∧ (Z.take k).any (fun z => z == M.value) = b ∧ Below w6.heap.size w6 wr) (fun _ i _ => Z.length - (intOf i).toNat)
  case atStart => exact ⟨0, false, Nat.zero_le _, rfl, rfl, rfl, Below.refl _ _⟩
  case round =>
    obtain ⟨k, fb, hk, rfl, rfl, hfb, hb⟩ := hrel
    have HFB := Lib.hid hfb
    have HB := Lib.hid hb
    by_cases hlt : k < Z.length
    · have c0 : wr.cell? ⟨zb, zf + k, none⟩ = some (.int .i64 Z[k]) := by rw [(D6.out.trans (hb.mono D6.out.size)).cell (p := ⟨zb, zf + k, none⟩) hzb, HZC.out k (by omega), putI_get Z k hlt]
      have v2 : wr.cell? ⟨w1.heap.size, 2, none⟩ = some (.int .i64 M.value) := (V6.out.below hb V6.out.lt).cell 2
      have vl : w1.heap.size < wr.heap.size := Nat.lt_of_lt_of_le V6.out.lt hb.size
      have zl : zb < wr.heap.size := Nat.lt_of_lt_of_le z6 hb.size
      have ef := Lib.hid (any_take (c := M.value) hlt)
      have EQ : Hid (∃ b, (Z[k] == M.value) = b) := Lib.hid ⟨_, rfl⟩
      obtain ⟨eb, heb⟩ := EQ.out
      have ef2 : Hid ((Z.take (k + 1)).any (fun z => z == M.value) = (fb || eb)) := Lib.hid (by rw [ef.out, HFB.out, heb])
      clear hfb hb ef EQ
      by_cases hk0 : 0 < k
      · have tk : decide (0 < k) = true := decide_eq_true hk0
        have c1 : wr.cell? ⟨zb, zf + (k - 1), none⟩ = some (.int .i64 Z[k - 1]) := by rw [(D6.out.trans (HB.out.mono D6.out.size)).cell (p := ⟨zb, zf + (k - 1), none⟩) hzb, HZC.out (k - 1) (by omega), putI_get Z (k - 1) (by omega)]
        have tu : decide (Z[k] < Z[k - 1]) = false := decide_eq_false (by have := HN.out.prev k hlt hk0; omega)
        cases fb with
        | true =>
          have e3 : Hid ((Z.take (k + 1)).any (fun z => z == M.value) = true) := Lib.hid (by rw [ef2.out]; rfl)
          go_wp2_with fail
          go_quiet (fail)
          go_wp2_with fail
          go_quiet (fail)
          go_wp2_with fail
          go_roundw
          case rel => exact ⟨k + 1, true, by omega, by go_num, rfl, e3.out, (by first | exact HB.out | exact below_dn HB.out _ | exact below_dn (below_dn HB.out _) _)⟩
          case measure => simp [intOf]; omega
        | false =>
          have e3 : Hid ((Z.take (k + 1)).any (fun z => z == M.value) = eb) := Lib.hid (by rw [ef2.out]; rfl)
          go_wp2_with fail
          go_quiet (fail)
          go_wp2_with fail
          go_quiet (fail)
          go_wp2_with fail
          go_roundw
          case rel => exact ⟨k + 1, eb, by omega, by go_num, by rw [← heb]; try rfl, e3.out, (by first | exact HB.out | exact below_dn HB.out _ | exact below_dn (below_dn HB.out _) _)⟩
          case measure => simp [intOf]; omega
      · obtain rfl : k = 0 := by omega
        have tk : decide ((0 : Nat) < 0) = false := by decide
        have hf0 : fb = false := by rw [← HFB.out]; rfl
        subst hf0
        have e3 : Hid ((Z.take (0 + 1)).any (fun z => z == M.value) = eb) := Lib.hid (by rw [ef2.out]; rfl)
        rw [Nat.add_zero] at c0
        go_wp2_with fail
        go_quiet (fail)
        go_wp2_with fail
        go_quiet (fail)
        go_wp2_with fail
        go_roundw
        case rel => exact ⟨1, eb, by omega, by go_num, by rw [← heb]; try rfl, e3.out, (by first | exact HB.out | exact below_dn HB.out _ | exact below_dn (below_dn HB.out _) _)⟩
        case measure => simp [intOf]; omega
    · have hft : fb = true := by
        rw [← HFB.out, List.take_of_length_le (by omega), List.any_eq_true]
        exact ⟨M.value, HN.out.mem, by simp⟩
      subst hft
      have hbz := D6.out.trans (hb.mono D6.out.size)
      have c0 : wr.cell? ⟨zb, zf, none⟩ = some (.int .i64 Z[0]) := by
        have := HZC.out 0 (by omega)
        rw [Nat.add_zero] at this
        rw [hbz.cell (p := ⟨zb, zf, none⟩) hzb, this, putI_get Z 0 z0]
      have c1 : wr.cell? ⟨zb, zf + (Z.length - 1), none⟩ = some (.int .i64 Z[Z.length - 1]) := by rw [hbz.cell (p := ⟨zb, zf + (Z.length - 1), none⟩) hzb, HZC.out (Z.length - 1) (by omega), putI_get Z (Z.length - 1) (by omega)]
      have zl : zb < wr.heap.size := Nat.lt_of_lt_of_le z6 hb.size
      have t1 : decide (mn < Z[0]) = false := decide_eq_false (by have := HN.out.a0; omega)
      have t2 : decide (Z[Z.length - 1] < mn) = false := decide_eq_false (by have := HN.out.a1; omega)
      have t3 : decide (md < Z[0]) = false := decide_eq_false (by have := HN.out.b0; omega)
      have t4 : decide (Z[Z.length - 1] < md) = false := decide_eq_false (by have := HN.out.b1; omega)
      have C7 := Lib.hid (C6.out.trans (hb.mono C6.out.size))
      have V7 := Lib.hid (V6.out.below hb V6.out.lt)
      clear HFB HB hfb hb hbz D6 V6 C6 HZC
      generalize Z[0] = zA at *
      generalize Z[Z.length - 1] = zB at *
      have hlb := r8at_bd ys 1 200 (by omega)
      have HA2 := Lib.hid (laws_r8At wr _ ys _ (HY.out.up C7.out) hn1 1 200 (by omega) (by omega) (by omega) (by omega))
      obtain ⟨l, hl⟩ : ∃ l, r8at ys 1 200 = l := ⟨_, rfl⟩
      rw [hl] at HA2 hlb
      clear hl
      have hlim : limS ms l = 0 := limS_yes (drawnM_valid HD.out) (inB_mk ⟨by omega, by omega⟩)
      have HO1 := Lib.hid (fun (w' : World) (h : Rd w'.heap.size w' (.slice (some ⟨bb, off, none⟩) ms.length lc) 3 ms.length (ms.flatMap Measure.put)) => by
        have q := impl_Out w' _ ms l h (by omega) Hok.out
        rw [hlim, show outlS ms l = outF ms l ms.length from if_pos hlim] at q; exact q)
      have HO2 := Lib.hid (fun (w' : World) (h : Rd w'.heap.size w' (.slice (some ⟨bb, off, none⟩) ms.length lc) 3 ms.length (ms.flatMap Measure.put)) => by
        have q := impl_Wit w' _ ms l h (by omega) Hok.out
        rw [hlim, show witS ms l = witF ms l ms.length from if_pos hlim] at q; exact q)
      have HO3 := Lib.hid (fun (w' : World) (h : Rd w'.heap.size w' (.slice (some ⟨bb, off, none⟩) ms.length lc) 3 ms.length (ms.flatMap Measure.put)) => by
        have q := impl_Bells w' _ ms h (by omega) Hok.out
        rw [(bells_pos HD.out).1] at q; exact q)
      have hbl := (bells_pos HD.out).2
      have how := out_wit ms l ms.length (Nat.le_refl _)
      have HF0 : Hid (sp ≤ l → ∀ c ∈ outF ms l ms.length, ∃ (j : Nat) (hj : j < ms.length), c = (j : Int) ∧ (strEq ms[j].bell M.bell && decide (ms[j].part = M.part)) = false) := Lib.hid (fun hsp c hc => by
        obtain ⟨j, hj, e, hf⟩ := outF_at hc (Nat.le_refl _)
        exact ⟨j, hj, e, HN.out.far l hsp _ (List.getElem_mem hj) hf⟩)
      generalize outF ms l ms.length = F at *
      generalize witF ms l ms.length = G at *
      generalize bellR ms = BL at *
      clear hlim
      go_wp2_with fail
      refine HA2.out.mono ?_; rintro e w8 ⟨rfl, rfl⟩
      go_wp2_with fail
      refine (HO1.out _ (RD.out _ C7.out)).mono ?_; rintro e w8 ⟨rF, rfl, oF, b8⟩
      obtain ⟨fo, fc, rfl⟩ := (own_rd oF).form
      have HRF := Lib.hid (own_rd oF)
      have C8 := Lib.hid (bnext C7.out b8)
      have V8 := Lib.hid (V7.out.below b8 V7.out.lt)
      clear oF b8 C7 V7 HO1 HA2
      go_wp2_with fail
      refine (HO2.out _ (RD.out _ C8.out)).mono ?_; rintro e w9 ⟨rG, rfl, oG, b9⟩
      obtain ⟨go, gc, rfl⟩ := (own_rd oG).form
      have HRF9 := Lib.hid (HRF.out.up b9)
      have C9 := Lib.hid (bnext C8.out b9)
      have V9 := Lib.hid (V8.out.below b9 V8.out.lt)
      clear oG b9 C8 V8 HO2 HRF
      go_wp2_with fail
      refine (HO3.out _ (RD.out _ C9.out)).mono ?_; rintro e w10 ⟨rB, rfl, oB, b10⟩
      obtain ⟨bo, bc, rfl⟩ := (own_rd oB).form
      have HRF10 := Lib.hid (HRF9.out.up b10)
      have C10 := Lib.hid (bnext C9.out b10)
      have V10 := Lib.hid (V9.out.below b10 V9.out.lt)
      have q0 : w10.cell? ⟨w1.heap.size, 0, none⟩ = some (.string M.bell) := V10.out.cell 0
      have q1 : w10.cell? ⟨w1.heap.size, 1, none⟩ = some (.int .i64 M.part) := V10.out.cell 1
      have q2 : w10.cell? ⟨w1.heap.size, 2, none⟩ = some (.int .i64 M.value) := V10.out.cell 2
      have ql := V10.out.lt
      have HTX := Lib.hid (impl_MeasureText M w10 (Hok.out M HMM.out) (HP1.out.below C10.out))
      have hmb := (HD.out.2 M HMM.out).1
      have hts : (measT M).size ≤ 1048576 := by
        have e : measT M = M.bell ++ ⟨#[32]⟩ ++ partT M.part ++ ⟨#[32]⟩ ++ hertzT M.value := if_pos hmb
        obtain ⟨f1, f2, f3⟩ := measureB_facts hmb
        have g1 := partT_size M.part f2
        have g2 := hertzT_size M.value f3
        have g3 : (⟨#[32]⟩ : ByteArray).size = 1 := rfl
        rw [e]
        simp only [ByteArray.size_append]
        omega
      have HRM := Lib.hid (fun (w' : World) (h1 : MaxL w') (h2 : Pow10 w') (h3 : ErrS w') => by
        have q := impl_ReadMeasure (measT M) w' hts h1 h2 h3
        rw [(measV_some HBK.out).1, (measV_some HBK.out).2] at q; exact q)
      clear oB b10 C9 V9 HO3 HRF9 hts hmb
      generalize measT M = TX at *
      go_wp2_with fail
      refine HTX.out.mono ?_; rintro e w11 ⟨rfl, b11⟩
      have C11 := Lib.hid (bnext C10.out b11)
      have V11 := Lib.hid (V10.out.below b11 V10.out.lt)
      have HRF11 := Lib.hid (HRF10.out.up b11)
      clear b11 C10 V10 HRF10 HTX q0 q1 q2 ql
      go_wp2_with fail
      refine (HRM.out _ (HM1.out.below C11.out) (HP1.out.below C11.out) (HE1.out.below C11.out)).mono ?_; rintro e w12 ⟨rfl, b12⟩
      have C12 := Lib.hid (bnext C11.out b12)
      have V12 := Lib.hid (V11.out.below b12 V11.out.lt)
      have HRF12 := Lib.hid (HRF11.out.up b12)
      clear b12 C11 V11 HRF11 HRM
      have q0 : w12.cell? ⟨w1.heap.size, 0, none⟩ = some (.string M.bell) := V12.out.cell 0
      have q1 : w12.cell? ⟨w1.heap.size, 1, none⟩ = some (.int .i64 M.part) := V12.out.cell 1
      have q2 : w12.cell? ⟨w1.heap.size, 2, none⟩ = some (.int .i64 M.value) := V12.out.cell 2
      have ql := V12.out.lt
      have C13 : Hid (Below w1.heap.size w1 (w12.alloc (.cells #[.string M.bell, .int .i64 M.part, .int .i64 M.value] 27))) := Lib.hid (C12.out.alloc C12.out.size _)
      have HRF13 : Hid (Rd (w12.alloc (.cells #[.string M.bell, .int .i64 M.part, .int .i64 M.value] 27)).heap.size (w12.alloc (.cells #[.string M.bell, .int .i64 M.part, .int .i64 M.value] 27)) (.slice fo F.length fc) 1 F.length (F.flatMap putI)) := Lib.hid (HRF12.out.up ((Below.refl _ _).alloc (Nat.le_refl _) _))
      have tlen : ((F.length : Int) + (G.length : Int) != (ms.length : Int)) = false := bne_eq_false_iff_eq.2 (by omega)
      have tlenN : (F.length + G.length != ms.length) = false := bne_eq_false_iff_eq.2 how
      have tblN : decide (BL.length < 1) = false := decide_eq_false (by omega)
      have tbl : decide ((BL.length : Int) < 1) = false := decide_eq_false (by omega)
      by_cases hsp : l < sp
      · have ts : decide (l < sp) = true := decide_eq_true hsp
        clear HF0 HRF12
        go_wp2_with fail
        go_ret
        exact ⟨rfl, bnext BA.out C13.out⟩
      · have ts : decide (l < sp) = false := decide_eq_false hsp
        have HFF := Lib.hid (HF0.out (by omega))
        have hFl : F.length ≤ 64 := by omega
        have HVM := Lib.hid (fun w' h => spec_ValidMeasures_true w' (.slice (some ⟨bb, off, none⟩) ms.length lc) ms h (by omega) Hok.out (drawnM_valid HD.out))
        have HNR := Lib.hid (fun w' h h2 => laws_r8Near w' (.slice (some ⟨bb, off, none⟩) ms.length lc) (.slice fo F.length fc) ms F M h h2 (by omega) hFl HFF.out)
        clear HF0 HRF12 hsp HFF
        go_wp2_with fail
        refine (HVM.out _ (by exact RD.out _ C13.out)).mono ?_; rintro e w14 ⟨rfl, b14⟩
        have C14 := Lib.hid (bnext C13.out b14)
        have HRF14 := Lib.hid (HRF13.out.up b14)
        have V14 := Lib.hid ((V12.out.alloc (.cells #[.string M.bell, .int .i64 M.part, .int .i64 M.value] 27)).below b14 (by have := V12.out.lt; simp; omega))
        clear b14 C13 HRF13 V12 q0 q1 q2 ql
        have q0 : w14.cell? ⟨w1.heap.size, 0, none⟩ = some (.string M.bell) := V14.out.cell 0
        have q1 : w14.cell? ⟨w1.heap.size, 1, none⟩ = some (.int .i64 M.part) := V14.out.cell 1
        have q2 : w14.cell? ⟨w1.heap.size, 2, none⟩ = some (.int .i64 M.value) := V14.out.cell 2
        have ql := V14.out.lt
        go_wp2_with fail
        refine (HNR.out _ (RD.out _ C14.out) HRF14.out).mono ?_; rintro e w15 ⟨rfl, b15⟩
        have C15 := Lib.hid (bnext C14.out b15)
        clear b15
        go_wp2_with fail
        go_ret
        exact ⟨rfl, bnext BA.out C15.out⟩
end Go.Proofs.YtklgkbiobggbiaaGreatDoor
