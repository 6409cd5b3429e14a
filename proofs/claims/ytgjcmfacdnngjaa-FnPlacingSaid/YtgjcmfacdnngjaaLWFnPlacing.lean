/- FnPlacing: the law. -/
import Derived.Test.YtgjcmfacdnngjaaRows
import Derived.Test.YtgjcmfacdnngjaaPlacH2
import Derived.Test.YtgjcmfacdnngjaaDrawP
import Derived.Test.YtgjcmfacdnngjaaDraw
import Derived.Test.YtgjcmfacdnngjaaR8
namespace Go.Proofs.Ytgjcmfacdnngjaa
open Go.ChangeShapes Go.WideShapes Go.ChangeAt Go.RowKit Go.Deep Go.Joins
set_option linter.unusedVariables false
set_option maxRecDepth 100000
set_option linter.unusedSimpArgs false
theorem info_bool : (Try.prog.info? 4).map (fun i => (i.zero, i.size, i.bytes)) = some (some (.bool false), 1, 1) := by kernel_rfl
set_option maxHeartbeats 8000000 in
theorem FnPlacing_walk (w : World) (v0 : Value) (xs : List UInt8) (k0 : Rd w.heap.size w v0 1 xs.length (xs.flatMap putB) ∧ xs.length ≤ maxLen ∧ ∀ x ∈ xs, True) (v1 : Value) (ys : List UInt8) (k1 : Rd w.heap.size w v1 1 ys.length (ys.flatMap putB) ∧ ys.length ≤ maxLen ∧ ∀ x ∈ ys, True) :
    Calls Try.prog 3 #[v0, v1] w fun e w' => e = .returned (.bool true) ∧ Below w.heap.size w w' := by
  obtain ⟨h0, hm0, _⟩ := k0
  obtain ⟨h1, hm1, _⟩ := k1
  have H0 := Lib.hid h0
  have H1 := Lib.hid h1
  obtain ⟨o0, c0, rfl⟩ := h0.form
  obtain ⟨o1, c1, rfl⟩ := h1.form
  have HLG := Lib.hid (laws_r8Long w _ _ xs.length ys.length o0 o1 c0 c1 rfl rfl)
  clear h0 h1
  by_cases hn : xs.length ≤ 1048576 ∧ ys.length ≤ 1048576
  case neg =>
    have tl : (decide ((1048576 : Int) < (xs.length : Int)) || decide ((1048576 : Int) < (ys.length : Int))) = true := by simp; omega
    rw [tl] at HLG
    clear tl H0 H1
    go_enter Try.func3, Try.ntmps3
    go_wp2_with fail
    refine HLG.out.mono ?_; rintro e w1 ⟨rfl, rfl⟩
    go_wp2_with fail
    go_ret
    exact ⟨rfl, Below.refl _ _⟩
  obtain ⟨hnx, hny⟩ := hn
  have tl : (decide ((1048576 : Int) < (xs.length : Int)) || decide ((1048576 : Int) < (ys.length : Int))) = false := by simp; omega
  rw [tl] at HLG
  have HDH := Lib.hid (draw_R8Holes w _ ys H1.out hm1)
  obtain ⟨i0, ji, jz0, jz1, jz2⟩ := info_parts info_bool
  clear tl
  go_enter Try.func3, Try.ntmps3
  go_wp2_with fail
  refine HLG.out.mono ?_; rintro e w1 ⟨rfl, rfl⟩
  go_wp2_with fail
  refine HDH.out.mono ?_; rintro e w2 ⟨rh, hs, rfl, hdr, hown, b2⟩
  have HRH2 := Lib.hid (own_rd hown)
  obtain ⟨ho, hc, erh⟩ := (own_rd hown).form
  subst erh
  have HDR := Lib.hid hdr
  have hn4 : hs.length ≤ 4 := hdr.1
  have HB2 := Lib.hid b2
  have HD1 := Lib.hid (draw_R8Profile w2 _ xs (H0.out.up b2) hm0)
  clear hdr hown b2 HLG HDH
  go_wp2_with fail
  refine HD1.out.mono ?_; rintro e w3 ⟨nm1, u1, rfl, ⟨lo1, lc1, rs1, rfl, hp1, hs1, hr1, hrd1⟩, b3⟩
  have HB3 := Lib.hid (bnext HB2.out b3)
  have HRH3 := Lib.hid (HRH2.out.up b3)
  have P13 := Lib.hid (show PrI w3 ⟨nm1, .slice lo1 rs1.length lc1, rs1⟩ from ⟨by unfold maxLen; show nm1.size ≤ _; omega, hp1, hrd1⟩)
  have HD2 := Lib.hid (draw_R8Profile w3 _ ys (H1.out.up HB3.out) hm1)
  clear hp1 hs1 hr1 hrd1 b3 HB2 HRH2 HD1
  go_wp2_with fail
  refine HD2.out.mono ?_; rintro e w4 ⟨nm2, u2, rfl, ⟨lo2, lc2, rs2, rfl, hp2, hs2, hr2, hrd2⟩, b4⟩
  have HB4 := Lib.hid (bnext HB3.out b4)
  have HRH4 := Lib.hid (HRH3.out.up b4)
  have P14 := Lib.hid (P13.out.up b4)
  have P24 := Lib.hid (show PrI w4 ⟨nm2, .slice lo2 rs2.length lc2, rs2⟩ from ⟨by unfold maxLen; show nm2.size ≤ _; omega, hp2, hrd2⟩)
  have HD3 := Lib.hid (draw_R8Profile w4 _ xs (H0.out.up HB4.out) hm0)
  clear hp2 hs2 hr2 hrd2 b4 HB3 HRH3 P13 HD2
  go_wp2_with fail
  refine HD3.out.mono ?_; rintro e w5 ⟨nm3, u3, rfl, ⟨lo3, lc3, rs3, rfl, hp3, hs3, hr3, hrd3⟩, b5⟩
  have HB5 := Lib.hid (bnext HB4.out b5)
  have HRH5 := Lib.hid (HRH4.out.up b5)
  have P15 := Lib.hid (P14.out.up b5)
  have P25 := Lib.hid (P24.out.up b5)
  have P35 := Lib.hid (show PrI w5 ⟨nm3, .slice lo3 rs3.length lc3, rs3⟩ from ⟨by unfold maxLen; show nm3.size ≤ _; omega, hp3, hrd3⟩)
  clear hp3 hs3 hr3 hrd3 b5 HB4 HRH4 P14 P24 HD3
  obtain ⟨W6, hW6⟩ : ∃ W6, w5.alloc (.cells #[.string nm1, .slice lo1 rs1.length lc1, .string nm2, .slice lo2 rs2.length lc2, .string nm3, .slice lo3 rs3.length lc3] 28) = W6 := ⟨_, rfl⟩
  have b6 : Below w5.heap.size w5 W6 := by rw [← hW6]; exact (Below.refl _ _).alloc (Nat.le_refl _) _
  have HB6 := Lib.hid (bnext HB5.out b6)
  have HRH6 := Lib.hid (HRH5.out.up b6)
  obtain ⟨ps, hps⟩ : ∃ ps : List Profile, ps = [⟨nm1, .slice lo1 rs1.length lc1, rs1⟩, ⟨nm2, .slice lo2 rs2.length lc2, rs2⟩, ⟨nm3, .slice lo3 rs3.length lc3, rs3⟩] := ⟨_, rfl⟩
  have hpl : ps.length = 3 := by rw [hps]; rfl
  have HPF6 : Hid (Profs W6 (.slice (some ⟨w5.heap.size, 0, none⟩) 3 3) ps) := Lib.hid (by
    have o : Own W6 w5.heap.size 28 (ps.flatMap Profile.put) := by rw [← hW6, hps]; exact Own.new w5 _ _
    refine ⟨?_, ?_⟩
    · have := o.rd (B := W6.heap.size) (s := 2) (n := 3) o.lt (by rw [hps]; rfl) (by unfold maxLen; omega) 3 (Nat.le_refl _) (by unfold maxLen; omega)
      rw [hpl]; exact this
    · intro x hx
      rw [hps] at hx
      simp only [List.mem_cons, List.not_mem_nil, or_false] at hx
      rcases hx with rfl | rfl | rfl
      · exact P15.out.up b6
      · exact P25.out.up b6
      · exact P35.out.up b6)
  have HOP6 : Hid (Own W6 w5.heap.size 28 (ps.flatMap Profile.put)) := Lib.hid (by rw [← hW6, hps]; exact Own.new w5 _ _)
  have HPL := Lib.hid hpl
  have HY6 := Lib.hid (H1.out.up HB6.out)
  have hwb := r8wide_bd ys 0 5000 (by omega)
  have HW := Lib.hid (laws_r8Wide W6 _ ys W6.heap.size HY6.out hny 0 5000 (by omega) (by omega) (by omega) (by omega))
  generalize r8wide ys 0 5000 = q at *
  have ww : IntKind.i64.wrap (1000 + q) = 1000 + q := (by rw [IntKind.wrap_i64]; omega)
  clear b6 HB5 HRH5 P15 P25 P35 hps hpl HY6 H0 H1
  go_wp2_with fail
  refine HW.out.mono ?_; rintro e w7 ⟨rfl, rfl⟩
  obtain ⟨wall, hwall⟩ : ∃ wall, 1000 + q = wall := ⟨_, rfl⟩
  have hw1 : 1 ≤ wall ∧ wall ≤ 150000 := by omega
  rw [hwall] at ww
  have HPM := Lib.hid (impl_PlaceMoulds W6 _ ps wall _ hs HPF6.out (by rw [HPL.out]; omega) (by rw [HPL.out]; omega) hw1 HRH6.out hn4 (drawnH_ok HDR.out) (drawnH_valid HDR.out))
  have HOK : Hid (PlcOk (choices ps wall hs) (placeU (choices ps wall hs) 0 (mostU (choices ps wall hs) 0))) := Lib.hid (plc_ok (fun c hc j hj => (choices_ok hn4 c hc).2 j hj))
  have HCL : Hid ((choices ps wall hs).length = 3) := Lib.hid (by unfold choices; rw [List.length_map, HPL.out])
  have HCA := Lib.hid (fun (i : Nat) (h : i < ps.length) => choices_at (ps := ps) (wall := wall) (hs := hs) h)
  rw [HPL.out] at HPM
  generalize placeU (choices ps wall hs) 0 (mostU (choices ps wall hs) 0) = P at *
  have HPn : Hid (P.length = 3) := Lib.hid (by rw [HOK.out.len, HCL.out])
  clear HW hW6 hwb
  go_wp2_with fail
  refine HPM.out.mono ?_; rintro e w8 ⟨r, rfl, own8, b8⟩
  have HPL8 := Lib.hid (own_rd own8)
  obtain ⟨po, px, er8⟩ := (own_rd own8).form
  subst er8
  have HPF8 := Lib.hid (HPF6.out.up b8)
  have HOP8 := Lib.hid (HOP6.out.below b8 HOP6.out.lt)
  have HRH8 := Lib.hid (HRH6.out.up b8)
  have HB8 := Lib.hid (bnext HB6.out b8)
  clear own8 b8 HPM HPF6 HOP6 HRH6 HB6
  go_wp2_with (at_make; refine wpList_make_blk _ rfl _ _ 35 rfl 4 i0 (.bool false) 1 1 Try.underlying35 ji jz0 jz1 jz2 _ _ _ _ hs.length rfl rfl rfl rfl (by omega) (by unfold maxLen; omega) ?_; intro w9 ho9 hb9 hs9)
  have OU9 : Hid (Own w9 w8.heap.size 4 (bitsL hs.length 0)) := Lib.hid (by
    rw [bitsL_zero _ hn4, ← toList_madeCells_one]
    have e : (Value.bool false).cells = #[.bool false] := rfl
    rw [e, Nat.mul_one] at ho9
    exact ho9)
  have HB9 := Lib.hid hb9
  clear ho9 hb9 hs9 ji jz0 jz1 jz2
  go_loopw [11, 12] (fun ct i wr => ∃ (k : Nat), k ≤ 3 ∧ i = .int .i64 k ∧ ct = .int .i64 (cntP (P.take k) : Nat) ∧ Own wr w8.heap.size 4 (bitsL hs.length (endU 0 (P.take k))) ∧ Below w8.heap.size w8 wr) (fun _ i _ => 3 - (intOf i).toNat)
  case atStart => exact ⟨0, by omega, rfl, rfl, OU9.out, HB9.out⟩
  case round =>
    clear OU9 HB9
    obtain ⟨k, hk, rfl, rfl, hou, hb⟩ := hrel
    have hcl := cntP_le (P.take k)
    rw [List.length_take] at hcl
    have OU := Lib.hid hou
    have hul := hou.lt
    clear hou
    by_cases hlt : k < 3
    · have hkP : k < P.length := by rw [HPn.out]; exact hlt
      have hkp : k < ps.length := by rw [HPL.out]; exact hlt
      have hPk : P[k]? = some P[k] := List.getElem?_eq_getElem hkP
      have x0 : ∃ bp op, po = some ⟨bp, op, none⟩ ∧ bp < w8.heap.size ∧ wr.cell? ⟨bp, op + k, none⟩ = some (.int .i64 (numP P[k])) := by
        obtain ⟨_, a1, a2, a3, _, _, _, a4⟩ := HPL8.out
        obtain ⟨d1, d2, d3, d4, d5⟩ := a4 (by omega)
        cases a3
        subst d3
        refine ⟨d1, d2, rfl, d4, ?_⟩
        rw [hb.cell (p := ⟨d1, d2 + k, none⟩) d4, d5 k (by omega), numP_get P k _ hPk]
      obtain ⟨bp, op, rfl, hbp, x0⟩ := x0
      have hbpr : bp < wr.heap.size := Nat.lt_of_lt_of_le hbp hb.size
      generalize P[k] = o at *
      cases o with
      | none =>
        have x1 : wr.cell? ⟨bp, op + k, none⟩ = some (.int .i64 (-1)) := x0
        have EU : Hid (endU 0 (P.take (k + 1)) = endU 0 (P.take k)) := Lib.hid (endU_take hPk)
        have EC : Hid (cntP (P.take (k + 1)) = cntP (P.take k)) := Lib.hid (cntP_take hPk)
        have HB := Lib.hid hb
        clear x0 hPk hb
        go_wp2_with fail
        go_roundw
        case rel => exact ⟨k + 1, by omega, by go_num, by rw [EC.out], by rw [EU.out]; exact OU.out, HB.out⟩
        case measure => simp [intOf]; omega
      | some kk =>
        have x1 : wr.cell? ⟨bp, op + k, none⟩ = some (.int .i64 (kk : Int)) := x0
        obtain ⟨c, hc1, hc2, hc3⟩ := HOK.out.some_ k kk hPk
        rw [HCA.out k hkp] at hc1
        obtain rfl : fitsN ps[k] wall hs hs.length = c := by injection hc1
        obtain ⟨hkh, hfit⟩ := fitsN_fits hc2
        have hk4 : kk < 4 := by omega
        have EU : Hid (endU 0 (P.take (k + 1)) = setU (endU 0 (P.take k)) kk) := Lib.hid (endU_take hPk)
        have EC : Hid (cntP (P.take (k + 1)) = cntP (P.take k) + 1) := Lib.hid (cntP_take hPk)
        have h16 := HOK.out.lt16 k
        have u0 : wr.cell? ⟨w8.heap.size, kk, none⟩ = some (.bool false) := by rw [OU.out.cell, bitsL_get _ _ _ hkh, hc3]
        have uf := OU.out.free kk
        obtain ⟨hx1, hx2, hx3⟩ := HPF8.out.2 ps[k] (List.getElem_mem hkp)
        obtain ⟨lo, lc, el⟩ := hx3.form
        have g0 : wr.cell? ⟨w5.heap.size, k * 2, none⟩ = some (.string ps[k].name) := by
          rw [hb.cell (p := ⟨w5.heap.size, k * 2, none⟩) HOP8.out.lt, HOP8.out.cell]; exact prof_get0 ps k hkp
        have g1 : wr.cell? ⟨w5.heap.size, k * 2 + 1, none⟩ = some (.slice lo ps[k].rings.length lc) := by
          rw [hb.cell (p := ⟨w5.heap.size, k * 2 + 1, none⟩) HOP8.out.lt, HOP8.out.cell, prof_get1 ps k hkp, el]
        have gl : w5.heap.size < wr.heap.size := Nat.lt_of_lt_of_le HOP8.out.lt hb.size
        have y0 : ∃ bh oh, ho = some ⟨bh, oh, none⟩ ∧ bh < w8.heap.size ∧ (wr.cell? ⟨bh, oh + kk * 3, none⟩ = some (.string hs[kk].name) ∧ wr.cell? ⟨bh, oh + kk * 3 + 1, none⟩ = some (.int .i64 hs[kk].radius) ∧ wr.cell? ⟨bh, oh + kk * 3 + 2, none⟩ = some (.int .i64 hs[kk].depth)) := by
          obtain ⟨_, a1, a2, a3, _, _, _, a4⟩ := HRH8.out
          obtain ⟨d1, d2, d3, d4, d5⟩ := a4 (by omega)
          cases a3
          subst d3
          refine ⟨d1, d2, rfl, d4, ?_, ?_, ?_⟩
          · rw [show d2 + kk * 3 = d2 + (kk * 3 + 0) from by omega, hb.cell (p := ⟨d1, d2 + (kk * 3 + 0), none⟩) d4, d5 (kk * 3 + 0) (by omega), Hole_get0 hs kk hkh]
          · rw [show d2 + kk * 3 + 1 = d2 + (kk * 3 + 1) from by omega, hb.cell (p := ⟨d1, d2 + (kk * 3 + 1), none⟩) d4, d5 (kk * 3 + 1) (by omega), Hole_get1 hs kk hkh]
          · rw [show d2 + kk * 3 + 2 = d2 + (kk * 3 + 2) from by omega, hb.cell (p := ⟨d1, d2 + (kk * 3 + 2), none⟩) d4, d5 (kk * 3 + 2) (by omega), Hole_get2 hs kk hkh]
        obtain ⟨bh, oh, rfl, hbh, y0, y1, y2⟩ := y0
        have hbhr : bh < wr.heap.size := Nat.lt_of_lt_of_le hbh hb.size
        have HFH : Hid (∀ x : World, Calls Try.prog 9 #[.agg #[.string ps[k].name, .slice lo ps[k].rings.length lc], .int .i64 wall, .agg #[.string hs[kk].name, .int .i64 hs[kk].radius, .int .i64 hs[kk].depth]] (above wr x) fun e w' => e = .returned (.bool true) ∧ Below (above wr x).heap.size (above wr x) w') := Lib.hid (fun x => by
          have q := impl_FitsHole (above wr x) ps[k] lo lc hs[kk] wall hx1 (((el ▸ hx3 : Rd w8.heap.size w8 (.slice lo ps[k].rings.length lc) 3 ps[k].rings.length (ps[k].rings.flatMap Ring.put)).up hb).up (above_below wr x)) (by have := (profB_true hx2).2.1; omega) (drawnH_ok HDR.out _ (List.getElem_mem hkh))
          have e : fitsHoleS ps[k] wall hs[kk] = true := by unfold fitsHoleS; rw [hx2, inB_mk hw1, drawnH_hole HDR.out kk hkh, hfit]; rfl
          rw [e] at q; exact q)
        have HS := Lib.hid (bitsL_set (n := hs.length) hn4 h16 hk4)
        have HB := Lib.hid hb
        have hkk : (kk : Int) < (hs.length : Int) := by omega
        clear x0 hPk hb hc1 hc2 hc3 hfit el hx1 hx2 hx3
        go_wp2_with fail
        refine wp_region_above (by kernel_rfl) (by kernel_rfl) ?_
        repeat (go_big_quiet_step (((go_at_call 9; exact aboveC (HFH.out _)))))
        refine wpQuiet_nil ?_
        intro w10 b10
        have OU2 := Lib.hid (OU.out.below b10 hul)
        have HB2 := Lib.hid (HB.out.trans (b10.mono HB.out.size))
        have u1 : w10.cell? ⟨w8.heap.size, kk, none⟩ = some (.bool false) := (b10.cell (p := ⟨w8.heap.size, kk, none⟩) hul).trans u0
        have uf1 := OU2.out.free kk
        have hul1 := OU2.out.lt
        clear b10 u0 uf
        go_wp2_with fail
        go_roundw
        case rel => exact ⟨k + 1, by omega, by go_num, by rw [EC.out]; congr 1, by rw [EU.out, ← HS.out]; exact OU2.out.set kk _, Below.setCell HB2.out (Nat.le_refl _) _⟩
        case measure => simp [intOf]; omega
    · obtain rfl : k = 3 := by omega
      have eP : Hid (P.take 3 = P) := Lib.hid (List.take_of_length_le (by rw [HPn.out]; exact Nat.le_refl _))
      rw [eP.out] at OU hcl
      obtain ⟨wo, rfl⟩ : ∃ wo : World, wo = wr := ⟨_, rfl⟩
      have HPLo := Lib.hid (HPL8.out.up hb)
      have HPFo := Lib.hid (HPF8.out.up hb)
      have HOPo := Lib.hid (HOP8.out.below hb HOP8.out.lt)
      have HRHo := Lib.hid (HRH8.out.up hb)
      have HBo := Lib.hid (bnext HB8.out hb)
      clear hb HPL8 HPF8 HOP8 HRH8 HB8
      rw [eP.out]
      generalize hN : cntP P = N at *
      have HN := Lib.hid hN
      clear hN
      go_wp2_with fail
      go_loopw [14] (fun i wr => ∃ (k : Nat), k ≤ 3 ∧ i = .int .i64 k ∧ Below wo.heap.size wo wr) (fun i _ => 3 - (intOf i).toNat)
      case atStart => exact ⟨0, by omega, rfl, Below.refl _ _⟩
      case round =>
        obtain ⟨k, hk, rfl, hb⟩ := hrel
        by_cases hlt2 : k < 3
        · have hkP : k < P.length := by rw [HPn.out]; exact hlt2
          have hkp : k < ps.length := by rw [HPL.out]; exact hlt2
          have hPk : P[k]? = some P[k] := List.getElem?_eq_getElem hkP
          have HNo := Lib.hid (fun hnone j hj => HOK.out.none_ k j _ hnone (HCA.out k hkp) hj)
          have x0 : ∃ bp op, po = some ⟨bp, op, none⟩ ∧ bp < wo.heap.size ∧ wo.cell? ⟨bp, op + k, none⟩ = some (.int .i64 (numP P[k])) := by
            obtain ⟨_, a1, a2, a3, _, _, _, a4⟩ := HPLo.out
            obtain ⟨d1, d2, d3, d4, d5⟩ := a4 (by omega)
            cases a3
            subst d3
            exact ⟨d1, d2, rfl, d4, by rw [d5 k (by omega), numP_get P k _ hPk]⟩
          obtain ⟨bp, op, rfl, hbp, x0⟩ := x0
          obtain ⟨hx1, hx2, hx3⟩ := HPFo.out.2 ps[k] (List.getElem_mem hkp)
          obtain ⟨lo, lc, el⟩ := hx3.form
          have g0 : wr.cell? ⟨w5.heap.size, k * 2, none⟩ = some (.string ps[k].name) := by
            rw [hb.cell (p := ⟨w5.heap.size, k * 2, none⟩) HOPo.out.lt, HOPo.out.cell]; exact prof_get0 ps k hkp
          have g1 : wr.cell? ⟨w5.heap.size, k * 2 + 1, none⟩ = some (.slice lo ps[k].rings.length lc) := by
            rw [hb.cell (p := ⟨w5.heap.size, k * 2 + 1, none⟩) HOPo.out.lt, HOPo.out.cell, prof_get1 ps k hkp, el]
          have gl : w5.heap.size < wr.heap.size := Nat.lt_of_lt_of_le HOPo.out.lt hb.size
          have HHF := Lib.hid (impl_HolesFor wr ps[k] lo lc wall _ hs hx1 ((el ▸ hx3 : Rd wo.heap.size wo (.slice lo ps[k].rings.length lc) 3 ps[k].rings.length (ps[k].rings.flatMap Ring.put)).up hb) hx2 hw1 (HRHo.out.up hb) hn4 (drawnH_ok HDR.out) (drawnH_valid HDR.out))
          have HFM := Lib.hid (fun (j : Nat) (hj : j ∈ fitsN ps[k] wall hs hs.length) => fitsN_mem hj)
          have hfl := fitsN_len ps[k] wall hs hs.length
          have HB := Lib.hid hb
          clear hb hx1 hx2 hx3 el
          generalize fitsN ps[k] wall hs hs.length = F at *
          go_wp2_with fail
          refine HHF.out.mono ?_; rintro e w11 ⟨ro, rc, rfl, hrf, b11⟩
          have HB11 := Lib.hid (HB.out.trans (b11.mono HB.out.size))
          have z0 : w11.cell? ⟨bp, op + k, none⟩ = some (.int .i64 (numP P[k])) := (HB11.out.cell (p := ⟨bp, op + k, none⟩) hbp).trans x0
          have hbp1 : bp < w11.heap.size := Nat.lt_of_lt_of_le hbp HB11.out.size
          have hul1 : w8.heap.size < w11.heap.size := Nat.lt_of_lt_of_le hul HB11.out.size
          have HU := Lib.hid (OU.out.below HB11.out hul)
          obtain ⟨_, qo, qc, e2, _, _, _, hs2⟩ := hrf
          cases e2
          clear b11 HHF g0 g1 gl x0
          generalize P[k] = o at *
          go_wp2_with fail
          go_loop [17] (fun i => ∃ (j : Nat), j ≤ F.length ∧ i = .int .i64 j) (fun i => F.length - (intOf i).toNat)
          case atStart => exact ⟨0, Nat.zero_le _, rfl⟩
          case round =>
            obtain ⟨j, hj, rfl⟩ := hrel
            by_cases hjl : j < F.length
            · obtain ⟨bf, of, rfl, hbf, hcf⟩ := hs2 (by omega)
              have y0 : w11.cell? ⟨bf, of + j, none⟩ = some (.int .i64 (F[j] : Int)) := by rw [hcf j (by omega), intsN_get F j hjl]
              have hfh : F[j] < hs.length := HFM.out _ (List.getElem_mem hjl)
              have hfh2 : (F[j] : Int) < (hs.length : Int) := by omega
              have u0 : w11.cell? ⟨w8.heap.size, F[j], none⟩ = some (.bool (bitU (endU 0 P) F[j])) := by rw [HU.out.cell, bitsL_get _ _ _ hfh]
              have HN1 := Lib.hid (fun hnone => HNo.out hnone F[j] (List.getElem_mem hjl))
              clear hcf hs2
              generalize F[j] = f at *
              cases o with
              | none =>
                have z1 : w11.cell? ⟨bp, op + k, none⟩ = some (.int .i64 (-1)) := z0
                have hb1 := HN1.out hPk
                rw [hb1] at u0
                clear z0 hPk
                go_wp2_with fail
                go_round
                case rel => exact ⟨j + 1, by omega, by go_num⟩
                case measure => simp [intOf]; omega
              | some kk =>
                have z1 : w11.cell? ⟨bp, op + k, none⟩ = some (.int .i64 (kk : Int)) := z0
                clear z0 hPk
                go_wp2_with fail
                go_round
                case rel => exact ⟨j + 1, by omega, by go_num⟩
                case measure => simp [intOf]; omega
            · clear hs2 z0
              go_wp2_with fail
              go_roundw
              case rel => exact ⟨k + 1, by omega, by go_num, HB11.out⟩
              case measure => simp [intOf]; omega
        · obtain rfl : k = 3 := by omega
          have HCP := Lib.hid (impl_CountPlaced wr.heap.size wr _ (P.map numP) (by rw [List.length_map, HPn.out]; exact HPLo.out.up hb) (by rw [List.length_map, HPn.out]; omega))
          rw [cntS_numP, HN.out] at HCP
          have HBf := Lib.hid (bnext HBo.out hb)
          clear hb
          go_wp2_with fail
          refine HCP.out.mono ?_; rintro e w12 ⟨rfl, rfl⟩
          go_wp2_with fail
          go_ret
          exact ⟨by simp, HBf.out⟩
end Go.Proofs.Ytgjcmfacdnngjaa
