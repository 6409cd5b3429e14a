/- Contracts and plain facts, joined: LWFnWarble. -/
import Derived.Test.YtockglfoeagahaaGreatDoorRows
import Derived.Test.YtockglfoeagahaaGreatDoorZFnWarbleB
import Derived.Test.YtockglfoeagahaaGreatDoorZFnWarbleZQ
import Derived.Test.YtockglfoeagahaaGreatDoorZFnWarbleZS
import Derived.Deep.Cut
import Derived.Deep.CutRange
namespace Go.Proofs.YtockglfoeagahaaGreatDoor
open Go.ChangeShapes Go.WideShapes Go.ChangeAt Go.RowKit Go.Deep Go.Joins
set_option linter.unusedVariables false
set_option maxRecDepth 100000
set_option linter.unusedSimpArgs false
/-- what the law reads -/
def PackW (w : World) (v1 rv tv : Value) (ys : List UInt8) (ss ts : List Spot) : Prop := TabW w ∧ Rd w.heap.size w v1 1 ys.length (ys.flatMap putB) ∧ RdS w rv ss ∧ RdS w tv ts
theorem PackW.below {w w' : World} {v1 rv tv : Value} {ys : List UInt8} {ss ts : List Spot} (h : PackW w v1 rv tv ys ss ts) (b : Below w.heap.size w w') : PackW w' v1 rv tv ys ss ts :=
  ⟨h.1.below b, h.2.1.up b, h.2.2.1.below b, h.2.2.2.below b⟩
set_option maxHeartbeats 8000000 in
theorem FnWarble_walk (w : World) (v0 : Value) (xs : List UInt8) (k0 : Rd w.heap.size w v0 1 xs.length (xs.flatMap putB) ∧ xs.length ≤ maxLen ∧ ∀ x ∈ xs, True) (v1 : Value) (ys : List UInt8) (k1 : Rd w.heap.size w v1 1 ys.length (ys.flatMap putB) ∧ ys.length ≤ maxLen ∧ ∀ x ∈ ys, True) (hL : laidMetH Tryz.prog Rows.fnWarbleRow.laid w) (hS : w.ShapedOpen Tryz.prog) :
    Calls Tryz.prog 3 #[v0, v1] w fun e w' => e = .returned (.bool true) ∧ Below w.heap.size w w' := by
  have hL1 : laidMet Tryz.prog Rows.fnWarbleRow.laid w := hL
  have hsi : Sines w := sines_of (laid_tail (laid_tail (laid_tail (laid_tail (laid_tail (laid_tail hL1))))))
  have HT : Hid (TabW w) := Lib.hid ⟨hsi, sines_lt hsi, pow10_of (laid_tail (laid_tail hL1)), errS_of (laid_tail (laid_tail (laid_tail (laid_tail (laid_tail hL1))))), maxL_of hS⟩
  clear hsi hL hL1 hS
  obtain ⟨h0, hm0, _⟩ := k0
  obtain ⟨h1, hm1, _⟩ := k1
  have H0 := Lib.hid h0
  have H1 := Lib.hid h1
  obtain ⟨o0, c0, rfl⟩ := h0.form
  obtain ⟨o1, c1, rfl⟩ := h1.form
  have HL0 := Lib.hid (laws_b10Long w _ xs.length o0 c0 rfl)
  have HL1 := Lib.hid (laws_b10Long w _ ys.length o1 c1 rfl)
  clear h0 h1
  by_cases hn : xs.length ≤ 1048576
  case neg =>
    have tl : decide ((1048576 : Int) < (xs.length : Int)) = true := decide_eq_true (by omega)
    rw [tl] at HL0
    clear tl H0 H1 HL1
    go_enter Tryz.func3, Tryz.ntmps3
    go_wp2_with fail
    refine HL0.out.mono ?_; rintro e w1 ⟨rfl, rfl⟩
    go_wp2_with fail
    go_ret
    exact ⟨rfl, Below.refl _ _⟩
  have tl0 : decide ((1048576 : Int) < (xs.length : Int)) = false := decide_eq_false (by omega)
  rw [tl0] at HL0
  by_cases hy : ys.length ≤ 1048576
  case neg =>
    have tl : decide ((1048576 : Int) < (ys.length : Int)) = true := decide_eq_true (by omega)
    rw [tl] at HL1
    clear tl tl0 H0 H1
    go_enter Tryz.func3, Tryz.ntmps3
    go_wp2_with fail
    refine HL0.out.mono ?_; rintro e w1 ⟨rfl, rfl⟩
    go_wp2_with fail
    refine HL1.out.mono ?_; rintro e w1 ⟨rfl, rfl⟩
    go_wp2_with fail
    go_ret
    exact ⟨rfl, Below.refl _ _⟩
  have tl1 : decide ((1048576 : Int) < (ys.length : Int)) = false := decide_eq_false (by omega)
  rw [tl1] at HL1
  have HDR := Lib.hid (draw_best w _ xs H0.out hm0)
  clear tl0 tl1 hm0 H0
  go_enter Tryz.func3, Tryz.ntmps3
  go_wp2_with fail
  refine HL0.out.mono ?_; rintro e w1 ⟨rfl, rfl⟩
  go_wp2_with fail
  refine HL1.out.mono ?_; rintro e w1 ⟨rfl, rfl⟩
  go_wp2_with fail
  refine HDR.out.mono ?_; rintro e w2 ⟨rv, ss, n, m, rfl, hf, o2, hm, b2⟩
  have HF := Lib.hid hf
  have hs20 : ss.length ≤ 1048576 := by have := hf.1; omega
  have HOK := Lib.hid hf.ok
  have HMB := Lib.hid hm
  obtain ⟨ro, rc, er⟩ := (own_rd o2).form
  subst er
  have T2 := Lib.hid (HT.out.below b2)
  have R2 := Lib.hid (show RdS w2 _ ss from own_rd o2)
  have Y2 := Lib.hid (H1.out.up b2)
  have B2 := Lib.hid b2
  obtain ⟨s0, c0', hsc⟩ : ∃ s c, splitOfS ss n = (s, c) := ⟨_, _, rfl⟩
  have HSC := Lib.hid hsc
  have HSP := Lib.hid (split_one w2 _ ss n T2.out R2.out hs20 HOK.out hsc)
  clear hf hm o2 b2 hsc HDR HL0 HL1 HT H1 hn
  go_wp2_with fail
  refine HSP.out.mono ?_; rintro e w3 ⟨rfl, b3⟩
  have T3 := Lib.hid (T2.out.below b3)
  have R3 := Lib.hid (R2.out.below b3)
  have Y3 := Lib.hid (Y2.out.up b3)
  have B3 := Lib.hid (bnext B2.out b3)
  have HBY := Lib.hid (laws_b10Wide w3 _ ys _ Y3.out hy 0 (by omega) (by omega))
  clear b3 T2 R2 Y2 B2 HSP
  go_wp2_with fail
  refine HBY.out.mono ?_; rintro e w3' ⟨d, rfl, d0, d1, rfl⟩
  have HTU := Lib.hid (impl_TurnSpots w3 _ ss d R3.out hs20 HOK.out ⟨by omega, by omega⟩)
  obtain ⟨c2, hc2⟩ : ∃ c, turnC ss = c := ⟨_, rfl⟩
  rw [hc2] at HTU
  have HC2 := Lib.hid hc2
  clear hc2 HBY
  go_wp2_with fail
  refine HTU.out.mono ?_; rintro e w4 ⟨tv, rfl, o4, b4⟩
  obtain ⟨ts, hts⟩ : ∃ ts, turnS ss d = ts := ⟨_, rfl⟩
  rw [hts] at o4
  have htv : validSpotS ts = true := by rw [← hts]; exact (turnC_all ss d).2
  have htl : ts.length ≤ 1048576 := by have := (validSpotS_true htv).1; omega
  have HTV := Lib.hid htv
  have HTS := Lib.hid hts
  obtain ⟨qo, qc, er⟩ := (own_rd o4).form
  subst er
  have PK4 : Hid (PackW w4 (.slice o1 ys.length c1) (.slice ro ss.length rc) (.slice qo ts.length qc) ys ss ts) := Lib.hid ⟨T3.out.below b4, Y3.out.up b4, R3.out.below b4, own_rd o4⟩
  have B4 := Lib.hid (bnext B3.out b4)
  have HTU2 := Lib.hid (impl_TurnSpots w4 _ ts (-d) PK4.out.2.2.2 htl (valid_ok htv) ⟨by omega, by omega⟩)
  have e3 : turnC ts = 0 := by rw [← hts]; exact (turnC_all ss d).1
  rw [e3] at HTU2
  clear o4 b4 T3 R3 Y3 B3 HTU hts htv e3
  go_wp2_with fail
  refine HTU2.out.mono ?_; rintro e w5 ⟨bv, rfl, o5, b5⟩
  obtain ⟨bs, hbs⟩ : ∃ bs, turnS ts (-d) = bs := ⟨_, rfl⟩
  rw [hbs] at o5
  have hbl : bs.length ≤ 1048576 := by
    have q := (turnC_all ts (-d)).2
    rw [hbs] at q
    have := (validSpotS_true q).1; omega
  have HBS := Lib.hid hbs
  obtain ⟨bo, bc, er⟩ := (own_rd o5).form
  subst er
  have PK5 := Lib.hid (PK4.out.below b5)
  have RB5 := Lib.hid (show RdS w5 _ bs from own_rd o5)
  have B5 := Lib.hid (bnext B4.out b5)
  clear o5 b5 PK4 B4 HTU2 hbs
  go_upto_region 8 with fail
  go_cut [13, 84] from 40 to 231 (fun _ t wx => t = .bool false ∧ PackW wx (.slice o1 ys.length c1) (.slice ro ss.length rc) (.slice qo ts.length qc) ys ss ts ∧ Below w.heap.size w wx)
  case first =>
    rcases turnC_valid ss with ⟨q, hv⟩ | ⟨q, hv⟩
    · obtain rfl : c2 = 0 := by rw [← HC2.out]; exact q
      have hb : bs = ss := by rw [← HBS.out, ← HTS.out]; exact turn_back d hv
      have HSS := Lib.hid (impl_SameSpots w5 _ _ bs ss RB5.out PK5.out.2.2.1 hbl hs20)
      rw [hb, same_refl] at HSS
      have hbl2 : Hid (bs.length = ss.length) := Lib.hid (by rw [hb])
      rw [hb]
      clear q hv hb RB5
      go_wp2_with fail
      refine HSS.out.mono ?_; rintro e w6 ⟨rfl, b6⟩
      go_wp2_with fail
      go_meet
      case rel => exact ⟨rfl, PK5.out.below b6, bnext B5.out b6⟩
    · obtain rfl : c2 = 1 := by rw [← HC2.out]; exact q
      clear q hv RB5
      go_wp2_with fail
      go_meet
      case rel => exact ⟨rfl, PK5.out, B5.out⟩
  case rest =>
    obtain ⟨rfl, hp, hb⟩ := hcut
    have PK6 := Lib.hid hp
    have B6 := Lib.hid hb
    clear hp hb PK5 RB5 B5 HBS hbl
    go_upto_if 86 with fail
    go_cut [] from 40 to 231 (fun wx => PackW wx (.slice o1 ys.length c1) (.slice ro ss.length rc) (.slice qo ts.length qc) ys ss ts ∧ Below w.heap.size w wx)
    case first =>
      by_cases hc : codeW ss n = 0
      · obtain ⟨hv, hnn⟩ := codeW_zero hc
        have e := HSC.out
        rw [splitOf_ok hc] at e
        injection e with e1 e2
        obtain rfl : c0' = 0 := e2.symm
        obtain rfl : c2 = 0 := by
          rcases turnC_valid ss with ⟨q, _⟩ | ⟨_, q⟩
          · rw [← HC2.out]; exact q
          · rw [hv] at q; cases q
        obtain ⟨s1, hs1⟩ : ∃ s1, splitN n ts = s1 := ⟨_, rfl⟩
        have hd := split_turn n d hv
        rw [HTS.out, e1, hs1] at hd
        have hq0 := split_bd n hv
        have hq1 := split_bd n HTV.out
        rw [e1] at hq0
        rw [hs1] at hq1
        have HSP := Lib.hid (split_one wc _ ts n PK6.out.1 PK6.out.2.2.2 htl (valid_ok HTV.out) (s := s1) (c := 0) (by rw [splitOf_ok (codeW_ok HTV.out hnn), hs1]))
        clear e1 hs1 hc hv hnn HSC
        go_wp2_with fail
        refine HSP.out.mono ?_; rintro e w7 ⟨rfl, b7⟩
        have HAB := Lib.hid (laws_b10Abs (s1 - s0) w7 ⟨by omega, by omega⟩)
        clear HSP
        go_wp2_with fail
        refine HAB.out.mono ?_; rintro e w8 ⟨x, rfl, hx, rfl⟩
        have tx : decide (40 < x) = false := decide_eq_false (by omega)
        clear hx hd hq0 hq1 HAB
        go_wp2_with fail
        go_meet
        case rel => exact ⟨PK6.out.below b7, bnext B6.out b7⟩
      · have e := HSC.out
        rw [splitOf_no hc] at e
        injection e with e1 e2
        have tc : (c0' == 0) = false := beq_eq_false_iff_ne.2 (by rw [← e2]; exact hc)
        clear e1 e2 hc HSC
        go_wp2_with fail
        go_meet
        case rel => exact ⟨PK6.out, B6.out⟩
    case rest =>
      obtain ⟨hp, hb⟩ := hcut
      have PK7 := Lib.hid hp
      have B7 := Lib.hid hb
      clear hp hb PK6 B6 HSC HC2 HTV HTS htl
      have HBE := Lib.hid (impl_BestSpot wc _ ss n m PK7.out.1.1 PK7.out.1.2.1 PK7.out.2.2.1 hs20 HOK.out)
      obtain ⟨ba, hba⟩ : ∃ b, (bestS ss n m).1 = b := ⟨_, rfl⟩
      obtain ⟨bl, hbl⟩ : ∃ b, (bestS ss n m).2 = b := ⟨_, rfl⟩
      obtain ⟨bc, hbc⟩ : ∃ b, bestC ss n m = b := ⟨_, rfl⟩
      rw [hba, hbl, hbc] at HBE
      have HBA := Lib.hid hba
      have HBL := Lib.hid hbl
      have HBC := Lib.hid hbc
      clear hba hbl hbc
      go_wp2_with fail
      refine HBE.out.mono ?_; rintro e w8 ⟨rfl, b8⟩
      have PK8 := Lib.hid (PK7.out.below b8)
      have B8 := Lib.hid (bnext B7.out b8)
      clear b8 HBE PK7 B7
      go_upto_if 115 with fail
      go_cut [] from 40 to 231 (fun wx => PackW wx (.slice o1 ys.length c1) (.slice ro ss.length rc) (.slice qo ts.length qc) ys ss ts ∧ Below w.heap.size w wx)
      case first =>
        by_cases hb0 : bc = 0
        · subst hb0
          obtain ⟨hv, hnn, hw, hang, hadd, hval, hle, hall⟩ := best_facts HBC.out
          rw [HBA.out] at hang hadd hval hle
          rw [HBL.out] at hle
          rw [HBL.out] at hall
          have HALL := Lib.hid hall
          have HNN := Lib.hid hnn
          have HA := Lib.hid (impl_AddSpot w8 _ ss ⟨ba, m⟩ PK8.out.2.2.1 hs20 HOK.out ⟨⟨by show _ ≤ ba; omega, by show ba ≤ _; omega⟩, ⟨by show _ ≤ m; have := HMB.out; omega, by show m ≤ _; have := HMB.out; omega⟩⟩)
          rw [hadd] at HA
          obtain ⟨us, has⟩ : ∃ us, addR ss ⟨ba, m⟩ = us := ⟨_, rfl⟩
          rw [has] at HA hval hle
          have hal : us.length ≤ 1048576 := by have := (validSpotS_true hval).1; omega
          have HVA := Lib.hid hval
          have HLE := Lib.hid hle
          clear hv hnn hw hang hadd hval hle hall has
          go_wp2_with fail
          refine HA.out.mono ?_; rintro e w9 ⟨av, rfl, o9, b9⟩
          obtain ⟨ao, ac, er⟩ := (own_rd o9).form
          subst er
          have RA := Lib.hid (show RdS w9 _ us from own_rd o9)
          have PK9 := Lib.hid (PK8.out.below b9)
          have B9 := Lib.hid (bnext B8.out b9)
          have HSP := Lib.hid (split_one w9 _ us n PK9.out.1 RA.out hal (valid_ok HVA.out) (s := bl) (c := 0) (by rw [splitOf_ok (codeW_ok HVA.out HNN.out), HLE.out]))
          clear o9 b9 HA PK8 B8 RA
          go_wp2_with fail
          refine HSP.out.mono ?_; rintro e wa ⟨rfl, ba'⟩
          have PKa := Lib.hid (PK9.out.below ba')
          have Ba := Lib.hid (bnext B9.out ba')
          have HBY := Lib.hid (laws_b10Wide wa _ ys _ PKa.out.2.1 hy 2 (by omega) (by omega))
          clear ba' HSP PK9 B9 HVA HLE
          go_wp2_with fail
          refine HBY.out.mono ?_; rintro e wa' ⟨f, rfl, f0, f1, rfl⟩
          have HA2 := Lib.hid (impl_AddSpot wa _ ss ⟨f, m⟩ PKa.out.2.2.1 hs20 HOK.out ⟨⟨by show _ ≤ f; omega, by show f ≤ _; omega⟩, ⟨by show _ ≤ m; have := HMB.out; omega, by show m ≤ _; have := HMB.out; omega⟩⟩)
          obtain ⟨c8, hc8⟩ : ∃ c, addC ss ⟨f, m⟩ = c := ⟨_, rfl⟩
          obtain ⟨zs, hzs⟩ : ∃ zs, addR ss ⟨f, m⟩ = zs := ⟨_, rfl⟩
          rw [hc8, hzs] at HA2
          have HC8 := Lib.hid hc8
          have HZS := Lib.hid hzs
          clear HBY hc8 hzs
          go_wp2_with fail
          refine HA2.out.mono ?_; rintro e wb ⟨zv, rfl, ob, bb⟩
          obtain ⟨zo, zc, er⟩ := (own_rd ob).form
          subst er
          have RZ := Lib.hid (show RdS wb _ zs from own_rd ob)
          have PKb := Lib.hid (PKa.out.below bb)
          have Bb := Lib.hid (bnext Ba.out bb)
          clear ob bb HA2 PKa Ba
          by_cases h8 : c8 = 0
          · subst h8
            have q := HALL.out f ⟨f0, f1⟩ HC8.out
            rw [HZS.out] at q
            obtain ⟨s2, hs2⟩ : ∃ s2, splitN n zs = s2 := ⟨_, rfl⟩
            rw [hs2] at q
            have hzl : zs.length ≤ 1048576 := by have := (validSpotS_true q.1).1; omega
            have tq : decide (s2 < bl) = false := decide_eq_false (by omega)
            have HSP2 := Lib.hid (split_one wb _ zs n PKb.out.1 RZ.out hzl (valid_ok q.1) (s := s2) (c := 0) (by rw [splitOf_ok (codeW_ok q.1 HNN.out), hs2]))
            clear q hs2
            go_wp2_with fail
            refine HSP2.out.mono ?_; rintro e wd ⟨rfl, bd⟩
            go_wp2_with fail
            go_meet
            case rel => exact ⟨PKb.out.below bd, bnext Bb.out bd⟩
          · have t8 : (c8 == 0) = false := beq_eq_false_iff_ne.2 h8
            clear h8
            go_wp2_with fail
            go_meet
            case rel => exact ⟨PKb.out, Bb.out⟩
        · have tb : (bc == 0) = false := beq_eq_false_iff_ne.2 hb0
          clear hb0
          go_wp2_with fail
          go_meet
          case rel => exact ⟨PK8.out, B8.out⟩
      case rest =>
        obtain ⟨hp, hb⟩ := hcut
        have T9 := Lib.hid hp.1
        have B9 := Lib.hid hb
        have HDQ := Lib.hid (draw_quiet wc _ ys hp.2.1 hm1)
        clear hp hb PK8 B8 HBA HBL HBC HMB HOK HF hs20
        go_wp2_with fail
        refine HDQ.out.mono ?_; rintro e w9 ⟨pv, sp, k, l, lim, rfl, hf, o9, b9⟩
        obtain ⟨po, pc, er⟩ := (own_rd o9).form
        subst er
        have hpl : sp.length ≤ 1048576 := by have := hf.1; omega
        have RP9 := Lib.hid (show RdS w9 _ sp from own_rd o9)
        have Ta := Lib.hid (T9.out.below b9)
        have Ba := Lib.hid (bnext B9.out b9)
        have HQ := Lib.hid (impl_QuietSpots w9 _ sp k l lim Ta.out.1 Ta.out.2.1 RP9.out hpl hf.ok)
        obtain ⟨qc', hqc⟩ : ∃ c, quietC sp k l lim = c := ⟨_, rfl⟩
        obtain ⟨qs, hqs⟩ : ∃ q, quietS sp k l lim = q := ⟨_, rfl⟩
        rw [hqc, hqs] at HQ
        have HQC := Lib.hid hqc
        have HQS := Lib.hid hqs
        have HOK := Lib.hid hf.ok
        clear o9 b9 T9 B9 hqc hqs hf HDQ
        go_wp2_with fail
        refine HQ.out.mono ?_; rintro e wa ⟨qv, rfl, oa, ba⟩
        obtain ⟨ro', rc', er⟩ := (own_rd oa).form
        subst er
        have RQ := Lib.hid (show RdS wa _ qs from own_rd oa)
        have RPa := Lib.hid (RP9.out.below ba)
        have Tb := Lib.hid (Ta.out.below ba)
        have Bb := Lib.hid (bnext Ba.out ba)
        clear oa ba HQ Ta Ba RP9
        by_cases hq0 : qc' = 0
        case neg =>
          have e : qs = [] := by rw [← HQS.out]; exact quiet_no (by rw [HQC.out]; exact hq0)
          subst e
          have tq : (qc' != 0) = true := bne_iff_ne.2 hq0
          clear RQ HQS hq0
          go_wp2_with fail
          go_ret
          exact ⟨by simp, Bb.out⟩
        subst hq0
        obtain ⟨hv, hnn, hvq, hle, hor⟩ := quiet_facts HQC.out
        rw [HQS.out] at hvq hle hor
        obtain ⟨s3, hs3⟩ : ∃ s, splitN k sp = s := ⟨_, rfl⟩
        obtain ⟨s4, hs4⟩ : ∃ s, splitN k qs = s := ⟨_, rfl⟩
        rw [hs3] at hle hor
        rw [hs4] at hle
        have hql : qs.length ≤ 1048576 := by have := (validSpotS_true hvq).1; omega
        have HVQ := Lib.hid hvq
        have HOR := Lib.hid hor
        have HN := Lib.hid hnn
        have HS4 := Lib.hid hs4
        have tle : decide (s4 ≤ s3) = true := decide_eq_true hle
        have HS3 := Lib.hid (split_one wa _ sp k Tb.out RPa.out hpl HOK.out (s := s3) (c := 0) (by rw [splitOf_ok (codeW_ok hv hnn), hs3]))
        clear hv hnn hvq hor hs3 hs4 hle HQC HQS
        go_wp2_with fail
        refine HS3.out.mono ?_; rintro e wb ⟨rfl, bb⟩
        have RQb := Lib.hid (RQ.out.below bb)
        have RPb := Lib.hid (RPa.out.below bb)
        have Tc := Lib.hid (Tb.out.below bb)
        have Bc := Lib.hid (bnext Bb.out bb)
        have HSQ := Lib.hid (split_one wb _ qs k Tc.out RQb.out hql (valid_ok HVQ.out) (s := s4) (c := 0) (by rw [splitOf_ok (codeW_ok HVQ.out HN.out), HS4.out]))
        clear bb HS3 RQ RPa Tb Bb
        go_wp2_with fail
        refine HSQ.out.mono ?_; rintro e wc' ⟨rfl, bc⟩
        have RQc := Lib.hid (RQb.out.below bc)
        have RPc := Lib.hid (RPb.out.below bc)
        have Td := Lib.hid (Tc.out.below bc)
        have Bd := Lib.hid (bnext Bc.out bc)
        have HTX := Lib.hid (impl_words wc' _ qs RQc.out hql (valid_ok HVQ.out) Td.out.2.2.1)
        clear bc HSQ RQb RPb Tc Bc
        go_wp2_with fail
        refine HTX.out.mono ?_; rintro e wd' ⟨rfl, bd⟩
        have RQd := Lib.hid (RQc.out.below bd)
        have RPd := Lib.hid (RPc.out.below bd)
        have Te := Lib.hid (Td.out.below bd)
        have Be := Lib.hid (bnext Bd.out bd)
        have HRD := Lib.hid (impl_ReadSpots (spotsT qs) wd' (spots_size HVQ.out) Te.out.2.2.2.2 Te.out.2.2.1 Te.out.2.2.2.1)
        have hrd := spots_back HVQ.out
        have hrl : readL (spotsT qs) = qs := by unfold readL; rw [hrd]; rfl
        rw [hrd, hrl] at HRD
        clear bd HTX RQc RPc Td Bd hrd hrl
        go_wp2_with fail
        refine HRD.out.mono ?_; rintro e we ⟨gv, rfl, oe, be⟩
        obtain ⟨go', gc', er⟩ := (own_rd oe).form
        subst er
        have RG := Lib.hid (show RdS we _ qs from own_rd oe)
        have RQe := Lib.hid (RQd.out.below be)
        have RPe := Lib.hid (RPd.out.below be)
        have Bf := Lib.hid (bnext Be.out be)
        clear oe be HRD RQd RPd Te Be
        have HSS := Lib.hid (fun (w' : World) (v1 v2 : Value) (zs : List Spot) (h1 : RdS w' v1 zs) (h2 : RdS w' v2 zs) (hl : zs.length ≤ 1048576) => (by have q := impl_SameSpots w' v1 v2 zs zs h1 h2 hl hl; rw [same_refl] at q; exact q : Calls Tryz.prog 9 #[v1, v2] w' fun e w'' => e = .returned (.bool true) ∧ Below w'.heap.size w' w''))
        by_cases hlim : lim < s3
        · have tl : decide (lim < s3) = true := decide_eq_true hlim
          clear hlim HOR
          go_wp2_with fail
          refine (HSS.out we _ _ qs RG.out RQe.out hql).mono ?_; rintro e wf ⟨rfl, bf⟩
          go_wp2_with fail
          go_ret
          exact ⟨by simp, bnext Bf.out bf⟩
        · have tl : decide (lim < s3) = false := decide_eq_false hlim
          obtain rfl : qs = sp := HOR.out.resolve_left hlim
          clear hlim HOR
          go_wp2_with fail
          refine (HSS.out we _ _ qs RQe.out RPe.out hql).mono ?_; rintro e wf ⟨rfl, bf⟩
          have RGf := Lib.hid (RG.out.below bf)
          have RQf := Lib.hid (RQe.out.below bf)
          have Bg := Lib.hid (bnext Bf.out bf)
          clear bf RG RQe RPe Bf
          go_wp2_with fail
          refine (HSS.out wf _ _ qs RGf.out RQf.out hql).mono ?_; rintro e wg ⟨rfl, bg⟩
          go_wp2_with fail
          go_ret
          exact ⟨by simp, bnext Bg.out bg⟩
end Go.Proofs.YtockglfoeagahaaGreatDoor
