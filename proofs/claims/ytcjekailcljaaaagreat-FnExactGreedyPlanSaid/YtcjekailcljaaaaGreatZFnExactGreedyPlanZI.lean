/- Contracts and plain facts, joined: RawS3. -/
import Derived.Test.YtcjekailcljaaaaGreatRows
import Derived.Test.YtcjekailcljaaaaGreatZFnExactGreedyPlanZA
import Derived.Test.YtcjekailcljaaaaGreatZFnExactGreedyPlanZH
import Derived.Deep.RegionHeld3
namespace Go.Proofs.YtcjekailcljaaaaGreat
open Go.ChangeShapes Go.WideShapes Go.ChangeAt Go.RowKit Go.Deep Go.Joins
set_option linter.unusedVariables false
set_option maxRecDepth 100000
set_option linter.unusedSimpArgs false
set_option maxHeartbeats 8000000 in
theorem spec_l08Raw (w : World) (a p : Nat) (zo wo bo lo : Option Addr) (zc wc bc lc : Nat) (m : Mdl) (x : Profile) (hm : MdlAt w a (.slice zo m.zones.length zc) (.slice wo m.rows.length wc) (.slice bo m.base.length bc)) (hr : RdMdl w.heap.size w (.slice zo m.zones.length zc) (.slice wo m.rows.length wc) (.slice bo m.base.length bc) m) (hmb : mdlB m = true)
    (hp : ProfAt w p x lo lc) (hR : RdR w lo lc x.rings) (hv : ∀ r ∈ x.rings, ringB r = true) (h1 : 1 ≤ x.rings.length) (h32 : x.rings.length ≤ 32) (hzb : zonesB x.rings.length m.zones = true) :
    Calls Tryz.prog 33 #[.pointer (some ⟨a, 0, none⟩), .pointer (some ⟨p, 0, none⟩)] w fun e w' => ∃ r, e = .returned r ∧ w'.ownsRow w.heap.size 2 1 r 5 ((rawZ m x.rings).flatMap putI) ∧ Below w.heap.size w w' := by
  obtain ⟨i0, hi, hz0, hz1, hz2⟩ := info_parts info_i64
  have HWL := Lib.hid (spec_l08Walls w p x lo lc zo zc m.zones hp hR hv h1 h32 hr.1 hzb)
  have HM := Lib.hid hm
  have HR := Lib.hid hr
  have HP := Lib.hid hp
  have HRR := Lib.hid hR
  have HV := Lib.hid hv
  have HZB := Lib.hid hzb
  have HMB := Lib.hid hmb
  have a0 := hm.1
  have al := hm.2.2.2
  have pl := hp.2.2
  have hwl := wallsZ_len x.rings m.zones
  have HWLEN := Lib.hid hwl
  have HWB := Lib.hid (walls_bd hv hzb)
  have hA := areaZ2_bd hv h1
  have hzl := (zonesB_parts hzb).1
  clear hm hr hp hR hv hzb hmb
  go_enter Tryz.func33, Tryz.ntmps33
  go_wp2_with fail
  refine HWL.out.mono ?_; rintro e w1 ⟨wl, rfl, o1, b1⟩
  obtain ⟨vo, vc, er⟩ := (own_rd o1).form
  subst er
  have W1R := Lib.hid (show Rd w1.heap.size w1 (.slice vo m.zones.length vc) 1 m.zones.length ((wallsZ x.rings m.zones).flatMap putI) from own_rd o1)
  have B1 := Lib.hid b1
  have HM1 := Lib.hid (HM.out.below b1 al)
  have HR1 := Lib.hid (HR.out.up b1)
  have HP1 := Lib.hid (HP.out.below b1 pl)
  have HRR1 := Lib.hid (HRR.out.up b1)
  have O2 : Hid ((w1.alloc (.cells #[] 2)).ownsRow w1.heap.size 2 1 (.slice (some ⟨w1.heap.size, 0, none⟩) 0 0) 0 []) := Lib.hid (own_empty w1 w1.heap.size _ 1 (Nat.le_refl _))
  have B2 : Hid (Below w1.heap.size w1 (w1.alloc (.cells #[] 2))) := Lib.hid ((Below.refl _ _).alloc (Nat.le_refl _) _)
  have z1 := b1.size
  clear o1 b1 a0 HM HR HP HRR
  go_wp2_with fail
  go_loopw [6, 7] (fun r i wr => ∃ (k : Nat), k ≤ 5 ∧ i = .int .i64 k ∧ wr.ownsRow w1.heap.size 2 1 r k (((rawZ m x.rings).take k).flatMap putI) ∧ Below w1.heap.size w1 wr) (fun _ i _ => 5 - (intOf i).toNat)
  case atStart => exact ⟨0, Nat.zero_le _, rfl, O2.out, B2.out⟩
  case round =>
    clear O2 B2
    obtain ⟨k, hk, rfl, ho, hb⟩ := hrel
    have OR := Lib.hid ho
    have BR := Lib.hid hb
    obtain ⟨ro, rc, er⟩ := (own_rd ho).form
    subst er
    by_cases hlt : k < 5
    · obtain ⟨hk1, hk2, hrl, hrb, hbb, hrg, hbg⟩ := mdl_row HMB.out hlt
      obtain ⟨bb, boff, rfl, hbb1, cB1⟩ := Rd.at HR1.out.2.2 k hk2
      have cB := (hb.cell (p := ⟨bb, boff + k, none⟩) hbb1).trans cB1
      have hbbl : bb < wr.heap.size := Nat.lt_of_lt_of_le hbb1 hb.size
      have al1 : a < w1.heap.size := HM1.out.2.2.2
      clear cB1
      have a2 := (hb.cell (p := ⟨a, 2, none⟩) HM1.out.2.2.2).trans HM1.out.2.2.1
      have alr : a < wr.heap.size := Nat.lt_of_lt_of_le HM1.out.2.2.2 hb.size
      have hmo := momK_bd (row := m.rows[k]) (walls := wallsZ x.rings m.zones) hrb HWB.out m.zones.length (by omega) (by rw [HWLEN.out]; exact Nat.le_refl _)
      obtain ⟨bk, hbk⟩ : ∃ b, m.base[k] = b := ⟨_, rfl⟩
      obtain ⟨Mo, hMo⟩ : ∃ M, momK (m.rows.getD k []) (wallsZ x.rings m.zones) m.zones.length = M := ⟨_, rfl⟩
      have hmo2 : 0 ≤ Mo ∧ Mo ≤ 1200000000 := by rw [← hMo, hrg]; omega
      obtain ⟨Av, hAv⟩ : ∃ A, areaZ2 x.rings = A := ⟨_, rfl⟩
      have hA2 : 1 ≤ Av ∧ Av ≤ 90000 := by rw [← hAv]; exact hA
      rw [hbk] at cB hbb
      have hpb := bm_bd hbb hmo2
      obtain ⟨P, hP⟩ : ∃ P, bk * Mo = P := ⟨_, rfl⟩
      have hw1 : IntKind.i64.wrap (bk * Mo) = P := by rw [IntKind.wrap_i64]; omega
      rw [hP] at hpb
      obtain ⟨Rv, hRv⟩ : ∃ R, divR P Av = R := ⟨_, rfl⟩
      have HSN : Hid (((rawZ m x.rings).take (k + 1)).flatMap putI = ((rawZ m x.rings).take k).flatMap putI ++ [.int .i64 Rv]) := Lib.hid (by
        rw [set_snoc putI (rawZ m x.rings) k (by rw [rawZ_len]; exact hlt), rawZ_at]
        unfold rawK
        rw [hMo, hbg, hbk, hAv, hP, hRv]; rfl)
      have HMOM := Lib.hid (fun (w' : World) (h : Below wr.heap.size wr w') => (by
        have hb2 := bnext hb h
        have q := spec_l08Moment w' a _ _ wo vo wc vc m (wallsZ x.rings m.zones) k (HM1.out.below hb2 HM1.out.2.2.2) (HR1.out.up hb2).2.1 HMB.out hlt (by rw [HWLEN.out]; exact W1R.out.up hb2) HWLEN.out HWB.out
        rw [HWLEN.out, hMo] at q
        exact q : Calls Tryz.prog 69 #[.pointer (some ⟨a, 0, none⟩), .slice vo m.zones.length vc, .int .i64 k] w' fun e w'' => e = .returned (.int .i64 Mo) ∧ Below w'.heap.size w' w''))
      have HARE := Lib.hid (fun (w' : World) (h : Below wr.heap.size wr w') => (by
        have hb2 := bnext hb h
        have q := spec_l08Area w' p x lo lc (HP1.out.below hb2 HP1.out.2.2) (HRR1.out.up hb2) HV.out h1 h32
        rw [hAv] at q
        exact q : Calls Tryz.prog 70 #[.pointer (some ⟨p, 0, none⟩)] w' fun e w'' => e = .returned (.int .i64 Av) ∧ Below w'.heap.size w' w''))
      have HDIV := Lib.hid (fun (w' : World) => (by
        have q := spec_divZ P Av w' (by omega) (by omega) (by omega) (by omega)
        rw [hRv] at q
        exact q : Calls Tryz.prog 68 #[.int .i64 P, .int .i64 Av] w' fun e w'' => e = .returned (.int .i64 Rv) ∧ w' = w''))
      have hz1r : w1.heap.size ≤ wr.heap.size := hb.size
      have hkI : (k : Int) < (m.base.length : Int) := by omega
      have hk0 : (0 : Int) ≤ (k : Int) := by omega
      have A2 := Lib.hid a2
      have CB := Lib.hid cB
      clear ho hb hbk hMo hAv hP hRv hrg hbg hrb hrl hmo
      go_wp2_with fail
      go_region_held3 (fun w' => w'.cell? ⟨a, 2, none⟩ = some (.slice (some ⟨bb, boff, none⟩) m.base.length bc) ∧ w'.cell? ⟨bb, boff + k, none⟩ = some (.int .i64 bk)) (first | (go_keep; done) | (refine ⟨?_, ?_⟩ <;> (first | (go_keep; done) | (simp [go_sem, a2, cB, alr, hbbl]; done)))) (first
        | (rw [if_pos (by rfl)]; refine stp_el _ _ 22 2 i0 (.int .i64 0) 1 8 Tryz.underlying22 hi hz0 hz1 hz2 rfl (by decide) rfl w6 w1.heap.size (.slice ro k rc) k (((rawZ m x.rings).take k).flatMap putI) (by rfl) (own_below OR.out T6 (Nat.le_refl _)) [.int .i64 Rv] rfl (int_one _) (by first | rfl | (rw [World.size_alloc]; rfl)) (by omega) (by decide) (Nat.le_trans hz1r T6.size) (by rfl) ?_; intro g7 gc7 w7 hown7 hB7 hK7; have B7 := Lib.hid (hB7 w6 (Below.refl _ _)); have O7 := Lib.hid hown7; have TT6 := Lib.hid T6; have a2 := (B7.out.cell (p := ⟨a, 2, none⟩) al1).trans a2; have cB := (B7.out.cell (p := ⟨bb, boff + k, none⟩) hbb1).trans cB; clear hown7 hB7 hK7)
        | (go_at_call 69; refine (HMOM.out _ (by (repeat' (first | (with_reducible exact Below.refl _ _) | (with_reducible assumption) | (with_reducible refine below_dn ?_ _) | (with_reducible refine Below.drew ?_) | (with_reducible refine Below.alloc ?_ ?_ _) | (with_reducible refine Below.setCell ?_ ?_ _) | go_size)))).mono ?_; rintro e w6 ⟨rfl, b6⟩; have T6 : Below wr.heap.size wr w6 := bnext (by (repeat' (first | (with_reducible exact Below.refl _ _) | (with_reducible assumption) | (with_reducible refine below_dn ?_ _) | (with_reducible refine Below.drew ?_) | (with_reducible refine Below.alloc ?_ ?_ _) | (with_reducible refine Below.setCell ?_ ?_ _) | go_size))) b6; have a2 := (T6.cell (p := ⟨a, 2, none⟩) alr).trans A2.out; have cB := (T6.cell (p := ⟨bb, boff + k, none⟩) hbbl).trans CB.out; clear b6)
        | (go_at_call 70; refine (HARE.out _ (by (repeat' (first | (with_reducible exact Below.refl _ _) | (with_reducible assumption) | (with_reducible refine below_dn ?_ _) | (with_reducible refine Below.drew ?_) | (with_reducible refine Below.alloc ?_ ?_ _) | (with_reducible refine Below.setCell ?_ ?_ _) | go_size)))).mono ?_; rintro e w6 ⟨rfl, b6⟩; have T6 : Below wr.heap.size wr w6 := bnext (by (repeat' (first | (with_reducible exact Below.refl _ _) | (with_reducible assumption) | (with_reducible refine below_dn ?_ _) | (with_reducible refine Below.drew ?_) | (with_reducible refine Below.alloc ?_ ?_ _) | (with_reducible refine Below.setCell ?_ ?_ _) | go_size))) b6; have a2 := (T6.cell (p := ⟨a, 2, none⟩) alr).trans A2.out; have cB := (T6.cell (p := ⟨bb, boff + k, none⟩) hbbl).trans CB.out; clear b6)
        | (go_at_call 68; refine (HDIV.out _).mono ?_; rintro e w8 ⟨rfl, rfl⟩))
      go_wp2_with fail
      go_roundw
      case rel => exact ⟨k + 1, by omega, by go_num, by rw [HSN.out]; exact O7.out, (bnext BR.out TT6.out).trans B7.out⟩
      case measure => simp [intOf]; omega
    · obtain rfl : k = 5 := by omega
      have et : Hid ((rawZ m x.rings).take 5 = rawZ m x.rings) := Lib.hid (List.take_of_length_le (by rw [rawZ_len]; exact Nat.le_refl _))
      rw [et.out] at OR
      clear ho hb
      go_wp2_with fail
      go_ret
      exact ⟨_, rfl, own_baseZ OR.out z1, bnext B1.out BR.out⟩
end Go.Proofs.YtcjekailcljaaaaGreat
