/- Contracts and plain facts, joined: RawS, DevS. -/
import Derived.Test.YtcjekailcljaaaaGreatRows
import Derived.Test.YtcjekailcljaaaaGreatZFnExactGreedyPlanZ
import Derived.Test.YtcjekailcljaaaaGreatZFnExactGreedyPlanZA
import Derived.Deep.Cut
import Derived.Deep.CutRange
import Derived.Deep.RegionHeld3
namespace Go.Proofs.YtcjekailcljaaaaGreat
open Go.ChangeShapes Go.WideShapes Go.ChangeAt Go.RowKit Go.Deep Go.Joins
set_option linter.unusedVariables false
set_option maxRecDepth 100000
set_option linter.unusedSimpArgs false
theorem int_one (v : Int) : ∀ u ∈ [Value.int .i64 v], u.oneCell' = true := by
  intro u hu; rw [List.mem_singleton.1 hu]; rfl
set_option maxHeartbeats 8000000 in
theorem spec_l08Walls (w : World) (p : Nat) (x : Profile) (lo : Option Addr) (lc : Nat) (zo : Option Addr) (zc : Nat) (zs : List Int) (hp : ProfAt w p x lo lc) (hR : RdR w lo lc x.rings) (hv : ∀ r ∈ x.rings, ringB r = true) (h1 : 1 ≤ x.rings.length) (h32 : x.rings.length ≤ 32)
    (hz : Rd w.heap.size w (.slice zo zs.length zc) 1 zs.length (zs.flatMap putI)) (hzb : zonesB x.rings.length zs = true) :
    Calls Tryz.prog 67 #[.pointer (some ⟨p, 0, none⟩), .slice zo zs.length zc] w fun e w' => ∃ r, e = .returned r ∧ w'.ownsRow w.heap.size 2 1 r zs.length ((wallsZ x.rings zs).flatMap putI) ∧ Below w.heap.size w w' := by
  obtain ⟨i0, hi, hz0, hz1, hz2⟩ := info_parts info_i64
  have HP := Lib.hid hp
  have HZ := Lib.hid hz
  have HV := Lib.hid hv
  have HRR := Lib.hid hR
  have HZB := Lib.hid hzb
  have hzl := (zonesB_parts hzb).1
  have hwl := wallsZ_len x.rings zs
  have HWL := Lib.hid hwl
  obtain ⟨n, hn⟩ : ∃ n, x.rings.length = n := ⟨_, rfl⟩
  have HN := Lib.hid hn
  have hpl := hp.2.2
  have hn32 : n ≤ 32 := by omega
  have hn1 : 1 ≤ n := by omega
  unfold RdR at HRR
  unfold ProfAt at HP
  rw [hn] at HZB HP HRR
  generalize x.rings = rs at *
  have O1 : Hid ((w.alloc (.cells #[] 2)).ownsRow w.heap.size 2 1 (.slice (some ⟨w.heap.size, 0, none⟩) 0 0) 0 []) := Lib.hid (own_empty w w.heap.size _ 1 (Nat.le_refl _))
  have B1 : Hid (Below w.heap.size w (w.alloc (.cells #[] 2))) := Lib.hid ((Below.refl _ _).alloc (Nat.le_refl _) _)
  clear hp hR hv hz hzb hn h1 h32 hwl
  go_enter Tryz.func67, Tryz.ntmps67
  go_wp2_with fail
  go_loopw [5, 6] (fun r i wr => ∃ (z : Nat), z ≤ zs.length ∧ i = .int .i64 z ∧ wr.ownsRow w.heap.size 2 1 r z (((wallsZ rs zs).take z).flatMap putI) ∧ Below w.heap.size w wr) (fun _ i _ => zs.length - (intOf i).toNat)
  case atStart => exact ⟨0, Nat.zero_le _, rfl, O1.out, B1.out⟩
  case round =>
    clear O1 B1
    obtain ⟨z, hz, rfl, ho, hb⟩ := hrel
    have OR := Lib.hid ho
    have BR := Lib.hid hb
    obtain ⟨ro, rc, er⟩ := (own_rd ho).form
    subst er
    by_cases hlt : z < zs.length
    · have hzf := zone_facts (zs := zs) (n := n) HZB.out hlt
      obtain ⟨f1, f2, f3, f4, _⟩ := hzf
      obtain ⟨zb, zoff, rfl, hzbl, cz⟩ := Rd.at (HZ.out.up hb) z hlt
      rw [f1] at cz
      have hcn : Hid (∀ (h : z + 1 < zs.length), wr.cell? ⟨zb, zoff + (z + 1), none⟩ = some (.int .i64 (bndZ zs n (z + 1) : Int))) := Lib.hid (fun h => by
        obtain ⟨zb', zoff', e', _, cz'⟩ := Rd.at (HZ.out.up hb) (z + 1) h
        injection e' with e'
        injection e' with e1 e2 e3
        subst e1 e2
        rw [cz', ← zEnd_next (n := n) h, f4])
      have hel : Hid (¬ z + 1 < zs.length → bndZ zs n (z + 1) = n) := Lib.hid (fun h => bndZ_end h)
      have EW : Hid (wallZ rs zs z = divR (sumW rs (bndZ zs n z) (bndZ zs n (z + 1) - bndZ zs n z)) ((bndZ zs n (z + 1) - bndZ zs n z : Nat) : Int)) := Lib.hid (by unfold wallZ; rw [HN.out])
      obtain ⟨F, hF⟩ : ∃ F, bndZ zs n z = F := ⟨_, rfl⟩
      obtain ⟨E, hE⟩ : ∃ E, bndZ zs n (z + 1) = E := ⟨_, rfl⟩
      rw [hF] at cz f2 EW
      rw [hE] at f2 f3 hcn hel EW
      have p1 := (hb.cell (p := ⟨p, 1, none⟩) hpl).trans HP.out.2.1
      have plr : p < wr.heap.size := Nat.lt_of_lt_of_le hpl hb.size
      have hwz : w.heap.size ≤ wr.heap.size := hb.size
      have HRr := Lib.hid (HRR.out.up hb)
      have PL := Lib.hid p1
      have CZ := Lib.hid cz
      obtain ⟨wq, rfl⟩ : ∃ wq : World, wq = wr := ⟨_, rfl⟩
      clear ho hb f1 f4 hF hE
      go_upto_if 26 with fail
      go_cut [7] from 11 to 70 (fun e wx => e = .int .i64 (E : Int) ∧ wq = wx)
      case first =>
        by_cases hz1' : z + 1 < zs.length
        · have c2 := hcn.out hz1'
          have t1 : decide ((z : Int) + 1 < (zs.length : Int)) = true := decide_eq_true (by omega)
          have t2 : decide (z + 1 < zs.length) = true := decide_eq_true hz1'
          have t3 : (z : Int) + 1 < (zs.length : Int) := by omega
          go_wp2_with fail
          go_meet
          case rel => exact ⟨rfl, rfl⟩
        · have t1 : decide ((z : Int) + 1 < (zs.length : Int)) = false := decide_eq_false (by omega)
          have t2 : decide (z + 1 < zs.length) = false := decide_eq_false hz1'
          have t3 : (zs.length : Int) ≤ (z : Int) + 1 := by omega
          have hnE : E = n := hel.out hz1'
          subst hnE
          go_wp2_with fail
          go_meet
          case rel => exact ⟨rfl, rfl⟩
      case rest =>
        obtain ⟨rfl, hw⟩ := hcut
        subst hw
        have cz := CZ.out
        clear hcn hel
        go_wp2_with fail
        go_loopw [8, 9] (fun s i wr => ∃ (k : Nat), F ≤ k ∧ k ≤ E ∧ i = .int .i64 k ∧ s = .int .i64 (sumW rs F (k - F)) ∧ Below wq.heap.size wq wr) (fun _ i _ => E - (intOf i).toNat)
        case atStart => exact ⟨F, Nat.le_refl _, Nat.le_of_lt f2, rfl, by rw [Nat.sub_self]; rfl, Below.refl _ _⟩
        case round =>
          obtain ⟨k, hFk, hkE, rfl, rfl, hb⟩ := hrel
          have HB := Lib.hid hb
          have p1 := (hb.cell (p := ⟨p, 1, none⟩) plr).trans PL.out
          have pl2 : p < wr.heap.size := Nat.lt_of_lt_of_le plr hb.size
          by_cases hke : k < E
          · have tk : decide (k < E) = true := decide_eq_true hke
            have hke1 : k + 1 ≤ E := hke
            have hkn : k < n := by omega
            have hkr : k < rs.length := by rw [HN.out]; exact hkn
            have hrv := ringB_nums (HV.out rs[k] (List.getElem_mem hkr))
            have HS := Lib.hid (show sumW rs F (k + 1 - F) = sumW rs F (k - F) + (rs[k].outer - rs[k].inner) from by
              rw [show k + 1 - F = (k - F) + 1 by omega, sumW_succ (by omega)]
              have e : F + (k - F) = k := by omega
              simp only [e]; rfl)
            have hsb := sumW_bd HV.out F (k - F) (by omega)
            obtain ⟨_, ro2, rc2, ee, _, _, _, hsome⟩ := HRr.out
            injection ee with q1 q2 q3
            subst q1 q3
            obtain ⟨b, off, rfl, hbB, hc⟩ := hsome (by omega)
            have c0 : wr.cell? ⟨b, off + k * 3, none⟩ = some (.int .i64 rs[k].outer) := by rw [show off + k * 3 = off + (k * 3 + 0) from by omega, hb.cell (p := ⟨b, off + (k * 3 + 0), none⟩) hbB, hc (k * 3 + 0) (by omega), Ring_get0 rs k hkr]
            have c1 : wr.cell? ⟨b, off + k * 3 + 1, none⟩ = some (.int .i64 rs[k].inner) := by rw [show off + k * 3 + 1 = off + (k * 3 + 1) from by omega, hb.cell (p := ⟨b, off + (k * 3 + 1), none⟩) hbB, hc (k * 3 + 1) (by omega), Ring_get1 rs k hkr]
            have hbr : b < wr.heap.size := Nat.lt_of_lt_of_le hbB hb.size
            have hkI : (k : Int) < (n : Int) := by omega
            have hk0 : (0 : Int) ≤ (k : Int) := by omega
            have hkF32 : k - F ≤ 32 := by omega
            generalize sumW rs F (k - F) = S at *
            generalize rs[k].outer = oo at *
            generalize rs[k].inner = ii at *
            clear hc hsome hb hke q2
            go_wp2_with fail
            refine wp_region_above (by kernel_rfl) (by kernel_rfl) ?_
            repeat (go_big_quiet_step ((fail)))
            refine wpQuiet_nil ?_
            intro w1 b1
            have HB1 := Lib.hid (HB.out.trans (b1.mono HB.out.size)); clear b1
            go_wp2_with fail
            go_roundw
            case rel => exact ⟨k + 1, by omega, by omega, by go_num, by rw [HS.out], HB1.out⟩
            case measure => simp [intOf]; omega
          · obtain rfl : k = E := by omega
            have tk : decide (k < k) = false := decide_eq_false (by omega)
            have cz2 : wr.cell? ⟨zb, zoff + z, none⟩ = some (.int .i64 (F : Int)) := (hb.cell (p := ⟨zb, zoff + z, none⟩) hzbl).trans CZ.out
            have hzb2 : zb < wr.heap.size := Nat.lt_of_lt_of_le hzbl hb.size
            have hsb := sumW_bd HV.out F (k - F) (by rw [HN.out]; omega)
            have ec : ((k - F : Nat) : Int) = (k : Int) - F := by omega
            rw [ec] at EW
            have hdv := Lib.hid (spec_divZ (sumW rs F (k - F)) ((k : Int) - F) wr (by omega) (by omega) (by omega) (by omega))
            obtain ⟨V, hV⟩ : ∃ V, divR (sumW rs F (k - F)) ((k : Int) - F) = V := ⟨_, rfl⟩
            rw [hV] at hdv EW
            have HSN : Hid (((wallsZ rs zs).take (z + 1)).flatMap putI = ((wallsZ rs zs).take z).flatMap putI ++ [.int .i64 V]) := Lib.hid (by
              rw [set_snoc putI (wallsZ rs zs) z (by rw [HWL.out]; exact hlt), wallsZ_at, EW.out]; rfl)
            have ORr := Lib.hid (own_below OR.out hb (Nat.le_refl _))
            have hwz2 : w.heap.size ≤ wr.heap.size := Nat.le_trans hwz hb.size
            have BRr := Lib.hid (BR.out.trans (hb.mono hwz))
            have hsub : 0 < (k : Int) - F := by omega
            generalize sumW rs F (k - F) = S at *
            clear hb ec hV p1 pl2 HB OR BR EW
            go_wp2_with fail
            refine hdv.out.mono ?_; rintro e1 w4 ⟨rfl, rfl⟩
            go_wp2_with (at_builtin; refine app_el rfl _ _ 22 2 i0 (.int .i64 0) 1 8 Tryz.underlying22 hi hz0 hz1 hz2 (by rfl) (by decide) rfl wr w.heap.size _ z (((wallsZ rs zs).take z).flatMap putI) (by rfl) ORr.out [.int .i64 V] rfl (int_one _) (by rfl) (by omega) (by decide) hwz2 ?_; intro g5 gc5 w5 hown5 hB5 hz5; have HB5 := Lib.hid (hB5 wr (Below.refl _ _)); have HO5 := Lib.hid hown5; clear hown5 hB5)
            go_roundw
            case rel => exact ⟨z + 1, by omega, by go_num, by rw [HSN.out]; exact HO5.out, BRr.out.trans HB5.out⟩
            case measure => simp [intOf]; omega
    · obtain rfl : z = zs.length := by omega
      have et : Hid ((wallsZ rs zs).take zs.length = wallsZ rs zs) := Lib.hid (List.take_of_length_le (by rw [HWL.out]; exact Nat.le_refl _))
      rw [et.out] at OR
      clear ho hb
      go_wp2_with fail
      go_ret
      exact ⟨_, rfl, OR.out, BR.out⟩
end Go.Proofs.YtcjekailcljaaaaGreat
namespace Go.Proofs.YtcjekailcljaaaaGreat
open Go.ChangeShapes Go.WideShapes Go.ChangeAt Go.RowKit Go.Deep Go.Joins
set_option linter.unusedVariables false
set_option maxRecDepth 100000
set_option linter.unusedSimpArgs false
def goalL (g : GoalX) : List Int := [g.a, g.b, g.c, g.d, g.e]
def sndL (R : List Int) : Bool := sndP (R.getD 0 0) (R.getD 1 0) (R.getD 2 0) (R.getD 3 0) (R.getD 4 0)
theorem sndL_all {R : List Int} (h5 : R.length = 5) (h : sndL R = true) : ∀ z ∈ R, 10000 ≤ z ∧ z ≤ 20000000 := by
  obtain ⟨a, b, c, d, e, rfl⟩ := list5 h5
  exact (sndP_parts h).1
theorem goalL_all {g : GoalX} (h : goalB g = true) : ∀ z ∈ goalL g, 10000 ≤ z ∧ z ≤ 20000000 := (sndP_parts (goalB_parts h).1).1
set_option maxHeartbeats 8000000 in
theorem spec_l10Dev (w : World) (q : Nat) (g : GoalX) (ro : Option Addr) (rc : Nat) (R : List Int) (hg : GoalAt w q g) (hgb : goalB g = true) (h5 : R.length = 5) (h : Rd w.heap.size w (.slice ro 5 rc) 1 5 (R.flatMap putI)) :
    Calls Tryz.prog 32 #[.pointer (some ⟨q, 0, none⟩), .slice ro 5 rc] w fun e w' => (if sndL R = true then ∃ r, e = .returned (.tuple #[r, .bool true]) ∧ w'.ownsRow w.heap.size 2 1 r 5 ((devZ (goalL g) R).flatMap putI) else e = .returned (.tuple #[.slice none 0 0, .bool false])) ∧ Below w.heap.size w w' := by
  obtain ⟨i0, hi, hz0, hz1, hz2⟩ := info_parts info_i64
  have HGB := Lib.hid hgb
  have HG := Lib.hid hg
  have ql := hg.2.2.2.2.2.2.2
  have H := Lib.hid h
  obtain ⟨a, b, c, d, e, hRe⟩ := list5 h5
  have HSD := Lib.hid (spec_sound w (.slice ro 5 rc) a b c d e (by rw [← hRe]; exact h))
  have HRE := Lib.hid hRe
  have hsn : sndL R = sndP a b c d e := by rw [hRe]; rfl
  have H5 := Lib.hid h5
  clear hg h hRe hgb h5
  obtain ⟨sb, hsb⟩ : ∃ s, sndL R = s := ⟨_, rfl⟩
  have HSB := Lib.hid hsb
  rw [hsb] at hsn ⊢
  have HSN := Lib.hid hsn.symm
  have HGA := Lib.hid (goalL_all HGB.out)
  have hG5 : (goalL g).length = 5 := rfl
  obtain ⟨G, hG⟩ : ∃ G, goalL g = G := ⟨_, rfl⟩
  rw [hG] at HGA hG5 ⊢
  have HG5 := Lib.hid hG5
  have HGE := Lib.hid hG
  clear hsb hsn hG hG5
  go_enter Tryz.func32, Tryz.ntmps32
  go_wp2_with fail
  refine HSD.out.mono ?_; rintro e1 w1 ⟨rfl, b1⟩
  obtain ⟨W2, hW2⟩ : ∃ W2, w1.alloc (.cells #[.int .i64 a, .int .i64 b, .int .i64 c, .int .i64 d, .int .i64 e] 45) = W2 := ⟨_, rfl⟩
  have b2 : Below w1.heap.size w1 W2 := hW2 ▸ (Below.refl _ _).alloc (Nat.le_refl _) _
  have O2 : Own W2 w1.heap.size 45 [.int .i64 a, .int .i64 b, .int .i64 c, .int .i64 d, .int .i64 e] := hW2 ▸ Own.new w1 _ _
  have HOK := Lib.hid (spec_l04OkZ W2 w1.heap.size a b c d e (O2.cell 0) (O2.cell 1) (O2.cell 2) (O2.cell 3) (O2.cell 4) O2.lt)
  rw [HSN.out] at HOK
  have B2 := Lib.hid (bnext b1 b2)
  clear b1 b2 O2 HSD
  subst hW2
  go_wp2_with fail
  refine HOK.out.mono ?_; rintro e1 w3 ⟨rfl, b3⟩
  have B3 := Lib.hid (bnext B2.out b3)
  clear b3 HOK B2
  cases sb
  · go_wp2_with fail
    refine bodyPost_ret (v := .tuple #[.slice none 0 0, .bool false]) (by simp [results, Tryz.results32, go_sem]) rfl ?_
    exact ⟨rfl, B3.out⟩
  have hgq := HG.out.below B3.out ql
  have HLI := Lib.hid (spec_l04ListZ w3 q g.a g.b g.c g.d g.e hgq.1 hgq.2.1 hgq.2.2.1 hgq.2.2.2.1 hgq.2.2.2.2.1 hgq.2.2.2.2.2.2.2)
  clear hgq
  go_wp2_with fail
  refine HLI.out.mono ?_; rintro e1 w4 ⟨rfl, o4, b4⟩
  have L4 : Hid (Rd w4.heap.size w4 (.slice (some ⟨w3.heap.size, 0, none⟩) 5 5) 1 G.length (G.flatMap putI)) := Lib.hid (by rw [← HGE.out]; exact rd5 o4)
  have B4 := Lib.hid (bnext B3.out b4)
  have R4 := Lib.hid (H.out.up B4.out)
  have HRA := Lib.hid (sndL_all H5.out HSB.out)
  have O5 : Hid ((w4.alloc (.cells #[] 2)).ownsRow w4.heap.size 2 1 (.slice (some ⟨w4.heap.size, 0, none⟩) 0 0) 0 []) := Lib.hid (own_empty w4 w4.heap.size _ 1 (Nat.le_refl _))
  have B5 : Hid (Below w4.heap.size w4 (w4.alloc (.cells #[] 2))) := Lib.hid ((Below.refl _ _).alloc (Nat.le_refl _) _)
  have z4 := B4.out.size
  clear b4 o4 HLI HG H
  generalize hq3 : w3.heap.size = q3 at *
  clear hq3
  go_wp2_with fail
  go_loopw [8, 9] (fun r i wr => ∃ (k : Nat), k ≤ 5 ∧ i = .int .i64 k ∧ wr.ownsRow w4.heap.size 2 1 r k (((devZ G R).take k).flatMap putI) ∧ Below w4.heap.size w4 wr) (fun _ i _ => 5 - (intOf i).toNat)
  case atStart => exact ⟨0, Nat.zero_le _, rfl, O5.out, B5.out⟩
  case round =>
    clear O5 B5
    obtain ⟨k, hk, rfl, ho, hb⟩ := hrel
    have OR := Lib.hid ho
    have BR := Lib.hid hb
    obtain ⟨so, sc, er⟩ := (own_rd ho).form
    subst er
    by_cases hlt : k < 5
    · have hkG : k < G.length := by rw [HG5.out]; exact hlt
      have hkR : k < R.length := by rw [H5.out]; exact hlt
      obtain ⟨gb, goff, eg, hgb4, cG4⟩ := Rd.at L4.out k hkG
      injection eg with eg
      injection eg with eg1 eg2 eg3
      subst eg1 eg2
      clear eg3
      rw [Nat.zero_add] at cG4
      have cG := (hb.cell (p := ⟨q3, k, none⟩) hgb4).trans cG4
      have hgbl : q3 < wr.heap.size := Nat.lt_of_lt_of_le hgb4 hb.size
      obtain ⟨rb, roff, rfl, hrb4, cR4⟩ := Rd.at (show Rd w4.heap.size w4 (.slice ro 5 rc) 1 R.length (R.flatMap putI) by rw [H5.out]; exact R4.out) k hkR
      have cR := (hb.cell (p := ⟨rb, roff + k, none⟩) hrb4).trans cR4
      have hrbl : rb < wr.heap.size := Nat.lt_of_lt_of_le hrb4 hb.size
      clear cG4 cR4
      have hga := HGA.out G[k] (List.getElem_mem hkG)
      have hra := HRA.out R[k] (List.getElem_mem hkR)
      have HSNC := Lib.hid (congrArg (List.flatMap putI) (devZ_take hkG hkR))
      obtain ⟨gv, hgv⟩ : ∃ z, G[k] = z := ⟨_, rfl⟩
      obtain ⟨rv, hrv⟩ : ∃ z, R[k] = z := ⟨_, rfl⟩
      rw [hgv] at cG hga HSNC
      rw [hrv] at cR hra HSNC
      rw [List.flatMap_append] at HSNC
      have HCE := Lib.hid (fun (w' : World) => spec_cents gv rv w' hga hra)
      obtain ⟨cv, hcv⟩ : ∃ z, centI gv rv = z := ⟨_, rfl⟩
      rw [hcv] at HCE HSNC
      have HSN2 : Hid (((devZ G R).take (k + 1)).flatMap putI = ((devZ G R).take k).flatMap putI ++ [.int .i64 cv]) := Lib.hid HSNC.out
      have hz4r : w4.heap.size ≤ wr.heap.size := hb.size
      have hkI : (k : Int) < 5 := by omega
      have hk0 : (0 : Int) ≤ (k : Int) := by omega
      have CG := Lib.hid cG
      have CR := Lib.hid cR
      clear ho hb hgv hrv hcv HSNC hga hra
      go_wp2_with fail
      go_region_held3 (fun w' => w'.cell? ⟨q3, k, none⟩ = some (.int .i64 gv) ∧ w'.cell? ⟨rb, roff + k, none⟩ = some (.int .i64 rv)) (first | (go_keep; done) | (refine ⟨?_, ?_⟩ <;> (first | (go_keep; done) | (simp [go_sem, cG, cR, hgbl, hrbl]; done)))) (first
        | (rw [if_pos (by rfl)]; refine stp_el _ _ 22 2 i0 (.int .i64 0) 1 8 Tryz.underlying22 hi hz0 hz1 hz2 rfl (by decide) rfl w6 w4.heap.size (.slice so k sc) k (((devZ G R).take k).flatMap putI) (by rfl) (own_below OR.out T6 (Nat.le_refl _)) [.int .i64 cv] rfl (int_one _) (by first | rfl | (rw [World.size_alloc]; rfl)) (by omega) (by decide) (Nat.le_trans hz4r T6.size) (by rfl) ?_; intro g7 gc7 w7 hown7 hB7 hK7; have B7 := Lib.hid (hB7 w6 (Below.refl _ _)); have O7 := Lib.hid hown7; have TT6 := Lib.hid T6; have cG := (B7.out.cell (p := ⟨q3, k, none⟩) hgb4).trans cG; have cR := (B7.out.cell (p := ⟨rb, roff + k, none⟩) hrb4).trans cR; clear hown7 hB7 hK7)
        | (go_at_call 66; refine (HCE.out _).mono ?_; rintro e w6 ⟨rfl, b6⟩; have T6 : Below wr.heap.size wr w6 := bnext (by (repeat' (first | (with_reducible exact Below.refl _ _) | (with_reducible assumption) | (with_reducible refine below_dn ?_ _) | (with_reducible refine Below.drew ?_) | (with_reducible refine Below.alloc ?_ ?_ _) | (with_reducible refine Below.setCell ?_ ?_ _) | go_size))) b6; have cG := (T6.cell (p := ⟨q3, k, none⟩) hgbl).trans CG.out; have cR := (T6.cell (p := ⟨rb, roff + k, none⟩) hrbl).trans CR.out; clear b6))
      go_wp2_with fail
      go_roundw
      case rel => exact ⟨k + 1, by omega, by go_num, by rw [HSN2.out]; exact O7.out, (bnext BR.out TT6.out).trans B7.out⟩
      case measure => simp [intOf]; omega
    · obtain rfl : k = 5 := by omega
      have et : Hid ((devZ G R).take 5 = devZ G R) := Lib.hid (List.take_of_length_le (by rw [devZ_len HG5.out H5.out]; exact Nat.le_refl _))
      rw [et.out] at OR
      clear ho hb
      go_wp2_with fail
      refine bodyPost_ret (v := .tuple #[.slice so 5 sc, .bool true]) (by simp [results, Tryz.results32, go_sem]) rfl ?_
      exact ⟨⟨_, rfl, own_baseZ OR.out z4⟩, bnext B4.out BR.out⟩
end Go.Proofs.YtcjekailcljaaaaGreat
