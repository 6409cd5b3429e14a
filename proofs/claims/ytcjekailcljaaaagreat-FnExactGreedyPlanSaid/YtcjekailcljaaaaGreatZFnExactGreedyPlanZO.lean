/- Contracts and plain facts, joined: RawI. -/
import Derived.Test.YtcjekailcljaaaaGreatRows
import Derived.Test.YtcjekailcljaaaaGreatZFnExactGreedyPlanZI
namespace Go.Proofs.YtcjekailcljaaaaGreat
open Go.ChangeShapes Go.WideShapes Go.ChangeAt Go.RowKit Go.Deep Go.Joins
set_option linter.unusedVariables false
set_option maxRecDepth 100000
set_option linter.unusedSimpArgs false
theorem impl_wall (r : Ring) (w : World) (h : ringB r = true) : Calls Tryz.prog 141 #[.agg #[.int .i64 r.outer, .int .i64 r.inner, .int .i64 r.height]] w fun e w' => e = .returned (.int .i64 (wallR r)) ∧ Below w.heap.size w w' := by
  have hr := ringB_nums h
  have hw : IntKind.i64.wrap (r.outer - r.inner) = r.outer - r.inner := by rw [IntKind.wrap_i64]; omega
  have B0 : Hid (Below w.heap.size w (w.alloc (.cells #[.int .i64 r.outer, .int .i64 r.inner, .int .i64 r.height] 123))) := Lib.hid ((Below.refl _ _).alloc (Nat.le_refl _) _)
  unfold wallR
  go_enter Tryz.func141, Tryz.ntmps141
  go_wp2_with fail
  all_goals first | (go_quiet (fail); go_wp2_with fail; go_ret; exact ⟨rfl, by have := B0.out; (repeat' (first | (with_reducible exact Below.refl _ _) | (with_reducible assumption) | (with_reducible refine below_dn ?_ _) | (with_reducible refine Below.drew ?_) | (with_reducible refine Below.alloc ?_ ?_ _) | (with_reducible refine Below.setCell ?_ ?_ _) | go_size))⟩) | (go_ret; exact ⟨rfl, by have := B0.out; (repeat' (first | (with_reducible exact Below.refl _ _) | (with_reducible assumption) | (with_reducible refine below_dn ?_ _) | (with_reducible refine Below.drew ?_) | (with_reducible refine Below.alloc ?_ ?_ _) | (with_reducible refine Below.setCell ?_ ?_ _) | go_size))⟩)
set_option maxHeartbeats 8000000 in
theorem impl_zoneWalls (w : World) (x : Profile) (lo : Option Addr) (lc : Nat) (zo : Option Addr) (zc : Nat) (zs : List Int) (hR : RdR w lo lc x.rings) (hv : ∀ r ∈ x.rings, ringB r = true) (h1 : 1 ≤ x.rings.length) (h32 : x.rings.length ≤ 32)
    (hz : Rd w.heap.size w (.slice zo zs.length zc) 1 zs.length (zs.flatMap putI)) (hzb : zonesB x.rings.length zs = true) :
    Calls Tryz.prog 132 #[.agg #[.string x.name, .slice lo x.rings.length lc], .slice zo zs.length zc] w fun e w' => ∃ r, e = .returned r ∧ w'.ownsRow w.heap.size 2 1 r zs.length ((wallsZ x.rings zs).flatMap putI) ∧ Below w.heap.size w w' := by
  obtain ⟨i0, hi, hz0, hz1, hz2⟩ := info_parts info_i64
  obtain ⟨W1, hW1⟩ : ∃ W1, w.alloc (.cells #[.string x.name, .slice lo x.rings.length lc] 43) = W1 := ⟨_, rfl⟩
  have b1 : Below w.heap.size w W1 := hW1 ▸ (Below.refl _ _).alloc (Nat.le_refl _) _
  have X1 : Own W1 w.heap.size 43 [.string x.name, .slice lo x.rings.length lc] := hW1 ▸ Own.new w _ _
  have HX := Lib.hid X1
  have B1 := Lib.hid b1
  have HZ := Lib.hid (hz.up b1)
  have HV := Lib.hid hv
  have HRR := Lib.hid (hR.up b1)
  have HZB := Lib.hid hzb
  have hzl := (zonesB_parts hzb).1
  have hwl := wallsZ_len x.rings zs
  have HWL := Lib.hid hwl
  obtain ⟨n, hn⟩ : ∃ n, x.rings.length = n := ⟨_, rfl⟩
  have HN := Lib.hid hn
  have hn32 : n ≤ 32 := by omega
  have hn1 : 1 ≤ n := by omega
  have hxl : w.heap.size < W1.heap.size := X1.lt
  unfold RdR at HRR
  rw [hn] at HZB HRR HX hW1 ⊢
  generalize x.rings = rs at *
  clear hR hv hz hzb hn h1 h32 hwl b1 X1
  go_enter Tryz.func132, Tryz.ntmps132
  go_wp2_with fail
  go_loopw [5, 14] (fun r i wr => ∃ (z : Nat), z ≤ zs.length ∧ i = .int .i64 z ∧ wr.ownsRow W1.heap.size 2 1 r z (((wallsZ rs zs).take z).flatMap putI) ∧ Below W1.heap.size W1 wr) (fun _ i _ => zs.length - (intOf i).toNat)
  case atStart => exact ⟨0, Nat.zero_le _, rfl, own_nil _ _ _ _, Below.refl _ _⟩
  case round =>
    clear hW1
    obtain ⟨z, hz, rfl, ho, hb⟩ := hrel
    have OR := Lib.hid ho
    have BR := Lib.hid hb
    obtain ⟨ro, rc, er⟩ := (own_rd ho).form
    subst er
    by_cases hlt : z < zs.length
    · obtain ⟨f1, f2, f3, f4, _⟩ := zone_facts (zs := zs) (n := n) HZB.out hlt
      obtain ⟨zb, zoff, ez, hzbl, cz⟩ := Rd.at (HZ.out.up hb) z hlt
      subst ez
      rw [f1] at cz
      have EW : Hid (wallZ rs zs z = divR (sumW rs (bndZ zs n z) (bndZ zs n (z + 1) - bndZ zs n z)) ((bndZ zs n (z + 1) - bndZ zs n z : Nat) : Int)) := Lib.hid (by unfold wallZ; rw [HN.out])
      have HZE := Lib.hid (impl_zoneEnd wr x.name lo n lc _ zc zs z hlt (HZ.out.up hb) (by omega) (by omega))
      rw [f4] at HZE
      obtain ⟨F, hF⟩ : ∃ F, bndZ zs n z = F := ⟨_, rfl⟩
      obtain ⟨E, hE⟩ : ∃ E, bndZ zs n (z + 1) = E := ⟨_, rfl⟩
      rw [hF] at cz f2 EW
      rw [hE] at f2 f3 EW HZE
      have HXr := HX.out.below hb HX.out.lt
      have x0 := HXr.cell 0
      have x1 := HXr.cell 1
      have xl := HXr.lt
      have hwz : W1.heap.size ≤ wr.heap.size := hb.size
      obtain ⟨_, lo2, lc2, ee, hcap, hmax, _, hsome⟩ := HRR.out.up hb
      injection ee with q1 q2 q3
      subst q1 q3
      obtain ⟨b, off, eb, hbB, hcc⟩ := hsome (by omega)
      subst eb
      have HCC := Lib.hid hcc
      have hFn : (F : Int) ≤ (n : Int) := by omega
      have hcapF : ¬ lc = F := by omega
      clear ho hb f1 f4 hF hE hcc hsome q2 HXr
      go_wp2_with fail
      refine HZE.out.mono ?_; rintro e1 w5 ⟨rfl, b5⟩
      have x1' := (b5.cell (p := ⟨w.heap.size, 1, none⟩) xl).trans x1
      have xl' : w.heap.size < w5.heap.size := Nat.lt_of_lt_of_le xl b5.size
      have HB5 := Lib.hid b5
      clear b5 HZE
      go_wp2_with fail
      have hbw5 : b < w5.heap.size := Nat.lt_of_lt_of_le hbB HB5.out.size
      have hEF : F < E := f2
      obtain ⟨D, hD⟩ : ∃ D, E - F = D := ⟨_, rfl⟩
      have HD := Lib.hid hD
      have hDE : F + D = E := by omega
      have hFDn : F + D ≤ n := by omega
      have HDE := Lib.hid hDE
      rw [hD] at EW ⊢
      clear hD hDE x0 x1 x1' xl'
      go_loopw [8, 29] (fun s i wr => ∃ (d : Nat), d ≤ D ∧ i = .int .i64 d ∧ s = .int .i64 (sumW rs F d) ∧ Below w5.heap.size w5 wr) (fun _ i _ => D - (intOf i).toNat)
      case atStart => exact ⟨0, Nat.zero_le _, rfl, rfl, Below.refl _ _⟩
      case round =>
        obtain ⟨d, hd, rfl, rfl, hb⟩ := hrel
        have HB := Lib.hid hb
        have hsb := sumW_bd HV.out F d (by rw [HN.out]; omega)
        by_cases hdl : d < D
        · have td : decide (d < D) = true := decide_eq_true hdl
          have hkr : F + d < rs.length := by rw [HN.out]; omega
          have hrB := HV.out (rs[F + d]'hkr) (List.getElem_mem hkr)
          have HS := Lib.hid (sumW_succ (rs := rs) (a := F) (d := d) hkr)
          have hwr := ringB_nums hrB
          have HWA := Lib.hid (fun w' => impl_wall (rs[F + d]'hkr) w' hrB)
          have hc3 : ∀ j, j < 3 → (wr.cell? ⟨b, off + F * 3 + d * 3 + j, none⟩ = (rs.flatMap Ring.put)[(F + d) * 3 + j]?) := fun j hj => by
            have e1 : off + F * 3 + d * 3 + j = off + ((F + d) * 3 + j) := by omega
            rw [e1, hb.cell (p := ⟨b, _, none⟩) hbw5, HB5.out.cell (p := ⟨b, _, none⟩) hbB]
            exact HCC.out _ (by omega)
          have c0 : wr.cell? ⟨b, off + F * 3 + d * 3, none⟩ = some (.int .i64 (rs[F + d]'hkr).outer) := (hc3 0 (by omega)).trans (Ring_get0 rs (F + d) hkr)
          have c1 : wr.cell? ⟨b, off + F * 3 + d * 3 + 1, none⟩ = some (.int .i64 (rs[F + d]'hkr).inner) := (hc3 1 (by omega)).trans (Ring_get1 rs (F + d) hkr)
          have c2 : wr.cell? ⟨b, off + F * 3 + d * 3 + 2, none⟩ = some (.int .i64 (rs[F + d]'hkr).height) := (hc3 2 (by omega)).trans (Ring_get2 rs (F + d) hkr)
          have hbr : b < wr.heap.size := Nat.lt_of_lt_of_le hbw5 hb.size
          have hd1 : d + 1 ≤ D := hdl
          have hwb : 0 ≤ wallR (rs[F + d]'hkr) ∧ wallR (rs[F + d]'hkr) ≤ 150000 := by unfold wallR; omega
          have hd32 : d ≤ 32 := by omega
          generalize rs[F + d]'hkr = r at *
          have BA : Hid (Below w5.heap.size w5 (wr.alloc (.cells #[.int .i64 r.outer, .int .i64 r.inner, .int .i64 r.height] 123))) := Lib.hid (hb.alloc hb.size _)
          generalize sumW rs F d = S at *
          generalize wallR r = wv at *
          clear hb hc3 hwr hrB hdl
          go_wp2_with fail
          refine (HWA.out _).mono ?_; rintro e1 w6 ⟨rfl, b6⟩
          have HB6 := Lib.hid (BA.out.trans (b6.mono BA.out.size)); clear b6
          go_wp2_with fail
          go_roundw
          case rel => exact ⟨d + 1, by omega, by go_num, by rw [HS.out], HB6.out⟩
          case measure => simp [intOf]; omega
        · obtain rfl : d = D := by omega
          have td : decide (d < d) = false := decide_eq_false (by omega)
          have ec : ((d : Nat) : Int) = (E : Int) - F := by have := HDE.out; omega
          rw [ec] at EW
          have hdv := Lib.hid (impl_divZ (sumW rs F d) ((E : Int) - F) wr (by omega) (by omega) (by omega) (by omega))
          obtain ⟨V, hV⟩ : ∃ V, divR (sumW rs F d) ((E : Int) - F) = V := ⟨_, rfl⟩
          rw [hV] at hdv EW
          have HSN : Hid (((wallsZ rs zs).take (z + 1)).flatMap putI = ((wallsZ rs zs).take z).flatMap putI ++ [.int .i64 V]) := Lib.hid (by
            rw [set_snoc putI (wallsZ rs zs) z (by rw [HWL.out]; exact hlt), wallsZ_at, EW.out]; rfl)
          have hb9 := HB5.out.trans (hb.mono HB5.out.size)
          have ORr := Lib.hid (own_below OR.out hb9 (Nat.le_refl _))
          have hwz2 : W1.heap.size ≤ wr.heap.size := Nat.le_trans hwz hb9.size
          have BRr := Lib.hid (BR.out.trans (hb9.mono hwz))
          generalize sumW rs F d = S at *
          clear hb ec hV HB OR BR EW hb9
          go_wp2_with fail
          refine hdv.out.mono ?_; rintro e1 w6 ⟨rfl, hdr⟩
          have bdr : Below wr.heap.size wr w6 := hdr.below
          have OR6 := Lib.hid (own_below ORr.out bdr (Nat.le_refl _))
          have BR6 := Lib.hid (BRr.out.trans (bdr.mono hwz2))
          have hwz3 : W1.heap.size ≤ w6.heap.size := Nat.le_trans hwz2 bdr.size
          clear bdr hdr
          go_wp2_with (at_builtin; refine app_el rfl _ _ 22 2 i0 (.int .i64 0) 1 8 Tryz.underlying22 hi hz0 hz1 hz2 (by rfl) (by decide) rfl w6 W1.heap.size _ z (((wallsZ rs zs).take z).flatMap putI) (by rfl) OR6.out [.int .i64 V] rfl (int_one _) (by rfl) (by omega) (by decide) hwz3 ?_; intro g5 gc5 w7 hown5 hB5 hz5; have HB7 := Lib.hid (hB5 w6 (Below.refl _ _)); have HO5 := Lib.hid hown5; clear hown5 hB5)
          go_roundw
          case rel => exact ⟨z + 1, by omega, by go_num, by rw [HSN.out]; exact HO5.out, BR6.out.trans HB7.out⟩
          case measure => simp [intOf]; omega
    · obtain rfl : z = zs.length := by omega
      have et : Hid ((wallsZ rs zs).take zs.length = wallsZ rs zs) := Lib.hid (List.take_of_length_le (by rw [HWL.out]; exact Nat.le_refl _))
      rw [et.out] at OR
      clear ho hb
      go_wp2_with fail
      go_ret
      exact ⟨_, rfl, own_baseZ OR.out (by omega), bnext B1.out BR.out⟩
end Go.Proofs.YtcjekailcljaaaaGreat
