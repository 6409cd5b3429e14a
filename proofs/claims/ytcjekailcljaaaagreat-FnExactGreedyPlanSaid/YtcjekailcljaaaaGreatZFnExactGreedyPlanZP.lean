/- Contracts and plain facts, joined: RawI2. -/
import Derived.Test.YtcjekailcljaaaaGreatRows
import Derived.Test.YtcjekailcljaaaaGreatZFnExactGreedyPlanZO
namespace Go.Proofs.YtcjekailcljaaaaGreat
open Go.ChangeShapes Go.WideShapes Go.ChangeAt Go.RowKit Go.Deep Go.Joins
set_option linter.unusedVariables false
set_option maxRecDepth 100000
set_option linter.unusedSimpArgs false
def momsZ (m : Mdl) (rs : List Ring) : List Int := (List.range 5).map fun k => momK (m.rows.getD k []) (wallsZ rs m.zones) m.zones.length
theorem momsZ_len (m : Mdl) (rs : List Ring) : (momsZ m rs).length = 5 := by simp [momsZ]
theorem momsZ_at {m : Mdl} {rs : List Ring} {k : Nat} (h : k < (momsZ m rs).length) : (momsZ m rs)[k] = momK (m.rows.getD k []) (wallsZ rs m.zones) m.zones.length := by simp only [momsZ, List.getElem_map, List.getElem_range]
theorem impl_lip (w : World) (name : ByteArray) (rs : List Ring) (lo : Option Addr) (lc : Nat) (hR : RdR w lo lc rs) (hv : ∀ r ∈ rs, ringB r = true) (h1 : 1 ≤ rs.length) :
    Calls Tryz.prog 133 #[.agg #[.string name, .slice lo rs.length lc]] w fun e w' => e = .returned (.int .i64 ((2 : Int) * (rs[0]'(by omega)).outer)) ∧ Below w.heap.size w w' := by
  obtain ⟨W1, hW1⟩ : ∃ W1, w.alloc (.cells #[.string name, .slice lo rs.length lc] 43) = W1 := ⟨_, rfl⟩
  have b1 : Below w.heap.size w W1 := hW1 ▸ (Below.refl _ _).alloc (Nat.le_refl _) _
  have X1 : Own W1 w.heap.size 43 [.string name, .slice lo rs.length lc] := hW1 ▸ Own.new w _ _
  have x1 := X1.cell 1
  have xl := X1.lt
  have hr := ringB_nums (hv (rs[0]'(by omega)) (List.getElem_mem (by omega)))
  obtain ⟨_, lo2, lc2, ee, _, _, _, hsome⟩ := hR.up b1
  injection ee with q1 q2 q3
  subst q1 q3
  obtain ⟨b, off, eb, hbB, hc⟩ := hsome (by omega)
  subst eb
  have c0 : W1.cell? ⟨b, off, none⟩ = some (.int .i64 (rs[0]'(by omega)).outer) := by
    have := hc 0 (by omega)
    rw [Nat.add_zero] at this
    rw [this]; exact Ring_get0 rs 0 (by omega)
  have B1 := Lib.hid b1
  have hn0 : (0 : Int) < (rs.length : Int) := by omega
  have hw1 : IntKind.i64.wrap (2 * (rs[0]'(by omega)).outer) = 2 * (rs[0]'(by omega)).outer := by rw [IntKind.wrap_i64]; omega
  clear b1 X1 hc hsome hR
  go_enter Tryz.func133, Tryz.ntmps133
  go_wp2_with fail
  go_ret
  exact ⟨rfl, B1.out⟩
set_option maxHeartbeats 8000000 in
theorem impl_weighted (w : World) (zo wo bo lo : Option Addr) (zc wc bc lc : Nat) (m : Mdl) (x : Profile) (hr : RdMdl w.heap.size w (.slice zo m.zones.length zc) (.slice wo m.rows.length wc) (.slice bo m.base.length bc) m) (hmb : mdlB m = true)
    (hR : RdR w lo lc x.rings) (hv : ∀ r ∈ x.rings, ringB r = true) (h1 : 1 ≤ x.rings.length) (h32 : x.rings.length ≤ 32) (hzb : zonesB x.rings.length m.zones = true) :
    Calls Tryz.prog 112 #[.agg #[.slice zo m.zones.length zc, .slice wo m.rows.length wc, .slice bo m.base.length bc], .agg #[.string x.name, .slice lo x.rings.length lc]] w fun e w' => ∃ r, e = .returned (.tuple #[r, .int .i64 (areaZ2 x.rings)]) ∧ w'.ownsRow w.heap.size 2 1 r 5 ((momsZ m x.rings).flatMap putI) ∧ Below w.heap.size w w' := by
  obtain ⟨i0, hi, hz0, hz1, hz2⟩ := info_parts info_i64
  obtain ⟨W1, hW1⟩ : ∃ W1, w.alloc (.cells #[.slice zo m.zones.length zc, .slice wo m.rows.length wc, .slice bo m.base.length bc] 39) = W1 := ⟨_, rfl⟩
  obtain ⟨W2, hW2⟩ : ∃ W2, W1.alloc (.cells #[.string x.name, .slice lo x.rings.length lc] 43) = W2 := ⟨_, rfl⟩
  have b1 : Below w.heap.size w W1 := hW1 ▸ (Below.refl _ _).alloc (Nat.le_refl _) _
  have b2 : Below W1.heap.size W1 W2 := hW2 ▸ (Below.refl _ _).alloc (Nat.le_refl _) _
  have OM1 : Own W1 w.heap.size 39 [.slice zo m.zones.length zc, .slice wo m.rows.length wc, .slice bo m.base.length bc] := hW1 ▸ Own.new w _ _
  have OM := OM1.below b2 OM1.lt
  have OP : Own W2 W1.heap.size 43 [.string x.name, .slice lo x.rings.length lc] := hW2 ▸ Own.new W1 _ _
  have HM := Lib.hid OM
  have HP := Lib.hid OP
  have B2 := Lib.hid (bnext b1 b2)
  have HR2 := Lib.hid ((hr.up b1).up b2)
  have HRR2 := Lib.hid ((hR.up b1).up b2)
  have HZW := Lib.hid (impl_zoneWalls W2 x lo lc zo zc m.zones HRR2.out hv h1 h32 HR2.out.1 hzb)
  have z0 := OM.cell 0
  have zl := OM.lt
  have y0 := OP.cell 0
  have y1 := OP.cell 1
  have yl := OP.lt
  have HV := Lib.hid hv
  have HZB := Lib.hid hzb
  have HMB := Lib.hid hmb
  have HWLEN := Lib.hid (wallsZ_len x.rings m.zones)
  have HWB := Lib.hid (walls_bd hv hzb)
  have hm5 := (mdlB_parts hmb).2.1
  have hm5a : m.rows.length ≤ 5 := by omega
  have hm5b : 5 ≤ m.rows.length := by omega
  have hzl8 := (zonesB_parts hzb).1.2
  have hA := areaZ2_bd hv h1
  have EA : Hid (areaZ2 x.rings = divR (((2 : Int) * (x.rings[0]'(by omega)).outer) * ((2 : Int) * (x.rings[0]'(by omega)).outer)) 1000000) := Lib.hid (by unfold areaZ2; rw [head_at (by omega)])
  have hlb := lip_bd (ringB_nums (hv (x.rings[0]'(by omega)) (List.getElem_mem (by omega)))).1
  clear hr hR hv hzb hmb b1 b2 OM1 OM OP hm5
  go_enter Tryz.func112, Tryz.ntmps112
  go_wp2_with fail
  refine HZW.out.mono ?_; rintro e w3 ⟨wl, rfl, o3, b3⟩
  obtain ⟨vo, vc, er⟩ := (own_rd o3).form
  subst er
  have W3R := Lib.hid (show Rd w3.heap.size w3 (.slice vo m.zones.length vc) 1 m.zones.length ((wallsZ x.rings m.zones).flatMap putI) from own_rd o3)
  have HM3 := HM.out.below b3 HM.out.lt
  have x1 := HM3.cell 1
  have xl := HM3.lt
  have HP3 := Lib.hid (HP.out.below b3 HP.out.lt)
  have HR3 := Lib.hid (HR2.out.up b3)
  have HRR3 := Lib.hid (HRR2.out.up b3)
  have B3 := Lib.hid (bnext B2.out b3)
  clear o3 b3 HM3 z0 zl y0 y1 yl HM HP HR2 HRR2 B2 HZW hW1 hW2
  go_wp2_with fail
  generalize hq1 : W1.heap.size = q1 at *
  clear hq1
  go_loopw [7, 20] (fun r i wr => ∃ (k : Nat), k ≤ m.rows.length ∧ i = .int .i64 k ∧ wr.ownsRow w3.heap.size 2 1 r k (((momsZ m x.rings).take k).flatMap putI) ∧ Below w3.heap.size w3 wr) (fun _ i _ => m.rows.length - (intOf i).toNat)
  case atStart => exact ⟨0, Nat.zero_le _, rfl, own_nil _ _ _ _, Below.refl _ _⟩
  case round =>
    clear x1 xl
    obtain ⟨k, hk, rfl, ho, hb⟩ := hrel
    have OR := Lib.hid ho
    have BR := Lib.hid hb
    obtain ⟨ro, rc, er⟩ := (own_rd ho).form
    subst er
    by_cases hlt : k < m.rows.length
    · obtain ⟨hk1, hk2, hrl, hrb, hbb, hrg, hbg⟩ := mdl_row HMB.out (show k < 5 by omega)
      obtain ⟨wb, woff, rlo, rlc, ew, hwb0, cW, hrow⟩ := (HR3.out.up hb).2.1.at k hk1
      subst ew
      obtain ⟨row, hrow2⟩ : ∃ row, m.rows[k] = row := ⟨_, rfl⟩
      rw [hrow2] at hrl hrb cW hrow hrg
      have HROW := Lib.hid hrow
      have HRB := Lib.hid hrb
      have HWr := Lib.hid (W3R.out.up hb)
      have hr8 : row.length ≤ 8 := by omega
      have hwz : w3.heap.size ≤ wr.heap.size := hb.size
      have HSN : Hid (((momsZ m x.rings).take (k + 1)).flatMap putI = ((momsZ m x.rings).take k).flatMap putI ++ [.int .i64 (momK row (wallsZ x.rings m.zones) row.length)]) := Lib.hid (by
        rw [set_snoc putI (momsZ m x.rings) k (by rw [momsZ_len]; omega), momsZ_at, hrg, hrl]; rfl)
      have hwl : row.length ≤ (wallsZ x.rings m.zones).length := by rw [HWLEN.out]; omega
      have HRL := Lib.hid hrl
      obtain ⟨walls, hwalls⟩ : ∃ v, wallsZ x.rings m.zones = v := ⟨_, rfl⟩
      have HWE := Lib.hid hwalls
      rw [hwalls] at HSN hwl HWr
      have HWB2 : Hid (∀ v ∈ walls, 0 ≤ v ∧ v ≤ 150000) := Lib.hid (by rw [← hwalls]; exact HWB.out)
      have hwle : Hid (walls.length = m.zones.length) := Lib.hid (by rw [← hwalls]; exact HWLEN.out)
      obtain ⟨wq, rfl⟩ : ∃ wq : World, wq = wr := ⟨_, rfl⟩
      clear ho hb hrow hrow2 hrb hrg hbg hbb hrl hwalls
      go_wp2_with fail
      go_loopw [10, 26] (fun s i wr => ∃ (z : Nat), z ≤ row.length ∧ i = .int .i64 z ∧ s = .int .i64 (momK row walls z) ∧ Below wq.heap.size wq wr) (fun _ i _ => row.length - (intOf i).toNat)
      case atStart => exact ⟨0, Nat.zero_le _, rfl, rfl, Below.refl _ _⟩
      case round =>
        obtain ⟨z, hz, rfl, rfl, hb⟩ := hrel
        have HB := Lib.hid hb
        have hmb := momK_bd HRB.out HWB2.out z hz (by omega)
        by_cases hlz : z < row.length
        · have hzw : z < walls.length := by omega
          have HS := Lib.hid (momK_succ (row := row) (walls := walls) hlz hzw)
          have hm2 := mul_bd (HRB.out row[z] (List.getElem_mem hlz)) (HWB2.out walls[z] (List.getElem_mem hzw))
          have hWx : Rd wr.heap.size wr (.slice vo walls.length vc) 1 walls.length (walls.flatMap putI) := by rw [hwle.out]; exact HWr.out.up hb
          obtain ⟨rb, roff, er, hrb, cR⟩ := Rd.at (HROW.out.up hb) z hlz
          subst er
          obtain ⟨vb, voff, ev, hvb, cV⟩ := Rd.at hWx z hzw
          subst ev
          obtain ⟨p, hp⟩ : ∃ p, row[z] * walls[z] = p := ⟨_, rfl⟩
          have hw1 : IntKind.i64.wrap (row[z] * walls[z]) = p := by rw [IntKind.wrap_i64]; omega
          rw [hp] at HS hm2
          have hzI : (z : Int) < (m.zones.length : Int) := by have := HRL.out; omega
          have hzN : z < m.zones.length := by omega
          have hz0' : (0 : Int) ≤ (z : Int) := by omega
          have hsum : IntKind.i64.wrap (momK row walls z + p) = momK row walls z + p := by rw [IntKind.wrap_i64]; omega
          generalize momK row walls z = S at *
          generalize row[z] = xx at *
          generalize walls[z] = yy at *
          clear hb hWx hp
          go_wp2_with fail
          go_roundw
          case rel => exact ⟨z + 1, by omega, by go_num, by rw [HS.out], HB.out⟩
          case measure => simp [intOf]; omega
        · obtain rfl : z = row.length := by omega
          have ORr := Lib.hid (own_below OR.out hb (Nat.le_refl _))
          have hwz2 : w3.heap.size ≤ wr.heap.size := Nat.le_trans hwz hb.size
          have BRr := Lib.hid (BR.out.trans (hb.mono hwz))
          have hkk : k + 1 ≤ 5 := by omega
          generalize momK row walls row.length = V at *
          clear hb OR BR HB
          go_wp2_with (at_builtin; refine app_el rfl _ _ 22 2 i0 (.int .i64 0) 1 8 Tryz.underlying22 hi hz0 hz1 hz2 (by rfl) (by decide) rfl wr w3.heap.size _ k (((momsZ m x.rings).take k).flatMap putI) (by rfl) ORr.out [.int .i64 V] rfl (int_one _) (by rfl) (by omega) (by decide) hwz2 ?_; intro g5 gc5 w7 hown5 hB5 hz5; have HB7 := Lib.hid (hB5 wr (Below.refl _ _)); have HO5 := Lib.hid hown5; clear hown5 hB5)
          go_roundw
          case rel => exact ⟨k + 1, by omega, by go_num, by rw [HSN.out]; exact HO5.out, BRr.out.trans HB7.out⟩
          case measure => simp [intOf]; omega
    · have ek : Hid (k = 5) := Lib.hid (by omega)
      have et : Hid ((momsZ m x.rings).take k = momsZ m x.rings) := Lib.hid (List.take_of_length_le (by rw [momsZ_len, ek.out]; exact Nat.le_refl _))
      rw [et.out] at OR
      have HPr := HP3.out.below hb HP3.out.lt
      have u0 := HPr.cell 0
      have u1 := HPr.cell 1
      have ul := HPr.lt
      have HRRr := Lib.hid (HRR3.out.up hb)
      have HLIP := Lib.hid (fun (x0 : World) => impl_lip (above wr x0) x.name x.rings lo lc (HRRr.out.up (above_below wr x0)) HV.out h1)
      obtain ⟨o, hoo⟩ : ∃ o, (x.rings[0]'(by omega)).outer = o := ⟨_, rfl⟩
      rw [hoo] at HLIP EA hlb
      obtain ⟨A, hAA⟩ : ∃ A, ((2 : Int) * o) * ((2 : Int) * o) = A := ⟨_, rfl⟩
      have hwA : IntKind.i64.wrap ((2 * o) * (2 * o)) = A := by rw [IntKind.wrap_i64]; omega
      rw [hAA] at EA hlb
      have HDV := Lib.hid (fun (x0 : World) => impl_divZ A 1000000 (above wr x0) (by decide) (by decide) (by omega) (by omega))
      generalize divR A 1000000 = RV at *
      have hwz3 := hb.size
      have BB := Lib.hid (B3.out.trans (BR.out.mono B3.out.size))
      clear ho hb HPr hoo hAA HP3 HRR3
      go_wp2_with fail
      refine wp_region_above (by kernel_rfl) (by kernel_rfl) ?_
      repeat (go_big_quiet_step ((first | (go_at_call 133; exact aboveC (HLIP.out _)) | (go_at_call 113; exact aboveD (HDV.out _)))))
      refine wpQuiet_nil ?_
      intro w9 b9
      have O9 := Lib.hid (own_below OR.out b9 (Nat.le_refl _))
      have B9 := Lib.hid (BB.out.trans (b9.mono BB.out.size |> fun h => h))
      clear b9
      go_wp2_with fail
      go_ret2
      refine ⟨.slice ro k rc, by rw [EA.out]; rfl, ?_, B9.out⟩
      have e5 := ek.out
      subst e5
      exact own_baseZ O9.out B3.out.size
set_option maxHeartbeats 8000000 in
theorem impl_rawPartials (w : World) (zo wo bo lo : Option Addr) (zc wc bc lc : Nat) (m : Mdl) (x : Profile) (hr : RdMdl w.heap.size w (.slice zo m.zones.length zc) (.slice wo m.rows.length wc) (.slice bo m.base.length bc) m) (hmb : mdlB m = true)
    (hR : RdR w lo lc x.rings) (hv : ∀ r ∈ x.rings, ringB r = true) (h1 : 1 ≤ x.rings.length) (h32 : x.rings.length ≤ 32) (hzb : zonesB x.rings.length m.zones = true) :
    Calls Tryz.prog 85 #[.agg #[.slice zo m.zones.length zc, .slice wo m.rows.length wc, .slice bo m.base.length bc], .agg #[.string x.name, .slice lo x.rings.length lc]] w fun e w' => ∃ r, e = .returned r ∧ w'.ownsRow w.heap.size 2 1 r 5 ((rawZ m x.rings).flatMap putI) ∧ Below w.heap.size w w' := by
  obtain ⟨i0, hi, hz0, hz1, hz2⟩ := info_parts info_i64
  obtain ⟨W1, hW1⟩ : ∃ W1, w.alloc (.cells #[.slice zo m.zones.length zc, .slice wo m.rows.length wc, .slice bo m.base.length bc] 39) = W1 := ⟨_, rfl⟩
  obtain ⟨W2, hW2⟩ : ∃ W2, W1.alloc (.cells #[.string x.name, .slice lo x.rings.length lc] 43) = W2 := ⟨_, rfl⟩
  have b1 : Below w.heap.size w W1 := hW1 ▸ (Below.refl _ _).alloc (Nat.le_refl _) _
  have b2 : Below W1.heap.size W1 W2 := hW2 ▸ (Below.refl _ _).alloc (Nat.le_refl _) _
  have OM1 : Own W1 w.heap.size 39 [.slice zo m.zones.length zc, .slice wo m.rows.length wc, .slice bo m.base.length bc] := hW1 ▸ Own.new w _ _
  have OM := OM1.below b2 OM1.lt
  have OP : Own W2 W1.heap.size 43 [.string x.name, .slice lo x.rings.length lc] := hW2 ▸ Own.new W1 _ _
  have HM := Lib.hid OM
  have B2 := Lib.hid (bnext b1 b2)
  have HR2 := Lib.hid ((hr.up b1).up b2)
  have HWT := Lib.hid (impl_weighted W2 zo wo bo lo zc wc bc lc m x HR2.out hmb ((hR.up b1).up b2) hv h1 h32 hzb)
  have z0 := OM.cell 0
  have z1 := OM.cell 1
  have z2 := OM.cell 2
  have zl := OM.lt
  have y0 := OP.cell 0
  have y1 := OP.cell 1
  have yl := OP.lt
  have HMB := Lib.hid hmb
  have HWB := Lib.hid (walls_bd hv hzb)
  have HWLEN := Lib.hid (wallsZ_len x.rings m.zones)
  have hzl8 := (zonesB_parts hzb).1.2
  have hA := areaZ2_bd hv h1
  obtain ⟨Av, hAv⟩ : ∃ A, areaZ2 x.rings = A := ⟨_, rfl⟩
  rw [hAv] at HWT hA
  have HAV := Lib.hid hAv
  clear hr hR hv hzb hmb b1 b2 OM1 OM OP hAv
  go_enter Tryz.func85, Tryz.ntmps85
  go_wp2_with fail
  refine HWT.out.mono ?_; rintro e w3 ⟨sm, rfl, o3, b3⟩
  obtain ⟨vo, vc, er⟩ := (own_rd o3).form
  subst er
  have S3 := Lib.hid (own_rd o3)
  have HM3 := Lib.hid (HM.out.below b3 HM.out.lt)
  have HR3 := Lib.hid (HR2.out.up b3)
  have B3 := Lib.hid (bnext B2.out b3)
  clear o3 b3 z0 z1 z2 zl y0 y1 yl HM HR2 B2 HWT hW1 hW2
  go_wp2_with fail
  generalize hq1 : W1.heap.size = q1 at *
  clear hq1
  go_loopw [7, 18] (fun r i wr => ∃ (k : Nat), k ≤ 5 ∧ i = .int .i64 k ∧ wr.ownsRow w3.heap.size 2 1 r k (((rawZ m x.rings).take k).flatMap putI) ∧ Below w3.heap.size w3 wr) (fun _ i _ => 5 - (intOf i).toNat)
  case atStart => exact ⟨0, Nat.zero_le _, rfl, own_nil _ _ _ _, Below.refl _ _⟩
  case round =>
    obtain ⟨k, hk, rfl, ho, hb⟩ := hrel
    have OR := Lib.hid ho
    have BR := Lib.hid hb
    obtain ⟨ro, rc, er⟩ := (own_rd ho).form
    subst er
    by_cases hlt : k < 5
    · obtain ⟨hk1, hk2, hrl, hrb, hbb, hrg, hbg⟩ := mdl_row HMB.out hlt
      obtain ⟨bb, boff, eb, hbbl, cB⟩ := Rd.at (HR3.out.up hb).2.2 k hk2
      subst eb
      have hS : Rd wr.heap.size wr (.slice vo 5 vc) 1 (momsZ m x.rings).length ((momsZ m x.rings).flatMap putI) := by
        have := S3.out.up hb
        rw [momsZ_len]; exact this
      obtain ⟨sb, soff, es, hsb, cS⟩ := Rd.at hS k (by rw [momsZ_len]; exact hlt)
      subst es
      rw [momsZ_at] at cS
      have HMr := HM3.out.below hb HM3.out.lt
      have x2 := HMr.cell 2
      have xl := HMr.lt
      have hmo := momK_bd (row := m.rows[k]) (walls := wallsZ x.rings m.zones) hrb HWB.out m.zones.length (by omega) (by rw [HWLEN.out]; exact Nat.le_refl _)
      obtain ⟨bk, hbk⟩ : ∃ b, m.base[k] = b := ⟨_, rfl⟩
      obtain ⟨Mo, hMo⟩ : ∃ M, momK (m.rows.getD k []) (wallsZ x.rings m.zones) m.zones.length = M := ⟨_, rfl⟩
      have hmo2 : 0 ≤ Mo ∧ Mo ≤ 1200000000 := by rw [← hMo, hrg]; omega
      rw [hbk] at cB hbb
      rw [hMo] at cS
      have hpb := bm_bd hbb hmo2
      obtain ⟨P, hP⟩ : ∃ P, bk * Mo = P := ⟨_, rfl⟩
      have hw1 : IntKind.i64.wrap (bk * Mo) = P := by rw [IntKind.wrap_i64]; omega
      rw [hP] at hpb
      have HDV := Lib.hid (fun (w' : World) => impl_divZ P Av w' (by omega) (by omega) (by omega) (by omega))
      obtain ⟨Rv, hRv⟩ : ∃ R, divR P Av = R := ⟨_, rfl⟩
      rw [hRv] at HDV
      have HSN : Hid (((rawZ m x.rings).take (k + 1)).flatMap putI = ((rawZ m x.rings).take k).flatMap putI ++ [.int .i64 Rv]) := Lib.hid (by
        rw [set_snoc putI (rawZ m x.rings) k (by rw [rawZ_len]; exact hlt), rawZ_at]
        unfold rawK
        rw [hMo, hbg, hbk, HAV.out, hP, hRv]; rfl)
      have hwz : w3.heap.size ≤ wr.heap.size := hb.size
      have hkI : (k : Int) < 5 := by omega
      have hkB : (k : Int) < (m.base.length : Int) := by omega
      clear ho hb hbk hMo hP hRv hrg hbg hrb hrl hmo HMr hS
      go_wp2_with fail
      refine (HDV.out _).mono ?_; rintro e1 w6 ⟨rfl, hdr⟩
      have bdr : Below wr.heap.size wr w6 := hdr.below
      have OR6 := Lib.hid (own_below OR.out bdr (Nat.le_refl _))
      have BR6 := Lib.hid (BR.out.trans (bdr.mono hwz))
      have hwz3 : w3.heap.size ≤ w6.heap.size := Nat.le_trans hwz bdr.size
      clear bdr hdr
      go_wp2_with (at_builtin; refine app_el rfl _ _ 22 2 i0 (.int .i64 0) 1 8 Tryz.underlying22 hi hz0 hz1 hz2 (by rfl) (by decide) rfl w6 w3.heap.size _ k (((rawZ m x.rings).take k).flatMap putI) (by rfl) OR6.out [.int .i64 Rv] rfl (int_one _) (by rfl) (by omega) (by decide) hwz3 ?_; intro g5 gc5 w7 hown5 hB5 hz5; have HB7 := Lib.hid (hB5 w6 (Below.refl _ _)); have HO5 := Lib.hid hown5; clear hown5 hB5)
      go_roundw
      case rel => exact ⟨k + 1, by omega, by go_num, by rw [HSN.out]; exact HO5.out, BR6.out.trans HB7.out⟩
      case measure => simp [intOf]; omega
    · obtain rfl : k = 5 := by omega
      have et : Hid ((rawZ m x.rings).take 5 = rawZ m x.rings) := Lib.hid (List.take_of_length_le (by rw [rawZ_len]; exact Nat.le_refl _))
      rw [et.out] at OR
      clear ho hb
      go_wp2_with fail
      go_ret
      exact ⟨_, rfl, own_baseZ OR.out B3.out.size, bnext B3.out BR.out⟩
end Go.Proofs.YtcjekailcljaaaaGreat
