/- Contracts and plain facts, joined: ApplyS2, RawS2. -/
import Derived.Test.YtcjekailcljaaaaGreatRows
import Derived.Test.YtcjekailcljaaaaGreatZFnExactDeviationsAfterZF
import Derived.Test.YtcjekailcljaaaaGreatZFnExactDeviationsAfterZJ
namespace Go.Proofs.YtcjekailcljaaaaGreat
open Go.ChangeShapes Go.WideShapes Go.ChangeAt Go.RowKit Go.Deep Go.Joins
set_option linter.unusedVariables false
set_option maxRecDepth 100000
set_option linter.unusedSimpArgs false
theorem turned_len (x : Profile) (zs : List Int) (cs : List Cut) : (afterX x zs cs).rings.length = x.rings.length := by show (turnedS zs (sumsS cs) x.rings).length = _; unfold turnedS; rw [midT_len]
theorem applyCode_no {x : Profile} {zs : List Int} {cs : List Cut} (h : cutCode zs cs ≠ 0) : applyCode x zs cs = cutCode zs cs := by unfold applyCode; rw [if_neg h]
theorem applyCode_if {x : Profile} {zs : List Int} {cs : List Cut} (h : cutCode zs cs = 0) : applyCode x zs cs = if profB (afterX x zs cs) = true then 0 else 6 := by unfold applyCode; rw [if_pos h]
/-- the result of cuts: a code, or a profile in blocks of its own -/
def Applied (base : Nat) (w' : World) (x : Profile) (zs : List Int) (cs : List Cut) (e : Ending) : Prop :=
  (applyCode x zs cs ≠ 0 ∧ e = .returned (.tuple #[.agg #[.string ⟨#[]⟩, .slice none 0 0], .int .i64 (applyCode x zs cs)])) ∨
  (applyCode x zs cs = 0 ∧ ∃ g c, e = .returned (.tuple #[.agg #[.string x.name, .slice (some ⟨g, 0, none⟩) (afterX x zs cs).rings.length c], .int .i64 0]) ∧ RdR w' (some ⟨g, 0, none⟩) c (afterX x zs cs).rings)
set_option maxHeartbeats 2000000 in
theorem spec_l09Apply (w : World) (p : Nat) (x : Profile) (lo zo co : Option Addr) (lc zc cc : Nat) (zs : List Int) (cs : List Cut) (hp : ProfAt w p x lo lc) (hs : x.name.size ≤ maxLen) (hR : RdR w lo lc x.rings) (hz : Rd w.heap.size w (.slice zo zs.length zc) 1 zs.length (zs.flatMap putI)) (hzn : zs.length ≤ 1048576)
    (hc : Rd w.heap.size w (.slice co cs.length cc) 2 cs.length (cs.flatMap Cut.put)) (hx : profB x = true) (hzb : zonesB x.rings.length zs = true) (hcb : cutsB cs = true) :
    Calls Tryz.prog 31 #[.pointer (some ⟨p, 0, none⟩), .slice zo zs.length zc, .slice co cs.length cc] w fun e w' => Applied w.heap.size w' x zs cs e ∧ Below w.heap.size w w' := by
  obtain ⟨n1, n32, hv, _⟩ := profB_true hx
  obtain ⟨z1, z8⟩ := (zonesB_parts hzb).1
  have hpz : pzB x zs = true := by unfold pzB; rw [hx, hzb]; rfl
  obtain ⟨W1, hW1⟩ : ∃ W1, w.alloc (.cells #[.string ⟨#[]⟩, .slice none 0 0] 43) = W1 := ⟨_, rfl⟩
  have b1 : Below w.heap.size w W1 := hW1 ▸ (Below.refl _ _).alloc (Nat.le_refl _) _
  have R1 : Own W1 w.heap.size 43 [.string ⟨#[]⟩, .slice none 0 0] := hW1 ▸ Own.new w _ _
  have HA := Lib.hid (spec_l09Ask W1 p x lo zo co lc zc cc zs cs (hp.below b1 hp.2.2) hs (hR.up b1) (by omega) (hz.up b1) hzn (hc.up b1) hpz hcb)
  have HP := Lib.hid (hp.below b1 hp.2.2)
  have HRR := Lib.hid (hR.up b1)
  have HZ := Lib.hid (hz.up b1)
  have HC := Lib.hid (hc.up b1)
  have HCB := Lib.hid hcb
  have HV := Lib.hid hv
  have B1 := Lib.hid b1
  have HR1 := Lib.hid R1
  have e1 : w.heap.size < W1.heap.size := R1.lt
  obtain ⟨cd, hcd⟩ : ∃ c, cutCode zs cs = c := ⟨_, rfl⟩
  have HCD := Lib.hid hcd
  rw [hcd] at HA
  clear hp hR hz hc hx hzb hcb hv hpz b1 R1 hcd
  go_enter Tryz.func31, Tryz.ntmps31
  go_wp2_with fail
  refine HA.out.mono ?_; rintro e w2 ⟨rfl, b2⟩
  have HP2 := Lib.hid (HP.out.below b2 HP.out.2.2)
  have HRR2 := Lib.hid (HRR.out.up b2)
  have HZ2 := Lib.hid (HZ.out.up b2)
  have HC2 := Lib.hid (HC.out.up b2)
  have R2 := HR1.out.below b2 HR1.out.lt
  have HR2 := Lib.hid R2
  have B2 := Lib.hid (bnext B1.out b2)
  have z12 := b2.size
  clear b2 HA HP HRR HZ HC HR1 B1
  by_cases h0 : cd = 0
  case neg =>
    have E := Lib.hid (applyCode_no (x := x) (HCD.out ▸ h0))
    have t0 : (cd != 0) = true := by simp [h0]
    have H0 := Lib.hid h0
    have r0 : w2.cell? ⟨w.heap.size, 0, none⟩ = some (.string ⟨#[]⟩) := R2.cell 0
    have r1 : w2.cell? ⟨w.heap.size, 1, none⟩ = some (.slice none 0 0) := R2.cell 1
    have f0 := R2.free 0
    have f1 := R2.free 1
    have rl := R2.lt
    clear R2 HR2 HP2 HRR2 HZ2 HC2 h0 hW1
    go_wp2_with fail
    refine bodyPost_ret (v := .tuple #[.agg #[.string ⟨#[]⟩, .slice none 0 0], .int .i64 cd]) (by simp [results, Tryz.results31, go_sem, r0, r1, f0, f1, rl]) rfl ?_
    refine ⟨Or.inl ⟨by rw [E.out, HCD.out]; exact H0.out, by rw [E.out, HCD.out]⟩, ?_⟩
    exact Below.setCell (Below.setCell B2.out (Nat.le_refl _) _) (Nat.le_refl _) _
  subst h0
  have E := Lib.hid (applyCode_if (x := x) HCD.out)
  have HSU := Lib.hid (spec_l09Sums w2 co cc cs HC2.out HCB.out)
  clear R2 HC2 hW1
  go_wp2_with fail
  refine HSU.out.mono ?_; rintro e w3 ⟨g3, rfl, hg3, o3, b3⟩
  have HT := Lib.hid (spec_l09Turned w3 p x lo lc zo (some ⟨g3, 0, none⟩) zc 8 zs (sumsS cs) (HP2.out.below b3 HP2.out.2.2) (HRR2.out.up b3) HV.out n1 n32 (HZ2.out.up b3) z1 z8 (own_sums o3) (by rw [sumsS_len]; exact z8) (by rw [sumsS_len]; omega) (sumsS_bd HCB.out))
  rw [sumsS_len] at HT
  have HR3 := Lib.hid (HR2.out.below b3 HR2.out.lt)
  have B3 := Lib.hid (bnext B2.out b3)
  have z23 := b3.size
  clear b3 o3 HSU HR2 HP2 HRR2 HZ2 B2
  go_wp2_with fail
  refine HT.out.mono ?_; rintro e w4 ⟨g, c, rfl, o4, b4⟩
  have HL := Lib.hid (turned_len x zs cs)
  have HRX : Hid (RdR w4 (some ⟨g, 0, none⟩) c (afterX x zs cs).rings) := Lib.hid (by
    have := own_rd o4
    unfold RdR
    rw [HL.out]
    exact this)
  have HD := Lib.hid (spec_l07DoneX w4 (afterX x zs cs) (some ⟨g, 0, none⟩) c hs HRX.out (by rw [HL.out]; omega))
  rw [HL.out] at HD
  have HR4 := Lib.hid (HR3.out.below b4 HR3.out.lt)
  have B4 := Lib.hid (bnext B3.out b4)
  have z34 := b4.size
  have O4 := Lib.hid o4
  clear b4 o4 HT HR3 B3
  obtain ⟨pb, hpb⟩ : ∃ b, profB (afterX x zs cs) = b := ⟨_, rfl⟩
  have HPB := Lib.hid hpb
  rw [hpb] at HD
  clear hpb
  have hnm : (afterX x zs cs).name = x.name := rfl
  rw [hnm] at HD
  clear hnm
  go_wp2_with fail
  refine HD.out.mono ?_; rintro e w5 ⟨he, b5⟩
  have R5 := HR4.out.below b5 HR4.out.lt
  have r0 : w5.cell? ⟨w.heap.size, 0, none⟩ = some (.string ⟨#[]⟩) := R5.cell 0
  have r1 : w5.cell? ⟨w.heap.size, 1, none⟩ = some (.slice none 0 0) := R5.cell 1
  have f0 := R5.free 0
  have f1 := R5.free 1
  have rl := R5.lt
  have O5 := Lib.hid (own_below O4.out b5 (Nat.le_refl _))
  have B5 := Lib.hid (bnext B4.out b5)
  clear b5 R5 HR4 HRX B4 HD O4
  cases pb
  · rw [if_neg (by intro q; cases q)] at he
    subst he
    go_wp2_with fail
    refine bodyPost_ret (v := .tuple #[.agg #[.string ⟨#[]⟩, .slice none 0 0], .int .i64 6]) (by simp [results, Tryz.results31, go_sem, r0, r1, f0, f1, rl]) rfl ?_
    have E6 : applyCode x zs cs = 6 := by rw [E.out, HPB.out]; rfl
    refine ⟨Or.inl ⟨by rw [E6]; decide, by rw [E6]⟩, ?_⟩
    exact Below.setCell (Below.setCell B5.out (Nat.le_refl _) _) (Nat.le_refl _) _
  · rw [if_pos rfl] at he
    subst he
    go_wp2_with fail
    refine bodyPost_ret (v := .tuple #[.agg #[.string x.name, .slice (some ⟨g, 0, none⟩) x.rings.length c], .int .i64 0]) (by simp [results, Tryz.results31, go_sem, r0, r1, f0, f1, rl]) rfl ?_
    have E6 : applyCode x zs cs = 0 := by rw [E.out, HPB.out]; rfl
    refine ⟨Or.inr ⟨E6, g, c, by rw [HL.out], ?_⟩, ?_⟩
    · have hax : ∀ g', (Value.slice (some ⟨g, 0, none⟩) x.rings.length c).ownBlock = some g' → g' ≠ w.heap.size := fun g' hg' => (by
        have h3 := (O5.out.lt g' hg').1
        omega)
      have := own_rd (own_farZ (own_farZ O5.out hax 0 (.string x.name)) hax 1 (.slice (some ⟨g, 0, none⟩) x.rings.length c))
      unfold RdR
      rw [HL.out]
      exact this
    · exact Below.setCell (Below.setCell B5.out (Nat.le_refl _) _) (Nat.le_refl _) _
end Go.Proofs.YtcjekailcljaaaaGreat
namespace Go.Proofs.YtcjekailcljaaaaGreat
open Go.ChangeShapes Go.WideShapes Go.ChangeAt Go.RowKit Go.Deep Go.Joins
set_option linter.unusedVariables false
set_option maxRecDepth 100000
set_option linter.unusedSimpArgs false
set_option maxHeartbeats 4000000 in
theorem spec_l08Moment (w : World) (a : Nat) (zv bv : Value) (wo vo : Option Addr) (wc vc : Nat) (m : Mdl) (walls : List Int) (k : Nat) (hm : MdlAt w a zv (.slice wo m.rows.length wc) bv) (hr : RdL w.heap.size w (.slice wo m.rows.length wc) m.rows) (hmb : mdlB m = true) (hk : k < 5)
    (hw : Rd w.heap.size w (.slice vo walls.length vc) 1 walls.length (walls.flatMap putI)) (hwl : walls.length = m.zones.length) (hwb : ∀ x ∈ walls, 0 ≤ x ∧ x ≤ 150000) :
    Calls Tryz.prog 69 #[.pointer (some ⟨a, 0, none⟩), .slice vo walls.length vc, .int .i64 k] w fun e w' => e = .returned (.int .i64 (momK (m.rows.getD k []) walls walls.length)) ∧ Below w.heap.size w w' := by
  obtain ⟨h1, h2, hrl, hrb, hbb, hrg, _⟩ := mdl_row hmb hk
  obtain ⟨wb, woff, lo, lc, rfl, hwb0, cW, hrow⟩ := hr.at k h1
  have hl8 := (zonesB_parts (mdlB_parts hmb).1).1.2
  rw [hrg]
  obtain ⟨row, hrow2⟩ : ∃ row, m.rows[k] = row := ⟨_, rfl⟩
  rw [hrow2] at hrl hrb cW hrow ⊢
  obtain ⟨n, hn⟩ : ∃ n, walls.length = n := ⟨_, rfl⟩
  have hrn : row.length = n := by omega
  have hn8 : n ≤ 8 := by omega
  have HB := Lib.hid hrb
  have HWB := Lib.hid hwb
  have HW := Lib.hid hw
  have HROW := Lib.hid hrow
  have HNW := Lib.hid hn
  have HNR := Lib.hid hrn
  have h5 : m.rows.length ≤ 1048576 := by have := (mdlB_parts hmb).2.1; omega
  have a1 := hm.2.1
  have al := hm.2.2.2
  have A1 := Lib.hid a1
  have CW := Lib.hid cW
  have hkI : (k : Int) < (m.rows.length : Int) := by omega
  have hk0 : (0 : Int) ≤ (k : Int) := by omega
  rw [hn] at HW ⊢
  rw [hrn] at CW HROW
  clear hm hr hmb hw hwl hwb hrl hrb hrow hrow2 hn hrn a1 cW
  go_enter Tryz.func69, Tryz.ntmps69
  go_wp2_with fail
  go_loopw [7, 8] (fun s i wr => ∃ (z : Nat), z ≤ n ∧ i = .int .i64 z ∧ s = .int .i64 (momK row walls z) ∧ Below w.heap.size w wr) (fun _ i _ => n - (intOf i).toNat)
  case atStart => exact ⟨0, Nat.zero_le _, rfl, rfl, Below.refl _ _⟩
  case round =>
    obtain ⟨z, hz, rfl, rfl, hb⟩ := hrel
    have HBW := Lib.hid hb
    have hmb := momK_bd HB.out HWB.out z (by rw [HNR.out]; exact hz) (by rw [HNW.out]; exact hz)
    by_cases hlt : z < n
    · have hz1 : z < row.length := by rw [HNR.out]; exact hlt
      have hz2 : z < walls.length := by rw [HNW.out]; exact hlt
      have HS := Lib.hid (momK_succ (row := row) (walls := walls) hz1 hz2)
      have hm2 := mul_bd (HB.out row[z] (List.getElem_mem hz1)) (HWB.out walls[z] (List.getElem_mem hz2))
      have a1 := (hb.cell (p := ⟨a, 1, none⟩) al).trans A1.out
      have alr : a < wr.heap.size := Nat.lt_of_lt_of_le al hb.size
      have cw := (hb.cell (p := ⟨wb, woff + k, none⟩) hwb0).trans CW.out
      have wbr : wb < wr.heap.size := Nat.lt_of_lt_of_le hwb0 hb.size
      have hR : Rd wr.heap.size wr (.slice lo row.length lc) 1 row.length (row.flatMap putI) := by rw [HNR.out]; exact HROW.out.up hb
      have hW : Rd wr.heap.size wr (.slice vo walls.length vc) 1 walls.length (walls.flatMap putI) := by rw [HNW.out]; exact HW.out.up hb
      obtain ⟨rb, roff, rfl, hrb, cR⟩ := Rd.at hR z hz1
      obtain ⟨vb, voff, rfl, hvb, cV⟩ := Rd.at hW z hz2
      obtain ⟨p, hp⟩ : ∃ p, row[z] * walls[z] = p := ⟨_, rfl⟩
      have hw1 : IntKind.i64.wrap (row[z] * walls[z]) = p := by rw [IntKind.wrap_i64]; omega
      rw [hp] at HS hm2
      have hzI : (z : Int) < (n : Int) := by omega
      have hz0 : (0 : Int) ≤ (z : Int) := by omega
      have hsum : IntKind.i64.wrap (momK row walls z + p) = momK row walls z + p := by rw [IntKind.wrap_i64]; omega
      generalize momK row walls z = S at *
      generalize row[z] = x at *
      generalize walls[z] = y at *
      clear hb hR hW hp
      go_wp2_with fail
      refine wp_region_above (by kernel_rfl) (by kernel_rfl) ?_
      repeat (go_big_quiet_step ((fail)))
      refine wpQuiet_nil ?_
      intro w1 b1
      have HB1 := Lib.hid (HBW.out.trans (b1.mono HBW.out.size)); clear b1
      go_wp2_with fail
      go_roundw
      case rel => exact ⟨z + 1, by omega, by go_num, by rw [HS.out], HB1.out⟩
      case measure => simp [intOf]; omega
    · obtain rfl : z = n := by omega
      clear hb
      go_wp2_with fail
      go_ret
      exact ⟨rfl, HBW.out⟩
theorem spec_l08Area (w : World) (p : Nat) (x : Profile) (lo : Option Addr) (lc : Nat) (hp : ProfAt w p x lo lc) (hR : RdR w lo lc x.rings) (hv : ∀ r ∈ x.rings, ringB r = true) (h1 : 1 ≤ x.rings.length) (h32 : x.rings.length ≤ 32) :
    Calls Tryz.prog 70 #[.pointer (some ⟨p, 0, none⟩)] w fun e w' => e = .returned (.int .i64 (areaZ2 x.rings)) ∧ Below w.heap.size w w' := by
  have e : Hid (areaZ2 x.rings = divR (((2 : Int) * (x.rings[0]'(by omega)).outer) * ((2 : Int) * (x.rings[0]'(by omega)).outer)) 1000000) := Lib.hid (by unfold areaZ2; rw [head_at (by omega)])
  have hr := ringB_nums (hv x.rings[0] (List.getElem_mem (by omega)))
  have hb := lip_bd hr.1
  have p1 := hp.2.1
  have pl := hp.2.2
  obtain ⟨_, ro2, rc2, ee, _, _, _, hsome⟩ := hR
  injection ee with q1 q2 q3
  subst q1 q3
  obtain ⟨b, off, rfl, hbB, hc⟩ := hsome (by omega)
  have c0 : w.cell? ⟨b, off, none⟩ = some (.int .i64 (x.rings[0]).outer) := by
    have := hc 0 (by omega)
    rw [Nat.add_zero] at this
    rw [this]; exact Ring_get0 x.rings 0 (by omega)
  have hn0 : (0 : Int) < (x.rings.length : Int) := by omega
  obtain ⟨o, ho⟩ : ∃ o, (x.rings[0]).outer = o := ⟨_, rfl⟩
  rw [ho] at e hr hb c0
  have hD := Lib.hid (fun w' => spec_divZ (((2 : Int) * o) * ((2 : Int) * o)) 1000000 w' (by decide) (by decide) (by omega) (by omega))
  have hw1 : IntKind.i64.wrap (2 * o) = 2 * o := by rw [IntKind.wrap_i64]; omega
  obtain ⟨A, hA⟩ : ∃ A, (2 * o) * (2 * o) = A := ⟨_, rfl⟩
  have hw2 : IntKind.i64.wrap ((2 * o) * (2 * o)) = A := by rw [IntKind.wrap_i64]; omega
  rw [hA] at hD e
  generalize divR A 1000000 = R at *
  clear hp hv hc hsome hb hA ho q2
  go_enter Tryz.func70, Tryz.ntmps70
  go_wp2_with fail
  refine (hD.out _).mono ?_; rintro e1 w2 ⟨rfl, rfl⟩
  go_wp2_with fail
  go_ret
  exact ⟨by rw [e.out]; rfl, Below.refl _ _⟩
end Go.Proofs.YtcjekailcljaaaaGreat
