/- Contracts and plain facts, joined: DevAsk. -/
import Derived.Test.YtcjekailcljaaaaGreatRows
import Derived.Test.YtcjekailcljaaaaGreatZFnExactGreedyPlanK
import Derived.Test.YtcjekailcljaaaaGreatZFnExactGreedyPlanL
import Derived.Test.YtcjekailcljaaaaGreatZFnExactGreedyPlanO
import Derived.Test.YtcjekailcljaaaaGreatZFnExactGreedyPlanP
namespace Go.Proofs.YtcjekailcljaaaaGreat
open Go.ChangeShapes Go.WideShapes Go.ChangeAt Go.RowKit Go.Deep Go.Joins
set_option linter.unusedVariables false
set_option maxRecDepth 100000
set_option linter.unusedSimpArgs false
/-- block p is a profile -/
def ProfAt (w : World) (p : Nat) (x : Profile) (lo : Option Addr) (lc : Nat) : Prop := w.cell? ⟨p, 0, none⟩ = some (.string x.name) ∧ w.cell? ⟨p, 1, none⟩ = some (.slice lo x.rings.length lc) ∧ p < w.heap.size
theorem ProfAt.below {B : Nat} {w w' : World} {p : Nat} {x : Profile} {lo : Option Addr} {lc : Nat} (h : ProfAt w p x lo lc) (hb : Below B w w') (hp : p < B) : ProfAt w' p x lo lc :=
  ⟨(hb.cell (p := ⟨p, 0, none⟩) hp).trans h.1, (hb.cell (p := ⟨p, 1, none⟩) hp).trans h.2.1, Nat.lt_of_lt_of_le h.2.2 hb.size⟩
def RdR (w : World) (lo : Option Addr) (lc : Nat) (rs : List Ring) : Prop := Rd w.heap.size w (.slice lo rs.length lc) 3 rs.length (rs.flatMap Ring.put)
theorem RdR.up {w w' : World} {lo : Option Addr} {lc : Nat} {rs : List Ring} (h : RdR w lo lc rs) (hb : Below w.heap.size w w') : RdR w' lo lc rs := Rd.up h hb
/-- zones of a profile -/
def pzB (x : Profile) (zs : List Int) : Bool := profB x && zonesB x.rings.length zs
set_option maxHeartbeats 2000000 in
theorem spec_l09Zones (w : World) (p : Nat) (x : Profile) (lo : Option Addr) (lc : Nat) (v : Value) (zs : List Int) (hp : ProfAt w p x lo lc) (hs : x.name.size ≤ maxLen) (hR : RdR w lo lc x.rings) (hn : x.rings.length ≤ 1048576) (h : Rd w.heap.size w v 1 zs.length (zs.flatMap putI)) (hcn : zs.length ≤ 1048576) :
    Calls Tryz.prog 100 #[.pointer (some ⟨p, 0, none⟩), v] w fun e w' => e = .returned (.bool (pzB x zs)) ∧ Below w.heap.size w w' := by
  have HP := Lib.hid hp
  have HPO := Lib.hid (spec_l05Ok w x p 0 lo lc hp.1 hp.2.1 hp.2.2 hs hR hn rfl)
  have H := Lib.hid h
  have hpl := hp.2.2
  obtain ⟨hL, ao, cap, rfl, hcap, hmax, hnil, hsome⟩ := h
  clear hp hR
  cases hx : profB x
  · have e : Hid (pzB x zs = false) := Lib.hid (by unfold pzB; rw [hx]; rfl)
    rw [hx] at HPO
    clear hx hsome hnil
    go_enter Tryz.func100, Tryz.ntmps100
    go_wp2_with fail
    refine HPO.out.mono ?_; rintro e1 w1 ⟨rfl, b1⟩
    go_wp2_with fail
    go_ret
    exact ⟨by rw [e.out]; rfl, b1⟩
  rw [hx] at HPO
  have EZ : Hid (pzB x zs = zonesB x.rings.length zs) := Lib.hid (by unfold pzB; rw [hx]; rfl)
  clear hx
  by_cases h1 : 1 ≤ zs.length
  case neg =>
    have e := Lib.hid (zonesB_no0 (n := x.rings.length) h1)
    clear hsome hnil
    go_enter Tryz.func100, Tryz.ntmps100
    go_wp2_with fail
    refine HPO.out.mono ?_; rintro e1 w1 ⟨rfl, b1⟩
    go_wp2_with fail
    go_ret
    exact ⟨by rw [EZ.out, e.out]; rfl, b1⟩
  by_cases h8 : zs.length ≤ 8
  case neg =>
    have e := Lib.hid (zonesB_no8 (n := x.rings.length) h8)
    clear hsome hnil
    go_enter Tryz.func100, Tryz.ntmps100
    go_wp2_with fail
    refine HPO.out.mono ?_; rintro e1 w1 ⟨rfl, b1⟩
    go_wp2_with fail
    go_ret
    exact ⟨by rw [EZ.out, e.out]; rfl, b1⟩
  obtain ⟨b, off, rfl, hbB, hc⟩ := hsome (by omega)
  have c0 : w.cell? ⟨b, off, none⟩ = some (.int .i64 zs[0]) := by
    have := hc 0 (by omega)
    rw [Nat.add_zero] at this
    rw [this, putI_get zs 0 (by omega)]
  have C0 := Lib.hid c0
  clear c0
  by_cases hz : zs[0] = 0
  case neg =>
    have e := Lib.hid (zonesB_noz (n := x.rings.length) (by omega) hz)
    have t0 : (zs[0] == 0) = false := beq_eq_false_iff_ne.2 hz
    clear hsome hnil hc hz
    generalize zs[0] = z0 at *
    go_enter Tryz.func100, Tryz.ntmps100
    go_wp2_with fail
    refine HPO.out.mono ?_; rintro e1 w1 ⟨rfl, b1⟩
    have c0 := (b1.cell (p := ⟨b, off, none⟩) hbB).trans C0.out
    have hb1 : b < w1.heap.size := Nat.lt_of_lt_of_le hbB b1.size
    go_wp2_with fail
    go_ret
    exact ⟨by rw [EZ.out, e.out]; rfl, b1⟩
  have e := Lib.hid (zonesB_of (n := x.rings.length) h1 h8 hz)
  rw [hz] at C0
  clear hsome hnil hc hz
  go_enter Tryz.func100, Tryz.ntmps100
  go_wp2_with fail
  refine HPO.out.mono ?_; rintro e1 w1 ⟨rfl, b1⟩
  have c0 := (b1.cell (p := ⟨b, off, none⟩) hbB).trans C0.out
  have hb1 : b < w1.heap.size := Nat.lt_of_lt_of_le hbB b1.size
  have p1 := (b1.cell (p := ⟨p, 1, none⟩) hpl).trans HP.out.2.1
  have hp1 : p < w1.heap.size := Nat.lt_of_lt_of_le hpl b1.size
  have HR := Lib.hid (spec_rises w1 _ 0 ((x.rings.length : Int) - 1) zs (H.out.up b1) hcn)
  have B1 := Lib.hid b1
  clear b1
  go_wp2_with fail
  refine HR.out.mono ?_; rintro e1 w2 ⟨rfl, b2⟩
  go_wp2_with fail
  go_ret
  exact ⟨by rw [EZ.out, e.out]; rfl, bnext B1.out b2⟩
set_option maxHeartbeats 2000000 in
theorem impl_ValidZones (w : World) (x : Profile) (lo : Option Addr) (lc : Nat) (zo : Option Addr) (zc : Nat) (zs : List Int) (hs : x.name.size ≤ maxLen) (hR : RdR w lo lc x.rings) (hn : x.rings.length ≤ 1048576) (h : Rd w.heap.size w (.slice zo zs.length zc) 1 zs.length (zs.flatMap putI)) (hcn : zs.length ≤ 1048576) :
    Calls Tryz.prog 77 #[.agg #[.string x.name, .slice lo x.rings.length lc], .slice zo zs.length zc] w fun e w' => e = .returned (.bool (pzB x zs)) ∧ Below w.heap.size w w' := by
  obtain ⟨W1, hW1⟩ : ∃ W1, w.alloc (.cells #[.string x.name, .slice lo x.rings.length lc] 43) = W1 := ⟨_, rfl⟩
  have b0 : Below w.heap.size w W1 := hW1 ▸ (Below.refl _ _).alloc (Nat.le_refl _) _
  have OM : Own W1 w.heap.size 43 [.string x.name, .slice lo x.rings.length lc] := hW1 ▸ Own.new w _ _
  have z0 := OM.cell 0
  have z1 := OM.cell 1
  have A1 := Lib.hid (OM.cell 1)
  have al := OM.lt
  have B0 := Lib.hid b0
  have H := Lib.hid (h.up b0)
  have HPO := Lib.hid (impl_ValidProfile W1 x lo lc hs (hR.up b0) hn rfl)
  clear h hR b0 OM
  cases hx : profB x
  · have e : Hid (pzB x zs = false) := Lib.hid (by unfold pzB; rw [hx]; rfl)
    rw [hx] at HPO
    clear hx
    go_enter Tryz.func77, Tryz.ntmps77
    go_wp2_with fail
    refine HPO.out.mono ?_; rintro e1 w1 ⟨rfl, b1⟩
    go_wp2_with fail
    go_ret
    exact ⟨by rw [e.out]; rfl, bnext B0.out b1⟩
  rw [hx] at HPO
  have EZ : Hid (pzB x zs = zonesB x.rings.length zs) := Lib.hid (by unfold pzB; rw [hx]; rfl)
  clear hx
  go_enter Tryz.func77, Tryz.ntmps77
  go_wp2_with fail
  refine HPO.out.mono ?_; rintro e1 w1 ⟨rfl, b1⟩
  have c1 : w1.cell? ⟨w.heap.size, 1, none⟩ = some (.slice lo x.rings.length lc) := (b1.cell (p := ⟨w.heap.size, 1, none⟩) al).trans A1.out
  have al1 : w.heap.size < w1.heap.size := Nat.lt_of_lt_of_le al b1.size
  have B1 := Lib.hid (bnext B0.out b1)
  have HS := Lib.hid (fun w' => impl_sizeR w' lo x.rings.length lc hn)
  have HZ := Lib.hid (impl_areZones w1 _ x.rings.length zs (H.out.up b1) hcn hn)
  clear b1 z0 z1 hW1
  go_wp2_with fail
  refine (HS.out _).mono ?_; rintro e1 w2 ⟨rfl, rfl⟩
  go_wp2_with fail
  refine HZ.out.mono ?_; rintro e1 w2 ⟨rfl, b2⟩
  go_wp2_with fail
  go_ret
  exact ⟨by rw [EZ.out]; rfl, bnext B1.out b2⟩
/-- the code of a model and a profile -/
def askC (m : Mdl) (x : Profile) : Int := if mdlB m = true then (if profB x = true then (if zonesB x.rings.length m.zones = true then 0 else 2) else 1) else 1
theorem askC_m {m : Mdl} {x : Profile} (h : mdlB m = false) : askC m x = 1 := by unfold askC; rw [h]; rfl
theorem askC_p {m : Mdl} {x : Profile} (h : mdlB m = true) (h2 : profB x = false) : askC m x = 1 := by unfold askC; rw [h, h2]; rfl
theorem askC_z {m : Mdl} {x : Profile} (h : mdlB m = true) (h2 : profB x = true) {b : Bool} (h3 : pzB x m.zones = b) : askC m x = if b = true then 0 else 2 := by
  unfold askC; rw [h, h2]
  have : zonesB x.rings.length m.zones = b := by rw [← h3]; unfold pzB; rw [h2]; rfl
  rw [this]; rfl
theorem askC_zero {m : Mdl} {x : Profile} (h : askC m x = 0) : mdlB m = true ∧ profB x = true ∧ zonesB x.rings.length m.zones = true := by
  unfold askC at h
  cases h1 : mdlB m <;> cases h2 : profB x <;> cases h3 : zonesB x.rings.length m.zones <;> rw [h1, h2, h3] at h <;> simp at h
  exact ⟨rfl, rfl, rfl⟩
set_option maxHeartbeats 2000000 in
theorem spec_l08Ask (w : World) (a p : Nat) (zo wo bo lo : Option Addr) (zc wc bc lc : Nat) (m : Mdl) (x : Profile) (hm : MdlAt w a (.slice zo m.zones.length zc) (.slice wo m.rows.length wc) (.slice bo m.base.length bc)) (hr : RdMdl w.heap.size w (.slice zo m.zones.length zc) (.slice wo m.rows.length wc) (.slice bo m.base.length bc) m) (hz : m.zones.length ≤ 1048576) (h5 : m.rows.length ≤ 1048576) (h6 : m.base.length ≤ 1048576)
    (hp : ProfAt w p x lo lc) (hs : x.name.size ≤ maxLen) (hR : RdR w lo lc x.rings) (hn : x.rings.length ≤ 1048576) :
    Calls Tryz.prog 57 #[.pointer (some ⟨a, 0, none⟩), .pointer (some ⟨p, 0, none⟩)] w fun e w' => e = .returned (.int .i64 (askC m x)) ∧ Below w.heap.size w w' := by
  have HM := Lib.hid hm
  have HR := Lib.hid hr
  have HP := Lib.hid hp
  have HRR := Lib.hid hR
  have HO := Lib.hid (spec_l08Ok w a zo wo bo zc wc bc m hm hr hz h5 h6)
  have al := hm.2.2.2
  have pl := hp.2.2
  clear hm hr hp hR
  cases h1 : mdlB m
  · have e := Lib.hid (askC_m (x := x) h1)
    rw [h1] at HO
    clear h1
    go_enter Tryz.func57, Tryz.ntmps57
    go_wp2_with fail
    refine HO.out.mono ?_; rintro e1 w1 ⟨rfl, b1⟩
    go_wp2_with fail
    go_ret
    exact ⟨by rw [e.out]; rfl, b1⟩
  rw [h1] at HO
  have H1 := Lib.hid h1
  clear h1
  cases h2 : profB x
  · have e := Lib.hid (askC_p H1.out h2)
    have H2 := Lib.hid h2
    clear h2
    go_enter Tryz.func57, Tryz.ntmps57
    go_wp2_with fail
    refine HO.out.mono ?_; rintro e1 w1 ⟨rfl, b1⟩
    have HPr := HP.out.below b1 pl
    have HPO := Lib.hid (spec_l05Ok w1 x p 0 lo lc HPr.1 HPr.2.1 HPr.2.2 hs (HRR.out.up b1) hn H2.out)
    clear HPr
    go_wp2_with fail
    refine HPO.out.mono ?_; rintro e1 w2 ⟨rfl, b2⟩
    go_wp2_with fail
    go_ret
    exact ⟨by rw [e.out]; rfl, bnext b1 b2⟩
  have H2 := Lib.hid h2
  obtain ⟨pb, hpb⟩ : ∃ b, pzB x m.zones = b := ⟨_, rfl⟩
  have e := Lib.hid (askC_z H1.out h2 hpb)
  have HPB := Lib.hid hpb
  clear h2 hpb
  go_enter Tryz.func57, Tryz.ntmps57
  go_wp2_with fail
  refine HO.out.mono ?_; rintro e1 w1 ⟨rfl, b1⟩
  have HP1 := Lib.hid (HP.out.below b1 pl)
  have HPO := Lib.hid (spec_l05Ok w1 x p 0 lo lc HP1.out.1 HP1.out.2.1 HP1.out.2.2 hs (HRR.out.up b1) hn H2.out)
  have HM1 := Lib.hid (HM.out.below b1 al)
  have R1 := Lib.hid (HR.out.up b1)
  have RR1 := Lib.hid (HRR.out.up b1)
  have B1 := Lib.hid b1
  clear b1 HO
  go_wp2_with fail
  refine HPO.out.mono ?_; rintro e1 w2 ⟨rfl, b2⟩
  have HM2 := HM1.out.below b2 HM1.out.2.2.2
  have a0 := HM2.1
  have al2 := HM2.2.2.2
  have HZO := Lib.hid (spec_l09Zones w2 p x lo lc _ m.zones (HP1.out.below b2 HP1.out.2.2) hs (RR1.out.up b2) hn (R1.out.up b2).1 hz)
  rw [HPB.out] at HZO
  have B2 := Lib.hid (bnext B1.out b2)
  clear b2 HM2 HPO
  go_wp2_with fail
  refine HZO.out.mono ?_; rintro e1 w3 ⟨rfl, b3⟩
  have B3 := Lib.hid (bnext B2.out b3)
  clear b3
  cases pb
  all_goals go_wp2_with fail
  all_goals go_ret
  all_goals exact ⟨by rw [e.out]; rfl, B3.out⟩
set_option maxHeartbeats 2000000 in
theorem impl_modelled (w : World) (zo wo bo lo : Option Addr) (zc wc bc lc : Nat) (m : Mdl) (x : Profile) (hr : RdMdl w.heap.size w (.slice zo m.zones.length zc) (.slice wo m.rows.length wc) (.slice bo m.base.length bc) m) (hz : m.zones.length ≤ 1048576) (h5 : m.rows.length ≤ 1048576) (h6 : m.base.length ≤ 1048576)
    (hs : x.name.size ≤ maxLen) (hR : RdR w lo lc x.rings) (hn : x.rings.length ≤ 1048576) :
    Calls Tryz.prog 76 #[.agg #[.slice zo m.zones.length zc, .slice wo m.rows.length wc, .slice bo m.base.length bc], .agg #[.string x.name, .slice lo x.rings.length lc]] w fun e w' => e = .returned (.int .i64 (askC m x)) ∧ Below w.heap.size w w' := by
  obtain ⟨W1, hW1⟩ : ∃ W1, w.alloc (.cells #[.slice zo m.zones.length zc, .slice wo m.rows.length wc, .slice bo m.base.length bc] 39) = W1 := ⟨_, rfl⟩
  obtain ⟨W2, hW2⟩ : ∃ W2, W1.alloc (.cells #[.string x.name, .slice lo x.rings.length lc] 43) = W2 := ⟨_, rfl⟩
  have b1 : Below w.heap.size w W1 := hW1 ▸ (Below.refl _ _).alloc (Nat.le_refl _) _
  have b2 : Below W1.heap.size W1 W2 := hW2 ▸ (Below.refl _ _).alloc (Nat.le_refl _) _
  have e1 : W1.heap.size = w.heap.size + 1 := by rw [← hW1]; simp
  have OM1 : Own W1 w.heap.size 39 [.slice zo m.zones.length zc, .slice wo m.rows.length wc, .slice bo m.base.length bc] := hW1 ▸ Own.new w _ _
  have OM := OM1.below b2 OM1.lt
  have OP : Own W2 W1.heap.size 43 [.string x.name, .slice lo x.rings.length lc] := hW2 ▸ Own.new W1 _ _
  have OMH := Lib.hid OM
  have OPH := Lib.hid OP
  have B2 := Lib.hid (bnext b1 b2)
  have HR := Lib.hid ((hr.up b1).up b2)
  have HRR := Lib.hid ((hR.up b1).up b2)
  have z0 := OM.cell 0
  have z1 := OM.cell 1
  have z2 := OM.cell 2
  have zl := OM.lt
  have y0 := OP.cell 0
  have y1 := OP.cell 1
  have yl := OP.lt
  have HO := Lib.hid (impl_ValidModel W2 zo wo bo zc wc bc m HR.out hz h5 h6)
  clear hr hR b1 b2 e1 OM1 OM OP
  cases h1 : mdlB m
  · have e := Lib.hid (askC_m (x := x) h1)
    rw [h1] at HO
    clear h1
    go_enter Tryz.func76, Tryz.ntmps76
    go_wp2_with fail
    refine HO.out.mono ?_; rintro e1 w1 ⟨rfl, b1⟩
    go_wp2_with fail
    go_ret
    exact ⟨by rw [e.out]; rfl, bnext B2.out b1⟩
  rw [h1] at HO
  have H1 := Lib.hid h1
  clear h1
  obtain ⟨pr, hpr⟩ : ∃ b, profB x = b := ⟨_, rfl⟩
  have HPRB := Lib.hid hpr
  clear hpr
  go_enter Tryz.func76, Tryz.ntmps76
  go_wp2_with fail
  refine HO.out.mono ?_; rintro e1 w1 ⟨rfl, b1⟩
  have P1 := OPH.out.below b1 OPH.out.lt
  have M1 := Lib.hid (OMH.out.below b1 OMH.out.lt)
  have P1H := Lib.hid P1
  have x0 := P1.cell 0
  have x1 := P1.cell 1
  have xl := P1.lt
  have R1 := Lib.hid (HR.out.up b1)
  have RR1 := Lib.hid (HRR.out.up b1)
  have B3 := Lib.hid (bnext B2.out b1)
  have HPO := Lib.hid (impl_ValidProfile w1 x lo lc hs RR1.out hn HPRB.out)
  clear b1 P1 z0 z1 z2 zl y0 y1 yl HO hW1 hW2
  go_wp2_with fail
  refine HPO.out.mono ?_; rintro e1 w2 ⟨rfl, b2⟩
  have B4 := Lib.hid (bnext B3.out b2)
  cases pr
  · have e := Lib.hid (askC_p H1.out HPRB.out)
    clear b2
    go_wp2_with fail
    go_ret
    exact ⟨by rw [e.out]; rfl, B4.out⟩
  obtain ⟨pb, hpb⟩ : ∃ b, pzB x m.zones = b := ⟨_, rfl⟩
  have e := Lib.hid (askC_z H1.out HPRB.out hpb)
  have P2 := P1H.out.below b2 P1H.out.lt
  have M2 := M1.out.below b2 M1.out.lt
  have v0 := P2.cell 0
  have v1 := P2.cell 1
  have vl := P2.lt
  have u0 := M2.cell 0
  have ul := M2.lt
  have HZO := Lib.hid (impl_ValidZones w2 x lo lc zo zc m.zones hs (RR1.out.up b2) hn (R1.out.up b2).1 hz)
  rw [hpb] at HZO
  clear b2 P2 M2 x0 x1 xl hpb
  go_wp2_with fail
  refine HZO.out.mono ?_; rintro e1 w3 ⟨rfl, b3⟩
  have B5 := Lib.hid (bnext B4.out b3)
  clear b3
  cases pb
  all_goals go_wp2_with fail
  all_goals go_ret
  all_goals exact ⟨by rw [e.out]; rfl, B5.out⟩
end Go.Proofs.YtcjekailcljaaaaGreat
