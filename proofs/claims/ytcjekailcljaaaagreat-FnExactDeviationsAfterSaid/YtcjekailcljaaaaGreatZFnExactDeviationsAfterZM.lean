/- Contracts and plain facts, joined: DevX. -/
import Derived.Test.YtcjekailcljaaaaGreatRows
import Derived.Test.YtcjekailcljaaaaGreatZFnExactDeviationsAfterY
import Derived.Test.YtcjekailcljaaaaGreatZFnExactDeviationsAfterZG
import Derived.Test.YtcjekailcljaaaaGreatZFnExactDeviationsAfterZK
import Derived.Test.YtcjekailcljaaaaGreatZFnExactDeviationsAfterZL
namespace Go.Proofs.YtcjekailcljaaaaGreat
open Go.ChangeShapes Go.WideShapes Go.ChangeAt Go.RowKit Go.Deep Go.Joins
set_option linter.unusedVariables false
set_option maxRecDepth 100000
set_option linter.unusedSimpArgs false
def devC (g : GoalX) (m : Mdl) (x : Profile) (cs : List Cut) : Int := if cutsB cs = true then (if aimC g m x = 0 then (if applyCode x m.zones cs = 0 then (if sndL (rawZ m (afterX x m.zones cs).rings) = true then 0 else 6) else applyCode x m.zones cs) else aimC g m x) else 1
def devL (g : GoalX) (m : Mdl) (x : Profile) (cs : List Cut) : List Int := if devC g m x cs = 0 then devZ (goalL g) (rawZ m (afterX x m.zones cs).rings) else []
def DevR (base : Nat) (w' : World) (g : GoalX) (m : Mdl) (x : Profile) (cs : List Cut) (e : Ending) : Prop := ∃ r, e = .returned (.tuple #[r, .int .i64 (devC g m x cs)]) ∧ w'.ownsRow base 2 1 r (devL g m x cs).length ((devL g m x cs).flatMap putI)
theorem DevR_err {base : Nat} {w' : World} {g : GoalX} {m : Mdl} {x : Profile} {cs : List Cut} {c : Int} (h : devC g m x cs = c) (h0 : c ≠ 0) : DevR base w' g m x cs (.returned (.tuple #[.slice none 0 0, .int .i64 c])) := by
  refine ⟨_, by rw [h], ?_⟩
  have : devL g m x cs = [] := by unfold devL; rw [if_neg (by rw [h]; exact h0)]
  rw [this]
  exact own_nil _ _ _ _
theorem rawA_len (m : Mdl) (x : Profile) (cs : List Cut) : (rawZ m (afterX x m.zones cs).rings).length = 5 := rawZ_len ..
theorem DevR_ok {base : Nat} {w' : World} {g : GoalX} {m : Mdl} {x : Profile} {cs : List Cut} {r : Value} (h : devC g m x cs = 0) (ho : w'.ownsRow base 2 1 r 5 ((devZ (goalL g) (rawZ m (afterX x m.zones cs).rings)).flatMap putI)) : DevR base w' g m x cs (.returned (.tuple #[r, .int .i64 0])) := by
  refine ⟨_, by rw [h], ?_⟩
  have : devL g m x cs = devZ (goalL g) (rawZ m (afterX x m.zones cs).rings) := by unfold devL; rw [if_pos h]
  rw [this, devZ_len rfl (rawA_len m x cs)]
  exact ho
theorem devC_cut {g : GoalX} {m : Mdl} {x : Profile} {cs : List Cut} (h : cutsB cs = false) : devC g m x cs = 1 := by unfold devC; rw [h]; rfl
theorem devC_aim {g : GoalX} {m : Mdl} {x : Profile} {cs : List Cut} (h : cutsB cs = true) (h2 : aimC g m x ≠ 0) : devC g m x cs = aimC g m x := by unfold devC; rw [if_pos h, if_neg h2]
theorem devC_app {g : GoalX} {m : Mdl} {x : Profile} {cs : List Cut} (h : cutsB cs = true) (h2 : aimC g m x = 0) (h3 : applyCode x m.zones cs ≠ 0) : devC g m x cs = applyCode x m.zones cs := by unfold devC; rw [if_pos h, if_pos h2, if_neg h3]
theorem devC_snd {g : GoalX} {m : Mdl} {x : Profile} {cs : List Cut} (h : cutsB cs = true) (h2 : aimC g m x = 0) (h3 : applyCode x m.zones cs = 0) {b : Bool} (h4 : sndL (rawZ m (afterX x m.zones cs).rings) = b) : devC g m x cs = if b = true then 0 else 6 := by unfold devC; rw [if_pos h, if_pos h2, if_pos h3, h4]
/-- a profile after cuts that is valid -/
theorem apply_prof {x : Profile} {zs : List Int} {cs : List Cut} (h : applyCode x zs cs = 0) : profB (afterX x zs cs) = true := by
  unfold applyCode at h
  by_cases h1 : cutCode zs cs = 0
  · rw [if_pos h1] at h
    cases hp : profB (afterX x zs cs)
    · rw [hp] at h; exact absurd h (by decide)
    · rfl
  · rw [if_neg h1] at h; exact absurd h h1
set_option maxHeartbeats 2000000 in
theorem spec_DevAfter (w : World) (zo wo bo lo co : Option Addr) (zc wc bc lc cc : Nat) (m : Mdl) (x : Profile) (g : GoalX) (cs : List Cut) (hr : RdMdl w.heap.size w (.slice zo m.zones.length zc) (.slice wo m.rows.length wc) (.slice bo m.base.length bc) m) (hz : m.zones.length ≤ 1048576) (h5 : m.rows.length ≤ 1048576) (h6 : m.base.length ≤ 1048576)
    (hs : x.name.size ≤ maxLen) (hR : RdR w lo lc x.rings) (hn : x.rings.length ≤ 1048576) (hc : Rd w.heap.size w (.slice co cs.length cc) 2 cs.length (cs.flatMap Cut.put)) (hcn : cs.length ≤ 1048576) :
    Calls Tryz.prog 8 #[.agg #[.slice zo m.zones.length zc, .slice wo m.rows.length wc, .slice bo m.base.length bc], .agg #[.string x.name, .slice lo x.rings.length lc], .agg #[.int .i64 g.a, .int .i64 g.b, .int .i64 g.c, .int .i64 g.d, .int .i64 g.e, .int .i64 g.tol, .int .i64 g.most], .slice co cs.length cc] w fun e w' => DevR w.heap.size w' g m x cs e ∧ Below w.heap.size w w' := by
  obtain ⟨W1, hW1⟩ : ∃ W1, w.alloc (.cells #[.slice zo m.zones.length zc, .slice wo m.rows.length wc, .slice bo m.base.length bc] 39) = W1 := ⟨_, rfl⟩
  obtain ⟨W2, hW2⟩ : ∃ W2, W1.alloc (.cells #[.string x.name, .slice lo x.rings.length lc] 43) = W2 := ⟨_, rfl⟩
  obtain ⟨W3, hW3⟩ : ∃ W3, W2.alloc (.cells #[.int .i64 g.a, .int .i64 g.b, .int .i64 g.c, .int .i64 g.d, .int .i64 g.e, .int .i64 g.tol, .int .i64 g.most] 47) = W3 := ⟨_, rfl⟩
  have b1 : Below w.heap.size w W1 := hW1 ▸ (Below.refl _ _).alloc (Nat.le_refl _) _
  have b2 : Below W1.heap.size W1 W2 := hW2 ▸ (Below.refl _ _).alloc (Nat.le_refl _) _
  have b3 : Below W2.heap.size W2 W3 := hW3 ▸ (Below.refl _ _).alloc (Nat.le_refl _) _
  have M1 : Own W1 w.heap.size 39 [.slice zo m.zones.length zc, .slice wo m.rows.length wc, .slice bo m.base.length bc] := hW1 ▸ Own.new w _ _
  have M2 := M1.below b2 M1.lt
  have M3 := M2.below b3 M2.lt
  have P2 : Own W2 W1.heap.size 43 [.string x.name, .slice lo x.rings.length lc] := hW2 ▸ Own.new W1 _ _
  have P3 := P2.below b3 P2.lt
  have G3 : Own W3 W2.heap.size 47 g.put := hW3 ▸ Own.new W2 _ _
  have HMA : Hid (MdlAt W3 w.heap.size (.slice zo m.zones.length zc) (.slice wo m.rows.length wc) (.slice bo m.base.length bc)) := Lib.hid ⟨M3.cell 0, M3.cell 1, M3.cell 2, M3.lt⟩
  have HPA : Hid (ProfAt W3 W1.heap.size x lo lc) := Lib.hid ⟨P3.cell 0, P3.cell 1, P3.lt⟩
  have HGA : Hid (GoalAt W3 W2.heap.size g) := Lib.hid (GoalAt.of G3)
  have B3 := Lib.hid (bnext (bnext b1 b2) b3)
  have HR := Lib.hid (((hr.up b1).up b2).up b3)
  have HRR := Lib.hid (((hR.up b1).up b2).up b3)
  have HC := Lib.hid (((hc.up b1).up b2).up b3)
  have HA := Lib.hid (spec_l10Ask W3 w.heap.size W1.heap.size W2.heap.size zo wo bo lo zc wc bc lc m x g HMA.out HR.out hz h5 h6 HPA.out hs HRR.out hn HGA.out)
  clear hr hR hc b1 b2 b3 M1 M2 M3 P2 P3 G3
  obtain ⟨ac, hac⟩ : ∃ c, aimC g m x = c := ⟨_, rfl⟩
  have HAC := Lib.hid hac
  rw [hac] at HA
  clear hac
  go_enter Tryz.func8, Tryz.ntmps8
  go_wp2_with fail
  refine HA.out.mono ?_; rintro e w4 ⟨rfl, b4⟩
  have HCC := Lib.hid (spec_l09Cuts w4 _ cs (HC.out.up b4) hcn)
  have HMA4 := Lib.hid (HMA.out.below b4 HMA.out.2.2.2)
  have HPA4 := Lib.hid (HPA.out.below b4 HPA.out.2.2)
  have HGA4 := Lib.hid (HGA.out.below b4 HGA.out.2.2.2.2.2.2.2)
  have HR4 := Lib.hid (HR.out.up b4)
  have HRR4 := Lib.hid (HRR.out.up b4)
  have HC4 := Lib.hid (HC.out.up b4)
  have B4 := Lib.hid (bnext B3.out b4)
  clear b4 HA HMA HPA HGA HR HRR HC B3 hW1 hW2 hW3
  obtain ⟨cb, hcb⟩ : ∃ b, cutsB cs = b := ⟨_, rfl⟩
  have HCB := Lib.hid hcb
  rw [hcb] at HCC
  clear hcb
  go_wp2_with fail
  refine HCC.out.mono ?_; rintro e w5 ⟨rfl, b5⟩
  have HMA5 := Lib.hid (HMA4.out.below b5 HMA4.out.2.2.2)
  have HPA5 := Lib.hid (HPA4.out.below b5 HPA4.out.2.2)
  have HGA5 := Lib.hid (HGA4.out.below b5 HGA4.out.2.2.2.2.2.2.2)
  have HR5 := Lib.hid (HR4.out.up b5)
  have HRR5 := Lib.hid (HRR4.out.up b5)
  have HC5 := Lib.hid (HC4.out.up b5)
  have B5 := Lib.hid (bnext B4.out b5)
  clear b5 HCC HMA4 HPA4 HGA4 HR4 HRR4 HC4 B4
  cases cb
  case false =>
    go_wp2_with fail
    refine bodyPost_ret (v := .tuple #[.slice none 0 0, .int .i64 1]) (by simp [results, Tryz.results8, go_sem]) rfl ?_
    exact ⟨DevR_err (devC_cut HCB.out) (by decide), B5.out⟩
  by_cases h0 : ac = 0
  case neg =>
    have t0 : (ac != 0) = true := by simp [h0]
    have H0 := Lib.hid h0
    clear h0
    go_wp2_with fail
    refine bodyPost_ret (v := .tuple #[.slice none 0 0, .int .i64 ac]) (by simp [results, Tryz.results8, go_sem]) rfl ?_
    exact ⟨DevR_err ((devC_aim HCB.out (by rw [HAC.out]; exact H0.out)).trans HAC.out) H0.out, B5.out⟩
  subst h0
  obtain ⟨hgb, hmb, hx, hzb⟩ := aimC_zero HAC.out
  have z0 := HMA5.out.1
  have zl := HMA5.out.2.2.2
  have HAP := Lib.hid (spec_l09Apply w5 W1.heap.size x lo zo co lc zc cc m.zones cs HPA5.out hs HRR5.out HR5.out.1 hz HC5.out hx hzb HCB.out)
  have HGB := Lib.hid hgb
  have HMB := Lib.hid hmb
  have HX := Lib.hid hx
  have HZB := Lib.hid hzb
  clear hgb hmb hx hzb HPA5 HRR5 HC5
  go_wp2_with fail
  refine HAP.out.mono ?_; rintro e w6 ⟨he, b6⟩
  have HMA6 := Lib.hid (HMA5.out.below b6 HMA5.out.2.2.2)
  have HGA6 := Lib.hid (HGA5.out.below b6 HGA5.out.2.2.2.2.2.2.2)
  have HR6 := Lib.hid (HR5.out.up b6)
  have B6 := Lib.hid (bnext B5.out b6)
  clear b6 HMA5 HGA5 HR5 B5 z0 zl HAP
  rcases he with ⟨hne, rfl⟩ | ⟨h0, g6, c6, rfl, hrd⟩
  · obtain ⟨ap, hap⟩ : ∃ c, applyCode x m.zones cs = c := ⟨_, rfl⟩
    have HAPC := Lib.hid hap
    rw [hap] at hne ⊢
    have HNE := Lib.hid hne
    have t0 : (ap != 0) = true := by simp [hne]
    clear hne hap
    go_wp2_with fail
    refine bodyPost_ret (v := .tuple #[.slice none 0 0, .int .i64 ap]) (by simp [results, Tryz.results8, go_sem]) rfl ?_
    refine ⟨DevR_err ((devC_app HCB.out HAC.out (by rw [HAPC.out]; exact HNE.out)).trans HAPC.out) HNE.out, ?_⟩
    exact B6.out.alloc B6.out.size _
  have HRD := Lib.hid hrd
  have HAPC := Lib.hid h0
  have HL := Lib.hid (turned_len x m.zones cs)
  have HPR := Lib.hid (apply_prof h0)
  clear hrd h0
  obtain ⟨Y, hY⟩ : ∃ Y, afterX x m.zones cs = Y := ⟨_, rfl⟩
  have hYn : Y.name = x.name := by rw [← hY]; rfl
  have HYR : Hid (rawZ m (afterX x m.zones cs).rings = rawZ m Y.rings) := Lib.hid (by rw [hY])
  rw [hY] at HRD HL HPR ⊢
  rw [← hYn]
  clear hY hYn
  obtain ⟨W7, hW7⟩ : ∃ W7, w6.alloc (.cells #[.string Y.name, .slice (some ⟨g6, 0, none⟩) Y.rings.length c6] 43) = W7 := ⟨_, rfl⟩
  have b7 : Below w6.heap.size w6 W7 := hW7 ▸ (Below.refl _ _).alloc (Nat.le_refl _) _
  have O7 : Own W7 w6.heap.size 43 [.string Y.name, .slice (some ⟨g6, 0, none⟩) Y.rings.length c6] := hW7 ▸ Own.new w6 _ _
  obtain ⟨n1, n32, hv, _⟩ := profB_true HPR.out
  have HRW := Lib.hid (spec_l08Raw W7 w.heap.size w6.heap.size zo wo bo (some ⟨g6, 0, none⟩) zc wc bc c6 m Y (HMA6.out.below b7 HMA6.out.2.2.2) (HR6.out.up b7) HMB.out ⟨O7.cell 0, O7.cell 1, O7.lt⟩ (HRD.out.up b7) hv n1 n32 (by rw [HL.out]; exact HZB.out))
  have HGA7 := Lib.hid (HGA6.out.below b7 HGA6.out.2.2.2.2.2.2.2)
  have B7 := Lib.hid (bnext B6.out b7)
  clear b7 O7 HMA6 HGA6 HR6 B6 hv
  subst hW7
  go_wp2_with fail
  refine HRW.out.mono ?_; rintro e w8 ⟨rv, rfl, o8, b8⟩
  obtain ⟨vo, vc, er⟩ := (own_rd o8).form
  subst er
  have HDV := Lib.hid (spec_l10Dev w8 W2.heap.size g vo vc (rawZ m Y.rings) (HGA7.out.below b8 HGA7.out.2.2.2.2.2.2.2) HGB.out (rawZ_len ..) (own_rd o8))
  have B8 := Lib.hid (bnext B7.out b8)
  clear b8 o8 HRW HGA7 B7
  obtain ⟨sb, hsb⟩ : ∃ s, sndL (rawZ m Y.rings) = s := ⟨_, rfl⟩
  have HSB := Lib.hid (HYR.out.symm ▸ hsb)
  rw [hsb, ← HYR.out] at HDV
  clear hsb
  go_wp2_with fail
  refine HDV.out.mono ?_; rintro e w9 ⟨he, b9⟩
  have B9 := Lib.hid (bnext B8.out b9)
  have z8 := B8.out.size
  clear b9 HDV B8
  have hcc := devC_snd HCB.out HAC.out HAPC.out HSB.out
  have HCX := Lib.hid hcc
  clear hcc
  cases sb
  · rw [if_neg (by intro q; cases q)] at he
    subst he
    go_wp2_with fail
    refine bodyPost_ret (v := .tuple #[.slice none 0 0, .int .i64 6]) (by simp [results, Tryz.results8, go_sem]) rfl ?_
    exact ⟨DevR_err HCX.out (by decide), B9.out⟩
  · rw [if_pos rfl] at he
    obtain ⟨r9, rfl, o9⟩ := he
    obtain ⟨ro, rc, er⟩ := (own_rd o9).form
    subst er
    have O9 := Lib.hid o9
    clear o9
    go_wp2_with fail
    refine bodyPost_ret (v := .tuple #[.slice ro 5 rc, .int .i64 0]) (by simp [results, Tryz.results8, go_sem]) rfl ?_
    exact ⟨DevR_ok HCX.out (own_baseZ O9.out z8), B9.out⟩
end Go.Proofs.YtcjekailcljaaaaGreat
