/- Contracts and plain facts, joined: DevY. -/
import Derived.Test.YtcjekailcljaaaaGreatRows
import Derived.Test.YtcjekailcljaaaaGreatZFnExactDeviationsAfterZM
import Derived.Test.YtcjekailcljaaaaGreatZFnExactDeviationsAfterZN
import Derived.Test.YtcjekailcljaaaaGreatZFnExactDeviationsAfterZQ
import Derived.Test.YtcjekailcljaaaaGreatZFnExactDeviationsAfterZR
namespace Go.Proofs.YtcjekailcljaaaaGreat
open Go.ChangeShapes Go.WideShapes Go.ChangeAt Go.RowKit Go.Deep Go.Joins
set_option linter.unusedVariables false
set_option maxRecDepth 100000
set_option linter.unusedSimpArgs false
set_option maxHeartbeats 2000000 in
theorem impl_DevAfter (w : World) (zo wo bo lo co : Option Addr) (zc wc bc lc cc : Nat) (m : Mdl) (x : Profile) (g : GoalX) (cs : List Cut) (hr : RdMdl w.heap.size w (.slice zo m.zones.length zc) (.slice wo m.rows.length wc) (.slice bo m.base.length bc) m) (hz : m.zones.length ≤ 1048576) (h5 : m.rows.length ≤ 1048576) (h6 : m.base.length ≤ 1048576)
    (hs : x.name.size ≤ maxLen) (hR : RdR w lo lc x.rings) (hn : x.rings.length ≤ 1048576) (hc : Rd w.heap.size w (.slice co cs.length cc) 2 cs.length (cs.flatMap Cut.put)) (hcn : cs.length ≤ 1048576) :
    Calls Tryz.prog 13 #[.agg #[.slice zo m.zones.length zc, .slice wo m.rows.length wc, .slice bo m.base.length bc], .agg #[.string x.name, .slice lo x.rings.length lc], .agg #[.int .i64 g.a, .int .i64 g.b, .int .i64 g.c, .int .i64 g.d, .int .i64 g.e, .int .i64 g.tol, .int .i64 g.most], .slice co cs.length cc] w fun e w' => DevR w.heap.size w' g m x cs e ∧ Below w.heap.size w w' := by
  obtain ⟨W1, hW1⟩ : ∃ W1, w.alloc (.cells #[.slice zo m.zones.length zc, .slice wo m.rows.length wc, .slice bo m.base.length bc] 39) = W1 := ⟨_, rfl⟩
  obtain ⟨W2, hW2⟩ : ∃ W2, W1.alloc (.cells #[.string x.name, .slice lo x.rings.length lc] 43) = W2 := ⟨_, rfl⟩
  obtain ⟨W3, hW3⟩ : ∃ W3, W2.alloc (.cells #[.int .i64 g.a, .int .i64 g.b, .int .i64 g.c, .int .i64 g.d, .int .i64 g.e, .int .i64 g.tol, .int .i64 g.most] 47) = W3 := ⟨_, rfl⟩
  have b1 : Below w.heap.size w W1 := hW1 ▸ (Below.refl _ _).alloc (Nat.le_refl _) _
  have b2 : Below W1.heap.size W1 W2 := hW2 ▸ (Below.refl _ _).alloc (Nat.le_refl _) _
  have b3 : Below W2.heap.size W2 W3 := hW3 ▸ (Below.refl _ _).alloc (Nat.le_refl _) _
  have M1 : Own W1 w.heap.size 39 [.slice zo m.zones.length zc, .slice wo m.rows.length wc, .slice bo m.base.length bc] := hW1 ▸ Own.new w _ _
  have M2 := M1.below b2 M1.lt
  have M3 := M2.below b3 M2.lt
  have P2 : Own W2 W1.heap.size 43 [.string x.name, .slice lo x.rings.length lc] := hW2 ▸ Own.new W1 _ _
  have P3 := P2.below b3 P2.lt
  have G3 : Own W3 W2.heap.size 47 g.put := hW3 ▸ Own.new W2 _ _
  have HM3 := Lib.hid M3
  have HP3 := Lib.hid P3
  have HG3 := Lib.hid G3
  have B3 := Lib.hid (bnext (bnext b1 b2) b3)
  have HR := Lib.hid (((hr.up b1).up b2).up b3)
  have HRR := Lib.hid (((hR.up b1).up b2).up b3)
  have HC := Lib.hid (((hc.up b1).up b2).up b3)
  have l1 : w.heap.size < W1.heap.size := M1.lt
  have l2 : W1.heap.size < W2.heap.size := P2.lt
  have HCC := Lib.hid (impl_ValidCuts W3 co cc cs HC.out hcn)
  clear hr hR hc b1 b2 b3 M1 M2 M3 P2 P3 G3
  obtain ⟨cb, hcb⟩ : ∃ b, cutsB cs = b := ⟨_, rfl⟩
  have HCB := Lib.hid hcb
  rw [hcb] at HCC
  obtain ⟨ac, hac⟩ : ∃ c, aimC g m x = c := ⟨_, rfl⟩
  have HAC := Lib.hid hac
  clear hcb hac
  go_enter Tryz.func13, Tryz.ntmps13
  go_wp2_with fail
  refine HCC.out.mono ?_; rintro e w4 ⟨rfl, b4⟩
  have B4 := Lib.hid (bnext B3.out b4)
  cases cb
  case false =>
    clear b4
    go_wp2_with fail
    refine bodyPost_ret (v := .tuple #[.slice none 0 0, .int .i64 1]) (by simp [results, Tryz.results13, go_sem]) rfl ?_
    exact ⟨DevR_err (devC_cut HCB.out) (by decide), B4.out⟩
  have HM4 := Lib.hid (HM3.out.below b4 HM3.out.lt)
  have HP4 := Lib.hid (HP3.out.below b4 HP3.out.lt)
  have HG4 := Lib.hid (HG3.out.below b4 HG3.out.lt)
  have HR4 := Lib.hid (HR.out.up b4)
  have HRR4 := Lib.hid (HRR.out.up b4)
  have HC4 := Lib.hid (HC.out.up b4)
  have HA := Lib.hid (impl_aimed w4 zo wo bo lo zc wc bc lc m x g HR4.out hz h5 h6 hs HRR4.out hn)
  rw [HAC.out] at HA
  have m0 : w4.cell? ⟨w.heap.size, 0, none⟩ = some (.slice zo m.zones.length zc) := HM4.out.cell 0
  have m1 : w4.cell? ⟨w.heap.size, 1, none⟩ = some (.slice wo m.rows.length wc) := HM4.out.cell 1
  have m2 : w4.cell? ⟨w.heap.size, 2, none⟩ = some (.slice bo m.base.length bc) := HM4.out.cell 2
  have ml := HM4.out.lt
  have p0 : w4.cell? ⟨W1.heap.size, 0, none⟩ = some (.string x.name) := HP4.out.cell 0
  have p1 : w4.cell? ⟨W1.heap.size, 1, none⟩ = some (.slice lo x.rings.length lc) := HP4.out.cell 1
  have pl := HP4.out.lt
  have g0 : w4.cell? ⟨W2.heap.size, 0, none⟩ = some (.int .i64 g.a) := HG4.out.cell 0
  have g1 : w4.cell? ⟨W2.heap.size, 1, none⟩ = some (.int .i64 g.b) := HG4.out.cell 1
  have g2 : w4.cell? ⟨W2.heap.size, 2, none⟩ = some (.int .i64 g.c) := HG4.out.cell 2
  have g3 : w4.cell? ⟨W2.heap.size, 3, none⟩ = some (.int .i64 g.d) := HG4.out.cell 3
  have g4 : w4.cell? ⟨W2.heap.size, 4, none⟩ = some (.int .i64 g.e) := HG4.out.cell 4
  have g5 : w4.cell? ⟨W2.heap.size, 5, none⟩ = some (.int .i64 g.tol) := HG4.out.cell 5
  have g6 : w4.cell? ⟨W2.heap.size, 6, none⟩ = some (.int .i64 g.most) := HG4.out.cell 6
  have gl := HG4.out.lt
  clear b4 HCC HM3 HP3 HG3 HR HRR HC B3 hW1 hW2 hW3
  go_wp2_with fail
  refine HA.out.mono ?_; rintro e w5 ⟨rfl, b5⟩
  have HM5 := Lib.hid (HM4.out.below b5 HM4.out.lt)
  have HP5 := Lib.hid (HP4.out.below b5 HP4.out.lt)
  have HG5 := Lib.hid (HG4.out.below b5 HG4.out.lt)
  have HR5 := Lib.hid (HR4.out.up b5)
  have HRR5 := Lib.hid (HRR4.out.up b5)
  have HC5 := Lib.hid (HC4.out.up b5)
  have B5 := Lib.hid (bnext B4.out b5)
  clear b5 HA HM4 HP4 HG4 HR4 HRR4 HC4 B4 m0 m1 m2 ml p0 p1 pl g0 g1 g2 g3 g4 g5 g6 gl
  by_cases h0 : ac = 0
  case neg =>
    have t0 : (ac != 0) = true := by simp [h0]
    have H0 := Lib.hid h0
    clear h0
    go_wp2_with fail
    refine bodyPost_ret (v := .tuple #[.slice none 0 0, .int .i64 ac]) (by simp [results, Tryz.results13, go_sem]) rfl ?_
    exact ⟨DevR_err ((devC_aim HCB.out (by rw [HAC.out]; exact H0.out)).trans HAC.out) H0.out, B5.out⟩
  subst h0
  obtain ⟨hgb, hmb, hx, hzb⟩ := aimC_zero HAC.out
  have m0 : w5.cell? ⟨w.heap.size, 0, none⟩ = some (.slice zo m.zones.length zc) := HM5.out.cell 0
  have ml := HM5.out.lt
  have p0 : w5.cell? ⟨W1.heap.size, 0, none⟩ = some (.string x.name) := HP5.out.cell 0
  have p1 : w5.cell? ⟨W1.heap.size, 1, none⟩ = some (.slice lo x.rings.length lc) := HP5.out.cell 1
  have pl := HP5.out.lt
  have HAP := Lib.hid (impl_ApplyCuts w5 x lo zo co lc zc cc m.zones cs hs HRR5.out HR5.out.1 hz HC5.out hx hzb HCB.out)
  have HGB := Lib.hid hgb
  have HMB := Lib.hid hmb
  have HZB := Lib.hid hzb
  clear hgb hmb hx hzb HP5 HRR5 HC5
  go_wp2_with fail
  refine HAP.out.mono ?_; rintro e w6 ⟨he, b6⟩
  have HM6 := Lib.hid (HM5.out.below b6 HM5.out.lt)
  have HG6 := Lib.hid (HG5.out.below b6 HG5.out.lt)
  have HR6 := Lib.hid (HR5.out.up b6)
  have B6 := Lib.hid (bnext B5.out b6)
  clear b6 HM5 HG5 HR5 B5 m0 ml p0 p1 pl HAP
  rcases he with ⟨hne, rfl⟩ | ⟨h0, q6, c6, rfl, hrd⟩
  · obtain ⟨ap, hap⟩ : ∃ c, applyCode x m.zones cs = c := ⟨_, rfl⟩
    have HAPC := Lib.hid hap
    rw [hap] at hne ⊢
    have HNE := Lib.hid hne
    have t0 : (ap != 0) = true := by simp [hne]
    clear hne hap
    go_wp2_with fail
    refine bodyPost_ret (v := .tuple #[.slice none 0 0, .int .i64 ap]) (by simp [results, Tryz.results13, go_sem]) rfl ?_
    refine ⟨DevR_err ((devC_app HCB.out HAC.out (by rw [HAPC.out]; exact HNE.out)).trans HAPC.out) HNE.out, ?_⟩
    exact B6.out.alloc B6.out.size _
  have HRD := Lib.hid hrd
  have HAPC := Lib.hid h0
  have HL := Lib.hid (turned_len x m.zones cs)
  have HPR := Lib.hid (apply_prof h0)
  clear hrd h0
  obtain ⟨Y, hY⟩ : ∃ Y, afterX x m.zones cs = Y := ⟨_, rfl⟩
  have hYn : Y.name = x.name := by rw [← hY]; rfl
  have HYR : Hid (rawZ m (afterX x m.zones cs).rings = rawZ m Y.rings) := Lib.hid (by rw [hY])
  rw [hY] at HRD HL HPR ⊢
  rw [← hYn] at hs
  rw [← hYn]
  clear hY hYn
  obtain ⟨W7, hW7⟩ : ∃ W7, w6.alloc (.cells #[.string Y.name, .slice (some ⟨q6, 0, none⟩) Y.rings.length c6] 43) = W7 := ⟨_, rfl⟩
  have b7 : Below w6.heap.size w6 W7 := hW7 ▸ (Below.refl _ _).alloc (Nat.le_refl _) _
  have O7 : Own W7 w6.heap.size 43 [.string Y.name, .slice (some ⟨q6, 0, none⟩) Y.rings.length c6] := hW7 ▸ Own.new w6 _ _
  obtain ⟨a, b, c, d, e, hraw⟩ := list5 (rawZ_len m Y.rings)
  have HRAW := Lib.hid hraw
  have HSO := Lib.hid (impl_SoundOfD W7 zo wo bo (some ⟨q6, 0, none⟩) zc wc bc c6 m Y (HR6.out.up b7) HMB.out hs (HRD.out.up b7) HPR.out (by rw [HL.out]; exact HZB.out) a b c d e hraw)
  have M7 := HM6.out.below b7 HM6.out.lt
  have HM7 := Lib.hid M7
  have HG7 := Lib.hid (HG6.out.below b7 HG6.out.lt)
  have m0 : W7.cell? ⟨w.heap.size, 0, none⟩ = some (.slice zo m.zones.length zc) := M7.cell 0
  have m1 : W7.cell? ⟨w.heap.size, 1, none⟩ = some (.slice wo m.rows.length wc) := M7.cell 1
  have m2 : W7.cell? ⟨w.heap.size, 2, none⟩ = some (.slice bo m.base.length bc) := M7.cell 2
  have ml := M7.lt
  have y0 : W7.cell? ⟨w6.heap.size, 0, none⟩ = some (.string Y.name) := O7.cell 0
  have y1 : W7.cell? ⟨w6.heap.size, 1, none⟩ = some (.slice (some ⟨q6, 0, none⟩) Y.rings.length c6) := O7.cell 1
  have yl := O7.lt
  have B7 := Lib.hid (bnext B6.out b7)
  clear b7 O7 HM6 HG6 HR6 B6 hraw M7
  obtain ⟨sb, hsb⟩ : ∃ s, sndP a b c d e = s := ⟨_, rfl⟩
  have HSB0 := Lib.hid hsb
  have HSB : Hid (sndL (rawZ m (afterX x m.zones cs).rings) = sb) := Lib.hid (by rw [HYR.out, HRAW.out]; exact hsb)
  rw [hsb] at HSO
  have HCX := Lib.hid (devC_snd HCB.out HAC.out HAPC.out HSB.out)
  clear hsb
  subst hW7
  go_wp2_with fail
  refine HSO.out.mono ?_; rintro e1 w8 ⟨he, b8⟩
  have HG8 := Lib.hid (HG7.out.below b8 HG7.out.lt)
  have B8 := Lib.hid (bnext B7.out b8)
  clear b8 HSO HM7 HG7 B7 m0 m1 m2 ml y0 y1 yl
  cases sb
  · rw [if_neg (by intro q; cases q)] at he
    subst he
    go_wp2_with fail
    refine bodyPost_ret (v := .tuple #[.slice none 0 0, .int .i64 6]) (by simp [results, Tryz.results13, go_sem]) rfl ?_
    exact ⟨DevR_err HCX.out (by decide), B8.out.alloc B8.out.size _⟩
  · rw [if_pos rfl] at he
    subst he
    obtain ⟨W9, hW9⟩ : ∃ W9, w8.alloc (.cells #[.int .i64 a, .int .i64 b, .int .i64 c, .int .i64 d, .int .i64 e] 45) = W9 := ⟨_, rfl⟩
    have b9 : Below w8.heap.size w8 W9 := hW9 ▸ (Below.refl _ _).alloc (Nat.le_refl _) _
    have O9 : Own W9 w8.heap.size 45 [.int .i64 a, .int .i64 b, .int .i64 c, .int .i64 d, .int .i64 e] := hW9 ▸ Own.new w8 _ _
    have u0 : W9.cell? ⟨w8.heap.size, 0, none⟩ = some (.int .i64 a) := O9.cell 0
    have u1 : W9.cell? ⟨w8.heap.size, 1, none⟩ = some (.int .i64 b) := O9.cell 1
    have u2 : W9.cell? ⟨w8.heap.size, 2, none⟩ = some (.int .i64 c) := O9.cell 2
    have u3 : W9.cell? ⟨w8.heap.size, 3, none⟩ = some (.int .i64 d) := O9.cell 3
    have u4 : W9.cell? ⟨w8.heap.size, 4, none⟩ = some (.int .i64 e) := O9.cell 4
    have ul := O9.lt
    have G9 := HG8.out.below b9 HG8.out.lt
    have g0 : W9.cell? ⟨W2.heap.size, 0, none⟩ = some (.int .i64 g.a) := G9.cell 0
    have g1 : W9.cell? ⟨W2.heap.size, 1, none⟩ = some (.int .i64 g.b) := G9.cell 1
    have g2 : W9.cell? ⟨W2.heap.size, 2, none⟩ = some (.int .i64 g.c) := G9.cell 2
    have g3 : W9.cell? ⟨W2.heap.size, 3, none⟩ = some (.int .i64 g.d) := G9.cell 3
    have g4 : W9.cell? ⟨W2.heap.size, 4, none⟩ = some (.int .i64 g.e) := G9.cell 4
    have gl := G9.lt
    have B9 := Lib.hid (bnext B8.out b9)
    have hR5 : ∀ z ∈ [a, b, c, d, e], 10000 ≤ z ∧ z ≤ 20000000 := (sndP_parts HSB0.out).1
    have HAPT := Lib.hid (impl_apart W9 [a, b, c, d, e] (goalL g) a b c d e g.a g.b g.c g.d g.e rfl rfl hR5 (goalL_all HGB.out))
    clear b9 O9 G9 HG8 B8 hR5
    subst hW9
    go_wp2_with fail
    refine HAPT.out.mono ?_; rintro e1 w10 ⟨r10, rfl, o10, b10⟩
    have B10 := Lib.hid (bnext B9.out b10)
    have z9 := B9.out.size
    obtain ⟨ro, rc, er⟩ := (own_rd o10).form
    subst er
    have O10 := Lib.hid o10
    clear o10 b10 HAPT u0 u1 u2 u3 u4 ul g0 g1 g2 g3 g4 gl B9
    go_wp2_with fail
    refine bodyPost_ret (v := .tuple #[.slice ro 5 rc, .int .i64 0]) (by simp [results, Tryz.results13, go_sem]) rfl ?_
    exact ⟨DevR_ok HCX.out (by rw [HYR.out, HRAW.out]; exact own_baseZ O10.out z9), B10.out⟩
end Go.Proofs.YtcjekailcljaaaaGreat
