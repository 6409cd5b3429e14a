/- Contracts and plain facts, joined: AimZ. -/
import Derived.Test.YtcjekailcljaaaaGreatRows
import Derived.Test.YtcjekailcljaaaaGreatZFnExactGreedyPlanQ
namespace Go.Proofs.YtcjekailcljaaaaGreat
open Go.ChangeShapes Go.WideShapes Go.ChangeAt Go.RowKit Go.Deep Go.Joins
set_option linter.unusedVariables false
set_option maxRecDepth 100000
set_option linter.unusedSimpArgs false
def aimC (g : GoalX) (m : Mdl) (x : Profile) : Int := if goalB g = true then askC m x else 1
theorem aimC_no {g : GoalX} {m : Mdl} {x : Profile} (h : goalB g = false) : aimC g m x = 1 := by unfold aimC; rw [h]; rfl
theorem aimC_yes {g : GoalX} {m : Mdl} {x : Profile} (h : goalB g = true) : aimC g m x = askC m x := by unfold aimC; rw [h]; rfl
theorem aimC_zero {g : GoalX} {m : Mdl} {x : Profile} (h : aimC g m x = 0) : goalB g = true ∧ mdlB m = true ∧ profB x = true ∧ zonesB x.rings.length m.zones = true := by
  cases hg : goalB g
  · rw [aimC_no hg] at h; exact absurd h (by decide)
  · rw [aimC_yes hg] at h; exact ⟨rfl, askC_zero h⟩
set_option maxHeartbeats 1000000 in
theorem spec_l10Ask (w : World) (a p q : Nat) (zo wo bo lo : Option Addr) (zc wc bc lc : Nat) (m : Mdl) (x : Profile) (g : GoalX) (hm : MdlAt w a (.slice zo m.zones.length zc) (.slice wo m.rows.length wc) (.slice bo m.base.length bc)) (hr : RdMdl w.heap.size w (.slice zo m.zones.length zc) (.slice wo m.rows.length wc) (.slice bo m.base.length bc) m) (hz : m.zones.length ≤ 1048576) (h5 : m.rows.length ≤ 1048576) (h6 : m.base.length ≤ 1048576)
    (hp : ProfAt w p x lo lc) (hs : x.name.size ≤ maxLen) (hR : RdR w lo lc x.rings) (hn : x.rings.length ≤ 1048576) (hg : GoalAt w q g) :
    Calls Tryz.prog 29 #[.pointer (some ⟨a, 0, none⟩), .pointer (some ⟨p, 0, none⟩), .pointer (some ⟨q, 0, none⟩)] w fun e w' => e = .returned (.int .i64 (aimC g m x)) ∧ Below w.heap.size w w' := by
  have HG := Lib.hid (spec_l10GoalZ w q g hg)
  have HM := Lib.hid hm
  have HR := Lib.hid hr
  have HP := Lib.hid hp
  have HRR := Lib.hid hR
  clear hm hr hp hR hg
  obtain ⟨gb, hgb⟩ : ∃ b, goalB g = b := ⟨_, rfl⟩
  have HGB := Lib.hid hgb
  rw [hgb] at HG
  clear hgb
  go_enter Tryz.func29, Tryz.ntmps29
  go_wp2_with fail
  refine HG.out.mono ?_; rintro e w1 ⟨rfl, b1⟩
  cases gb
  · have e := Lib.hid (aimC_no (m := m) (x := x) HGB.out)
    go_wp2_with fail
    go_ret
    exact ⟨by rw [e.out]; rfl, b1⟩
  have e := Lib.hid (aimC_yes (m := m) (x := x) HGB.out)
  have HA := Lib.hid (spec_l08Ask w1 a p zo wo bo lo zc wc bc lc m x (HM.out.below b1 HM.out.2.2.2) (HR.out.up b1) hz h5 h6 (HP.out.below b1 HP.out.2.2) hs (HRR.out.up b1) hn)
  have B1 := Lib.hid b1
  clear b1 HG
  go_wp2_with fail
  refine HA.out.mono ?_; rintro e1 w2 ⟨rfl, b2⟩
  have B2 := Lib.hid (bnext B1.out b2)
  clear b2
  go_wp2_with fail
  go_ret
  exact ⟨by rw [e.out]; rfl, B2.out⟩
set_option maxHeartbeats 1000000 in
theorem impl_aimed (w : World) (zo wo bo lo : Option Addr) (zc wc bc lc : Nat) (m : Mdl) (x : Profile) (g : GoalX) (hr : RdMdl w.heap.size w (.slice zo m.zones.length zc) (.slice wo m.rows.length wc) (.slice bo m.base.length bc) m) (hz : m.zones.length ≤ 1048576) (h5 : m.rows.length ≤ 1048576) (h6 : m.base.length ≤ 1048576)
    (hs : x.name.size ≤ maxLen) (hR : RdR w lo lc x.rings) (hn : x.rings.length ≤ 1048576) :
    Calls Tryz.prog 40 #[.agg #[.slice zo m.zones.length zc, .slice wo m.rows.length wc, .slice bo m.base.length bc], .agg #[.string x.name, .slice lo x.rings.length lc], .agg #[.int .i64 g.a, .int .i64 g.b, .int .i64 g.c, .int .i64 g.d, .int .i64 g.e, .int .i64 g.tol, .int .i64 g.most]] w fun e w' => e = .returned (.int .i64 (aimC g m x)) ∧ Below w.heap.size w w' := by
  obtain ⟨W1, hW1⟩ : ∃ W1, w.alloc (.cells #[.slice zo m.zones.length zc, .slice wo m.rows.length wc, .slice bo m.base.length bc] 39) = W1 := ⟨_, rfl⟩
  obtain ⟨W2, hW2⟩ : ∃ W2, W1.alloc (.cells #[.string x.name, .slice lo x.rings.length lc] 43) = W2 := ⟨_, rfl⟩
  obtain ⟨W3, hW3⟩ : ∃ W3, W2.alloc (.cells #[.int .i64 g.a, .int .i64 g.b, .int .i64 g.c, .int .i64 g.d, .int .i64 g.e, .int .i64 g.tol, .int .i64 g.most] 47) = W3 := ⟨_, rfl⟩
  have b1 : Below w.heap.size w W1 := hW1 ▸ (Below.refl _ _).alloc (Nat.le_refl _) _
  have b2 : Below W1.heap.size W1 W2 := hW2 ▸ (Below.refl _ _).alloc (Nat.le_refl _) _
  have b3 : Below W2.heap.size W2 W3 := hW3 ▸ (Below.refl _ _).alloc (Nat.le_refl _) _
  have M1 : Own W1 w.heap.size 39 [.slice zo m.zones.length zc, .slice wo m.rows.length wc, .slice bo m.base.length bc] := hW1 ▸ Own.new w _ _
  have M2 := M1.below b2 M1.lt
  have M3 := M2.below b3 M2.lt
  have P2 : Own W2 W1.heap.size 43 [.string x.name, .slice lo x.rings.length lc] := hW2 ▸ Own.new W1 _ _
  have P3 := P2.below b3 P2.lt
  have G3 : Own W3 W2.heap.size 47 [.int .i64 g.a, .int .i64 g.b, .int .i64 g.c, .int .i64 g.d, .int .i64 g.e, .int .i64 g.tol, .int .i64 g.most] := hW3 ▸ Own.new W2 _ _
  have B3 := Lib.hid (bnext (bnext b1 b2) b3)
  have HR := Lib.hid (((hr.up b1).up b2).up b3)
  have HRR := Lib.hid (((hR.up b1).up b2).up b3)
  have HM3 := Lib.hid M3
  have HP3 := Lib.hid P3
  have g0 : W3.cell? ⟨W2.heap.size, 0, none⟩ = some (.int .i64 g.a) := G3.cell 0
  have g1 : W3.cell? ⟨W2.heap.size, 1, none⟩ = some (.int .i64 g.b) := G3.cell 1
  have g2 : W3.cell? ⟨W2.heap.size, 2, none⟩ = some (.int .i64 g.c) := G3.cell 2
  have g3 : W3.cell? ⟨W2.heap.size, 3, none⟩ = some (.int .i64 g.d) := G3.cell 3
  have g4 : W3.cell? ⟨W2.heap.size, 4, none⟩ = some (.int .i64 g.e) := G3.cell 4
  have g5 : W3.cell? ⟨W2.heap.size, 5, none⟩ = some (.int .i64 g.tol) := G3.cell 5
  have g6 : W3.cell? ⟨W2.heap.size, 6, none⟩ = some (.int .i64 g.most) := G3.cell 6
  have gl := G3.lt
  have HG := Lib.hid (impl_ValidGoalZ W3 g)
  clear hr hR b1 b2 b3 M1 M2 M3 P2 P3 G3
  obtain ⟨gb, hgb⟩ : ∃ b, goalB g = b := ⟨_, rfl⟩
  have HGB := Lib.hid hgb
  rw [hgb] at HG
  clear hgb
  go_enter Tryz.func40, Tryz.ntmps40
  go_wp2_with fail
  refine HG.out.mono ?_; rintro e w4 ⟨rfl, b4⟩
  have B4 := Lib.hid (bnext B3.out b4)
  cases gb
  · have e := Lib.hid (aimC_no (m := m) (x := x) HGB.out)
    go_wp2_with fail
    go_ret
    exact ⟨by rw [e.out]; rfl, B4.out⟩
  have e := Lib.hid (aimC_yes (m := m) (x := x) HGB.out)
  have M4 := HM3.out.below b4 HM3.out.lt
  have P4 := HP3.out.below b4 HP3.out.lt
  have m0 : w4.cell? ⟨w.heap.size, 0, none⟩ = some (.slice zo m.zones.length zc) := M4.cell 0
  have m1 : w4.cell? ⟨w.heap.size, 1, none⟩ = some (.slice wo m.rows.length wc) := M4.cell 1
  have m2 : w4.cell? ⟨w.heap.size, 2, none⟩ = some (.slice bo m.base.length bc) := M4.cell 2
  have ml := M4.lt
  have p0 : w4.cell? ⟨W1.heap.size, 0, none⟩ = some (.string x.name) := P4.cell 0
  have p1 : w4.cell? ⟨W1.heap.size, 1, none⟩ = some (.slice lo x.rings.length lc) := P4.cell 1
  have pl := P4.lt
  have HA := Lib.hid (impl_modelled w4 zo wo bo lo zc wc bc lc m x (HR.out.up b4) hz h5 h6 hs (HRR.out.up b4) hn)
  clear b4 M4 P4 HG g0 g1 g2 g3 g4 g5 g6 gl hW1 hW2 hW3 HM3 HP3
  go_wp2_with fail
  refine HA.out.mono ?_; rintro e1 w5 ⟨rfl, b5⟩
  have B5 := Lib.hid (bnext B4.out b5)
  clear b5
  go_wp2_with fail
  go_ret
  exact ⟨by rw [e.out]; rfl, B5.out⟩
end Go.Proofs.YtcjekailcljaaaaGreat
