/- Contracts and plain facts, joined: ApplyS2. -/
import Derived.Test.YtcjekailcljaaaaGreatRows
import Derived.Test.YtcjekailcljaaaaGreatZFnExactGreedyPlanY
namespace Go.Proofs.YtcjekailcljaaaaGreat
open Go.ChangeShapes Go.WideShapes Go.ChangeAt Go.RowKit Go.Deep Go.Joins
set_option linter.unusedVariables false
set_option maxRecDepth 100000
set_option linter.unusedSimpArgs false
theorem turned_len (x : Profile) (zs : List Int) (cs : List Cut) : (afterX x zs cs).rings.length = x.rings.length := by show (turnedS zs (sumsS cs) x.rings).length = _; unfold turnedS; rw [midT_len]
theorem applyCode_no {x : Profile} {zs : List Int} {cs : List Cut} (h : cutCode zs cs ≠ 0) : applyCode x zs cs = cutCode zs cs := by unfold applyCode; rw [if_neg h]
theorem applyCode_if {x : Profile} {zs : List Int} {cs : List Cut} (h : cutCode zs cs = 0) : applyCode x zs cs = if profB (afterX x zs cs) = true then 0 else 6 := by unfold applyCode; rw [if_pos h]
/-- the result of cuts: a code, or a profile in blocks of its own -/
def Applied (base : Nat) (w' : World) (x : Profile) (zs : List Int) (cs : List Cut) (e : Ending) : Prop :=
  (applyCode x zs cs ≠ 0 ∧ e = .returned (.tuple #[.agg #[.string ⟨#[]⟩, .slice none 0 0], .int .i64 (applyCode x zs cs)])) ∨
  (applyCode x zs cs = 0 ∧ ∃ g c, e = .returned (.tuple #[.agg #[.string x.name, .slice (some ⟨g, 0, none⟩) (afterX x zs cs).rings.length c], .int .i64 0]) ∧ RdR w' (some ⟨g, 0, none⟩) c (afterX x zs cs).rings)
set_option maxHeartbeats 2000000 in
theorem spec_l09Apply (w : World) (p : Nat) (x : Profile) (lo zo co : Option Addr) (lc zc cc : Nat) (zs : List Int) (cs : List Cut) (hp : ProfAt w p x lo lc) (hs : x.name.size ≤ maxLen) (hR : RdR w lo lc x.rings) (hz : Rd w.heap.size w (.slice zo zs.length zc) 1 zs.length (zs.flatMap putI)) (hzn : zs.length ≤ 1048576)
    (hc : Rd w.heap.size w (.slice co cs.length cc) 2 cs.length (cs.flatMap Cut.put)) (hx : profB x = true) (hzb : zonesB x.rings.length zs = true) (hcb : cutsB cs = true) :
    Calls Tryz.prog 31 #[.pointer (some ⟨p, 0, none⟩), .slice zo zs.length zc, .slice co cs.length cc] w fun e w' => Applied w.heap.size w' x zs cs e ∧ Below w.heap.size w w' := by
  obtain ⟨n1, n32, hv, _⟩ := profB_true hx
  obtain ⟨z1, z8⟩ := (zonesB_parts hzb).1
  have hpz : pzB x zs = true := by unfold pzB; rw [hx, hzb]; rfl
  obtain ⟨W1, hW1⟩ : ∃ W1, w.alloc (.cells #[.string ⟨#[]⟩, .slice none 0 0] 43) = W1 := ⟨_, rfl⟩
  have b1 : Below w.heap.size w W1 := hW1 ▸ (Below.refl _ _).alloc (Nat.le_refl _) _
  have R1 : Own W1 w.heap.size 43 [.string ⟨#[]⟩, .slice none 0 0] := hW1 ▸ Own.new w _ _
  have HA := Lib.hid (spec_l09Ask W1 p x lo zo co lc zc cc zs cs (hp.below b1 hp.2.2) hs (hR.up b1) (by omega) (hz.up b1) hzn (hc.up b1) hpz hcb)
  have HP := Lib.hid (hp.below b1 hp.2.2)
  have HRR := Lib.hid (hR.up b1)
  have HZ := Lib.hid (hz.up b1)
  have HC := Lib.hid (hc.up b1)
  have HCB := Lib.hid hcb
  have HV := Lib.hid hv
  have B1 := Lib.hid b1
  have HR1 := Lib.hid R1
  have e1 : w.heap.size < W1.heap.size := R1.lt
  obtain ⟨cd, hcd⟩ : ∃ c, cutCode zs cs = c := ⟨_, rfl⟩
  have HCD := Lib.hid hcd
  rw [hcd] at HA
  clear hp hR hz hc hx hzb hcb hv hpz b1 R1 hcd
  go_enter Tryz.func31, Tryz.ntmps31
  go_wp2_with fail
  refine HA.out.mono ?_; rintro e w2 ⟨rfl, b2⟩
  have HP2 := Lib.hid (HP.out.below b2 HP.out.2.2)
  have HRR2 := Lib.hid (HRR.out.up b2)
  have HZ2 := Lib.hid (HZ.out.up b2)
  have HC2 := Lib.hid (HC.out.up b2)
  have R2 := HR1.out.below b2 HR1.out.lt
  have HR2 := Lib.hid R2
  have B2 := Lib.hid (bnext B1.out b2)
  have z12 := b2.size
  clear b2 HA HP HRR HZ HC HR1 B1
  by_cases h0 : cd = 0
  case neg =>
    have E := Lib.hid (applyCode_no (x := x) (HCD.out ▸ h0))
    have t0 : (cd != 0) = true := by simp [h0]
    have H0 := Lib.hid h0
    have r0 : w2.cell? ⟨w.heap.size, 0, none⟩ = some (.string ⟨#[]⟩) := R2.cell 0
    have r1 : w2.cell? ⟨w.heap.size, 1, none⟩ = some (.slice none 0 0) := R2.cell 1
    have f0 := R2.free 0
    have f1 := R2.free 1
    have rl := R2.lt
    clear R2 HR2 HP2 HRR2 HZ2 HC2 h0 hW1
    go_wp2_with fail
    refine bodyPost_ret (v := .tuple #[.agg #[.string ⟨#[]⟩, .slice none 0 0], .int .i64 cd]) (by simp [results, Tryz.results31, go_sem, r0, r1, f0, f1, rl]) rfl ?_
    refine ⟨Or.inl ⟨by rw [E.out, HCD.out]; exact H0.out, by rw [E.out, HCD.out]⟩, ?_⟩
    exact Below.setCell (Below.setCell B2.out (Nat.le_refl _) _) (Nat.le_refl _) _
  subst h0
  have E := Lib.hid (applyCode_if (x := x) HCD.out)
  have HSU := Lib.hid (spec_l09Sums w2 co cc cs HC2.out HCB.out)
  clear R2 HC2 hW1
  go_wp2_with fail
  refine HSU.out.mono ?_; rintro e w3 ⟨g3, rfl, hg3, o3, b3⟩
  have HT := Lib.hid (spec_l09Turned w3 p x lo lc zo (some ⟨g3, 0, none⟩) zc 8 zs (sumsS cs) (HP2.out.below b3 HP2.out.2.2) (HRR2.out.up b3) HV.out n1 n32 (HZ2.out.up b3) z1 z8 (own_sums o3) (by rw [sumsS_len]; exact z8) (by rw [sumsS_len]; omega) (sumsS_bd HCB.out))
  rw [sumsS_len] at HT
  have HR3 := Lib.hid (HR2.out.below b3 HR2.out.lt)
  have B3 := Lib.hid (bnext B2.out b3)
  have z23 := b3.size
  clear b3 o3 HSU HR2 HP2 HRR2 HZ2 B2
  go_wp2_with fail
  refine HT.out.mono ?_; rintro e w4 ⟨g, c, rfl, o4, b4⟩
  have HL := Lib.hid (turned_len x zs cs)
  have HRX : Hid (RdR w4 (some ⟨g, 0, none⟩) c (afterX x zs cs).rings) := Lib.hid (by
    have := own_rd o4
    unfold RdR
    rw [HL.out]
    exact this)
  have HD := Lib.hid (spec_l07DoneX w4 (afterX x zs cs) (some ⟨g, 0, none⟩) c hs HRX.out (by rw [HL.out]; omega))
  rw [HL.out] at HD
  have HR4 := Lib.hid (HR3.out.below b4 HR3.out.lt)
  have B4 := Lib.hid (bnext B3.out b4)
  have z34 := b4.size
  have O4 := Lib.hid o4
  clear b4 o4 HT HR3 B3
  obtain ⟨pb, hpb⟩ : ∃ b, profB (afterX x zs cs) = b := ⟨_, rfl⟩
  have HPB := Lib.hid hpb
  rw [hpb] at HD
  clear hpb
  have hnm : (afterX x zs cs).name = x.name := rfl
  rw [hnm] at HD
  clear hnm
  go_wp2_with fail
  refine HD.out.mono ?_; rintro e w5 ⟨he, b5⟩
  have R5 := HR4.out.below b5 HR4.out.lt
  have r0 : w5.cell? ⟨w.heap.size, 0, none⟩ = some (.string ⟨#[]⟩) := R5.cell 0
  have r1 : w5.cell? ⟨w.heap.size, 1, none⟩ = some (.slice none 0 0) := R5.cell 1
  have f0 := R5.free 0
  have f1 := R5.free 1
  have rl := R5.lt
  have O5 := Lib.hid (own_below O4.out b5 (Nat.le_refl _))
  have B5 := Lib.hid (bnext B4.out b5)
  clear b5 R5 HR4 HRX B4 HD O4
  cases pb
  · rw [if_neg (by intro q; cases q)] at he
    subst he
    go_wp2_with fail
    refine bodyPost_ret (v := .tuple #[.agg #[.string ⟨#[]⟩, .slice none 0 0], .int .i64 6]) (by simp [results, Tryz.results31, go_sem, r0, r1, f0, f1, rl]) rfl ?_
    have E6 : applyCode x zs cs = 6 := by rw [E.out, HPB.out]; rfl
    refine ⟨Or.inl ⟨by rw [E6]; decide, by rw [E6]⟩, ?_⟩
    exact Below.setCell (Below.setCell B5.out (Nat.le_refl _) _) (Nat.le_refl _) _
  · rw [if_pos rfl] at he
    subst he
    go_wp2_with fail
    refine bodyPost_ret (v := .tuple #[.agg #[.string x.name, .slice (some ⟨g, 0, none⟩) x.rings.length c], .int .i64 0]) (by simp [results, Tryz.results31, go_sem, r0, r1, f0, f1, rl]) rfl ?_
    have E6 : applyCode x zs cs = 0 := by rw [E.out, HPB.out]; rfl
    refine ⟨Or.inr ⟨E6, g, c, by rw [HL.out], ?_⟩, ?_⟩
    · have hax : ∀ g', (Value.slice (some ⟨g, 0, none⟩) x.rings.length c).ownBlock = some g' → g' ≠ w.heap.size := fun g' hg' => (by
        have h3 := (O5.out.lt g' hg').1
        omega)
      have := own_rd (own_farZ (own_farZ O5.out hax 0 (.string x.name)) hax 1 (.slice (some ⟨g, 0, none⟩) x.rings.length c))
      unfold RdR
      rw [HL.out]
      exact this
    · exact Below.setCell (Below.setCell B5.out (Nat.le_refl _) _) (Nat.le_refl _) _
end Go.Proofs.YtcjekailcljaaaaGreat
