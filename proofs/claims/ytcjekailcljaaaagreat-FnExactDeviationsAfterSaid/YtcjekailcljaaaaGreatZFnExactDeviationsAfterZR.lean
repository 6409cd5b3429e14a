/- Contracts and plain facts, joined: ApplyI. -/
import Derived.Test.YtcjekailcljaaaaGreatRows
import Derived.Test.YtcjekailcljaaaaGreatZFnExactDeviationsAfterZK
namespace Go.Proofs.YtcjekailcljaaaaGreat
open Go.ChangeShapes Go.WideShapes Go.ChangeAt Go.RowKit Go.Deep Go.Joins
set_option linter.unusedVariables false
set_option maxRecDepth 100000
set_option linter.unusedSimpArgs false
set_option maxHeartbeats 1000000 in
theorem impl_orStateX (w : World) (x : Profile) (lo : Option Addr) (lc : Nat) (hs : x.name.size ≤ maxLen) (hR : RdR w lo lc x.rings) (hn : x.rings.length ≤ 1048576) :
    Calls Tryz.prog 82 #[.agg #[.string x.name, .slice lo x.rings.length lc]] w fun e w' => (if profB x = true then e = .returned (.tuple #[.agg #[.string x.name, .slice lo x.rings.length lc], .int .i64 0]) else e = .returned (.tuple #[.agg #[.string ⟨#[]⟩, .slice none 0 0], .int .i64 6])) ∧ Below w.heap.size w w' := by
  obtain ⟨W1, hW1⟩ : ∃ W1, w.alloc (.cells #[.string x.name, .slice lo x.rings.length lc] 43) = W1 := ⟨_, rfl⟩
  obtain ⟨W2, hW2⟩ : ∃ W2, W1.alloc (.cells #[.string ⟨#[]⟩, .slice none 0 0] 43) = W2 := ⟨_, rfl⟩
  have b1 : Below w.heap.size w W1 := hW1 ▸ (Below.refl _ _).alloc (Nat.le_refl _) _
  have b2 : Below W1.heap.size W1 W2 := hW2 ▸ (Below.refl _ _).alloc (Nat.le_refl _) _
  have X1 : Own W1 w.heap.size 43 [.string x.name, .slice lo x.rings.length lc] := hW1 ▸ Own.new w _ _
  have X2 := X1.below b2 X1.lt
  have R2 : Own W2 W1.heap.size 43 [.string ⟨#[]⟩, .slice none 0 0] := hW2 ▸ Own.new W1 _ _
  have zw1 : w.heap.size < W1.heap.size := X1.lt
  have B2 := Lib.hid (bnext b1 b2)
  have HX2 := Lib.hid X2
  have HR2 := Lib.hid R2
  have y0 : W2.cell? ⟨w.heap.size, 0, none⟩ = some (.string x.name) := X2.cell 0
  have y1 : W2.cell? ⟨w.heap.size, 1, none⟩ = some (.slice lo x.rings.length lc) := X2.cell 1
  have yl := X2.lt
  obtain ⟨pb, hpb⟩ : ∃ b, profB x = b := ⟨_, rfl⟩
  have HO := Lib.hid (impl_ValidProfile W2 x lo lc hs ((hR.up b1).up b2) hn hpb)
  clear hR b1 b2 X1 X2 R2
  rw [hpb]
  clear hpb
  go_enter Tryz.func82, Tryz.ntmps82
  go_wp2_with fail
  refine HO.out.mono ?_; rintro e w3 ⟨rfl, b3⟩
  have X3 := HX2.out.below b3 HX2.out.lt
  have R3 := HR2.out.below b3 HR2.out.lt
  have x0 : w3.cell? ⟨w.heap.size, 0, none⟩ = some (.string x.name) := X3.cell 0
  have x1 : w3.cell? ⟨w.heap.size, 1, none⟩ = some (.slice lo x.rings.length lc) := X3.cell 1
  have xl := X3.lt
  have r0 : w3.cell? ⟨W1.heap.size, 0, none⟩ = some (.string ⟨#[]⟩) := R3.cell 0
  have r1 : w3.cell? ⟨W1.heap.size, 1, none⟩ = some (.slice none 0 0) := R3.cell 1
  have f0 := R3.free 0
  have f1 := R3.free 1
  have rl := R3.lt
  have hne : ¬ W1.heap.size = w.heap.size := by omega
  have hne2 : ¬ w.heap.size = W1.heap.size := by omega
  have B3 := Lib.hid (bnext B2.out b3)
  have hge : w.heap.size ≤ W1.heap.size := Nat.le_of_lt zw1
  clear b3 X3 R3 HX2 HR2 B2 HO hW1 hW2 y0 y1 yl
  cases pb
  · go_wp2_with fail
    refine bodyPost_ret (v := .tuple #[.agg #[.string ⟨#[]⟩, .slice none 0 0], .int .i64 6]) (by simp [results, Tryz.results82, go_sem, x0, x1, xl, r0, r1, f0, f1, rl, hne, hne2]) rfl ?_
    exact ⟨rfl, Below.setCell (Below.setCell B3.out hge _) hge _⟩
  · go_wp2_with fail
    refine bodyPost_ret (v := .tuple #[.agg #[.string x.name, .slice lo x.rings.length lc], .int .i64 0]) (by simp [results, Tryz.results82, go_sem, x0, x1, xl, r0, r1, f0, f1, rl, hne, hne2]) rfl ?_
    exact ⟨rfl, Below.setCell (Below.setCell B3.out hge _) hge _⟩
set_option maxHeartbeats 3000000 in
theorem impl_ApplyCuts (w : World) (x : Profile) (lo zo co : Option Addr) (lc zc cc : Nat) (zs : List Int) (cs : List Cut) (hs : x.name.size ≤ maxLen) (hR : RdR w lo lc x.rings) (hz : Rd w.heap.size w (.slice zo zs.length zc) 1 zs.length (zs.flatMap putI)) (hzn : zs.length ≤ 1048576)
    (hc : Rd w.heap.size w (.slice co cs.length cc) 2 cs.length (cs.flatMap Cut.put)) (hx : profB x = true) (hzb : zonesB x.rings.length zs = true) (hcb : cutsB cs = true) :
    Calls Tryz.prog 41 #[.agg #[.string x.name, .slice lo x.rings.length lc], .slice zo zs.length zc, .slice co cs.length cc] w fun e w' => Applied w.heap.size w' x zs cs e ∧ Below w.heap.size w w' := by
  obtain ⟨n1, n32, hv, _⟩ := profB_true hx
  obtain ⟨z1, z8⟩ := (zonesB_parts hzb).1
  have hcl := (cutsB_parts hcb).1
  have hpz : pzB x zs = true := by unfold pzB; rw [hx, hzb]; rfl
  obtain ⟨W1, hW1⟩ : ∃ W1, w.alloc (.cells #[.string x.name, .slice lo x.rings.length lc] 43) = W1 := ⟨_, rfl⟩
  obtain ⟨W2, hW2⟩ : ∃ W2, W1.alloc (.cells #[.slice zo zs.length zc] 22) = W2 := ⟨_, rfl⟩
  obtain ⟨W3, hW3⟩ : ∃ W3, W2.alloc (.cells #[.string ⟨#[]⟩, .slice none 0 0] 43) = W3 := ⟨_, rfl⟩
  have b1 : Below w.heap.size w W1 := hW1 ▸ (Below.refl _ _).alloc (Nat.le_refl _) _
  have b2 : Below W1.heap.size W1 W2 := hW2 ▸ (Below.refl _ _).alloc (Nat.le_refl _) _
  have b3 : Below W2.heap.size W2 W3 := hW3 ▸ (Below.refl _ _).alloc (Nat.le_refl _) _
  have X1 : Own W1 w.heap.size 43 [.string x.name, .slice lo x.rings.length lc] := hW1 ▸ Own.new w _ _
  have X2 := X1.below b2 X1.lt
  have X3 := X2.below b3 X2.lt
  have Z2 : Own W2 W1.heap.size 22 [.slice zo zs.length zc] := hW2 ▸ Own.new W1 _ _
  have Z3 := Z2.below b3 Z2.lt
  have R3 : Own W3 W2.heap.size 43 [.string ⟨#[]⟩, .slice none 0 0] := hW3 ▸ Own.new W2 _ _
  have l1 : w.heap.size < W1.heap.size := X1.lt
  have l2 : W1.heap.size < W2.heap.size := Z2.lt
  have l3 : W2.heap.size < W3.heap.size := R3.lt
  have B3 := Lib.hid (bnext (bnext b1 b2) b3)
  have HRR := Lib.hid (((hR.up b1).up b2).up b3)
  have HZ := Lib.hid (((hz.up b1).up b2).up b3)
  have HC := Lib.hid (((hc.up b1).up b2).up b3)
  have HZO := Lib.hid (impl_ValidZones W3 x lo lc zo zc zs hs HRR.out (by omega) HZ.out hzn)
  rw [hpz] at HZO
  have HX3 := Lib.hid X3
  have HZ3 := Lib.hid Z3
  have HR3 := Lib.hid R3
  have x0 : W3.cell? ⟨w.heap.size, 0, none⟩ = some (.string x.name) := X3.cell 0
  have x1 : W3.cell? ⟨w.heap.size, 1, none⟩ = some (.slice lo x.rings.length lc) := X3.cell 1
  have xl := X3.lt
  have y0 : W3.cell? ⟨W1.heap.size, 0, none⟩ = some (.slice zo zs.length zc) := Z3.cell 0
  have yl := Z3.lt
  have HCB := Lib.hid hcb
  have HZB := Lib.hid hzb
  have HV := Lib.hid hv
  clear hR hz hc hx hzb hcb hv hpz b1 b2 b3 X1 X2 X3 Z2 Z3 R3
  go_enter Tryz.func41, Tryz.ntmps41
  go_wp2_with fail
  refine HZO.out.mono ?_; rintro e w4 ⟨rfl, b4⟩
  have HRR4 := Lib.hid (HRR.out.up b4)
  have HZ4 := Lib.hid (HZ.out.up b4)
  have HC4 := Lib.hid (HC.out.up b4)
  have HX4 := Lib.hid (HX3.out.below b4 HX3.out.lt)
  have HZZ4 := Lib.hid (HZ3.out.below b4 HZ3.out.lt)
  have HR4 := Lib.hid (HR3.out.below b4 HR3.out.lt)
  have B4 := Lib.hid (bnext B3.out b4)
  have HCC := Lib.hid (impl_ValidCuts w4 co cc cs HC4.out (by omega))
  rw [HCB.out] at HCC
  clear b4 HRR HZ HC HX3 HZ3 HR3 B3 HZO x0 x1 xl y0 yl hW1 hW2 hW3
  go_wp2_with fail
  refine HCC.out.mono ?_; rintro e w5 ⟨rfl, b5⟩
  have HRR5 := Lib.hid (HRR4.out.up b5)
  have HZ5 := Lib.hid (HZ4.out.up b5)
  have HC5 := Lib.hid (HC4.out.up b5)
  have HX5 := Lib.hid (HX4.out.below b5 HX4.out.lt)
  have HZZ5 := Lib.hid (HZZ4.out.below b5 HZZ4.out.lt)
  have HR5 := Lib.hid (HR4.out.below b5 HR4.out.lt)
  have B5 := Lib.hid (bnext B4.out b5)
  have HSU := Lib.hid (impl_stepsOf w5 co cc cs HC5.out HCB.out)
  clear b5 HRR4 HZ4 HC4 HX4 HZZ4 HR4 B4 HCC
  go_wp2_with fail
  refine HSU.out.mono ?_; rintro e w6 ⟨g, rfl, hg6, o6, b6⟩
  have HRR6 := Lib.hid (HRR5.out.up b6)
  have HZ6 := Lib.hid (HZ5.out.up b6)
  have HC6 := Lib.hid (HC5.out.up b6)
  have HX6 := Lib.hid (HX5.out.below b6 HX5.out.lt)
  have HZZ6 := Lib.hid (HZZ5.out.below b6 HZZ5.out.lt)
  have HR6 := Lib.hid (HR5.out.below b6 HR5.out.lt)
  have B6 := Lib.hid (bnext B5.out b6)
  have HS6 := Lib.hid (own_sums o6)
  have HZP : Hid (∀ wr, Below w6.heap.size w6 wr → wr.cell? ⟨W1.heap.size, 0, none⟩ = some (.slice zo zs.length zc) ∧ W1.heap.size < wr.heap.size) := Lib.hid (fun wr hb => by
    have h := HZZ6.out.below hb HZZ6.out.lt
    exact ⟨h.cell 0, h.lt⟩)
  have HCF := Lib.hid (ContainsFunc_AC W1.heap.size w6 _ cs (fun c => decide ((zs.length : Int) ≤ c.zone)) HC6.out (by omega) (fun wr hb k hk => impl_AC1 cs[k] W1.heap.size zo zc zs.length wr (HZP.out wr hb).1 (HZP.out wr hb).2 hzn))
  clear b6 o6 HRR5 HZ5 HC5 HX5 HZZ5 HR5 B5 HSU HZP HC6
  obtain ⟨af, haf⟩ : ∃ b, cs.any (fun c => decide ((zs.length : Int) ≤ c.zone)) = b := ⟨_, rfl⟩
  have HAF := Lib.hid haf
  rw [haf] at HCF
  clear haf
  go_wp2_with fail
  refine HCF.out.mono ?_; rintro e w7 ⟨rfl, b7⟩
  have HRR7 := Lib.hid (HRR6.out.up b7)
  have HZ7 := Lib.hid (HZ6.out.up b7)
  have HS7 := Lib.hid (HS6.out.up b7)
  have HX7 := Lib.hid (HX6.out.below b7 HX6.out.lt)
  have HZZ7 := Lib.hid (HZZ6.out.below b7 HZZ6.out.lt)
  have HR7 := Lib.hid (HR6.out.below b7 HR6.out.lt)
  have B7 := Lib.hid (bnext B6.out b7)
  clear b7 HRR6 HZ6 HS6 HX6 HZZ6 HR6 B6 HCF
  have hge : w.heap.size ≤ W2.heap.size := by omega
  cases af
  case true =>
    have E2 := Lib.hid (cutCode_2 HAF.out)
    have EA : Hid (applyCode x zs cs = 2) := Lib.hid (by rw [applyCode_no (by rw [E2.out]; decide), E2.out])
    have r0 : w7.cell? ⟨W2.heap.size, 0, none⟩ = some (.string ⟨#[]⟩) := HR7.out.cell 0
    have r1 : w7.cell? ⟨W2.heap.size, 1, none⟩ = some (.slice none 0 0) := HR7.out.cell 1
    have f0 := HR7.out.free 0
    have f1 := HR7.out.free 1
    have rl := HR7.out.lt
    go_wp2_with fail
    refine bodyPost_ret (v := .tuple #[.agg #[.string ⟨#[]⟩, .slice none 0 0], .int .i64 2]) (by simp [results, Tryz.results41, go_sem, r0, r1, f0, f1, rl]) rfl ?_
    refine ⟨Or.inl ⟨by rw [EA.out]; decide, by rw [EA.out]⟩, ?_⟩
    exact Below.setCell (Below.setCell B7.out hge _) hge _
  obtain ⟨fb, hfb⟩ : ∃ b, fitsB (sumsS cs) = b := ⟨_, rfl⟩
  have EC := Lib.hid (cutCode_f HAF.out hfb)
  have hsne : sumsS cs ≠ [] := fun q => by
    have h := sumsS_len cs
    rw [q] at h
    cases h
  have hfm := fits_max hsne
  rw [hfb] at hfm
  have HM := Lib.hid (slices_Max w7 _ (sumsS cs) HS7.out (by rw [sumsS_len]; omega) (by rw [sumsS_len]; omega))
  rw [sumsS_len] at HM
  generalize maxL (sumsS cs) = M at *
  have tM : decide (20 < M) = !fb := by
    rw [hfm]
    by_cases q : M ≤ 20
    · rw [decide_eq_true q, decide_eq_false (by omega)]; rfl
    · rw [decide_eq_false q, decide_eq_true (by omega)]; rfl
  clear hfm hfb hsne
  go_wp2_with fail
  refine HM.out.mono ?_; rintro e w8 ⟨rfl, rfl⟩
  cases fb
  case false =>
    have EA : Hid (applyCode x zs cs = 5) := Lib.hid (by rw [applyCode_no (by rw [EC.out]; decide), EC.out]; rfl)
    have r0 : w7.cell? ⟨W2.heap.size, 0, none⟩ = some (.string ⟨#[]⟩) := HR7.out.cell 0
    have r1 : w7.cell? ⟨W2.heap.size, 1, none⟩ = some (.slice none 0 0) := HR7.out.cell 1
    have f0 := HR7.out.free 0
    have f1 := HR7.out.free 1
    have rl := HR7.out.lt
    rw [Bool.not_false] at tM
    go_wp2_with fail
    refine bodyPost_ret (v := .tuple #[.agg #[.string ⟨#[]⟩, .slice none 0 0], .int .i64 5]) (by simp [results, Tryz.results41, go_sem, r0, r1, f0, f1, rl]) rfl ?_
    refine ⟨Or.inl ⟨by rw [EA.out]; decide, by rw [EA.out]⟩, ?_⟩
    exact Below.setCell (Below.setCell B7.out hge _) hge _
  rw [Bool.not_true] at tM
  have E := Lib.hid (applyCode_if (x := x) (show cutCode zs cs = 0 by rw [EC.out]; rfl))
  have x0 : w7.cell? ⟨w.heap.size, 0, none⟩ = some (.string x.name) := HX7.out.cell 0
  have x1 : w7.cell? ⟨w.heap.size, 1, none⟩ = some (.slice lo x.rings.length lc) := HX7.out.cell 1
  have xl := HX7.out.lt
  have y0 : w7.cell? ⟨W1.heap.size, 0, none⟩ = some (.slice zo zs.length zc) := HZZ7.out.cell 0
  have yl := HZZ7.out.lt
  have HT := Lib.hid (impl_turned w7 x lo lc zo (some ⟨g, 0, none⟩) zc 8 zs (sumsS cs) HRR7.out HV.out n1 n32 HZ7.out HZB.out HS7.out (by rw [sumsS_len]; exact z8) (by rw [sumsS_len]; omega) (sumsS_bd HCB.out))
  rw [sumsS_len] at HT
  clear HM HRR7 HZ7 HS7 HX7 HZZ7
  go_wp2_with fail
  refine HT.out.mono ?_; rintro e w8 ⟨g8, c, rfl, o8, b8⟩
  have HL := Lib.hid (turned_len x zs cs)
  have HRX : Hid (RdR w8 (some ⟨g8, 0, none⟩) c (afterX x zs cs).rings) := Lib.hid (by
    have := own_rd o8
    unfold RdR
    rw [HL.out]
    exact this)
  have HD := Lib.hid (impl_orStateX w8 (afterX x zs cs) (some ⟨g8, 0, none⟩) c hs HRX.out (by rw [HL.out]; omega))
  rw [HL.out] at HD
  have HR8 := Lib.hid (HR7.out.below b8 HR7.out.lt)
  have B8 := Lib.hid (bnext B7.out b8)
  have hr7 := HR7.out.lt
  have O8 := Lib.hid o8
  clear b8 o8 HT HR7 B7 x0 x1 xl y0 yl HRX
  obtain ⟨pb, hpb⟩ : ∃ b, profB (afterX x zs cs) = b := ⟨_, rfl⟩
  have HPB := Lib.hid hpb
  rw [hpb] at HD
  clear hpb
  have hnm : (afterX x zs cs).name = x.name := rfl
  rw [hnm] at HD
  clear hnm
  go_wp2_with fail
  refine HD.out.mono ?_; rintro e w9 ⟨he, b9⟩
  have R9 := HR8.out.below b9 HR8.out.lt
  have r0 : w9.cell? ⟨W2.heap.size, 0, none⟩ = some (.string ⟨#[]⟩) := R9.cell 0
  have r1 : w9.cell? ⟨W2.heap.size, 1, none⟩ = some (.slice none 0 0) := R9.cell 1
  have f0 := R9.free 0
  have f1 := R9.free 1
  have rl := R9.lt
  have O9 := Lib.hid (own_below O8.out b9 (Nat.le_refl _))
  have B9 := Lib.hid (bnext B8.out b9)
  clear b9 R9 HR8 B8 HD O8
  cases pb
  · rw [if_neg (by intro q; cases q)] at he
    subst he
    go_wp2_with fail
    refine bodyPost_ret (v := .tuple #[.agg #[.string ⟨#[]⟩, .slice none 0 0], .int .i64 6]) (by simp [results, Tryz.results41, go_sem, r0, r1, f0, f1, rl]) rfl ?_
    have E6 : applyCode x zs cs = 6 := by rw [E.out, HPB.out]; rfl
    refine ⟨Or.inl ⟨by rw [E6]; decide, by rw [E6]⟩, ?_⟩
    exact Below.setCell (Below.setCell B9.out hge _) hge _
  · rw [if_pos rfl] at he
    subst he
    go_wp2_with fail
    refine bodyPost_ret (v := .tuple #[.agg #[.string x.name, .slice (some ⟨g8, 0, none⟩) x.rings.length c], .int .i64 0]) (by simp [results, Tryz.results41, go_sem, r0, r1, f0, f1, rl]) rfl ?_
    have E6 : applyCode x zs cs = 0 := by rw [E.out, HPB.out]; rfl
    refine ⟨Or.inr ⟨E6, g8, c, by rw [HL.out], ?_⟩, ?_⟩
    · have hax : ∀ g', (Value.slice (some ⟨g8, 0, none⟩) x.rings.length c).ownBlock = some g' → g' ≠ W2.heap.size := fun g' hg' => (by
        have h3 := (O9.out.lt g' hg').1
        omega)
      have := own_rd (own_farZ (own_farZ O9.out hax 0 (.string x.name)) hax 1 (.slice (some ⟨g8, 0, none⟩) x.rings.length c))
      unfold RdR
      rw [HL.out]
      exact this
    · exact Below.setCell (Below.setCell B9.out hge _) hge _
end Go.Proofs.YtcjekailcljaaaaGreat
