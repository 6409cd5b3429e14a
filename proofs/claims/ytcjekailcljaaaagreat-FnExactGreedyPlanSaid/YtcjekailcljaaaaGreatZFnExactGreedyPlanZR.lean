/- Contracts and plain facts, joined: DevI, GrdI0. -/
import Derived.Test.YtcjekailcljaaaaGreatRows
import Derived.Test.YtcjekailcljaaaaGreatZFnExactGreedyPlanZB
import Derived.Test.YtcjekailcljaaaaGreatZFnExactGreedyPlanZL
import Derived.Test.YtcjekailcljaaaaGreatZFnExactGreedyPlanZN
import Derived.Test.YtcjekailcljaaaaGreatZFnExactGreedyPlanZQ
namespace Go.Proofs.YtcjekailcljaaaaGreat
open Go.ChangeShapes Go.WideShapes Go.ChangeAt Go.RowKit Go.Deep Go.Joins
set_option linter.unusedVariables false
set_option maxRecDepth 100000
set_option linter.unusedSimpArgs false
set_option maxHeartbeats 8000000 in
theorem impl_apart (w : World) (R G : List Int) (r1 r2 r3 r4 r5 g1 g2 g3 g4 g5 : Int) (hR : R = [r1, r2, r3, r4, r5]) (hG : G = [g1, g2, g3, g4, g5]) (HRA : ∀ z ∈ R, 10000 ≤ z ∧ z ≤ 20000000) (HGA : ∀ z ∈ G, 10000 ≤ z ∧ z ≤ 20000000) :
    Calls Tryz.prog 43 #[.agg #[.int .i64 g1, .int .i64 g2, .int .i64 g3, .int .i64 g4, .int .i64 g5], .agg #[.int .i64 r1, .int .i64 r2, .int .i64 r3, .int .i64 r4, .int .i64 r5]] w fun e w' => ∃ r, e = .returned r ∧ w'.ownsRow w.heap.size 2 1 r 5 ((devZ G R).flatMap putI) ∧ Below w.heap.size w w' := by
  obtain ⟨i0, hi, hz0, hz1, hz2⟩ := info_parts info_i64
  have H5 : Hid (R.length = 5) := Lib.hid (by rw [hR]; rfl)
  have HG5 : Hid (G.length = 5) := Lib.hid (by rw [hG]; rfl)
  have HRE := Lib.hid hR
  have HGE := Lib.hid hG
  have HRAA := Lib.hid HRA
  have HGAA := Lib.hid HGA
  clear hR hG HRA HGA
  obtain ⟨W1, hW1⟩ : ∃ W1, w.alloc (.cells #[.int .i64 g1, .int .i64 g2, .int .i64 g3, .int .i64 g4, .int .i64 g5] 45) = W1 := ⟨_, rfl⟩
  obtain ⟨W2, hW2⟩ : ∃ W2, W1.alloc (.cells #[.int .i64 r1, .int .i64 r2, .int .i64 r3, .int .i64 r4, .int .i64 r5] 45) = W2 := ⟨_, rfl⟩
  have b1 : Below w.heap.size w W1 := hW1 ▸ (Below.refl _ _).alloc (Nat.le_refl _) _
  have b2 : Below W1.heap.size W1 W2 := hW2 ▸ (Below.refl _ _).alloc (Nat.le_refl _) _
  have X1 : Own W1 w.heap.size 45 (L5 g1 g2 g3 g4 g5) := hW1 ▸ Own.new w _ _
  have X2 := X1.below b2 X1.lt
  have Y2 : Own W2 W1.heap.size 45 (L5 r1 r2 r3 r4 r5) := hW2 ▸ Own.new W1 _ _
  have HX := Lib.hid X2
  have B2 := Lib.hid (bnext b1 b2)
  have y0 : W2.cell? ⟨W1.heap.size, 0, none⟩ = some (.int .i64 r1) := Y2.cell 0
  have y1 : W2.cell? ⟨W1.heap.size, 1, none⟩ = some (.int .i64 r2) := Y2.cell 1
  have y2 : W2.cell? ⟨W1.heap.size, 2, none⟩ = some (.int .i64 r3) := Y2.cell 2
  have y3 : W2.cell? ⟨W1.heap.size, 3, none⟩ = some (.int .i64 r4) := Y2.cell 3
  have y4 : W2.cell? ⟨W1.heap.size, 4, none⟩ = some (.int .i64 r5) := Y2.cell 4
  have yl := Y2.lt
  have HL1 := Lib.hid (impl_listOf W2 r1 r2 r3 r4 r5)
  clear b1 b2 X1 X2 Y2
  go_enter Tryz.func43, Tryz.ntmps43
  go_wp2_with fail
  refine HL1.out.mono ?_; rintro e w3 ⟨p3, rfl, o3, b3⟩
  have R3 : Hid (Rd w3.heap.size w3 (.slice (some ⟨p3, 0, none⟩) 5 5) 1 R.length (R.flatMap putI)) := Lib.hid (by rw [HRE.out]; exact rd5 o3)
  have X3 := HX.out.below b3 HX.out.lt
  have x0 : w3.cell? ⟨w.heap.size, 0, none⟩ = some (.int .i64 g1) := X3.cell 0
  have x1 : w3.cell? ⟨w.heap.size, 1, none⟩ = some (.int .i64 g2) := X3.cell 1
  have x2 : w3.cell? ⟨w.heap.size, 2, none⟩ = some (.int .i64 g3) := X3.cell 2
  have x3 : w3.cell? ⟨w.heap.size, 3, none⟩ = some (.int .i64 g4) := X3.cell 3
  have x4 : w3.cell? ⟨w.heap.size, 4, none⟩ = some (.int .i64 g5) := X3.cell 4
  have xl := X3.lt
  have B3 := Lib.hid (bnext B2.out b3)
  have HL2 := Lib.hid (impl_listOf w3 g1 g2 g3 g4 g5)
  clear o3 b3 y0 y1 y2 y3 y4 yl HL1 HX X3 hW1 hW2
  go_wp2_with fail
  refine HL2.out.mono ?_; rintro e w4 ⟨p4, rfl, o4, b4⟩
  have G4 : Hid (Rd w4.heap.size w4 (.slice (some ⟨p4, 0, none⟩) 5 5) 1 G.length (G.flatMap putI)) := Lib.hid (by rw [HGE.out]; exact rd5 o4)
  have R4 := Lib.hid (R3.out.up b4)
  have B4 := Lib.hid (bnext B3.out b4)
  have z4 := B4.out.size
  clear o4 b4 x0 x1 x2 x3 x4 xl HL2 HRE HGE
  go_wp2_with fail
  go_loopw [5, 14] (fun r i wr => ∃ (k : Nat), k ≤ 5 ∧ i = .int .i64 k ∧ wr.ownsRow w4.heap.size 2 1 r k (((devZ G R).take k).flatMap putI) ∧ Below w4.heap.size w4 wr) (fun _ i _ => 5 - (intOf i).toNat)
  case atStart => exact ⟨0, Nat.zero_le _, rfl, own_nil _ _ _ _, Below.refl _ _⟩
  case round =>
    obtain ⟨k, hk, rfl, ho, hb⟩ := hrel
    have OR := Lib.hid ho
    have BR := Lib.hid hb
    obtain ⟨so, sc, er⟩ := (own_rd ho).form
    subst er
    by_cases hlt : k < 5
    · have hkG : k < G.length := by rw [HG5.out]; exact hlt
      have hkR : k < R.length := by rw [H5.out]; exact hlt
      obtain ⟨gb, goff, eg, hgbl, cG⟩ := Rd.at (G4.out.up hb) k hkG
      injection eg with eg
      injection eg with eg1 eg2 eg3
      subst eg1 eg2
      clear eg3
      rw [Nat.zero_add] at cG
      obtain ⟨rb, roff, er, hrbl, cR⟩ := Rd.at (R4.out.up hb) k hkR
      injection er with er
      injection er with er1 er2 er3
      subst er1 er2
      clear er3
      rw [Nat.zero_add] at cR
      have hga := HGAA.out G[k] (List.getElem_mem hkG)
      have hra := HRAA.out R[k] (List.getElem_mem hkR)
      have HSNC := Lib.hid (congrArg (List.flatMap putI) (devZ_take hkG hkR))
      obtain ⟨gv, hgv⟩ : ∃ z, G[k] = z := ⟨_, rfl⟩
      obtain ⟨rv, hrv⟩ : ∃ z, R[k] = z := ⟨_, rfl⟩
      rw [hgv] at cG hga HSNC
      rw [hrv] at cR hra HSNC
      rw [List.flatMap_append] at HSNC
      have HCE := Lib.hid (fun (w' : World) => impl_cents gv rv w' hga hra)
      obtain ⟨cv, hcv⟩ : ∃ z, centI gv rv = z := ⟨_, rfl⟩
      rw [hcv] at HCE HSNC
      have HSN2 : Hid (((devZ G R).take (k + 1)).flatMap putI = ((devZ G R).take k).flatMap putI ++ [.int .i64 cv]) := Lib.hid HSNC.out
      have hz4r : w4.heap.size ≤ wr.heap.size := hb.size
      have hkI : (k : Int) < 5 := by omega
      have hk0 : (0 : Int) ≤ (k : Int) := by omega
      clear ho hb hgv hrv hcv HSNC hga hra
      go_wp2_with fail
      refine (HCE.out _).mono ?_; rintro e1 w6 ⟨rfl, b6⟩
      have OR6 := Lib.hid (own_below OR.out b6 (Nat.le_refl _))
      have BR6 := Lib.hid (bnext BR.out b6)
      have hwz4 : w4.heap.size ≤ w6.heap.size := Nat.le_trans hz4r b6.size
      clear b6
      go_wp2_with (at_builtin; refine app_el rfl _ _ 22 2 i0 (.int .i64 0) 1 8 Tryz.underlying22 hi hz0 hz1 hz2 (by rfl) (by decide) rfl w6 w4.heap.size _ k (((devZ G R).take k).flatMap putI) (by rfl) OR6.out [.int .i64 cv] rfl (int_one _) (by rfl) (by omega) (by decide) hwz4 ?_; intro g5 gc5 w7 hown5 hB5 hz5; have HB7 := Lib.hid (hB5 w6 (Below.refl _ _)); have HO5 := Lib.hid hown5; clear hown5 hB5)
      go_roundw
      case rel => exact ⟨k + 1, by omega, by go_num, by rw [HSN2.out]; exact HO5.out, BR6.out.trans HB7.out⟩
      case measure => simp [intOf]; omega
    · obtain rfl : k = 5 := by omega
      have et : Hid ((devZ G R).take 5 = devZ G R) := Lib.hid (List.take_of_length_le (by rw [devZ_len HG5.out H5.out]; exact Nat.le_refl _))
      rw [et.out] at OR
      clear ho hb
      go_wp2_with fail
      go_ret
      exact ⟨_, rfl, own_baseZ OR.out z4, bnext B4.out BR.out⟩
end Go.Proofs.YtcjekailcljaaaaGreat
namespace Go.Proofs.YtcjekailcljaaaaGreat
open Go.ChangeShapes Go.WideShapes Go.ChangeAt Go.RowKit Go.Deep Go.Joins
set_option linter.unusedVariables false
set_option maxRecDepth 100000
set_option linter.unusedSimpArgs false
theorem spI_full {f : Nat → Int} {skip : Nat → Bool} {now : Int} {j : Nat} (h : skip j = true) : spI f skip now (j + 1) = spI f skip now j := by
  show (if skip j = true then spI f skip now j else _) = _
  rw [if_pos h]
theorem spI_take {f : Nat → Int} {skip : Nat → Bool} {now : Int} {j : Nat} (h : skip j = false) (h2 : 0 ≤ f j ∧ f j < (spI f skip now j).2) : spI f skip now (j + 1) = ((j : Int), f j) := by
  show (if skip j = true then spI f skip now j else if 0 ≤ f j ∧ f j < (spI f skip now j).2 then ((j : Int), f j) else spI f skip now j) = _
  rw [h, if_neg (by intro q; cases q), if_pos h2]
theorem spI_keep {f : Nat → Int} {skip : Nat → Bool} {now : Int} {j : Nat} (h : skip j = false) (h2 : ¬ (0 ≤ f j ∧ f j < (spI f skip now j).2)) : spI f skip now (j + 1) = spI f skip now j := by
  show (if skip j = true then spI f skip now j else if 0 ≤ f j ∧ f j < (spI f skip now j).2 then ((j : Int), f j) else spI f skip now j) = _
  rw [h, if_neg (by intro q; cases q), if_neg h2]
theorem spI_bd {f : Nat → Int} {skip : Nat → Bool} {now : Int} (h0 : 0 ≤ now ∧ now ≤ 312000) (hf : ∀ j, f j ≤ 312000) : ∀ j, (-1 ≤ (spI f skip now j).1 ∧ (spI f skip now j).1 < j) ∧ 0 ≤ (spI f skip now j).2 ∧ (spI f skip now j).2 ≤ 312000
  | 0 => ⟨⟨Int.le_refl _, by show (-1 : Int) < ((0 : Nat) : Int); omega⟩, h0⟩
  | j + 1 => by
    have ih := spI_bd h0 hf (skip := skip) j
    have := hf j
    show (-1 ≤ (if skip j = true then spI f skip now j else if 0 ≤ f j ∧ f j < (spI f skip now j).2 then ((j : Int), f j) else spI f skip now j).1 ∧ (if skip j = true then spI f skip now j else if 0 ≤ f j ∧ f j < (spI f skip now j).2 then ((j : Int), f j) else spI f skip now j).1 < ((j + 1 : Nat) : Int)) ∧ 0 ≤ (if skip j = true then spI f skip now j else if 0 ≤ f j ∧ f j < (spI f skip now j).2 then ((j : Int), f j) else spI f skip now j).2 ∧ (if skip j = true then spI f skip now j else if 0 ≤ f j ∧ f j < (spI f skip now j).2 then ((j : Int), f j) else spI f skip now j).2 ≤ 312000
    split
    · exact ⟨⟨ih.1.1, by have := ih.1.2; push_cast; omega⟩, ih.2⟩
    · split
      · rename_i q
        refine ⟨⟨?_, ?_⟩, q.1, ?_⟩
        · show (-1 : Int) ≤ (j : Int); omega
        · show (j : Int) < ((j + 1 : Nat) : Int); push_cast; omega
        · show f j ≤ 312000; omega
      · exact ⟨⟨ih.1.1, by have := ih.1.2; push_cast; omega⟩, ih.2⟩
/-- what the sound after steps is worth: the contracts of the program's calls -/
def Worth (g : GoalX) (m : Mdl) (x : Profile) (st : List Int) (a b c d e : Int) (sb : Bool) (D : List Int) : Prop :=
  (sb = true → 0 ≤ worstZ g m x st ∧ (∀ w' : World, Calls Tryz.prog 43 #[.agg #[.int .i64 g.a, .int .i64 g.b, .int .i64 g.c, .int .i64 g.d, .int .i64 g.e], .agg #[.int .i64 a, .int .i64 b, .int .i64 c, .int .i64 d, .int .i64 e]] w' fun r w'' => ∃ v, r = .returned v ∧ w''.ownsRow w'.heap.size 2 1 v 5 (D.flatMap putI) ∧ Below w'.heap.size w' w'') ∧
    (∀ (w' : World) (ro : Option Addr) (rc : Nat), Rd w'.heap.size w' (.slice ro 5 rc) 1 5 (D.flatMap putI) → Calls Tryz.prog 54 #[.slice ro 5 rc] w' fun r w'' => r = .returned (.int .i64 (worstZ g m x st)) ∧ Below w'.heap.size w' w'')) ∧
  (sb = false → worstZ g m x st = -1)
theorem worth_of {g : GoalX} (hgb : goalB g = true) (m : Mdl) (x : Profile) (st : List Int) {a b c d e : Int} (hraw : rawZ m (turnedS m.zones st x.rings) = [a, b, c, d, e]) : Worth g m x st a b c d e (sndP a b c d e) (devZ (goalL g) [a, b, c, d, e]) := by
  have hs : sndL (rawZ m (turnedS m.zones st x.rings)) = sndP a b c d e := by rw [hraw]; rfl
  refine ⟨fun h => ?_, fun h => ?_⟩
  · have h' : sndL [a, b, c, d, e] = true := h
    have hR := sndL_all (R := [a, b, c, d, e]) rfl h'
    have hG := goalL_all hgb
    have hw : worstZ g m x st = grtZ (devZ (goalL g) [a, b, c, d, e]) := by unfold worstZ; rw [hs, if_pos h, hraw]
    have hb := devZ_bd hG hR
    have hl : (devZ (goalL g) [a, b, c, d, e]).length = 5 := devZ_len rfl rfl
    refine ⟨by rw [hw]; exact (grtZ_bd (B := 312000) (by omega) hb).1, fun w' => impl_apart w' [a, b, c, d, e] (goalL g) a b c d e g.a g.b g.c g.d g.e rfl rfl hR hG, fun w' ro rc hrd => ?_⟩
    have q := impl_greatest w' ro rc (devZ (goalL g) [a, b, c, d, e]) (by rw [hl]; exact hrd) (by rw [hl]; omega) (by rw [hl]; omega) hb
    rw [hl, ← hw] at q
    exact q
  · unfold worstZ; rw [hs, h, if_neg (by intro q; cases q)]
/-- a search under way -/
def SeekAt (w : World) (C gs bm bp bq Gr cap : Nat) (zo wo bo lo : Option Addr) (zc wc bc lc : Nat) (m : Mdl) (x : Profile) (g : GoalX) (wr : World) : Prop :=
  (wr.cell? ⟨C, 14, none⟩ = some (.slice (some ⟨Gr, 0, none⟩) m.zones.length cap) ∧ wr.cell? ⟨C, 15, none⟩ = some (.slice (some ⟨gs, 0, none⟩) m.zones.length m.zones.length) ∧ C < wr.heap.size) ∧
  (Own wr bm 39 [.slice zo m.zones.length zc, .slice wo m.rows.length wc, .slice bo m.base.length bc] ∧ Own wr bp 43 [.string x.name, .slice lo x.rings.length lc] ∧ Own wr bq 47 [.int .i64 g.a, .int .i64 g.b, .int .i64 g.c, .int .i64 g.d, .int .i64 g.e, .int .i64 g.tol, .int .i64 g.most]) ∧
  (gs < wr.heap.size ∧ Gr < wr.heap.size ∧ gs ≠ Gr ∧ w.heap.size ≤ gs) ∧ Below w.heap.size w wr ∧ ∀ j, j < m.zones.length → wr.cell? ⟨Gr, j, none⟩ = some (.int .i64 (roomZ g m x j))
theorem seek_of {w wr : World} {C gs bm bp bq : Nat} {zo wo bo lo : Option Addr} {zc wc bc lc : Nat} {m : Mdl} {x : Profile} {g : GoalX} {rl rh : Nat} {Gr cap : Nat} (hz : 1 ≤ m.zones.length)
    (h : GrdK w wr C gs bm bp bq zo wo bo lo zc wc bc lc m x g 105 (cutL zo wo bo lo zc wc bc lc m x g (.slice (some ⟨Gr, 0, none⟩) m.zones.length cap) (.slice (some ⟨gs, 0, none⟩) m.zones.length m.zones.length)) rl rh (.slice (some ⟨Gr, 0, none⟩) m.zones.length cap) (roomL g m x)) : SeekAt w C gs bm bp bq Gr cap zo wo bo lo zc wc bc lc m x g wr := by
  have hl := roomL_len g m x
  have hroom := h.room
  rw [hl] at hroom
  obtain ⟨G, cap', e, hG, _, hlo, hhi⟩ := room_cell hroom hl (j := 0) (by omega)
  injection e with e1 e2 e3
  injection e1 with e1
  injection e1 with e1
  subst e1 e3
  refine ⟨⟨h.sch.cell 14, h.sch.cell 15, h.sch.lt⟩, ⟨h.2.1, h.2.2.1, h.2.2.2.1⟩, ⟨h.ltg.2, hG, ?_, h.ltg.1⟩, h.1, fun j hj => ?_⟩
  · have := h.2.2.2.2.2.2.2.2; omega
  · obtain ⟨G', cap'', e', _, hc, _, _⟩ := room_cell hroom hl (j := j) hj
    injection e' with e1' e2' e3'
    injection e1' with e1'
    injection e1' with e1'
    subst e1'
    rw [hc, roomL_at]
end Go.Proofs.YtcjekailcljaaaaGreat
