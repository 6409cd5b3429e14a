/- Contracts and plain facts, joined: GrdI. -/
import Derived.Test.YtcjekailcljaaaaGreatRows
import Derived.Test.YtcjekailcljaaaaGreatZFnExactGreedyPlanZR
import Derived.Deep.RegionHeld3
import Derived.Deep.Cut
import Derived.Deep.CutRange
namespace Go.Proofs.YtcjekailcljaaaaGreat
open Go.ChangeShapes Go.WideShapes Go.ChangeAt Go.RowKit Go.Deep Go.Joins
set_option linter.unusedVariables false
set_option maxRecDepth 100000
set_option linter.unusedSimpArgs false
set_option maxHeartbeats 16000000 in
theorem impl_GreedyPlan (w : World) (zo wo bo lo : Option Addr) (zc wc bc lc : Nat) (m : Mdl) (x : Profile) (g : GoalX) (hr : RdMdl w.heap.size w (.slice zo m.zones.length zc) (.slice wo m.rows.length wc) (.slice bo m.base.length bc) m) (hz : m.zones.length ≤ 1048576) (h5 : m.rows.length ≤ 1048576) (h6 : m.base.length ≤ 1048576)
    (hs : x.name.size ≤ maxLen) (hR : RdR w lo lc x.rings) (hn : x.rings.length ≤ 1048576) :
    Calls Tryz.prog 24 #[.agg #[.slice zo m.zones.length zc, .slice wo m.rows.length wc, .slice bo m.base.length bc], .agg #[.string x.name, .slice lo x.rings.length lc], .agg #[.int .i64 g.a, .int .i64 g.b, .int .i64 g.c, .int .i64 g.d, .int .i64 g.e, .int .i64 g.tol, .int .i64 g.most]] w fun e w' => GrdE w.heap.size w' g m x e ∧ Below w.heap.size w w' := by
  obtain ⟨W1, hW1⟩ : ∃ W1, w.alloc (.cells #[.slice zo m.zones.length zc, .slice wo m.rows.length wc, .slice bo m.base.length bc] 39) = W1 := ⟨_, rfl⟩
  obtain ⟨W2, hW2⟩ : ∃ W2, W1.alloc (.cells #[.string x.name, .slice lo x.rings.length lc] 43) = W2 := ⟨_, rfl⟩
  obtain ⟨W3, hW3⟩ : ∃ W3, W2.alloc (.cells #[.int .i64 g.a, .int .i64 g.b, .int .i64 g.c, .int .i64 g.d, .int .i64 g.e, .int .i64 g.tol, .int .i64 g.most] 47) = W3 := ⟨_, rfl⟩
  have b1 : Below w.heap.size w W1 := hW1 ▸ (Below.refl _ _).alloc (Nat.le_refl _) _
  have b2 : Below W1.heap.size W1 W2 := hW2 ▸ (Below.refl _ _).alloc (Nat.le_refl _) _
  have b3 : Below W2.heap.size W2 W3 := hW3 ▸ (Below.refl _ _).alloc (Nat.le_refl _) _
  have M1 : Own W1 w.heap.size 39 [.slice zo m.zones.length zc, .slice wo m.rows.length wc, .slice bo m.base.length bc] := hW1 ▸ Own.new w _ _
  have M3 := (M1.below b2 M1.lt).below b3 (M1.below b2 M1.lt).lt
  have P2 : Own W2 W1.heap.size 43 [.string x.name, .slice lo x.rings.length lc] := hW2 ▸ Own.new W1 _ _
  have P3 := P2.below b3 P2.lt
  have G3 : Own W3 W2.heap.size 47 [.int .i64 g.a, .int .i64 g.b, .int .i64 g.c, .int .i64 g.d, .int .i64 g.e, .int .i64 g.tol, .int .i64 g.most] := hW3 ▸ Own.new W2 _ _
  have BB3 := bnext (bnext b1 b2) b3
  have HM3 := Lib.hid M3
  have HP3 := Lib.hid P3
  have HG3 := Lib.hid G3
  have B3 := Lib.hid BB3
  have HA := Lib.hid (impl_aimed W3 zo wo bo lo zc wc bc lc m x g (hr.up BB3) hz h5 h6 hs (hR.up BB3) hn)
  have HR := Lib.hid hr
  have HRR := Lib.hid hR
  have xM0 : W3.cell? ⟨w.heap.size, 0, none⟩ = some (.slice zo m.zones.length zc) := HM3.out.cell 0
  have xM1 : W3.cell? ⟨w.heap.size, 1, none⟩ = some (.slice wo m.rows.length wc) := HM3.out.cell 1
  have xM2 : W3.cell? ⟨w.heap.size, 2, none⟩ = some (.slice bo m.base.length bc) := HM3.out.cell 2
  have xMl := HM3.out.lt
  have xP0 : W3.cell? ⟨W1.heap.size, 0, none⟩ = some (.string x.name) := HP3.out.cell 0
  have xP1 : W3.cell? ⟨W1.heap.size, 1, none⟩ = some (.slice lo x.rings.length lc) := HP3.out.cell 1
  have xPl := HP3.out.lt
  have xG0 : W3.cell? ⟨W2.heap.size, 0, none⟩ = some (.int .i64 g.a) := HG3.out.cell 0
  have xG1 : W3.cell? ⟨W2.heap.size, 1, none⟩ = some (.int .i64 g.b) := HG3.out.cell 1
  have xG2 : W3.cell? ⟨W2.heap.size, 2, none⟩ = some (.int .i64 g.c) := HG3.out.cell 2
  have xG3 : W3.cell? ⟨W2.heap.size, 3, none⟩ = some (.int .i64 g.d) := HG3.out.cell 3
  have xG4 : W3.cell? ⟨W2.heap.size, 4, none⟩ = some (.int .i64 g.e) := HG3.out.cell 4
  have xG5 : W3.cell? ⟨W2.heap.size, 5, none⟩ = some (.int .i64 g.tol) := HG3.out.cell 5
  have xG6 : W3.cell? ⟨W2.heap.size, 6, none⟩ = some (.int .i64 g.most) := HG3.out.cell 6
  have xGl := HG3.out.lt
  clear hr hR b1 b2 b3 M1 M3 P2 P3 G3 BB3
  obtain ⟨ac, hac⟩ : ∃ c, aimC g m x = c := ⟨_, rfl⟩
  have HAC := Lib.hid hac
  rw [hac] at HA
  clear hac
  go_enter Tryz.func24, Tryz.ntmps24
  go_wp2_with fail
  refine HA.out.mono ?_; rintro e w4 ⟨rfl, b4⟩
  have HM4 := Lib.hid (HM3.out.below b4 HM3.out.lt)
  have HP4 := Lib.hid (HP3.out.below b4 HP3.out.lt)
  have HG4 := Lib.hid (HG3.out.below b4 HG3.out.lt)
  have B4 := Lib.hid (bnext B3.out b4)
  clear b4 HA HM3 HP3 HG3 B3 hW1 hW2 hW3 xM0 xM1 xM2 xMl xP0 xP1 xPl xG0 xG1 xG2 xG3 xG4 xG5 xG6 xGl
  by_cases h0 : ac = 0
  case neg =>
    have t0 : (ac != 0) = true := by simp [h0]
    have H0 := Lib.hid h0
    clear h0
    go_wp2_with fail
    refine bodyPost_ret (v := .tuple #[.slice none 0 0, .int .i64 ac]) (by simp [results, Tryz.results24, go_sem]) rfl ?_
    exact ⟨GrdE_err (grdC_aim HAC.out H0.out) H0.out, B4.out⟩
  subst h0
  obtain ⟨hgb, hmb, hx, hzb⟩ := aimC_zero HAC.out
  have hz18 := (zonesB_parts hzb).1
  have HN := Lib.hid (impl_newCutter w4 zo wo bo lo zc wc bc lc m x g (HR.out.up B4.out) hs (HRR.out.up B4.out) hx hzb)
  have HGB := Lib.hid hgb
  have xM0 : w4.cell? ⟨w.heap.size, 0, none⟩ = some (.slice zo m.zones.length zc) := HM4.out.cell 0
  have xM1 : w4.cell? ⟨w.heap.size, 1, none⟩ = some (.slice wo m.rows.length wc) := HM4.out.cell 1
  have xM2 : w4.cell? ⟨w.heap.size, 2, none⟩ = some (.slice bo m.base.length bc) := HM4.out.cell 2
  have xMl := HM4.out.lt
  have xP0 : w4.cell? ⟨W1.heap.size, 0, none⟩ = some (.string x.name) := HP4.out.cell 0
  have xP1 : w4.cell? ⟨W1.heap.size, 1, none⟩ = some (.slice lo x.rings.length lc) := HP4.out.cell 1
  have xPl := HP4.out.lt
  have xG0 : w4.cell? ⟨W2.heap.size, 0, none⟩ = some (.int .i64 g.a) := HG4.out.cell 0
  have xG1 : w4.cell? ⟨W2.heap.size, 1, none⟩ = some (.int .i64 g.b) := HG4.out.cell 1
  have xG2 : w4.cell? ⟨W2.heap.size, 2, none⟩ = some (.int .i64 g.c) := HG4.out.cell 2
  have xG3 : w4.cell? ⟨W2.heap.size, 3, none⟩ = some (.int .i64 g.d) := HG4.out.cell 3
  have xG4 : w4.cell? ⟨W2.heap.size, 4, none⟩ = some (.int .i64 g.e) := HG4.out.cell 4
  have xG5 : w4.cell? ⟨W2.heap.size, 5, none⟩ = some (.int .i64 g.tol) := HG4.out.cell 5
  have xG6 : w4.cell? ⟨W2.heap.size, 6, none⟩ = some (.int .i64 g.most) := HG4.out.cell 6
  have xGl := HG4.out.lt
  go_wp2_with fail
  refine HN.out.mono ?_; rintro e w5 ⟨C, gs, rl, rh, rv, rfl, oC, oZ, hRm, hd, hCg, hgw, hCw, b5⟩
  obtain ⟨Gr, cap, er, _, _, _, _⟩ := room_cell hRm (roomL_len g m x) (j := 0) (by omega)
  subst er
  have K5 : GrdK w w5 C gs w.heap.size W1.heap.size W2.heap.size zo wo bo lo zc wc bc lc m x g 105 (cutL zo wo bo lo zc wc bc lc m x g (.slice (some ⟨Gr, 0, none⟩) m.zones.length cap) (.slice (some ⟨gs, 0, none⟩) m.zones.length m.zones.length)) rl rh (.slice (some ⟨Gr, 0, none⟩) m.zones.length cap) (roomL g m x) := by
    refine ⟨bnext B4.out b5, HM4.out.below b5 HM4.out.lt, HP4.out.below b5 HP4.out.lt, HG4.out.below b5 HG4.out.lt, oC, by rw [roomL_len]; exact hRm, ⟨Nat.le_trans B4.out.size hgw, oZ.lt⟩, ⟨?_, ?_, ?_, hCg⟩, hd⟩
    · exact Nat.ne_of_lt (Nat.lt_of_lt_of_le HM4.out.lt hgw)
    · exact Nat.ne_of_lt (Nat.lt_of_lt_of_le HP4.out.lt hgw)
    · exact Nat.ne_of_lt (Nat.lt_of_lt_of_le HG4.out.lt hgw)
  obtain ⟨KK, hK5, hKT, hKF, hCA⟩ : ∃ KK : World → Prop, KK w5 ∧ (∀ wr wr', KK wr → Turn gs (gs + 1) wr wr' → KK wr') ∧ (∀ wr, KK wr → SeekAt w C gs w.heap.size W1.heap.size W2.heap.size Gr cap zo wo bo lo zc wc bc lc m x g wr) ∧
      (∀ st, StepsB g m x st → ∃ (a b c d e : Int) (sb : Bool) (D : List Int), (∀ wr, KK wr → Own wr gs 2 (st.flatMap putI) → Calls Tryz.prog 53 #[.agg #[.slice zo m.zones.length zc, .slice wo m.rows.length wc, .slice bo m.base.length bc], .agg #[.string x.name, .slice lo x.rings.length lc], .slice (some ⟨gs, 0, none⟩) m.zones.length m.zones.length] wr fun r w' => r = .returned (.tuple #[.agg #[.int .i64 a, .int .i64 b, .int .i64 c, .int .i64 d, .int .i64 e], .bool sb]) ∧ Below wr.heap.size wr w') ∧ Worth g m x st a b c d e sb D) :=
    ⟨fun wr => GrdK w wr C gs w.heap.size W1.heap.size W2.heap.size zo wo bo lo zc wc bc lc m x g 105 (cutL zo wo bo lo zc wc bc lc m x g (.slice (some ⟨Gr, 0, none⟩) m.zones.length cap) (.slice (some ⟨gs, 0, none⟩) m.zones.length m.zones.length)) rl rh (.slice (some ⟨Gr, 0, none⟩) m.zones.length cap) (roomL g m x), K5, fun _ _ h t => h.turn t, fun _ h => seek_of hz18.1 h, fun st hst => by
      obtain ⟨a, b, c, d, e, hraw⟩ := list5 (rawZ_len m (turnedS m.zones st x.rings))
      exact ⟨a, b, c, d, e, _, _, fun wr h o => impl_soundAfter wr gs zo wo bo lo zc wc bc lc m x g st (HR.out.up h.1) hmb hs (HRR.out.up h.1) hx hzb o hst a b c d e hraw, worth_of hgb m x st hraw⟩⟩
  have HKT := Lib.hid hKT
  have HKF := Lib.hid hKF
  have HCA := Lib.hid hCA
  have HS0 := Lib.hid (stands_zero (m := m) (x := x) hgb)
  have KW := Lib.hid hK5
  have OW := Lib.hid oZ
  have hmt := goalB_most hgb
  have hZB := zero_ok hgb m x
  obtain ⟨a, b, c, d, e, sb, D, hcall, hworth⟩ := hCA _ hZB
  have HCALL := Lib.hid hcall
  have HWO := Lib.hid hworth
  clear hKT hKF hCA hK5 HR HRR hgb hmb hx hzb HN HM4 HP4 HG4 B4 K5 oC oZ hRm hd hCg hgw hCw b5 hcall hworth hZB xM0 xM1 xM2 xMl xP0 xP1 xPl xG0 xG1 xG2 xG3 xG4 xG5 xG6 xGl
  go_upto_region 5 with fail
  go_cut [10, 11] from 29 to 38 (fun s ok wx => (∃ P : Nat, s = .pointer (some ⟨P, 0, none⟩) ∧ Own wx P 45 [.int .i64 a, .int .i64 b, .int .i64 c, .int .i64 d, .int .i64 e]) ∧ ok = .bool sb ∧ KK wx ∧ Own wx gs 2 ((zeroZ m).flatMap putI))
  case first =>
    obtain ⟨⟨r14, r15, rC⟩, ⟨oM, oP, oG⟩, ⟨hgl, hGl, hgne, hwg⟩, hBW, hRW⟩ := HKF.out w5 KW.out
    have m0 : w5.cell? ⟨w.heap.size, 0, none⟩ = some (.slice zo m.zones.length zc) := oM.cell 0
    have m1 : w5.cell? ⟨w.heap.size, 1, none⟩ = some (.slice wo m.rows.length wc) := oM.cell 1
    have m2 : w5.cell? ⟨w.heap.size, 2, none⟩ = some (.slice bo m.base.length bc) := oM.cell 2
    have ml := oM.lt
    have p0 : w5.cell? ⟨W1.heap.size, 0, none⟩ = some (.string x.name) := oP.cell 0
    have p1 : w5.cell? ⟨W1.heap.size, 1, none⟩ = some (.slice lo x.rings.length lc) := oP.cell 1
    have pl := oP.lt
    have hn1 : ¬ w5.heap.size = w.heap.size := Nat.ne_of_gt ml
    have hn2 : ¬ w.heap.size = w5.heap.size := Nat.ne_of_lt ml
    have hn3 : ¬ w5.heap.size = W1.heap.size := Nat.ne_of_gt pl
    have hn4 : ¬ W1.heap.size = w5.heap.size := Nat.ne_of_lt pl
    have hn5 : ¬ w5.heap.size = C := Nat.ne_of_gt rC
    have hn6 : ¬ C = w5.heap.size := Nat.ne_of_lt rC
    have HOM := Lib.hid oM
    have HOP := Lib.hid oP
    clear oM oP oG hBW hRW r14 hGl hgl hgne hwg
    go_wp2_with fail
    go_region_held3 (fun w' => w'.cell? ⟨w.heap.size, 0, none⟩ = some (.slice zo m.zones.length zc) ∧ w'.cell? ⟨w.heap.size, 1, none⟩ = some (.slice wo m.rows.length wc) ∧ w'.cell? ⟨w.heap.size, 2, none⟩ = some (.slice bo m.base.length bc) ∧ w'.cell? ⟨W1.heap.size, 0, none⟩ = some (.string x.name) ∧ w'.cell? ⟨W1.heap.size, 1, none⟩ = some (.slice lo x.rings.length lc) ∧ w'.cell? ⟨C, 15, none⟩ = some (.slice (some ⟨gs, 0, none⟩) m.zones.length m.zones.length)) (first | (with_reducible assumption) | (go_keep; done) | (simp [go_sem, hn1, hn2, hn3, hn4, hn5, hn6, HS6.1, HS6.2.1, HS6.2.2.1, HS6.2.2.2.1, HS6.2.2.2.2.1, HS6.2.2.2.2.2]; done) | (simp [go_sem, hx1, hx2, hx3, hx4, hx5, hx6, HS6.1, HS6.2.1, HS6.2.2.1, HS6.2.2.2.1, HS6.2.2.2.2.1, HS6.2.2.2.2.2]; done)) (first
      | (go_at_call 53
         refine (HCALL.out _ (by exact HKT.out _ _ KW.out (Turn.of_below (by (repeat' (first | (with_reducible exact Below.refl _ _) | (with_reducible assumption) | (with_reducible refine below_dn ?_ _) | (with_reducible refine Below.drew ?_) | (with_reducible refine Below.alloc ?_ ?_ _) | (with_reducible refine Below.setCell ?_ ?_ _) | go_size))))) (by exact OW.out.below (B := w5.heap.size) (by (repeat' (first | (with_reducible exact Below.refl _ _) | (with_reducible assumption) | (with_reducible refine below_dn ?_ _) | (with_reducible refine Below.drew ?_) | (with_reducible refine Below.alloc ?_ ?_ _) | (with_reducible refine Below.setCell ?_ ?_ _) | go_size))) OW.out.lt)).mono ?_; rintro e1 w6 ⟨rfl, b6⟩
         have B6 : Below w5.heap.size w5 w6 := Below.trans (by (repeat' (first | (with_reducible exact Below.refl _ _) | (with_reducible assumption) | (with_reducible refine below_dn ?_ _) | (with_reducible refine Below.drew ?_) | (with_reducible refine Below.alloc ?_ ?_ _) | (with_reducible refine Below.setCell ?_ ?_ _) | go_size))) (b6.mono (by simp <;> omega))
         have M6 := HOM.out.below B6 HOM.out.lt
         have P6 := HOP.out.below B6 HOP.out.lt
         have HS6 : w6.cell? ⟨w.heap.size, 0, none⟩ = some (.slice zo m.zones.length zc) ∧ w6.cell? ⟨w.heap.size, 1, none⟩ = some (.slice wo m.rows.length wc) ∧ w6.cell? ⟨w.heap.size, 2, none⟩ = some (.slice bo m.base.length bc) ∧ w6.cell? ⟨W1.heap.size, 0, none⟩ = some (.string x.name) ∧ w6.cell? ⟨W1.heap.size, 1, none⟩ = some (.slice lo x.rings.length lc) ∧ w6.cell? ⟨C, 15, none⟩ = some (.slice (some ⟨gs, 0, none⟩) m.zones.length m.zones.length) := ⟨M6.cell 0, M6.cell 1, M6.cell 2, P6.cell 0, P6.cell 1, (B6.cell (p := ⟨C, 15, none⟩) rC).trans r15⟩
         have HB6 := Lib.hid B6
         first
           | (have b6' : Below (w5.alloc (.cells #[.int .i64 0, .int .i64 0, .int .i64 0, .int .i64 0, .int .i64 0] 45)).drew.heap.size (w5.alloc (.cells #[.int .i64 0, .int .i64 0, .int .i64 0, .int .i64 0, .int .i64 0] 45)).drew w6 := b6
              have ON : Own (w5.alloc (.cells #[.int .i64 0, .int .i64 0, .int .i64 0, .int .i64 0, .int .i64 0] 45)).drew w5.heap.size 45 [.int .i64 0, .int .i64 0, .int .i64 0, .int .i64 0, .int .i64 0] := Own.new w5 _ _
              have OX := Lib.hid (ON.below b6' ON.lt)
              have y0 : w6.cell? ⟨w5.heap.size, 0, none⟩ = some (.int .i64 0) := OX.out.cell 0
              have y1 : w6.cell? ⟨w5.heap.size, 1, none⟩ = some (.int .i64 0) := OX.out.cell 1
              have y2 : w6.cell? ⟨w5.heap.size, 2, none⟩ = some (.int .i64 0) := OX.out.cell 2
              have y3 : w6.cell? ⟨w5.heap.size, 3, none⟩ = some (.int .i64 0) := OX.out.cell 3
              have y4 : w6.cell? ⟨w5.heap.size, 4, none⟩ = some (.int .i64 0) := OX.out.cell 4
              have v0 := OX.out.free 0
              have v1 := OX.out.free 1
              have v2 := OX.out.free 2
              have v3 := OX.out.free 3
              have v4 := OX.out.free 4
              have yl := OX.out.lt
              clear b6 b6' ON B6 M6 P6)
           | (have hx1 : ¬ w6.heap.size = w.heap.size := Nat.ne_of_gt M6.lt
              have hx2 : ¬ w.heap.size = w6.heap.size := Nat.ne_of_lt M6.lt
              have hx3 : ¬ w6.heap.size = W1.heap.size := Nat.ne_of_gt P6.lt
              have hx4 : ¬ W1.heap.size = w6.heap.size := Nat.ne_of_lt P6.lt
              have hx5 : ¬ w6.heap.size = C := Nat.ne_of_gt (Nat.lt_of_lt_of_le rC B6.size)
              have hx6 : ¬ C = w6.heap.size := Nat.ne_of_lt (Nat.lt_of_lt_of_le rC B6.size)
              clear b6 B6 M6 P6)))
    all_goals first
      | (obtain ⟨W8, hW8⟩ : ∃ W8, w6.alloc (.cells #[.int .i64 a, .int .i64 b, .int .i64 c, .int .i64 d, .int .i64 e] 45) = W8 := ⟨_, rfl⟩
         have B8 : Below w5.heap.size w5 W8 := hW8 ▸ bnext HB6.out ((Below.refl _ _).alloc (Nat.le_refl _) _)
         have OP8 : Own W8 w6.heap.size 45 [.int .i64 a, .int .i64 b, .int .i64 c, .int .i64 d, .int .i64 e] := hW8 ▸ Own.new w6 _ _
         rw [hW8]
         obtain ⟨P8, hP8⟩ : ∃ k, w6.heap.size = k := ⟨_, rfl⟩
         rw [hP8] at OP8 ⊢
         clear hx1 hx2 hx3 hx4 hx5 hx6 hW8 hP8)
      | (obtain ⟨W8, hW8⟩ : ∃ W8, ((((w6.setCell ⟨w5.heap.size, 0, none⟩ (.int .i64 a)).setCell ⟨w5.heap.size, 1, none⟩ (.int .i64 b)).setCell ⟨w5.heap.size, 2, none⟩ (.int .i64 c)).setCell ⟨w5.heap.size, 3, none⟩ (.int .i64 d)).setCell ⟨w5.heap.size, 4, none⟩ (.int .i64 e) = W8 := ⟨_, rfl⟩
         have B8 : Below w5.heap.size w5 W8 := hW8 ▸ Below.setCell (Below.setCell (Below.setCell (Below.setCell (Below.setCell HB6.out (p := ⟨w5.heap.size, 0, none⟩) (Nat.le_refl _) _) (p := ⟨w5.heap.size, 1, none⟩) (Nat.le_refl _) _) (p := ⟨w5.heap.size, 2, none⟩) (Nat.le_refl _) _) (p := ⟨w5.heap.size, 3, none⟩) (Nat.le_refl _) _) (p := ⟨w5.heap.size, 4, none⟩) (Nat.le_refl _) _
         have OP8 : Own W8 w5.heap.size 45 [.int .i64 a, .int .i64 b, .int .i64 c, .int .i64 d, .int .i64 e] := hW8 ▸ ((((OX.out.set 0 _).set 1 _).set 2 _).set 3 _).set 4 _
         rw [hW8]
         obtain ⟨P8, hP8⟩ : ∃ k, w5.heap.size = k := ⟨_, rfl⟩
         rw [hP8] at OP8 ⊢
         clear y0 y1 y2 y3 y4 v0 v1 v2 v3 v4 yl OX hW8 hP8)
    all_goals
      have K8 := Lib.hid (HKT.out _ _ KW.out (Turn.of_below B8))
      have O8 := Lib.hid (OW.out.below B8 OW.out.lt)
      have HP8 := Lib.hid OP8
      clear B8 OP8 HS6 HB6 HOM HOP m0 m1 m2 ml p0 p1 pl hn1 hn2 hn3 hn4 hn5 hn6 r15 rC KW OW
    all_goals
      go_wp2_with fail
      go_meet
      exact ⟨⟨P8, rfl, HP8.out⟩, rfl, K8.out, O8.out⟩
  obtain ⟨⟨P8, rfl, hp8⟩, rfl, hk8, ho8⟩ := hcut
  obtain ⟨W8, hW8⟩ : ∃ W, W = wc := ⟨_, rfl⟩
  subst hW8
  have HP8 := Lib.hid hp8
  have K8 := Lib.hid hk8
  have O8 := Lib.hid ho8
  clear hp8 hk8 ho8 KW OW HCALL
  cases sb
  case false =>
    have hw0 := HWO.out.2 rfl
    obtain ⟨st', h6'⟩ := stands_neg HS0.out (by rw [hw0]; omega)
    have H6 := Lib.hid (grdC_6 HAC.out h6')
    obtain ⟨_, _, _, hB8, _⟩ := HKF.out W8 K8.out
    have HB8 := Lib.hid hB8
    clear hw0 h6' HS0 HWO HCA hmt hB8
    go_wp2_with fail
    refine bodyPost_ret (v := .tuple #[.slice none 0 0, .int .i64 6]) (by simp [results, Tryz.results24, go_sem]) rfl ?_
    exact ⟨GrdE_err H6.out (by decide), HB8.out⟩
  case true =>
    obtain ⟨hnn, hap, hgr⟩ := HWO.out.1 rfl
    have HAP := Lib.hid hap
    have HGR := Lib.hid hgr
    obtain ⟨now0, hnow0⟩ : ∃ k, worstZ g m x (zeroZ m) = k := ⟨_, rfl⟩
    rw [hnow0] at HS0 HGR hnn
    clear hap hgr hnow0 HWO
    obtain ⟨_, ⟨_, _, oG⟩, _, _, _⟩ := HKF.out W8 K8.out
    have q0 : W8.cell? ⟨W2.heap.size, 0, none⟩ = some (.int .i64 g.a) := oG.cell 0
    have q1 : W8.cell? ⟨W2.heap.size, 1, none⟩ = some (.int .i64 g.b) := oG.cell 1
    have q2 : W8.cell? ⟨W2.heap.size, 2, none⟩ = some (.int .i64 g.c) := oG.cell 2
    have q3 : W8.cell? ⟨W2.heap.size, 3, none⟩ = some (.int .i64 g.d) := oG.cell 3
    have q4 : W8.cell? ⟨W2.heap.size, 4, none⟩ = some (.int .i64 g.e) := oG.cell 4
    have ql := oG.lt
    have s0 : W8.cell? ⟨P8, 0, none⟩ = some (.int .i64 a) := HP8.out.cell 0
    have s1 : W8.cell? ⟨P8, 1, none⟩ = some (.int .i64 b) := HP8.out.cell 1
    have s2 : W8.cell? ⟨P8, 2, none⟩ = some (.int .i64 c) := HP8.out.cell 2
    have s3 : W8.cell? ⟨P8, 3, none⟩ = some (.int .i64 d) := HP8.out.cell 3
    have s4 : W8.cell? ⟨P8, 4, none⟩ = some (.int .i64 e) := HP8.out.cell 4
    have sl := HP8.out.lt
    clear oG
    go_wp2_with fail
    refine (HAP.out _).mono ?_; rintro e1 w9 ⟨v9, rfl, o9, b9⟩
    obtain ⟨ro9, rc9, er9⟩ := (own_rd o9).form
    subst er9
    have RD9 := Lib.hid (own_rd o9)
    have K9 := Lib.hid (HKT.out _ _ K8.out (Turn.of_below b9))
    have O9 := Lib.hid (O8.out.below b9 O8.out.lt)
    have HP9 := Lib.hid (HP8.out.below b9 HP8.out.lt)
    clear b9 o9 q0 q1 q2 q3 q4 ql s0 s1 s2 s3 s4 sl K8 O8 HP8
    go_wp2_with fail
    refine (HGR.out _ _ _ RD9.out).mono ?_; rintro e1 w10 ⟨rfl, b10⟩
    have K8 := Lib.hid (HKT.out _ _ K9.out (Turn.of_below b10))
    have O8 := Lib.hid (O9.out.below b10 O9.out.lt)
    have HP8 := Lib.hid (HP9.out.below b10 HP9.out.lt)
    clear b10 RD9 K9 O9 HP9
    clear HP8 HAP HGR
    go_wp2_with fail
    go_loopw [12] (fun i wr => ∃ (st : List Int) (now : Int), i = .int .i64 now ∧ Stands g m x st now ∧ 0 ≤ now ∧ KK wr ∧ Own wr gs 2 (st.flatMap putI)) (fun i _ => (intOf i).toNat)
    case atStart => exact ⟨zeroZ m, now0, rfl, HS0.out, hnn, K8.out, O8.out⟩
    case round =>
      clear HS0 K8 O8 hnn
      obtain ⟨st, now, rfl, hS, h0, hK, hO⟩ := hrel
      obtain ⟨⟨r14, r15, rC⟩, ⟨oM, oP, oG⟩, ⟨hgl, hGl, hgne, hwg⟩, hB, hRm⟩ := HKF.out wr hK
      have q5 : wr.cell? ⟨W2.heap.size, 5, none⟩ = some (.int .i64 g.tol) := oG.cell 5
      have ql := oG.lt
      have HS := Lib.hid hS
      have HK := Lib.hid hK
      have HO := Lib.hid hO
      have HB := Lib.hid hB
      clear oM oP oG hRm r14 hgl hGl hgne hwg
      by_cases ht : now ≤ g.tol
      · have H0 := Lib.hid (stands_stop hS (by omega) ht)
        have hln : st.length = m.zones.length := hS.1.1
        have HCU := Lib.hid (by
          have q := impl_cutsOf wr (some ⟨gs, 0, none⟩) m.zones.length st (own_ints hO hln (by omega)) (by omega)
          rw [hln] at q
          exact q : Calls Tryz.prog 55 #[.slice (some ⟨gs, 0, none⟩) m.zones.length m.zones.length] wr fun e w' => (∃ r, e = .returned r ∧ w'.ownsRow wr.heap.size 80 2 r (cutsZ st).length ((cutsZ st).flatMap Cut.put)) ∧ Below wr.heap.size wr w')
        have hwr := hB.size
        clear hS hK hO hB hln hmt HCA
        go_wp2_with fail
        refine HCU.out.mono ?_; rintro e1 w9 ⟨⟨r9, rfl, o9⟩, b9⟩
        have O9 := Lib.hid (own_baseZ o9 hwr)
        have B9 := Lib.hid (bnext HB.out b9)
        obtain ⟨ro9, rc9, er9⟩ := (own_rd o9).form
        subst er9
        clear o9 b9 HCU
        go_wp2_with fail
        refine bodyPost_ret (v := .tuple #[.slice ro9 (cutsZ st).length rc9, .int .i64 0]) (by simp [results, Tryz.results24, go_sem]) rfl ?_
        exact ⟨GrdE_ok HAC.out H0.out O9.out, B9.out⟩
      · have hln : Hid (st.length = m.zones.length) := Lib.hid hS.1.1
        have HST := Lib.hid hS.1
        have HPI : Hid (pickI g m x st now = spI (moreZ g m x st) (fullZ g m x st) now m.zones.length) := Lib.hid rfl
        have HVB := Lib.hid (fun j => worstZ_bd HGB.out m x (incZ st j))
        have hnow : now ≤ 312000 := hS.2.2.1
        obtain ⟨wq, hwq⟩ : ∃ wq : World, wq = wr := ⟨_, rfl⟩
        subst hwq
        clear hS hK hO hB
        go_wp2_with fail
        clear q5 ql r15 rC HB
        go_loopw [13, 14, 56] (fun b l i wr => ∃ (j : Nat), j ≤ m.zones.length ∧ i = .int .i64 j ∧ b = .int .i64 (spI (moreZ g m x st) (fullZ g m x st) now j).1 ∧ l = .int .i64 (spI (moreZ g m x st) (fullZ g m x st) now j).2 ∧ KK wr ∧ Own wr gs 2 (st.flatMap putI)) (fun _ _ i _ => m.zones.length - (intOf i).toNat)
        case atStart => exact ⟨0, Nat.zero_le _, rfl, rfl, rfl, HK.out, HO.out⟩
        case round =>
          clear HK HO
          obtain ⟨j, hj, rfl, rfl, rfl, hK, hO⟩ := hrel
          obtain ⟨⟨r14, r15, rC⟩, _, ⟨hgl, hGl, hgne, hwg⟩, hB, hRm⟩ := HKF.out wr hK
          have HK := Lib.hid hK
          have HO := Lib.hid hO
          have HB := Lib.hid hB
          obtain ⟨c0_, hc⟩ : ∃ c, spI (moreZ g m x st) (fullZ g m x st) now j = c := ⟨_, rfl⟩
          obtain ⟨B, Lz⟩ := c0_
          have HC := Lib.hid hc
          rw [hc]
          clear hc
          by_cases hlt : j < m.zones.length
          · have hjs : j < st.length := by rw [hln.out]; exact hlt
            have c0 := step_cell hO hjs
            have r0 := hRm j hlt
            have hfull : Hid (fullZ g m x st j = decide (st[j] = roomZ g m x j)) := Lib.hid (by unfold fullZ; rw [getD_at hjs])
            have HUP := Lib.hid (step_up hO hjs)
            have HDN := Lib.hid (fun (w' : World) (o : Own w' gs 2 ((incZ st j).flatMap putI)) => step_down o hjs)
            have HC2 := Lib.hid (fun (w' : World) (o : Own w' gs 2 ((incZ st j).flatMap putI)) => step_cell2 o hjs)
            have hsb := HST.out.bd st[j] (List.getElem_mem hjs)
            have hs20 : st[j] ≠ roomZ g m x j → st[j] < 20 := fun q => by
              have q1 := HST.out.2 j hlt
              have q2 := mostZ_le x m.zones j
              rw [getD_at hjs] at q1
              unfold roomZ at q1 q
              omega
            have f0 := hO.free j
            obtain ⟨s, hs'⟩ : ∃ s, st[j] = s := ⟨_, rfl⟩
            rw [hs'] at c0 hfull HUP HDN HC2 hsb hs20
            obtain ⟨rz, hrz⟩ : ∃ s, roomZ g m x j = s := ⟨_, rfl⟩
            rw [hrz] at r0 hfull hs20
            have hjI : (j : Int) < (m.zones.length : Int) := by omega
            have hj0 : (0 : Int) ≤ (j : Int) := by omega
            clear hK hO hB hRm hs' hrz hjs hwg hgne
            by_cases he : s = rz
            · have hf : Hid (fullZ g m x st j = true) := Lib.hid (by rw [hfull.out]; exact decide_eq_true he)
              have HNX : Hid (spI (moreZ g m x st) (fullZ g m x st) now (j + 1) = (B, Lz)) := Lib.hid ((spI_full hf.out).trans HC.out)
              subst he
              go_wp2_with fail
              go_region
              go_wp2_with fail
              go_roundw
              case rel => exact ⟨j + 1, by omega, by go_num, by rw [HNX.out], by rw [HNX.out], HKT.out _ _ HK.out (Turn.of_below (Below.refl _ _).drew), HO.out⟩
              case measure => simp [intOf]; omega
            · have hf : Hid (fullZ g m x st j = false) := Lib.hid (by rw [hfull.out]; exact decide_eq_false he)
              have tne : (s == rz) = false := by simp [he]
              have hsr : s < 20 := hs20 he
              clear hs20
              clear he
              go_wp2_with fail
              go_region
              go_upto_region 16 with fail
              have hKU : KK (wr.setCell ⟨gs, j, none⟩ (.int .i64 (s + 1))).drew := HKT.out _ _ HK.out ((turn_one wr gs j _).trans (Turn.of_below (Below.refl _ _).drew))
              have hOU : Own (wr.setCell ⟨gs, j, none⟩ (.int .i64 (s + 1))).drew gs 2 ((incZ st j).flatMap putI) := HUP.out
              obtain ⟨Wu, hWu⟩ : ∃ W, (wr.setCell ⟨gs, j, none⟩ (.int .i64 (s + 1))).drew = W := ⟨_, rfl⟩
              rw [hWu] at hKU hOU ⊢
              have KW := Lib.hid hKU
              have OW := Lib.hid hOU
              obtain ⟨a, b, c, d, e, sb, D, hcall, hworth⟩ := HCA.out _ (HST.out.inc hlt hf.out)
              have HCALL := Lib.hid hcall
              have hvb := HVB.out j
              obtain ⟨v, hv⟩ : ∃ v, worstZ g m x (incZ st j) = v := ⟨_, rfl⟩
              have hv2 : moreZ g m x st j = v := hv
              have HNT : Hid (0 ≤ v ∧ v < Lz → spI (moreZ g m x st) (fullZ g m x st) now (j + 1) = ((j : Int), v)) := Lib.hid (fun q => by
                rw [spI_take hf.out (by rw [hv2, HC.out]; exact q), hv2])
              have HNK : Hid (¬ (0 ≤ v ∧ v < Lz) → spI (moreZ g m x st) (fullZ g m x st) now (j + 1) = (B, Lz)) := Lib.hid (fun q => by
                rw [spI_keep hf.out (by rw [hv2, HC.out]; exact q), HC.out])
              have HWO := Lib.hid hworth
              rw [hv] at hvb
              have HVV := Lib.hid hv
              clear hKU hOU hWu hcall hworth hv hv2 HK HO HB HUP c0 f0 r0 r14 r15 rC hgl hGl tne
              go_cut [16, 17, 56] from 56 to 118 (fun s ok i wx => (∃ P : Nat, s = .pointer (some ⟨P, 0, none⟩) ∧ Own wx P 45 [.int .i64 a, .int .i64 b, .int .i64 c, .int .i64 d, .int .i64 e]) ∧ ok = .bool sb ∧ i = .int .i64 j ∧ KK wx ∧ Own wx gs 2 ((incZ st j).flatMap putI))
              case first =>
                obtain ⟨⟨r14, r15, rC⟩, ⟨oM, oP, oG⟩, ⟨hgl, hGl, hgne, hwg⟩, hBW, hRW⟩ := HKF.out Wu KW.out
                have m0 : Wu.cell? ⟨w.heap.size, 0, none⟩ = some (.slice zo m.zones.length zc) := oM.cell 0
                have m1 : Wu.cell? ⟨w.heap.size, 1, none⟩ = some (.slice wo m.rows.length wc) := oM.cell 1
                have m2 : Wu.cell? ⟨w.heap.size, 2, none⟩ = some (.slice bo m.base.length bc) := oM.cell 2
                have ml := oM.lt
                have p0 : Wu.cell? ⟨W1.heap.size, 0, none⟩ = some (.string x.name) := oP.cell 0
                have p1 : Wu.cell? ⟨W1.heap.size, 1, none⟩ = some (.slice lo x.rings.length lc) := oP.cell 1
                have pl := oP.lt
                have hn1 : ¬ Wu.heap.size = w.heap.size := Nat.ne_of_gt ml
                have hn2 : ¬ w.heap.size = Wu.heap.size := Nat.ne_of_lt ml
                have hn3 : ¬ Wu.heap.size = W1.heap.size := Nat.ne_of_gt pl
                have hn4 : ¬ W1.heap.size = Wu.heap.size := Nat.ne_of_lt pl
                have hn5 : ¬ Wu.heap.size = C := Nat.ne_of_gt rC
                have hn6 : ¬ C = Wu.heap.size := Nat.ne_of_lt rC
                have HOM := Lib.hid oM
                have HOP := Lib.hid oP
                clear oM oP oG hBW hRW r14 hGl hgl hgne hwg
                go_wp2_with fail
                go_region_held3 (fun w' => w'.cell? ⟨w.heap.size, 0, none⟩ = some (.slice zo m.zones.length zc) ∧ w'.cell? ⟨w.heap.size, 1, none⟩ = some (.slice wo m.rows.length wc) ∧ w'.cell? ⟨w.heap.size, 2, none⟩ = some (.slice bo m.base.length bc) ∧ w'.cell? ⟨W1.heap.size, 0, none⟩ = some (.string x.name) ∧ w'.cell? ⟨W1.heap.size, 1, none⟩ = some (.slice lo x.rings.length lc) ∧ w'.cell? ⟨C, 15, none⟩ = some (.slice (some ⟨gs, 0, none⟩) m.zones.length m.zones.length)) (first | (with_reducible assumption) | (go_keep; done) | (simp [go_sem, hn1, hn2, hn3, hn4, hn5, hn6, HS6.1, HS6.2.1, HS6.2.2.1, HS6.2.2.2.1, HS6.2.2.2.2.1, HS6.2.2.2.2.2]; done) | (simp [go_sem, hx1, hx2, hx3, hx4, hx5, hx6, HS6.1, HS6.2.1, HS6.2.2.1, HS6.2.2.2.1, HS6.2.2.2.2.1, HS6.2.2.2.2.2]; done)) (first
                  | (go_at_call 53
                     refine (HCALL.out _ (by exact HKT.out _ _ KW.out (Turn.of_below (by (repeat' (first | (with_reducible exact Below.refl _ _) | (with_reducible assumption) | (with_reducible refine below_dn ?_ _) | (with_reducible refine Below.drew ?_) | (with_reducible refine Below.alloc ?_ ?_ _) | (with_reducible refine Below.setCell ?_ ?_ _) | go_size))))) (by exact OW.out.below (B := Wu.heap.size) (by (repeat' (first | (with_reducible exact Below.refl _ _) | (with_reducible assumption) | (with_reducible refine below_dn ?_ _) | (with_reducible refine Below.drew ?_) | (with_reducible refine Below.alloc ?_ ?_ _) | (with_reducible refine Below.setCell ?_ ?_ _) | go_size))) OW.out.lt)).mono ?_; rintro e1 w6 ⟨rfl, b6⟩
                     have B6 : Below Wu.heap.size Wu w6 := Below.trans (by (repeat' (first | (with_reducible exact Below.refl _ _) | (with_reducible assumption) | (with_reducible refine below_dn ?_ _) | (with_reducible refine Below.drew ?_) | (with_reducible refine Below.alloc ?_ ?_ _) | (with_reducible refine Below.setCell ?_ ?_ _) | go_size))) (b6.mono (by simp <;> omega))
                     have M6 := HOM.out.below B6 HOM.out.lt
                     have P6 := HOP.out.below B6 HOP.out.lt
                     have HS6 : w6.cell? ⟨w.heap.size, 0, none⟩ = some (.slice zo m.zones.length zc) ∧ w6.cell? ⟨w.heap.size, 1, none⟩ = some (.slice wo m.rows.length wc) ∧ w6.cell? ⟨w.heap.size, 2, none⟩ = some (.slice bo m.base.length bc) ∧ w6.cell? ⟨W1.heap.size, 0, none⟩ = some (.string x.name) ∧ w6.cell? ⟨W1.heap.size, 1, none⟩ = some (.slice lo x.rings.length lc) ∧ w6.cell? ⟨C, 15, none⟩ = some (.slice (some ⟨gs, 0, none⟩) m.zones.length m.zones.length) := ⟨M6.cell 0, M6.cell 1, M6.cell 2, P6.cell 0, P6.cell 1, (B6.cell (p := ⟨C, 15, none⟩) rC).trans r15⟩
                     have HB6 := Lib.hid B6
                     first
                       | (have b6' : Below (Wu.alloc (.cells #[.int .i64 0, .int .i64 0, .int .i64 0, .int .i64 0, .int .i64 0] 45)).drew.heap.size (Wu.alloc (.cells #[.int .i64 0, .int .i64 0, .int .i64 0, .int .i64 0, .int .i64 0] 45)).drew w6 := b6
                          have ON : Own (Wu.alloc (.cells #[.int .i64 0, .int .i64 0, .int .i64 0, .int .i64 0, .int .i64 0] 45)).drew Wu.heap.size 45 [.int .i64 0, .int .i64 0, .int .i64 0, .int .i64 0, .int .i64 0] := Own.new Wu _ _
                          have OX := Lib.hid (ON.below b6' ON.lt)
                          have y0 : w6.cell? ⟨Wu.heap.size, 0, none⟩ = some (.int .i64 0) := OX.out.cell 0
                          have y1 : w6.cell? ⟨Wu.heap.size, 1, none⟩ = some (.int .i64 0) := OX.out.cell 1
                          have y2 : w6.cell? ⟨Wu.heap.size, 2, none⟩ = some (.int .i64 0) := OX.out.cell 2
                          have y3 : w6.cell? ⟨Wu.heap.size, 3, none⟩ = some (.int .i64 0) := OX.out.cell 3
                          have y4 : w6.cell? ⟨Wu.heap.size, 4, none⟩ = some (.int .i64 0) := OX.out.cell 4
                          have v0 := OX.out.free 0
                          have v1 := OX.out.free 1
                          have v2 := OX.out.free 2
                          have v3 := OX.out.free 3
                          have v4 := OX.out.free 4
                          have yl := OX.out.lt
                          clear b6 b6' ON B6 M6 P6)
                       | (have hx1 : ¬ w6.heap.size = w.heap.size := Nat.ne_of_gt M6.lt
                          have hx2 : ¬ w.heap.size = w6.heap.size := Nat.ne_of_lt M6.lt
                          have hx3 : ¬ w6.heap.size = W1.heap.size := Nat.ne_of_gt P6.lt
                          have hx4 : ¬ W1.heap.size = w6.heap.size := Nat.ne_of_lt P6.lt
                          have hx5 : ¬ w6.heap.size = C := Nat.ne_of_gt (Nat.lt_of_lt_of_le rC B6.size)
                          have hx6 : ¬ C = w6.heap.size := Nat.ne_of_lt (Nat.lt_of_lt_of_le rC B6.size)
                          clear b6 B6 M6 P6)))
                all_goals first
                  | (obtain ⟨W8, hW8⟩ : ∃ W8, w6.alloc (.cells #[.int .i64 a, .int .i64 b, .int .i64 c, .int .i64 d, .int .i64 e] 45) = W8 := ⟨_, rfl⟩
                     have B8 : Below Wu.heap.size Wu W8 := hW8 ▸ bnext HB6.out ((Below.refl _ _).alloc (Nat.le_refl _) _)
                     have OP8 : Own W8 w6.heap.size 45 [.int .i64 a, .int .i64 b, .int .i64 c, .int .i64 d, .int .i64 e] := hW8 ▸ Own.new w6 _ _
                     rw [hW8]
                     obtain ⟨P8, hP8⟩ : ∃ k, w6.heap.size = k := ⟨_, rfl⟩
                     rw [hP8] at OP8 ⊢
                     clear hx1 hx2 hx3 hx4 hx5 hx6 hW8 hP8)
                  | (obtain ⟨W8, hW8⟩ : ∃ W8, ((((w6.setCell ⟨Wu.heap.size, 0, none⟩ (.int .i64 a)).setCell ⟨Wu.heap.size, 1, none⟩ (.int .i64 b)).setCell ⟨Wu.heap.size, 2, none⟩ (.int .i64 c)).setCell ⟨Wu.heap.size, 3, none⟩ (.int .i64 d)).setCell ⟨Wu.heap.size, 4, none⟩ (.int .i64 e) = W8 := ⟨_, rfl⟩
                     have B8 : Below Wu.heap.size Wu W8 := hW8 ▸ Below.setCell (Below.setCell (Below.setCell (Below.setCell (Below.setCell HB6.out (p := ⟨Wu.heap.size, 0, none⟩) (Nat.le_refl _) _) (p := ⟨Wu.heap.size, 1, none⟩) (Nat.le_refl _) _) (p := ⟨Wu.heap.size, 2, none⟩) (Nat.le_refl _) _) (p := ⟨Wu.heap.size, 3, none⟩) (Nat.le_refl _) _) (p := ⟨Wu.heap.size, 4, none⟩) (Nat.le_refl _) _
                     have OP8 : Own W8 Wu.heap.size 45 [.int .i64 a, .int .i64 b, .int .i64 c, .int .i64 d, .int .i64 e] := hW8 ▸ ((((OX.out.set 0 _).set 1 _).set 2 _).set 3 _).set 4 _
                     rw [hW8]
                     obtain ⟨P8, hP8⟩ : ∃ k, Wu.heap.size = k := ⟨_, rfl⟩
                     rw [hP8] at OP8 ⊢
                     clear y0 y1 y2 y3 y4 v0 v1 v2 v3 v4 yl OX hW8 hP8)
                all_goals
                  have K8 := Lib.hid (HKT.out _ _ KW.out (Turn.of_below B8))
                  have O8 := Lib.hid (OW.out.below B8 OW.out.lt)
                  have HP8 := Lib.hid OP8
                  clear B8 OP8 HS6 HB6 HOM HOP m0 m1 m2 ml p0 p1 pl hn1 hn2 hn3 hn4 hn5 hn6 r15 rC KW OW
                all_goals
                  go_wp2_with fail
                  go_meet
                  exact ⟨⟨P8, rfl, HP8.out⟩, rfl, rfl, K8.out, O8.out⟩
              obtain ⟨⟨P8, rfl, hp8⟩, rfl, rfl, hk8, ho8⟩ := hcut
              obtain ⟨W8, hW8⟩ : ∃ W, W = wc := ⟨_, rfl⟩
              subst hW8
              have HP8 := Lib.hid hp8
              have K8 := Lib.hid hk8
              have O8 := Lib.hid ho8
              clear hp8 hk8 ho8 KW OW HCALL
              cases sb
              case false =>
                have hv3 := HWO.out.2 rfl
                rw [HVV.out] at hv3
                have HNX := Lib.hid (HNK.out (by omega))
                clear hv3 HWO HNT HNK HP8
                obtain ⟨⟨_, r15, rC⟩, _, _, _, _⟩ := HKF.out W8 K8.out
                have d0 := HC2.out _ O8.out
                have df := O8.out.free j
                have dl := O8.out.lt
                have ODN := Lib.hid (HDN.out _ O8.out)
                have KD := Lib.hid (HKT.out _ _ K8.out (turn_one W8 gs j (.int .i64 s)))
                go_wp2_with fail
                exact ⟨⟨j + 1, by omega, by go_num, by rw [HNX.out], by rw [HNX.out], KD.out, ODN.out⟩, by simp [intOf]; omega⟩
              case true =>
                obtain ⟨hnn, hap, hgr⟩ := HWO.out.1 rfl
                have HAP := Lib.hid hap
                have HGR := Lib.hid hgr
                rw [HVV.out] at HGR hnn
                clear hap hgr HWO
                obtain ⟨_, ⟨_, _, oG⟩, _, _, _⟩ := HKF.out W8 K8.out
                have q0 : W8.cell? ⟨W2.heap.size, 0, none⟩ = some (.int .i64 g.a) := oG.cell 0
                have q1 : W8.cell? ⟨W2.heap.size, 1, none⟩ = some (.int .i64 g.b) := oG.cell 1
                have q2 : W8.cell? ⟨W2.heap.size, 2, none⟩ = some (.int .i64 g.c) := oG.cell 2
                have q3 : W8.cell? ⟨W2.heap.size, 3, none⟩ = some (.int .i64 g.d) := oG.cell 3
                have q4 : W8.cell? ⟨W2.heap.size, 4, none⟩ = some (.int .i64 g.e) := oG.cell 4
                have ql := oG.lt
                have s0 : W8.cell? ⟨P8, 0, none⟩ = some (.int .i64 a) := HP8.out.cell 0
                have s1 : W8.cell? ⟨P8, 1, none⟩ = some (.int .i64 b) := HP8.out.cell 1
                have s2 : W8.cell? ⟨P8, 2, none⟩ = some (.int .i64 c) := HP8.out.cell 2
                have s3 : W8.cell? ⟨P8, 3, none⟩ = some (.int .i64 d) := HP8.out.cell 3
                have s4 : W8.cell? ⟨P8, 4, none⟩ = some (.int .i64 e) := HP8.out.cell 4
                have sl := HP8.out.lt
                clear oG
                go_wp2_with fail
                refine (HAP.out _).mono ?_; rintro e1 w9 ⟨v9, rfl, o9, b9⟩
                obtain ⟨ro9, rc9, er9⟩ := (own_rd o9).form
                subst er9
                have RD9 := Lib.hid (own_rd o9)
                have K9 := Lib.hid (HKT.out _ _ K8.out (Turn.of_below b9))
                have O9 := Lib.hid (O8.out.below b9 O8.out.lt)
                have HP9 := Lib.hid (HP8.out.below b9 HP8.out.lt)
                clear b9 o9 q0 q1 q2 q3 q4 ql s0 s1 s2 s3 s4 sl K8 O8 HP8
                go_wp2_with fail
                refine (HGR.out _ _ _ RD9.out).mono ?_; rintro e1 w10 ⟨rfl, b10⟩
                have K8 := Lib.hid (HKT.out _ _ K9.out (Turn.of_below b10))
                have O8 := Lib.hid (O9.out.below b10 O9.out.lt)
                have HP8 := Lib.hid (HP9.out.below b10 HP9.out.lt)
                clear b10 RD9 K9 O9 HP9
                by_cases hq : v < Lz
                · have HNX := Lib.hid (HNT.out ⟨hnn, hq⟩)
                  clear HNT HNK
                  obtain ⟨_, ⟨_, _, oG⟩, _, _, _⟩ := HKF.out w10 K8.out
                  have q0 : w10.cell? ⟨W2.heap.size, 0, none⟩ = some (.int .i64 g.a) := oG.cell 0
                  have q1 : w10.cell? ⟨W2.heap.size, 1, none⟩ = some (.int .i64 g.b) := oG.cell 1
                  have q2 : w10.cell? ⟨W2.heap.size, 2, none⟩ = some (.int .i64 g.c) := oG.cell 2
                  have q3 : w10.cell? ⟨W2.heap.size, 3, none⟩ = some (.int .i64 g.d) := oG.cell 3
                  have q4 : w10.cell? ⟨W2.heap.size, 4, none⟩ = some (.int .i64 g.e) := oG.cell 4
                  have ql := oG.lt
                  have s0 : w10.cell? ⟨P8, 0, none⟩ = some (.int .i64 a) := HP8.out.cell 0
                  have s1 : w10.cell? ⟨P8, 1, none⟩ = some (.int .i64 b) := HP8.out.cell 1
                  have s2 : w10.cell? ⟨P8, 2, none⟩ = some (.int .i64 c) := HP8.out.cell 2
                  have s3 : w10.cell? ⟨P8, 3, none⟩ = some (.int .i64 d) := HP8.out.cell 3
                  have s4 : w10.cell? ⟨P8, 4, none⟩ = some (.int .i64 e) := HP8.out.cell 4
                  have sl := HP8.out.lt
                  clear oG
                  go_wp2_with fail
                  refine (HAP.out _).mono ?_; rintro e1 w9 ⟨v9, rfl, o9, b9⟩
                  obtain ⟨ro9, rc9, er9⟩ := (own_rd o9).form
                  subst er9
                  have RD9 := Lib.hid (own_rd o9)
                  have K9 := Lib.hid (HKT.out _ _ K8.out (Turn.of_below b9))
                  have O9 := Lib.hid (O8.out.below b9 O8.out.lt)
                  have HP9 := Lib.hid (HP8.out.below b9 HP8.out.lt)
                  clear b9 o9 q0 q1 q2 q3 q4 ql s0 s1 s2 s3 s4 sl K8 O8 HP8
                  go_wp2_with fail
                  refine (HGR.out _ _ _ RD9.out).mono ?_; rintro e1 w12 ⟨rfl, b10⟩
                  have K8 := Lib.hid (HKT.out _ _ K9.out (Turn.of_below b10))
                  have O8 := Lib.hid (O9.out.below b10 O9.out.lt)
                  have HP8 := Lib.hid (HP9.out.below b10 HP9.out.lt)
                  clear b10 RD9 K9 O9 HP9
                  obtain ⟨⟨_, r15, rC⟩, _, _, _, _⟩ := HKF.out w12 K8.out
                  have d0 := HC2.out _ O8.out
                  have df := O8.out.free j
                  have dl := O8.out.lt
                  have ODN := Lib.hid (HDN.out _ O8.out)
                  have KD := Lib.hid (HKT.out _ _ K8.out (turn_one w12 gs j (.int .i64 s)))
                  go_wp2_with fail
                  exact ⟨⟨j + 1, by omega, by go_num, by rw [HNX.out], by rw [HNX.out], KD.out, ODN.out⟩, by simp [intOf]; omega⟩
                · have HNX := Lib.hid (HNK.out (by omega))
                  clear HNT HNK
                  obtain ⟨⟨_, r15, rC⟩, _, _, _, _⟩ := HKF.out w10 K8.out
                  have d0 := HC2.out _ O8.out
                  have df := O8.out.free j
                  have dl := O8.out.lt
                  have ODN := Lib.hid (HDN.out _ O8.out)
                  have KD := Lib.hid (HKT.out _ _ K8.out (turn_one w10 gs j (.int .i64 s)))
                  go_wp2_with fail
                  exact ⟨⟨j + 1, by omega, by go_num, by rw [HNX.out], by rw [HNX.out], KD.out, ODN.out⟩, by simp [intOf]; omega⟩
          · obtain rfl : j = m.zones.length := by omega
            have hpk : pickI g m x st now = (B, Lz) := HPI.out.trans HC.out
            have hfst : (pickI g m x st now).1 = B := by rw [hpk]
            by_cases hp : B < 0
            · have H6 := Lib.hid (grdC_6 HAC.out (stands_lost HS.out h0 (by omega) (pickI_no (by rw [hfst]; exact hp))))
              clear hK hO hB hRm hpk hfst hgl hGl hgne hwg r14
              go_wp2_with fail
              refine bodyPost_ret (v := .tuple #[.slice none 0 0, .int .i64 6]) (by simp [results, Tryz.results24, go_sem]) rfl ?_
              exact ⟨GrdE_err H6.out (by decide), HB.out⟩
            · obtain ⟨hy1, hy2⟩ := pickI_yes (show ¬ (pickI g m x st now).1 < 0 by rw [hfst]; exact hp)
              obtain ⟨z, e1, e2, e3, e4, S'⟩ := stands_next HGB.out HS.out h0 (by omega) hy1
              rw [← hy2, hpk] at e1 e3 e4 S'
              have e1' : B = (z : Int) := e1
              have e3' : 0 ≤ Lz := e3
              have e4' : Lz < now := e4
              have S'' : Stands g m x (incZ st z) Lz := S'
              subst e1'
              have hzs : z < st.length := by rw [hln.out]; exact e2
              have c0 := step_cell hO hzs
              have f0 := hO.free z
              have hsb := HST.out.bd st[z] (List.getElem_mem hzs)
              have HUP := Lib.hid (step_up hO hzs)
              obtain ⟨s, hs'⟩ : ∃ s, st[z] = s := ⟨_, rfl⟩
              rw [hs'] at c0 hsb HUP
              have HSS := Lib.hid S''
              have KU := Lib.hid (HKT.out _ _ HK.out (turn_one wr gs z (.int .i64 (s + 1))))
              have hzI : (z : Int) < (m.zones.length : Int) := by omega
              have hz0 : (0 : Int) ≤ (z : Int) := by omega
              clear hK hO hB hRm hpk hfst hs' S' S'' hGl hgne hwg r14 hzs hy1 hy2 e1 e3 e4
              go_wp2_with fail
              exact ⟨⟨incZ st z, Lz, rfl, HSS.out, e3', KU.out, HUP.out⟩, by simp [intOf]; omega⟩
end Go.Proofs.YtcjekailcljaaaaGreat
