/- Contracts and plain facts, joined: HModel3, HGoal. -/
import Derived.Test.YtcjekailcljaaaaGreatRows
import Derived.Test.YtcjekailcljaaaaGreatZFnExactGreedyPlanD
namespace Go.Proofs.YtcjekailcljaaaaGreat
open Go.ChangeShapes Go.WideShapes Go.ChangeAt Go.RowKit Go.Deep Go.Joins
set_option linter.unusedVariables false
set_option maxRecDepth 100000
set_option linter.unusedSimpArgs false
set_option maxHeartbeats 1000000 in
theorem toModel (x : MdlX) (w : World) (h : x.ok w) (hzn : x.zones.length ≤ 1048576) (hwn : x.rows.length ≤ 1048576) (hrn : ∀ y ∈ x.rows, y.2.length ≤ 1048576) (hbn : x.base.length ≤ 1048576) :
    Calls Tryz.prog 9 #[.agg #[x.zv, x.wv, x.bv]] w fun e w' => ∃ gz gw gb ys, e = .returned (.agg #[.slice (some ⟨gz, 0, none⟩) x.zones.length x.zones.length, .slice (some ⟨gw, 0, none⟩) x.rows.length x.rows.length, .slice (some ⟨gb, 0, none⟩) x.base.length x.base.length]) ∧ w.heap.size ≤ gz ∧ gz < gw ∧ gw < gb ∧ (∀ y ∈ ys, ∀ b n c, y.1 = .slice (some ⟨b, 0, none⟩) n c → b < gb) ∧ Own w' gz 2 (x.zones.flatMap putI) ∧ RowsAt w' gw ys x.rows ∧ Own w' gb 2 (x.base.flatMap putI) ∧ Below w.heap.size w w' := by
  obtain ⟨hz, hw, hb⟩ := h
  have HZ := Lib.hid hz.1
  have HW := Lib.hid hw.1
  have HWR : Hid (∀ y ∈ x.rows, Rd w.heap.size w y.1 1 y.2.length (y.2.flatMap putI) ∧ y.2.length ≤ 1048576) := Lib.hid (fun y hy => ⟨(hw.2.2 y hy).1, hrn y hy⟩)
  have HB := Lib.hid hb.1
  obtain ⟨zo, zc, ez⟩ := hz.1.form
  obtain ⟨wo, wc, ew⟩ := hw.1.form
  obtain ⟨bo, bc, eb⟩ := hb.1.form
  rw [ez] at HZ
  rw [ew] at HW
  rw [eb] at HB
  rw [ez, ew, eb]
  obtain ⟨W1, hW1⟩ : ∃ W1, w.alloc (.cells #[.slice zo x.zones.length zc, .slice wo x.rows.length wc, .slice bo x.base.length bc] 25) = W1 := ⟨_, rfl⟩
  obtain ⟨W2, hW2⟩ : ∃ W2, W1.alloc (.cells #[.slice none 0 0, .slice none 0 0, .slice none 0 0] 39) = W2 := ⟨_, rfl⟩
  obtain ⟨W3, hW3⟩ : ∃ W3, W2.alloc (.cells #[.slice none 0 0, .slice none 0 0, .slice none 0 0] 39) = W3 := ⟨_, rfl⟩
  have b1 : Below w.heap.size w W1 := hW1 ▸ (Below.refl _ _).alloc (Nat.le_refl _) _
  have b2 : Below W1.heap.size W1 W2 := hW2 ▸ (Below.refl _ _).alloc (Nat.le_refl _) _
  have b3 : Below W2.heap.size W2 W3 := hW3 ▸ (Below.refl _ _).alloc (Nat.le_refl _) _
  have X1 : Own W1 w.heap.size 25 [.slice zo x.zones.length zc, .slice wo x.rows.length wc, .slice bo x.base.length bc] := hW1 ▸ Own.new w _ _
  have X3 := (X1.below b2 X1.lt).below b3 (X1.below b2 X1.lt).lt
  have R2 : Own W2 W1.heap.size 39 [.slice none 0 0, .slice none 0 0, .slice none 0 0] := hW2 ▸ Own.new W1 _ _
  have R3 := R2.below b3 R2.lt
  have T3 : Own W3 W2.heap.size 39 [.slice none 0 0, .slice none 0 0, .slice none 0 0] := hW3 ▸ Own.new W2 _ _
  have l1 : w.heap.size < W1.heap.size := X1.lt
  have l2 : W1.heap.size < W2.heap.size := R2.lt
  have l3 : W2.heap.size < W3.heap.size := T3.lt
  have HX := Lib.hid X3
  have HR := Lib.hid R3
  have HT := Lib.hid T3
  have B3 := Lib.hid (bnext (bnext b1 b2) b3)
  have HZ3 := Lib.hid (HZ.out.up B3.out)
  have x0 : W3.cell? ⟨w.heap.size, 0, none⟩ = some (.slice zo x.zones.length zc) := X3.cell 0
  have xl := X3.lt
  clear b1 b2 b3 X1 X3 R2 R3 T3 hz hw hb ez ew eb hrn HZ
  go_enter Tryz.func9, Tryz.ntmps9
  go_wp2_with fail
  refine (toInt64S W3 _ x.zones HZ3.out hzn).mono ?_; rintro e w4 ⟨gz, rfl, hgz, oz, b4⟩
  have X4 := HX.out.below b4 HX.out.lt
  have T4 := HT.out.below b4 HT.out.lt
  have HR4 := Lib.hid (HR.out.below b4 HR.out.lt)
  have t0 : w4.cell? ⟨W2.heap.size, 0, none⟩ = some (.slice none 0 0) := T4.cell 0
  have tf0 := T4.free 0
  have tl := T4.lt
  have x1 : w4.cell? ⟨w.heap.size, 1, none⟩ = some (.slice wo x.rows.length wc) := X4.cell 1
  have xl4 := X4.lt
  have hne3 : ¬ w.heap.size = W2.heap.size := by omega
  have hne4 : ¬ W2.heap.size = w.heap.size := by omega
  obtain ⟨W5, hW5⟩ : ∃ W5, w4.setCell ⟨W2.heap.size, 0, none⟩ (.slice (some ⟨gz, 0, none⟩) x.zones.length x.zones.length) = W5 := ⟨_, rfl⟩
  have z5 : W5.heap.size = w4.heap.size := by rw [← hW5]; simp
  have X5 : Own W5 w.heap.size 25 [.slice zo x.zones.length zc, .slice wo x.rows.length wc, .slice bo x.base.length bc] := hW5 ▸ X4.other hne4 _
  have T5 : Own W5 W2.heap.size 39 [.slice (some ⟨gz, 0, none⟩) x.zones.length x.zones.length, .slice none 0 0, .slice none 0 0] := hW5 ▸ T4.set 0 _
  have HR5 : Hid (Own W5 W1.heap.size 39 [.slice none 0 0, .slice none 0 0, .slice none 0 0]) := Lib.hid (hW5 ▸ HR4.out.other (show W2.heap.size ≠ W1.heap.size by omega) _)
  have OZ5 : Hid (Own W5 gz 2 (x.zones.flatMap putI)) := Lib.hid (hW5 ▸ oz.other (show W2.heap.size ≠ gz by omega) _)
  have B5 : Hid (Below w.heap.size w W5) := Lib.hid (hW5 ▸ Below.setCell (bnext B3.out b4) (show w.heap.size ≤ W2.heap.size by omega) _)
  have HX5 := Lib.hid X5
  have HT5 := Lib.hid T5
  have y1 : W5.cell? ⟨w.heap.size, 1, none⟩ = some (.slice wo x.rows.length wc) := X5.cell 1
  have yl := X5.lt
  have hgz4 := oz.lt
  have HTR := Lib.hid (toRows W5 (.slice wo x.rows.length wc) x.rows (HW.out.up B5.out) hwn (fun y hy => ⟨(HWR.out y hy).1.up B5.out, (HWR.out y hy).2⟩))
  clear b4 X4 T4 HR4 HX HR HT B3 HZ3 x0 xl oz X5 T5 hW1 hW2 hW3 HW HWR
  go_wp2_with fail
  refine HTR.out.mono ?_; rintro e w6 ⟨gw, ys, rfl, hgw, ow, hys, hym, b6⟩
  have RW6 : RowsAt w6 gw ys x.rows := ⟨ow, hys, hym⟩
  have X6 := HX5.out.below b6 HX5.out.lt
  have T6 := HT5.out.below b6 HT5.out.lt
  have HR6 := Lib.hid (HR5.out.below b6 HR5.out.lt)
  have OZ6 := OZ5.out.below b6 OZ5.out.lt
  have t1 : w6.cell? ⟨W2.heap.size, 1, none⟩ = some (.slice none 0 0) := T6.cell 1
  have tf1 := T6.free 1
  have tl6 := T6.lt
  have x2 : w6.cell? ⟨w.heap.size, 2, none⟩ = some (.slice bo x.base.length bc) := X6.cell 2
  have xl6 := X6.lt
  have hgw6 := ow.lt
  obtain ⟨W7, hW7⟩ : ∃ W7, w6.setCell ⟨W2.heap.size, 1, none⟩ (.slice (some ⟨gw, 0, none⟩) x.rows.length x.rows.length) = W7 := ⟨_, rfl⟩
  have z7 : W7.heap.size = w6.heap.size := by rw [← hW7]; simp
  have X7 : Own W7 w.heap.size 25 [.slice zo x.zones.length zc, .slice wo x.rows.length wc, .slice bo x.base.length bc] := hW7 ▸ X6.other hne4 _
  have T7 : Own W7 W2.heap.size 39 [.slice (some ⟨gz, 0, none⟩) x.zones.length x.zones.length, .slice (some ⟨gw, 0, none⟩) x.rows.length x.rows.length, .slice none 0 0] := hW7 ▸ T6.set 1 _
  have HR7 : Hid (Own W7 W1.heap.size 39 [.slice none 0 0, .slice none 0 0, .slice none 0 0]) := Lib.hid (hW7 ▸ HR6.out.other (show W2.heap.size ≠ W1.heap.size by omega) _)
  have OZ7 : Hid (Own W7 gz 2 (x.zones.flatMap putI)) := Lib.hid (hW7 ▸ OZ6.other (show W2.heap.size ≠ gz by omega) _)
  have RW7 : Hid (RowsAt W7 gw ys x.rows) := Lib.hid (hW7 ▸ RW6.other (show W2.heap.size < gw by omega) _)
  have B7 : Hid (Below w.heap.size w W7) := Lib.hid (hW7 ▸ Below.setCell (bnext B5.out b6) (show w.heap.size ≤ W2.heap.size by omega) _)
  have HX7 := Lib.hid X7
  have HT7 := Lib.hid T7
  have u2 : W7.cell? ⟨w.heap.size, 2, none⟩ = some (.slice bo x.base.length bc) := X7.cell 2
  have ul := X7.lt
  have HTB := Lib.hid (toInt64S W7 (.slice bo x.base.length bc) x.base (HB.out.up B7.out) hbn)
  clear b6 X6 T6 HR6 OZ6 RW6 HX5 HT5 HR5 OZ5 B5 y1 yl X7 T7 HTR ow hys hym hW5 t0 tf0 tl x1 xl4 HB
  go_wp2_with fail
  refine HTB.out.mono ?_; rintro e w8 ⟨gb, rfl, hgb, ob, b8⟩
  have T8 := HT7.out.below b8 HT7.out.lt
  have R8 := HR7.out.below b8 HR7.out.lt
  have OZ8 := Lib.hid (OZ7.out.below b8 OZ7.out.lt)
  have RW8 := Lib.hid (RW7.out.below b8)
  have OB8 := Lib.hid ob
  have B8 := Lib.hid (bnext B7.out b8)
  have v0 : w8.cell? ⟨W2.heap.size, 0, none⟩ = some (.slice (some ⟨gz, 0, none⟩) x.zones.length x.zones.length) := T8.cell 0
  have v1 : w8.cell? ⟨W2.heap.size, 1, none⟩ = some (.slice (some ⟨gw, 0, none⟩) x.rows.length x.rows.length) := T8.cell 1
  have v2 : w8.cell? ⟨W2.heap.size, 2, none⟩ = some (.slice none 0 0) := T8.cell 2
  have vf2 := T8.free 2
  have vl := T8.lt
  have r0 : w8.cell? ⟨W1.heap.size, 0, none⟩ = some (.slice none 0 0) := R8.cell 0
  have r1 : w8.cell? ⟨W1.heap.size, 1, none⟩ = some (.slice none 0 0) := R8.cell 1
  have r2 : w8.cell? ⟨W1.heap.size, 2, none⟩ = some (.slice none 0 0) := R8.cell 2
  have f0 := R8.free 0
  have f1 := R8.free 1
  have f2 := R8.free 2
  have rl := R8.lt
  have hne : ¬ W1.heap.size = W2.heap.size := by omega
  have hne2 : ¬ W2.heap.size = W1.heap.size := by omega
  have hge1 : w.heap.size ≤ W1.heap.size := by omega
  have hge2 : w.heap.size ≤ W2.heap.size := by omega
  have G1 : W2.heap.size < gz ∧ gz < gw ∧ gw < gb := by omega
  have RLT : Hid (∀ y ∈ ys, ∀ b n c, y.1 = .slice (some ⟨b, 0, none⟩) n c → b < gb) := Lib.hid (fun y hy b n c e => by
    obtain ⟨g', h1, h2, h3⟩ := RW7.out.2.2 y hy
    rw [h1] at e
    cases e
    exact Nat.lt_of_lt_of_le h3.lt hgb)
  clear b8 T8 R8 HT7 HR7 OZ7 RW7 B7 u2 ul HTB ob hW7 t1 tf1 tl6 x2 xl6 HX7
  go_wp2_with fail
  refine bodyPost_ret (v := .agg #[.slice (some ⟨gz, 0, none⟩) x.zones.length x.zones.length, .slice (some ⟨gw, 0, none⟩) x.rows.length x.rows.length, .slice (some ⟨gb, 0, none⟩) x.base.length x.base.length]) (by simp [results, Tryz.results9, go_sem, v0, v1, v2, vf2, vl, r0, r1, r2, f0, f1, f2, rl, hne, hne2]) rfl ?_
  obtain ⟨G2, G3, G4⟩ := G1
  refine ⟨gz, gw, gb, ys, rfl, by omega, G3, G4, RLT.out, ?_, ?_, ?_, ?_⟩
  · repeat (first | exact OZ8.out | refine Own.other ?_ (show _ ≠ gz by simp only []; omega) _)
  · repeat (first | exact RW8.out | refine RowsAt.other ?_ (show _ < gw by simp only []; omega) _)
  · repeat (first | exact OB8.out | refine Own.other ?_ (show _ ≠ gb by simp only []; omega) _)
  · repeat (first | exact B8.out | refine Below.setCell ?_ hge1 _ | refine Below.setCell ?_ hge2 _)
end Go.Proofs.YtcjekailcljaaaaGreat
namespace Go.Proofs.YtcjekailcljaaaaGreat
open Go.ChangeShapes Go.WideShapes Go.ChangeAt Go.RowKit Go.Deep Go.Joins
set_option linter.unusedVariables false
set_option maxRecDepth 100000
set_option linter.unusedSimpArgs false
set_option maxHeartbeats 1000000 in
theorem toGoal (x : GoalX) (w : World) : Calls Tryz.prog 11 #[.agg #[.int .i64 x.a, .int .i64 x.b, .int .i64 x.c, .int .i64 x.d, .int .i64 x.e, .int .i64 x.tol, .int .i64 x.most]] w fun e w' => e = .returned (.agg #[.int .i64 x.a, .int .i64 x.b, .int .i64 x.c, .int .i64 x.d, .int .i64 x.e, .int .i64 x.tol, .int .i64 x.most]) ∧ Below w.heap.size w w' := by
  have HS := Lib.hid (goalsnd x)
  obtain ⟨a, b, c, d, e, t, m⟩ := x
  show Calls Tryz.prog 11 #[.agg #[.int .i64 a, .int .i64 b, .int .i64 c, .int .i64 d, .int .i64 e, .int .i64 t, .int .i64 m]] w fun r w' => r = .returned (.agg #[.int .i64 a, .int .i64 b, .int .i64 c, .int .i64 d, .int .i64 e, .int .i64 t, .int .i64 m]) ∧ Below w.heap.size w w'
  obtain ⟨W1, hW1⟩ : ∃ W1, w.alloc (.cells #[.int .i64 a, .int .i64 b, .int .i64 c, .int .i64 d, .int .i64 e, .int .i64 t, .int .i64 m] 32) = W1 := ⟨_, rfl⟩
  obtain ⟨W2, hW2⟩ : ∃ W2, W1.alloc (.cells #[.int .i64 0, .int .i64 0, .int .i64 0, .int .i64 0, .int .i64 0, .int .i64 0, .int .i64 0] 47) = W2 := ⟨_, rfl⟩
  obtain ⟨W3, hW3⟩ : ∃ W3, W2.alloc (.cells #[.int .i64 0, .int .i64 0, .int .i64 0, .int .i64 0, .int .i64 0, .int .i64 0, .int .i64 0] 47) = W3 := ⟨_, rfl⟩
  have b1 : Below w.heap.size w W1 := hW1 ▸ (Below.refl _ _).alloc (Nat.le_refl _) _
  have b2 : Below W1.heap.size W1 W2 := hW2 ▸ (Below.refl _ _).alloc (Nat.le_refl _) _
  have b3 : Below W2.heap.size W2 W3 := hW3 ▸ (Below.refl _ _).alloc (Nat.le_refl _) _
  have X1 : Own W1 w.heap.size 32 [.int .i64 a, .int .i64 b, .int .i64 c, .int .i64 d, .int .i64 e, .int .i64 t, .int .i64 m] := hW1 ▸ Own.new w _ _
  have X3 := (X1.below b2 X1.lt).below b3 (X1.below b2 X1.lt).lt
  have R2 : Own W2 W1.heap.size 47 [.int .i64 0, .int .i64 0, .int .i64 0, .int .i64 0, .int .i64 0, .int .i64 0, .int .i64 0] := hW2 ▸ Own.new W1 _ _
  have R3 := R2.below b3 R2.lt
  have T3 : Own W3 W2.heap.size 47 [.int .i64 0, .int .i64 0, .int .i64 0, .int .i64 0, .int .i64 0, .int .i64 0, .int .i64 0] := hW3 ▸ Own.new W2 _ _
  have l1 : w.heap.size < W1.heap.size := X1.lt
  have l2 : W1.heap.size < W2.heap.size := R2.lt
  have HX := Lib.hid X3
  have HR := Lib.hid R3
  have HT := Lib.hid T3
  have B3 := Lib.hid (bnext (bnext b1 b2) b3)
  have x0 : W3.cell? ⟨w.heap.size, 0, none⟩ = some (.int .i64 a) := X3.cell 0
  have x1 : W3.cell? ⟨w.heap.size, 1, none⟩ = some (.int .i64 b) := X3.cell 1
  have x2 : W3.cell? ⟨w.heap.size, 2, none⟩ = some (.int .i64 c) := X3.cell 2
  have x3 : W3.cell? ⟨w.heap.size, 3, none⟩ = some (.int .i64 d) := X3.cell 3
  have x4 : W3.cell? ⟨w.heap.size, 4, none⟩ = some (.int .i64 e) := X3.cell 4
  have xl := X3.lt
  clear b1 b2 b3 X1 X3 R2 R3 T3
  go_enter Tryz.func11, Tryz.ntmps11
  go_wp2_with fail
  refine (HS.out _).mono ?_; rintro r w4 ⟨rfl, b4⟩
  have X4 := HX.out.below b4 HX.out.lt
  have R4 := HR.out.below b4 HR.out.lt
  have T4 := HT.out.below b4 HT.out.lt
  have B4 := bnext B3.out b4
  have hne3 : ¬ w.heap.size = W2.heap.size := by omega
  have hne4 : ¬ W2.heap.size = w.heap.size := by omega
  have hne : ¬ W1.heap.size = W2.heap.size := by omega
  have hne2 : ¬ W2.heap.size = W1.heap.size := by omega
  have hge1 : w.heap.size ≤ W1.heap.size := by omega
  have hge2 : w.heap.size ≤ W2.heap.size := by omega
  generalize hq1 : W1.heap.size = q1 at *
  generalize hq2 : W2.heap.size = q2 at *
  obtain ⟨W5, hW5⟩ : ∃ W5, ((((w4.setCell ⟨q2, 0, none⟩ (.int .i64 a)).setCell ⟨q2, 1, none⟩ (.int .i64 b)).setCell ⟨q2, 2, none⟩ (.int .i64 c)).setCell ⟨q2, 3, none⟩ (.int .i64 d)).setCell ⟨q2, 4, none⟩ (.int .i64 e) = W5 := ⟨_, rfl⟩
  have T5 : Own W5 q2 47 [.int .i64 a, .int .i64 b, .int .i64 c, .int .i64 d, .int .i64 e, .int .i64 0, .int .i64 0] := hW5 ▸ ((((T4.set 0 _).set 1 _).set 2 _).set 3 _).set 4 _
  have X5 : Own W5 w.heap.size 32 [.int .i64 a, .int .i64 b, .int .i64 c, .int .i64 d, .int .i64 e, .int .i64 t, .int .i64 m] := hW5 ▸ ((((X4.other hne4 _).other hne4 _).other hne4 _).other hne4 _).other hne4 _
  have R5 : Own W5 q1 47 [.int .i64 0, .int .i64 0, .int .i64 0, .int .i64 0, .int .i64 0, .int .i64 0, .int .i64 0] := hW5 ▸ ((((R4.other hne2 _).other hne2 _).other hne2 _).other hne2 _).other hne2 _
  have B5 : Below w.heap.size w W5 := hW5 ▸ Below.setCell (Below.setCell (Below.setCell (Below.setCell (Below.setCell B4 hge2 _) hge2 _) hge2 _) hge2 _) hge2 _
  obtain ⟨W6, hW6⟩ : ∃ W6, W5.setCell ⟨q2, 5, none⟩ (.int .i64 t) = W6 := ⟨_, rfl⟩
  have T6 : Own W6 q2 47 [.int .i64 a, .int .i64 b, .int .i64 c, .int .i64 d, .int .i64 e, .int .i64 t, .int .i64 0] := hW6 ▸ T5.set 5 _
  have X6 : Own W6 w.heap.size 32 [.int .i64 a, .int .i64 b, .int .i64 c, .int .i64 d, .int .i64 e, .int .i64 t, .int .i64 m] := hW6 ▸ X5.other hne4 _
  have R6 : Own W6 q1 47 [.int .i64 0, .int .i64 0, .int .i64 0, .int .i64 0, .int .i64 0, .int .i64 0, .int .i64 0] := hW6 ▸ R5.other hne2 _
  have B6 : Below w.heap.size w W6 := hW6 ▸ Below.setCell B5 hge2 _
  obtain ⟨W7, hW7⟩ : ∃ W7, W6.setCell ⟨q2, 6, none⟩ (.int .i64 m) = W7 := ⟨_, rfl⟩
  have T7 : Own W7 q2 47 [.int .i64 a, .int .i64 b, .int .i64 c, .int .i64 d, .int .i64 e, .int .i64 t, .int .i64 m] := hW7 ▸ T6.set 6 _
  have R7 : Own W7 q1 47 [.int .i64 0, .int .i64 0, .int .i64 0, .int .i64 0, .int .i64 0, .int .i64 0, .int .i64 0] := hW7 ▸ R6.other hne2 _
  have B7 := Lib.hid (hW7 ▸ Below.setCell B6 hge2 _ : Below w.heap.size w W7)
  have s0 : w4.cell? ⟨q2, 0, none⟩ = some (.int .i64 0) := T4.cell 0
  have sf0 := T4.free 0
  have s1 : w4.cell? ⟨q2, 1, none⟩ = some (.int .i64 0) := T4.cell 1
  have sf1 := T4.free 1
  have s2 : w4.cell? ⟨q2, 2, none⟩ = some (.int .i64 0) := T4.cell 2
  have sf2 := T4.free 2
  have s3 : w4.cell? ⟨q2, 3, none⟩ = some (.int .i64 0) := T4.cell 3
  have sf3 := T4.free 3
  have s4 : w4.cell? ⟨q2, 4, none⟩ = some (.int .i64 0) := T4.cell 4
  have sf4 := T4.free 4
  have sl := T4.lt
  have v5 : W5.cell? ⟨w.heap.size, 5, none⟩ = some (.int .i64 t) := X5.cell 5
  have vl5 := X5.lt
  have s5 : W5.cell? ⟨q2, 5, none⟩ = some (.int .i64 0) := T5.cell 5
  have sf5 := T5.free 5
  have sl5 := T5.lt
  have v6 : W6.cell? ⟨w.heap.size, 6, none⟩ = some (.int .i64 m) := X6.cell 6
  have vl6 := X6.lt
  have s6 : W6.cell? ⟨q2, 6, none⟩ = some (.int .i64 0) := T6.cell 6
  have sf6 := T6.free 6
  have sl6 := T6.lt
  have u0 : W7.cell? ⟨q2, 0, none⟩ = some (.int .i64 a) := T7.cell 0
  have r0 : W7.cell? ⟨q1, 0, none⟩ = some (.int .i64 0) := R7.cell 0
  have rf0 := R7.free 0
  have u1 : W7.cell? ⟨q2, 1, none⟩ = some (.int .i64 b) := T7.cell 1
  have r1 : W7.cell? ⟨q1, 1, none⟩ = some (.int .i64 0) := R7.cell 1
  have rf1 := R7.free 1
  have u2 : W7.cell? ⟨q2, 2, none⟩ = some (.int .i64 c) := T7.cell 2
  have r2 : W7.cell? ⟨q1, 2, none⟩ = some (.int .i64 0) := R7.cell 2
  have rf2 := R7.free 2
  have u3 : W7.cell? ⟨q2, 3, none⟩ = some (.int .i64 d) := T7.cell 3
  have r3 : W7.cell? ⟨q1, 3, none⟩ = some (.int .i64 0) := R7.cell 3
  have rf3 := R7.free 3
  have u4 : W7.cell? ⟨q2, 4, none⟩ = some (.int .i64 e) := T7.cell 4
  have r4 : W7.cell? ⟨q1, 4, none⟩ = some (.int .i64 0) := R7.cell 4
  have rf4 := R7.free 4
  have u5 : W7.cell? ⟨q2, 5, none⟩ = some (.int .i64 t) := T7.cell 5
  have r5 : W7.cell? ⟨q1, 5, none⟩ = some (.int .i64 0) := R7.cell 5
  have rf5 := R7.free 5
  have u6 : W7.cell? ⟨q2, 6, none⟩ = some (.int .i64 m) := T7.cell 6
  have r6 : W7.cell? ⟨q1, 6, none⟩ = some (.int .i64 0) := R7.cell 6
  have rf6 := R7.free 6
  have ul := T7.lt
  have rl := R7.lt
  clear b4 X4 R4 T4 B4 T5 X5 R5 B5 T6 X6 R6 B6 T7 R7 x0 x1 x2 x3 x4 xl HX HR HT B3 hW1 hW2 hW3 HS hq1 hq2 l1 l2
  go_wp2_with fail
  refine bodyPost_ret (v := .agg #[.int .i64 a, .int .i64 b, .int .i64 c, .int .i64 d, .int .i64 e, .int .i64 t, .int .i64 m]) (by simp [results, Tryz.results11, go_sem, r0, rf0, r1, rf1, r2, rf2, r3, rf3, r4, rf4, r5, rf5, r6, rf6, rl]) rfl ?_
  exact ⟨rfl, Below.setCell (Below.setCell (Below.setCell (Below.setCell (Below.setCell (Below.setCell (Below.setCell (B7.out) hge1 _) hge1 _) hge1 _) hge1 _) hge1 _) hge1 _) hge1 _⟩
end Go.Proofs.YtcjekailcljaaaaGreat
