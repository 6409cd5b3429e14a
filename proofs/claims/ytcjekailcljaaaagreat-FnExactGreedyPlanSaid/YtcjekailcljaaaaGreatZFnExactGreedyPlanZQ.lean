/- Contracts and plain facts, joined: SoundD, GrdV. -/
import Derived.Test.YtcjekailcljaaaaGreatRows
import Derived.Test.YtcjekailcljaaaaGreatZFnExactGreedyPlanX
import Derived.Test.YtcjekailcljaaaaGreatZFnExactGreedyPlanZB
import Derived.Test.YtcjekailcljaaaaGreatZFnExactGreedyPlanZH
import Derived.Test.YtcjekailcljaaaaGreatZFnExactGreedyPlanZP
import Derived.Deep.RegionHeld3
namespace Go.Proofs.YtcjekailcljaaaaGreat
open Go.ChangeShapes Go.WideShapes Go.ChangeAt Go.RowKit Go.Deep Go.Joins
set_option linter.unusedVariables false
set_option maxRecDepth 100000
set_option linter.unusedSimpArgs false
set_option maxHeartbeats 1000000 in
theorem impl_SoundOfD (w : World) (zo wo bo lo : Option Addr) (zc wc bc lc : Nat) (m : Mdl) (x : Profile) (hr : RdMdl w.heap.size w (.slice zo m.zones.length zc) (.slice wo m.rows.length wc) (.slice bo m.base.length bc) m) (hmb : mdlB m = true)
    (hs : x.name.size ≤ maxLen) (hR : RdR w lo lc x.rings) (hx : profB x = true) (hzb : zonesB x.rings.length m.zones = true) (a b c d e : Int) (hraw : rawZ m x.rings = [a, b, c, d, e]) :
    Calls Tryz.prog 42 #[.agg #[.slice zo m.zones.length zc, .slice wo m.rows.length wc, .slice bo m.base.length bc], .agg #[.string x.name, .slice lo x.rings.length lc]] w fun r w' => (if sndP a b c d e = true then r = .returned (.tuple #[.agg #[.int .i64 a, .int .i64 b, .int .i64 c, .int .i64 d, .int .i64 e], .int .i64 0]) else r = .returned (.tuple #[.agg #[.int .i64 0, .int .i64 0, .int .i64 0, .int .i64 0, .int .i64 0], .int .i64 6])) ∧ Below w.heap.size w w' := by
  obtain ⟨n1, n32, hv, _⟩ := profB_true hx
  obtain ⟨hmz, hm5, hmb5, _⟩ := mdlB_parts hmb
  have hz8 := (zonesB_parts hmz).1.2
  have hask : askC m x = 0 := by unfold askC; rw [hmb, hx, hzb]; rfl
  obtain ⟨W1, hW1⟩ : ∃ W1, w.alloc (.cells #[.slice zo m.zones.length zc, .slice wo m.rows.length wc, .slice bo m.base.length bc] 39) = W1 := ⟨_, rfl⟩
  obtain ⟨W2, hW2⟩ : ∃ W2, W1.alloc (.cells #[.string x.name, .slice lo x.rings.length lc] 43) = W2 := ⟨_, rfl⟩
  obtain ⟨W3, hW3⟩ : ∃ W3, W2.alloc (.cells #[.int .i64 0, .int .i64 0, .int .i64 0, .int .i64 0, .int .i64 0] 45) = W3 := ⟨_, rfl⟩
  have b1 : Below w.heap.size w W1 := hW1 ▸ (Below.refl _ _).alloc (Nat.le_refl _) _
  have b2 : Below W1.heap.size W1 W2 := hW2 ▸ (Below.refl _ _).alloc (Nat.le_refl _) _
  have b3 : Below W2.heap.size W2 W3 := hW3 ▸ (Below.refl _ _).alloc (Nat.le_refl _) _
  have M1 : Own W1 w.heap.size 39 [.slice zo m.zones.length zc, .slice wo m.rows.length wc, .slice bo m.base.length bc] := hW1 ▸ Own.new w _ _
  have M2 := M1.below b2 M1.lt
  have M3 := M2.below b3 M2.lt
  have P2 : Own W2 W1.heap.size 43 [.string x.name, .slice lo x.rings.length lc] := hW2 ▸ Own.new W1 _ _
  have P3 := P2.below b3 P2.lt
  have S3 : Own W3 W2.heap.size 45 (L5 0 0 0 0 0) := hW3 ▸ Own.new W2 _ _
  have l1 : w.heap.size < W1.heap.size := M1.lt
  have l2 : W1.heap.size < W2.heap.size := P2.lt
  have HM3 := Lib.hid M3
  have HP3 := Lib.hid P3
  have HS3 := Lib.hid S3
  have B3 := Lib.hid (bnext (bnext b1 b2) b3)
  have HR := Lib.hid (((hr.up b1).up b2).up b3)
  have HRR := Lib.hid (((hR.up b1).up b2).up b3)
  have m0 : W3.cell? ⟨w.heap.size, 0, none⟩ = some (.slice zo m.zones.length zc) := M3.cell 0
  have m1 : W3.cell? ⟨w.heap.size, 1, none⟩ = some (.slice wo m.rows.length wc) := M3.cell 1
  have m2 : W3.cell? ⟨w.heap.size, 2, none⟩ = some (.slice bo m.base.length bc) := M3.cell 2
  have ml := M3.lt
  have p0 : W3.cell? ⟨W1.heap.size, 0, none⟩ = some (.string x.name) := P3.cell 0
  have p1 : W3.cell? ⟨W1.heap.size, 1, none⟩ = some (.slice lo x.rings.length lc) := P3.cell 1
  have pl := P3.lt
  have HA := Lib.hid (impl_modelled W3 zo wo bo lo zc wc bc lc m x HR.out (by omega) (by omega) (by omega) hs HRR.out (by omega))
  rw [hask] at HA
  have HMB := Lib.hid hmb
  have HV := Lib.hid hv
  have HZB := Lib.hid hzb
  have HRAW := Lib.hid hraw
  clear hr hmb hR hx hzb hraw hv hask b1 b2 b3 M1 M2 M3 P2 P3 S3 hmz hm5 hmb5
  obtain ⟨sb, hsb⟩ : ∃ s, sndP a b c d e = s := ⟨_, rfl⟩
  have HSB := Lib.hid hsb
  rw [hsb]
  clear hsb
  go_enter Tryz.func42, Tryz.ntmps42
  go_wp2_with fail
  refine HA.out.mono ?_; rintro e1 w4 ⟨rfl, b4⟩
  have M4 := HM3.out.below b4 HM3.out.lt
  have P4 := HP3.out.below b4 HP3.out.lt
  have S4 := Lib.hid (HS3.out.below b4 HS3.out.lt)
  have n0 : w4.cell? ⟨w.heap.size, 0, none⟩ = some (.slice zo m.zones.length zc) := M4.cell 0
  have n1' : w4.cell? ⟨w.heap.size, 1, none⟩ = some (.slice wo m.rows.length wc) := M4.cell 1
  have n2 : w4.cell? ⟨w.heap.size, 2, none⟩ = some (.slice bo m.base.length bc) := M4.cell 2
  have nl := M4.lt
  have q0 : w4.cell? ⟨W1.heap.size, 0, none⟩ = some (.string x.name) := P4.cell 0
  have q1 : w4.cell? ⟨W1.heap.size, 1, none⟩ = some (.slice lo x.rings.length lc) := P4.cell 1
  have ql := P4.lt
  have B4 := Lib.hid (bnext B3.out b4)
  have HRW := Lib.hid (impl_rawPartials w4 zo wo bo lo zc wc bc lc m x (HR.out.up b4) HMB.out (HRR.out.up b4) HV.out n1 n32 HZB.out)
  rw [HRAW.out] at HRW
  clear b4 M4 P4 m0 m1 m2 ml p0 p1 pl HA hW1 hW2 hW3 HM3 HP3 HS3
  go_wp2_with fail
  refine HRW.out.mono ?_; rintro e1 w5 ⟨rv, rfl, o5, b5⟩
  have HSN := Lib.hid (impl_sound w5 rv a b c d e (own_rd o5))
  have S5 := Lib.hid (S4.out.below b5 S4.out.lt)
  have B5 := Lib.hid (bnext B4.out b5)
  obtain ⟨vo, vc, er⟩ := (own_rd o5).form
  subst er
  clear b5 o5 n0 n1' n2 nl q0 q1 ql HRW S4
  go_wp2_with fail
  refine HSN.out.mono ?_; rintro e1 w6 ⟨rfl, b6⟩
  have S6 := Lib.hid (S5.out.below b6 S5.out.lt)
  have B6 := Lib.hid (bnext B5.out b6)
  have z6 := S6.out.lt
  obtain ⟨W7, hW7⟩ : ∃ W7, w6.alloc (.cells #[.int .i64 a, .int .i64 b, .int .i64 c, .int .i64 d, .int .i64 e] 45) = W7 := ⟨_, rfl⟩
  have b7 : Below w6.heap.size w6 W7 := hW7 ▸ (Below.refl _ _).alloc (Nat.le_refl _) _
  have O7 : Own W7 w6.heap.size 45 [.int .i64 a, .int .i64 b, .int .i64 c, .int .i64 d, .int .i64 e] := hW7 ▸ Own.new w6 _ _
  have HO7 := Lib.hid O7
  have S7 := Lib.hid (S6.out.below b7 S6.out.lt)
  have B7 := Lib.hid (bnext B6.out b7)
  have u0 : W7.cell? ⟨w6.heap.size, 0, none⟩ = some (.int .i64 a) := O7.cell 0
  have u1 : W7.cell? ⟨w6.heap.size, 1, none⟩ = some (.int .i64 b) := O7.cell 1
  have u2 : W7.cell? ⟨w6.heap.size, 2, none⟩ = some (.int .i64 c) := O7.cell 2
  have u3 : W7.cell? ⟨w6.heap.size, 3, none⟩ = some (.int .i64 d) := O7.cell 3
  have u4 : W7.cell? ⟨w6.heap.size, 4, none⟩ = some (.int .i64 e) := O7.cell 4
  have ul := O7.lt
  have HOK := Lib.hid (impl_sndP W7 a b c d e HSB.out)
  clear b6 b7 O7 S5 S6 HSN
  subst hW7
  go_wp2_with fail
  refine HOK.out.mono ?_; rintro e1 w8 ⟨rfl, b8⟩
  have S8 := S7.out.below b8 S7.out.lt
  have O8 := HO7.out.below b8 HO7.out.lt
  have s0 : w8.cell? ⟨W2.heap.size, 0, none⟩ = some (.int .i64 0) := S8.cell 0
  have s1 : w8.cell? ⟨W2.heap.size, 1, none⟩ = some (.int .i64 0) := S8.cell 1
  have s2 : w8.cell? ⟨W2.heap.size, 2, none⟩ = some (.int .i64 0) := S8.cell 2
  have s3 : w8.cell? ⟨W2.heap.size, 3, none⟩ = some (.int .i64 0) := S8.cell 3
  have s4 : w8.cell? ⟨W2.heap.size, 4, none⟩ = some (.int .i64 0) := S8.cell 4
  have f0 := S8.free 0
  have f1 := S8.free 1
  have f2 := S8.free 2
  have f3 := S8.free 3
  have f4 := S8.free 4
  have sl := S8.lt
  have t0 : w8.cell? ⟨w6.heap.size, 0, none⟩ = some (.int .i64 a) := O8.cell 0
  have t1 : w8.cell? ⟨w6.heap.size, 1, none⟩ = some (.int .i64 b) := O8.cell 1
  have t2 : w8.cell? ⟨w6.heap.size, 2, none⟩ = some (.int .i64 c) := O8.cell 2
  have t3 : w8.cell? ⟨w6.heap.size, 3, none⟩ = some (.int .i64 d) := O8.cell 3
  have t4 : w8.cell? ⟨w6.heap.size, 4, none⟩ = some (.int .i64 e) := O8.cell 4
  have tl := O8.lt
  have hne : ¬ W2.heap.size = w6.heap.size := by omega
  have hne2 : ¬ w6.heap.size = W2.heap.size := by omega
  have B8 := Lib.hid (bnext B7.out b8)
  have hge : w.heap.size ≤ W2.heap.size := by omega
  clear b8 S8 O8 S7 HO7 B7 HOK u0 u1 u2 u3 u4 ul
  cases sb
  · go_wp2_with fail
    refine bodyPost_ret (v := .tuple #[.agg #[.int .i64 0, .int .i64 0, .int .i64 0, .int .i64 0, .int .i64 0], .int .i64 6]) (by simp [results, Tryz.results42, go_sem, s0, s1, s2, s3, s4, f0, f1, f2, f3, f4, sl, hne, hne2]) rfl ?_
    exact ⟨rfl, by repeat (first | exact B8.out | refine Below.setCell ?_ hge _)⟩
  · go_wp2_with fail
    refine bodyPost_ret (v := .tuple #[.agg #[.int .i64 a, .int .i64 b, .int .i64 c, .int .i64 d, .int .i64 e], .int .i64 0]) (by simp [results, Tryz.results42, go_sem, s0, s1, s2, s3, s4, f0, f1, f2, f3, f4, sl, hne, hne2]) rfl ?_
    exact ⟨rfl, by repeat (first | exact B8.out | refine Below.setCell ?_ hge _)⟩
end Go.Proofs.YtcjekailcljaaaaGreat
namespace Go.Proofs.YtcjekailcljaaaaGreat
open Go.ChangeShapes Go.WideShapes Go.ChangeAt Go.RowKit Go.Deep Go.Joins
set_option linter.unusedVariables false
set_option maxRecDepth 100000
set_option linter.unusedSimpArgs false
set_option maxHeartbeats 4000000 in
theorem impl_soundAfter (w : World) (gs : Nat) (zo wo bo lo : Option Addr) (zc wc bc lc : Nat) (m : Mdl) (x : Profile) (g : GoalX) (st : List Int) (hr : RdMdl w.heap.size w (.slice zo m.zones.length zc) (.slice wo m.rows.length wc) (.slice bo m.base.length bc) m) (hmb : mdlB m = true)
    (hs : x.name.size ≤ maxLen) (hR : RdR w lo lc x.rings) (hx : profB x = true) (hzb : zonesB x.rings.length m.zones = true) (o : Own w gs 2 (st.flatMap putI)) (hst : StepsB g m x st) (a b c d e : Int) (hraw : rawZ m (turnedS m.zones st x.rings) = [a, b, c, d, e]) :
    Calls Tryz.prog 53 #[.agg #[.slice zo m.zones.length zc, .slice wo m.rows.length wc, .slice bo m.base.length bc], .agg #[.string x.name, .slice lo x.rings.length lc], .slice (some ⟨gs, 0, none⟩) m.zones.length m.zones.length] w fun r w' => r = .returned (.tuple #[.agg #[.int .i64 a, .int .i64 b, .int .i64 c, .int .i64 d, .int .i64 e], .bool (sndP a b c d e)]) ∧ Below w.heap.size w w' := by
  have hz18 := (zonesB_parts hzb).1
  have hYv := hst.valid hx hz18.1
  obtain ⟨W1, hW1⟩ : ∃ W1, w.alloc (.cells #[.slice zo m.zones.length zc, .slice wo m.rows.length wc, .slice bo m.base.length bc] 39) = W1 := ⟨_, rfl⟩
  obtain ⟨W2, hW2⟩ : ∃ W2, W1.alloc (.cells #[.string x.name, .slice lo x.rings.length lc] 43) = W2 := ⟨_, rfl⟩
  obtain ⟨W3, hW3⟩ : ∃ W3, W2.alloc (.cells #[.int .i64 0, .int .i64 0, .int .i64 0, .int .i64 0, .int .i64 0] 45) = W3 := ⟨_, rfl⟩
  have b1 : Below w.heap.size w W1 := hW1 ▸ (Below.refl _ _).alloc (Nat.le_refl _) _
  have b2 : Below W1.heap.size W1 W2 := hW2 ▸ (Below.refl _ _).alloc (Nat.le_refl _) _
  have b3 : Below W2.heap.size W2 W3 := hW3 ▸ (Below.refl _ _).alloc (Nat.le_refl _) _
  have M1 : Own W1 w.heap.size 39 [.slice zo m.zones.length zc, .slice wo m.rows.length wc, .slice bo m.base.length bc] := hW1 ▸ Own.new w _ _
  have M3 := (M1.below b2 M1.lt).below b3 (M1.below b2 M1.lt).lt
  have P2 : Own W2 W1.heap.size 43 [.string x.name, .slice lo x.rings.length lc] := hW2 ▸ Own.new W1 _ _
  have P3 := P2.below b3 P2.lt
  have S3 : Own W3 W2.heap.size 45 [.int .i64 0, .int .i64 0, .int .i64 0, .int .i64 0, .int .i64 0] := hW3 ▸ Own.new W2 _ _
  have l1 : w.heap.size < W1.heap.size := M1.lt
  have l2 : W1.heap.size < W2.heap.size := P2.lt
  have BB3 := bnext (bnext b1 b2) b3
  have HM3 := Lib.hid M3
  have HS3 := Lib.hid S3
  have B3 := Lib.hid BB3
  have m0 : W3.cell? ⟨w.heap.size, 0, none⟩ = some (.slice zo m.zones.length zc) := M3.cell 0
  have ml := M3.lt
  have p0 : W3.cell? ⟨W1.heap.size, 0, none⟩ = some (.string x.name) := P3.cell 0
  have p1 : W3.cell? ⟨W1.heap.size, 1, none⟩ = some (.slice lo x.rings.length lc) := P3.cell 1
  have pl := P3.lt
  have HT := Lib.hid (impl_turnO W3 gs m.zones.length x lo lc zo zc m.zones st (hR.up BB3) hx (hr.up BB3).1 hzb (o.below BB3 o.lt) hst.1 (Nat.le_refl _) (by omega) (fun n hn => by have := hst.bd n hn; omega))
  have HV := Lib.hid (fun (w' : World) (G c : Nat) (h : RdR w' (some ⟨G, 0, none⟩) c (turnX x m.zones st).rings) => (by
    have q := impl_ValidProfile (b0 := true) w' (turnX x m.zones st) (some ⟨G, 0, none⟩) c hs h (by rw [turnX_len]; have := (profB_true hx).2.1; omega) hYv
    rw [turnX_len] at q
    exact q : Calls Tryz.prog 95 #[.agg #[.string x.name, .slice (some ⟨G, 0, none⟩) x.rings.length c]] w' fun e w'' => e = .returned (.bool true) ∧ Below w'.heap.size w' w''))
  have HRW := Lib.hid (fun (w' : World) (hb : Below w.heap.size w w') (G k : Nat) (h : RdR w' (some ⟨G, 0, none⟩) k (turnX x m.zones st).rings) => (by
    have q := impl_rawPartials w' zo wo bo (some ⟨G, 0, none⟩) zc wc bc k m (turnX x m.zones st) (hr.up hb) hmb h (profB_true hYv).2.2.1 (profB_true hYv).1 (profB_true hYv).2.1 (by rw [turnX_len]; exact hzb)
    rw [turnX_len, show rawZ m (turnX x m.zones st).rings = [a, b, c, d, e] from hraw] at q
    exact q : Calls Tryz.prog 85 #[.agg #[.slice zo m.zones.length zc, .slice wo m.rows.length wc, .slice bo m.base.length bc], .agg #[.string x.name, .slice (some ⟨G, 0, none⟩) x.rings.length k]] w' fun e' w'' => ∃ r, e' = .returned r ∧ w''.ownsRow w'.heap.size 2 1 r 5 ([a, b, c, d, e].flatMap putI) ∧ Below w'.heap.size w' w''))
  obtain ⟨sb, hsb⟩ : ∃ s, sndP a b c d e = s := ⟨_, rfl⟩
  have HSB := Lib.hid hsb
  rw [hsb]
  clear hr hmb hs hR hx hzb o hst hraw hsb hYv b1 b2 b3 M1 M3 P2 P3 S3 BB3
  go_enter Tryz.func53, Tryz.ntmps53
  go_wp2_with fail
  refine HT.out.mono ?_; rintro e1 w4 ⟨G, k, rfl, o4, b4⟩
  have M4 := Lib.hid (HM3.out.below b4 HM3.out.lt)
  have S4 := Lib.hid (HS3.out.below b4 HS3.out.lt)
  have B4 := Lib.hid (bnext B3.out b4)
  obtain ⟨W5, hW5⟩ : ∃ W5, w4.alloc (.cells #[.string x.name, .slice (some ⟨G, 0, none⟩) x.rings.length k] 43) = W5 := ⟨_, rfl⟩
  have b5 : Below w4.heap.size w4 W5 := hW5 ▸ (Below.refl _ _).alloc (Nat.le_refl _) _
  have P5 : Own W5 w4.heap.size 43 [.string x.name, .slice (some ⟨G, 0, none⟩) x.rings.length k] := hW5 ▸ Own.new w4 _ _
  have R5 := RdR.up (turn_rd o4) b5
  have HP5 := Lib.hid P5
  have HR5 := Lib.hid R5
  have HM5 := Lib.hid (M4.out.below b5 M4.out.lt)
  have HS5 := Lib.hid (S4.out.below b5 S4.out.lt)
  have HB5 := Lib.hid (bnext B4.out b5)
  have HVV := Lib.hid (HV.out W5 G k R5)
  have q0 : W5.cell? ⟨w4.heap.size, 0, none⟩ = some (.string x.name) := P5.cell 0
  have q1 : W5.cell? ⟨w4.heap.size, 1, none⟩ = some (.slice (some ⟨G, 0, none⟩) x.rings.length k) := P5.cell 1
  have ql := P5.lt
  clear o4 b4 b5 P5 R5 M4 S4 B4 HM3 HS3 B3 m0 ml p0 p1 pl HT HV hW1 hW2 hW3
  subst hW5
  go_wp2_with fail
  refine HVV.out.mono ?_; rintro e1 w6 ⟨rfl, b6⟩
  have HM6 := Lib.hid (HM5.out.below b6 HM5.out.lt)
  have HP6 := Lib.hid (HP5.out.below b6 HP5.out.lt)
  have HS6 := Lib.hid (HS5.out.below b6 HS5.out.lt)
  have HB6 := Lib.hid (bnext HB5.out b6)
  have HRR := Lib.hid (HRW.out w6 HB6.out G k (HR5.out.up b6))
  have n0 : w6.cell? ⟨w.heap.size, 0, none⟩ = some (.slice zo m.zones.length zc) := HM6.out.cell 0
  have n1 : w6.cell? ⟨w.heap.size, 1, none⟩ = some (.slice wo m.rows.length wc) := HM6.out.cell 1
  have n2 : w6.cell? ⟨w.heap.size, 2, none⟩ = some (.slice bo m.base.length bc) := HM6.out.cell 2
  have nl := HM6.out.lt
  have t0 : w6.cell? ⟨w4.heap.size, 0, none⟩ = some (.string x.name) := HP6.out.cell 0
  have t1 : w6.cell? ⟨w4.heap.size, 1, none⟩ = some (.slice (some ⟨G, 0, none⟩) x.rings.length k) := HP6.out.cell 1
  have tl := HP6.out.lt
  clear b6 HM5 HP5 HS5 HB5 HVV HR5 HRW q0 q1 ql
  go_wp2_with fail
  refine HRR.out.mono ?_; rintro e1 w7 ⟨r7, rfl, o7, b7⟩
  have HSO := Lib.hid (impl_sound w7 r7 a b c d e (own_rd o7))
  obtain ⟨ro7, rc7, er7⟩ := (own_rd o7).form
  subst er7
  have HS7 := Lib.hid (HS6.out.below b7 HS6.out.lt)
  have HB7 := Lib.hid (bnext HB6.out b7)
  clear o7 b7 HM6 HP6 HS6 HB6 HRR n0 n1 n2 nl t0 t1 tl
  go_wp2_with fail
  refine HSO.out.mono ?_; rintro e1 w8 ⟨rfl, b8⟩
  have HS8 := Lib.hid (HS7.out.below b8 HS7.out.lt)
  have HB8 := Lib.hid (bnext HB7.out b8)
  have z8 := HS8.out.lt
  obtain ⟨W9, hW9⟩ : ∃ W9, w8.alloc (.cells #[.int .i64 a, .int .i64 b, .int .i64 c, .int .i64 d, .int .i64 e] 45) = W9 := ⟨_, rfl⟩
  have b9 : Below w8.heap.size w8 W9 := hW9 ▸ (Below.refl _ _).alloc (Nat.le_refl _) _
  have O9 : Own W9 w8.heap.size 45 [.int .i64 a, .int .i64 b, .int .i64 c, .int .i64 d, .int .i64 e] := hW9 ▸ Own.new w8 _ _
  have S9 := HS8.out.below b9 HS8.out.lt
  have HO9 := Lib.hid O9
  have HS9 := Lib.hid S9
  have HB9 := Lib.hid (bnext HB8.out b9)
  have HOK := Lib.hid (fun w' => impl_sndP w' a b c d e HSB.out)
  have u0 : W9.cell? ⟨w8.heap.size, 0, none⟩ = some (.int .i64 a) := O9.cell 0
  have u1 : W9.cell? ⟨w8.heap.size, 1, none⟩ = some (.int .i64 b) := O9.cell 1
  have u2 : W9.cell? ⟨w8.heap.size, 2, none⟩ = some (.int .i64 c) := O9.cell 2
  have u3 : W9.cell? ⟨w8.heap.size, 3, none⟩ = some (.int .i64 d) := O9.cell 3
  have u4 : W9.cell? ⟨w8.heap.size, 4, none⟩ = some (.int .i64 e) := O9.cell 4
  have ul := O9.lt
  have s0 : W9.cell? ⟨W2.heap.size, 0, none⟩ = some (.int .i64 0) := S9.cell 0
  have s1 : W9.cell? ⟨W2.heap.size, 1, none⟩ = some (.int .i64 0) := S9.cell 1
  have s2 : W9.cell? ⟨W2.heap.size, 2, none⟩ = some (.int .i64 0) := S9.cell 2
  have s3 : W9.cell? ⟨W2.heap.size, 3, none⟩ = some (.int .i64 0) := S9.cell 3
  have s4 : W9.cell? ⟨W2.heap.size, 4, none⟩ = some (.int .i64 0) := S9.cell 4
  have f0 := S9.free 0
  have f1 := S9.free 1
  have f2 := S9.free 2
  have f3 := S9.free 3
  have f4 := S9.free 4
  have sl := S9.lt
  have hne1 : ¬ W2.heap.size = w8.heap.size := Nat.ne_of_lt z8
  have hne2 : ¬ w8.heap.size = W2.heap.size := Nat.ne_of_gt z8
  have hge : w.heap.size ≤ W2.heap.size := by omega
  clear b8 b9 O9 S9 HS7 HB7 HS8 HB8 HSO
  go_wp2_with fail
  try rw [hW9]
  clear hW9
  go_region_held3 (fun w' => w'.cell? ⟨w8.heap.size, 0, none⟩ = some (.int .i64 a) ∧ w'.cell? ⟨w8.heap.size, 1, none⟩ = some (.int .i64 b) ∧ w'.cell? ⟨w8.heap.size, 2, none⟩ = some (.int .i64 c) ∧ w'.cell? ⟨w8.heap.size, 3, none⟩ = some (.int .i64 d) ∧ w'.cell? ⟨w8.heap.size, 4, none⟩ = some (.int .i64 e)) (first | (with_reducible assumption) | (go_keep; done) | (simp [go_sem, hne1, hne2, u0, u1, u2, u3, u4]; done) | (simp [go_sem, hne1, hne2, HS10.1, HS10.2.1, HS10.2.2.1, HS10.2.2.2.1, HS10.2.2.2.2]; done)) (first
    | (go_at_call 86
       refine (HOK.out _).mono ?_; rintro e1 w10 ⟨rfl, b10⟩
       first
         | (have b10' : Below W9.drew.heap.size W9.drew w10 := b10
            have B10 : Below W9.heap.size W9 w10 := Below.trans (by (repeat' (first | (with_reducible exact Below.refl _ _) | (with_reducible assumption) | (with_reducible refine below_dn ?_ _) | (with_reducible refine Below.drew ?_) | (with_reducible refine Below.alloc ?_ ?_ _) | (with_reducible refine Below.setCell ?_ ?_ _) | go_size))) (b10.mono (by simp <;> omega))
            have O10 := HO9.out.below B10 HO9.out.lt
            have HS10 : w10.cell? ⟨w8.heap.size, 0, none⟩ = some (.int .i64 a) ∧ w10.cell? ⟨w8.heap.size, 1, none⟩ = some (.int .i64 b) ∧ w10.cell? ⟨w8.heap.size, 2, none⟩ = some (.int .i64 c) ∧ w10.cell? ⟨w8.heap.size, 3, none⟩ = some (.int .i64 d) ∧ w10.cell? ⟨w8.heap.size, 4, none⟩ = some (.int .i64 e) := ⟨O10.cell 0, O10.cell 1, O10.cell 2, O10.cell 3, O10.cell 4⟩
            have S10 := Lib.hid (HS9.out.below B10 HS9.out.lt)
            have HB10 := Lib.hid (bnext HB9.out B10)
            have y0 : w10.cell? ⟨W2.heap.size, 0, none⟩ = some (.int .i64 0) := S10.out.cell 0
            have y1 : w10.cell? ⟨W2.heap.size, 1, none⟩ = some (.int .i64 0) := S10.out.cell 1
            have y2 : w10.cell? ⟨W2.heap.size, 2, none⟩ = some (.int .i64 0) := S10.out.cell 2
            have y3 : w10.cell? ⟨W2.heap.size, 3, none⟩ = some (.int .i64 0) := S10.out.cell 3
            have y4 : w10.cell? ⟨W2.heap.size, 4, none⟩ = some (.int .i64 0) := S10.out.cell 4
            have v0 := S10.out.free 0
            have v1 := S10.out.free 1
            have v2 := S10.out.free 2
            have v3 := S10.out.free 3
            have v4 := S10.out.free 4
            have yl := S10.out.lt
            clear b10 b10' B10 O10)))
  go_wp2_with fail
  refine bodyPost_ret (v := .tuple #[.agg #[.int .i64 a, .int .i64 b, .int .i64 c, .int .i64 d, .int .i64 e], .bool sb]) (by simp [results, Tryz.results53, go_sem, y0, y1, y2, y3, y4, v0, v1, v2, v3, v4, yl]) rfl ?_
  exact ⟨rfl, Below.setCell (Below.setCell (Below.setCell (Below.setCell (Below.setCell HB10.out (p := ⟨W2.heap.size, 0, none⟩) hge _) (p := ⟨W2.heap.size, 1, none⟩) hge _) (p := ⟨W2.heap.size, 2, none⟩) hge _) (p := ⟨W2.heap.size, 3, none⟩) hge _) (p := ⟨W2.heap.size, 4, none⟩) hge _⟩
end Go.Proofs.YtcjekailcljaaaaGreat
