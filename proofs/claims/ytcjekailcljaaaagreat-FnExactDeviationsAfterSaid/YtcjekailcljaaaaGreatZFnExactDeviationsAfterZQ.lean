/- Contracts and plain facts, joined: SoundD. -/
import Derived.Test.YtcjekailcljaaaaGreatRows
import Derived.Test.YtcjekailcljaaaaGreatZFnExactDeviationsAfterZG
import Derived.Test.YtcjekailcljaaaaGreatZFnExactDeviationsAfterZP
namespace Go.Proofs.YtcjekailcljaaaaGreat
open Go.ChangeShapes Go.WideShapes Go.ChangeAt Go.RowKit Go.Deep Go.Joins
set_option linter.unusedVariables false
set_option maxRecDepth 100000
set_option linter.unusedSimpArgs false
set_option maxHeartbeats 1000000 in
theorem impl_SoundOfD (w : World) (zo wo bo lo : Option Addr) (zc wc bc lc : Nat) (m : Mdl) (x : Profile) (hr : RdMdl w.heap.size w (.slice zo m.zones.length zc) (.slice wo m.rows.length wc) (.slice bo m.base.length bc) m) (hmb : mdlB m = true)
    (hs : x.name.size ≤ maxLen) (hR : RdR w lo lc x.rings) (hx : profB x = true) (hzb : zonesB x.rings.length m.zones = true) (a b c d e : Int) (hraw : rawZ m x.rings = [a, b, c, d, e]) :
    Calls Tryz.prog 42 #[.agg #[.slice zo m.zones.length zc, .slice wo m.rows.length wc, .slice bo m.base.length bc], .agg #[.string x.name, .slice lo x.rings.length lc]] w fun r w' => (if sndP a b c d e = true then r = .returned (.tuple #[.agg #[.int .i64 a, .int .i64 b, .int .i64 c, .int .i64 d, .int .i64 e], .int .i64 0]) else r = .returned (.tuple #[.agg #[.int .i64 0, .int .i64 0, .int .i64 0, .int .i64 0, .int .i64 0], .int .i64 6])) ∧ Below w.heap.size w w' := by
  obtain ⟨n1, n32, hv, _⟩ := profB_true hx
  obtain ⟨hmz, hm5, hmb5, _⟩ := mdlB_parts hmb
  have hz8 := (zonesB_parts hmz).1.2
  have hask : askC m x = 0 := by unfold askC; rw [hmb, hx, hzb]; rfl
  obtain ⟨W1, hW1⟩ : ∃ W1, w.alloc (.cells #[.slice zo m.zones.length zc, .slice wo m.rows.length wc, .slice bo m.base.length bc] 39) = W1 := ⟨_, rfl⟩
  obtain ⟨W2, hW2⟩ : ∃ W2, W1.alloc (.cells #[.string x.name, .slice lo x.rings.length lc] 43) = W2 := ⟨_, rfl⟩
  obtain ⟨W3, hW3⟩ : ∃ W3, W2.alloc (.cells #[.int .i64 0, .int .i64 0, .int .i64 0, .int .i64 0, .int .i64 0] 45) = W3 := ⟨_, rfl⟩
  have b1 : Below w.heap.size w W1 := hW1 ▸ (Below.refl _ _).alloc (Nat.le_refl _) _
  have b2 : Below W1.heap.size W1 W2 := hW2 ▸ (Below.refl _ _).alloc (Nat.le_refl _) _
  have b3 : Below W2.heap.size W2 W3 := hW3 ▸ (Below.refl _ _).alloc (Nat.le_refl _) _
  have M1 : Own W1 w.heap.size 39 [.slice zo m.zones.length zc, .slice wo m.rows.length wc, .slice bo m.base.length bc] := hW1 ▸ Own.new w _ _
  have M2 := M1.below b2 M1.lt
  have M3 := M2.below b3 M2.lt
  have P2 : Own W2 W1.heap.size 43 [.string x.name, .slice lo x.rings.length lc] := hW2 ▸ Own.new W1 _ _
  have P3 := P2.below b3 P2.lt
  have S3 : Own W3 W2.heap.size 45 (L5 0 0 0 0 0) := hW3 ▸ Own.new W2 _ _
  have l1 : w.heap.size < W1.heap.size := M1.lt
  have l2 : W1.heap.size < W2.heap.size := P2.lt
  have HM3 := Lib.hid M3
  have HP3 := Lib.hid P3
  have HS3 := Lib.hid S3
  have B3 := Lib.hid (bnext (bnext b1 b2) b3)
  have HR := Lib.hid (((hr.up b1).up b2).up b3)
  have HRR := Lib.hid (((hR.up b1).up b2).up b3)
  have m0 : W3.cell? ⟨w.heap.size, 0, none⟩ = some (.slice zo m.zones.length zc) := M3.cell 0
  have m1 : W3.cell? ⟨w.heap.size, 1, none⟩ = some (.slice wo m.rows.length wc) := M3.cell 1
  have m2 : W3.cell? ⟨w.heap.size, 2, none⟩ = some (.slice bo m.base.length bc) := M3.cell 2
  have ml := M3.lt
  have p0 : W3.cell? ⟨W1.heap.size, 0, none⟩ = some (.string x.name) := P3.cell 0
  have p1 : W3.cell? ⟨W1.heap.size, 1, none⟩ = some (.slice lo x.rings.length lc) := P3.cell 1
  have pl := P3.lt
  have HA := Lib.hid (impl_modelled W3 zo wo bo lo zc wc bc lc m x HR.out (by omega) (by omega) (by omega) hs HRR.out (by omega))
  rw [hask] at HA
  have HMB := Lib.hid hmb
  have HV := Lib.hid hv
  have HZB := Lib.hid hzb
  have HRAW := Lib.hid hraw
  clear hr hmb hR hx hzb hraw hv hask b1 b2 b3 M1 M2 M3 P2 P3 S3 hmz hm5 hmb5
  obtain ⟨sb, hsb⟩ : ∃ s, sndP a b c d e = s := ⟨_, rfl⟩
  have HSB := Lib.hid hsb
  rw [hsb]
  clear hsb
  go_enter Tryz.func42, Tryz.ntmps42
  go_wp2_with fail
  refine HA.out.mono ?_; rintro e1 w4 ⟨rfl, b4⟩
  have M4 := HM3.out.below b4 HM3.out.lt
  have P4 := HP3.out.below b4 HP3.out.lt
  have S4 := Lib.hid (HS3.out.below b4 HS3.out.lt)
  have n0 : w4.cell? ⟨w.heap.size, 0, none⟩ = some (.slice zo m.zones.length zc) := M4.cell 0
  have n1' : w4.cell? ⟨w.heap.size, 1, none⟩ = some (.slice wo m.rows.length wc) := M4.cell 1
  have n2 : w4.cell? ⟨w.heap.size, 2, none⟩ = some (.slice bo m.base.length bc) := M4.cell 2
  have nl := M4.lt
  have q0 : w4.cell? ⟨W1.heap.size, 0, none⟩ = some (.string x.name) := P4.cell 0
  have q1 : w4.cell? ⟨W1.heap.size, 1, none⟩ = some (.slice lo x.rings.length lc) := P4.cell 1
  have ql := P4.lt
  have B4 := Lib.hid (bnext B3.out b4)
  have HRW := Lib.hid (impl_rawPartials w4 zo wo bo lo zc wc bc lc m x (HR.out.up b4) HMB.out (HRR.out.up b4) HV.out n1 n32 HZB.out)
  rw [HRAW.out] at HRW
  clear b4 M4 P4 m0 m1 m2 ml p0 p1 pl HA hW1 hW2 hW3 HM3 HP3 HS3
  go_wp2_with fail
  refine HRW.out.mono ?_; rintro e1 w5 ⟨rv, rfl, o5, b5⟩
  have HSN := Lib.hid (impl_sound w5 rv a b c d e (own_rd o5))
  have S5 := Lib.hid (S4.out.below b5 S4.out.lt)
  have B5 := Lib.hid (bnext B4.out b5)
  obtain ⟨vo, vc, er⟩ := (own_rd o5).form
  subst er
  clear b5 o5 n0 n1' n2 nl q0 q1 ql HRW S4
  go_wp2_with fail
  refine HSN.out.mono ?_; rintro e1 w6 ⟨rfl, b6⟩
  have S6 := Lib.hid (S5.out.below b6 S5.out.lt)
  have B6 := Lib.hid (bnext B5.out b6)
  have z6 := S6.out.lt
  obtain ⟨W7, hW7⟩ : ∃ W7, w6.alloc (.cells #[.int .i64 a, .int .i64 b, .int .i64 c, .int .i64 d, .int .i64 e] 45) = W7 := ⟨_, rfl⟩
  have b7 : Below w6.heap.size w6 W7 := hW7 ▸ (Below.refl _ _).alloc (Nat.le_refl _) _
  have O7 : Own W7 w6.heap.size 45 [.int .i64 a, .int .i64 b, .int .i64 c, .int .i64 d, .int .i64 e] := hW7 ▸ Own.new w6 _ _
  have HO7 := Lib.hid O7
  have S7 := Lib.hid (S6.out.below b7 S6.out.lt)
  have B7 := Lib.hid (bnext B6.out b7)
  have u0 : W7.cell? ⟨w6.heap.size, 0, none⟩ = some (.int .i64 a) := O7.cell 0
  have u1 : W7.cell? ⟨w6.heap.size, 1, none⟩ = some (.int .i64 b) := O7.cell 1
  have u2 : W7.cell? ⟨w6.heap.size, 2, none⟩ = some (.int .i64 c) := O7.cell 2
  have u3 : W7.cell? ⟨w6.heap.size, 3, none⟩ = some (.int .i64 d) := O7.cell 3
  have u4 : W7.cell? ⟨w6.heap.size, 4, none⟩ = some (.int .i64 e) := O7.cell 4
  have ul := O7.lt
  have HOK := Lib.hid (impl_sndP W7 a b c d e HSB.out)
  clear b6 b7 O7 S5 S6 HSN
  subst hW7
  go_wp2_with fail
  refine HOK.out.mono ?_; rintro e1 w8 ⟨rfl, b8⟩
  have S8 := S7.out.below b8 S7.out.lt
  have O8 := HO7.out.below b8 HO7.out.lt
  have s0 : w8.cell? ⟨W2.heap.size, 0, none⟩ = some (.int .i64 0) := S8.cell 0
  have s1 : w8.cell? ⟨W2.heap.size, 1, none⟩ = some (.int .i64 0) := S8.cell 1
  have s2 : w8.cell? ⟨W2.heap.size, 2, none⟩ = some (.int .i64 0) := S8.cell 2
  have s3 : w8.cell? ⟨W2.heap.size, 3, none⟩ = some (.int .i64 0) := S8.cell 3
  have s4 : w8.cell? ⟨W2.heap.size, 4, none⟩ = some (.int .i64 0) := S8.cell 4
  have f0 := S8.free 0
  have f1 := S8.free 1
  have f2 := S8.free 2
  have f3 := S8.free 3
  have f4 := S8.free 4
  have sl := S8.lt
  have t0 : w8.cell? ⟨w6.heap.size, 0, none⟩ = some (.int .i64 a) := O8.cell 0
  have t1 : w8.cell? ⟨w6.heap.size, 1, none⟩ = some (.int .i64 b) := O8.cell 1
  have t2 : w8.cell? ⟨w6.heap.size, 2, none⟩ = some (.int .i64 c) := O8.cell 2
  have t3 : w8.cell? ⟨w6.heap.size, 3, none⟩ = some (.int .i64 d) := O8.cell 3
  have t4 : w8.cell? ⟨w6.heap.size, 4, none⟩ = some (.int .i64 e) := O8.cell 4
  have tl := O8.lt
  have hne : ¬ W2.heap.size = w6.heap.size := by omega
  have hne2 : ¬ w6.heap.size = W2.heap.size := by omega
  have B8 := Lib.hid (bnext B7.out b8)
  have hge : w.heap.size ≤ W2.heap.size := by omega
  clear b8 S8 O8 S7 HO7 B7 HOK u0 u1 u2 u3 u4 ul
  cases sb
  · go_wp2_with fail
    refine bodyPost_ret (v := .tuple #[.agg #[.int .i64 0, .int .i64 0, .int .i64 0, .int .i64 0, .int .i64 0], .int .i64 6]) (by simp [results, Tryz.results42, go_sem, s0, s1, s2, s3, s4, f0, f1, f2, f3, f4, sl, hne, hne2]) rfl ?_
    exact ⟨rfl, by repeat (first | exact B8.out | refine Below.setCell ?_ hge _)⟩
  · go_wp2_with fail
    refine bodyPost_ret (v := .tuple #[.agg #[.int .i64 a, .int .i64 b, .int .i64 c, .int .i64 d, .int .i64 e], .int .i64 0]) (by simp [results, Tryz.results42, go_sem, s0, s1, s2, s3, s4, f0, f1, f2, f3, f4, sl, hne, hne2]) rfl ?_
    exact ⟨rfl, by repeat (first | exact B8.out | refine Below.setCell ?_ hge _)⟩
end Go.Proofs.YtcjekailcljaaaaGreat
