/- Contracts and plain facts, joined: GrdO. -/
import Derived.Test.YtcjekailcljaaaaGreatRows
import Derived.Test.YtcjekailcljaaaaGreatZFnExactGreedyPlanZK
import Derived.Deep.RegionHeld3
namespace Go.Proofs.YtcjekailcljaaaaGreat
open Go.ChangeShapes Go.WideShapes Go.ChangeAt Go.RowKit Go.Deep Go.Joins
set_option linter.unusedVariables false
set_option maxRecDepth 100000
set_option linter.unusedSimpArgs false
def cutL (zo wo bo lo : Option Addr) (zc wc bc lc : Nat) (m : Mdl) (x : Profile) (g : GoalX) (rv sv : Value) : List Value := [.int .i64 1, .bool false, .slice zo m.zones.length zc, .slice wo m.rows.length wc, .slice bo m.base.length bc, .string x.name, .slice lo x.rings.length lc, .int .i64 g.a, .int .i64 g.b, .int .i64 g.c, .int .i64 g.d, .int .i64 g.e, .int .i64 g.tol, .int .i64 g.most, rv, sv, .int .i64 (-1), .bool false, .int .i64 0, .slice none 0 0]
theorem run_makeZ (n : Nat) (hn : n ≤ 8) (w : World) : (Instr.makeSlice 22 (.int .i64 n) (.int .i64 n)).run Tryz.prog w = .ok (.slice (some ⟨w.heap.size, 0, none⟩) n n) (w.alloc (.cells ((List.replicate n (0 : Int)).flatMap putI).toArray 2)) := by
  obtain ⟨i0, hi, hz0, hz1, hz2⟩ := info_parts info_i64
  have hrun := run_make (P := Tryz.prog) w 22 2 i0 (.int .i64 0) Tryz.underlying22 hi hz0 .i64 .i64 n n (by omega) (by omega) (by rw [hz2]; omega) (by omega)
  simp only [Int.toNat_natCast, hz1] at hrun
  rw [hrun, ← madeN]
set_option maxHeartbeats 8000000 in
theorem impl_newCutter (w : World) (zo wo bo lo : Option Addr) (zc wc bc lc : Nat) (m : Mdl) (x : Profile) (g : GoalX) (hr : RdMdl w.heap.size w (.slice zo m.zones.length zc) (.slice wo m.rows.length wc) (.slice bo m.base.length bc) m) (hs : x.name.size ≤ maxLen) (hR : RdR w lo lc x.rings) (hx : profB x = true) (hzb : zonesB x.rings.length m.zones = true) :
    Calls Tryz.prog 52 #[.agg #[.slice zo m.zones.length zc, .slice wo m.rows.length wc, .slice bo m.base.length bc], .agg #[.string x.name, .slice lo x.rings.length lc], .agg #[.int .i64 g.a, .int .i64 g.b, .int .i64 g.c, .int .i64 g.d, .int .i64 g.e, .int .i64 g.tol, .int .i64 g.most], .int .i64 1] w fun e w' => ∃ (C gs rl rh : Nat) (rv : Value), e = .returned (.pointer (some ⟨C, 0, none⟩)) ∧ Own w' C 105 (cutL zo wo bo lo zc wc bc lc m x g rv (.slice (some ⟨gs, 0, none⟩) m.zones.length m.zones.length)) ∧ Own w' gs 2 ((zeroZ m).flatMap putI) ∧ Held rl rh w' 2 1 rv m.zones.length ((roomL g m x).flatMap putI) ∧ (gs < rl ∨ rh ≤ gs) ∧ C ≠ gs ∧ w.heap.size ≤ gs ∧ w.heap.size ≤ C ∧ Below w.heap.size w w' := by
  have hz18 := (zonesB_parts hzb).1
  obtain ⟨n, hn⟩ : ∃ n, m.zones.length = n := ⟨_, rfl⟩
  obtain ⟨W1, hW1⟩ : ∃ W1, w.alloc (.cells #[.slice zo n zc, .slice wo m.rows.length wc, .slice bo m.base.length bc] 39) = W1 := ⟨_, rfl⟩
  obtain ⟨W2, hW2⟩ : ∃ W2, W1.alloc (.cells #[.string x.name, .slice lo x.rings.length lc] 43) = W2 := ⟨_, rfl⟩
  obtain ⟨W3, hW3⟩ : ∃ W3, W2.alloc (.cells #[.int .i64 g.a, .int .i64 g.b, .int .i64 g.c, .int .i64 g.d, .int .i64 g.e, .int .i64 g.tol, .int .i64 g.most] 47) = W3 := ⟨_, rfl⟩
  have b1 : Below w.heap.size w W1 := hW1 ▸ (Below.refl _ _).alloc (Nat.le_refl _) _
  have b2 : Below W1.heap.size W1 W2 := hW2 ▸ (Below.refl _ _).alloc (Nat.le_refl _) _
  have b3 : Below W2.heap.size W2 W3 := hW3 ▸ (Below.refl _ _).alloc (Nat.le_refl _) _
  have M1 : Own W1 w.heap.size 39 [.slice zo n zc, .slice wo m.rows.length wc, .slice bo m.base.length bc] := hW1 ▸ Own.new w _ _
  have M3 := (M1.below b2 M1.lt).below b3 (M1.below b2 M1.lt).lt
  have P2 : Own W2 W1.heap.size 43 [.string x.name, .slice lo x.rings.length lc] := hW2 ▸ Own.new W1 _ _
  have P3 := P2.below b3 P2.lt
  have G3 : Own W3 W2.heap.size 47 [.int .i64 g.a, .int .i64 g.b, .int .i64 g.c, .int .i64 g.d, .int .i64 g.e, .int .i64 g.tol, .int .i64 g.most] := hW3 ▸ Own.new W2 _ _
  have BB3 := bnext (bnext b1 b2) b3
  have HM3 := Lib.hid M3
  have HP3 := Lib.hid P3
  have HG3 := Lib.hid G3
  have B3 := Lib.hid BB3
  have HM3_0 : W3.cell? ⟨w.heap.size, 0, none⟩ = some (.slice zo n zc) := HM3.out.cell 0
  have HM3_1 : W3.cell? ⟨w.heap.size, 1, none⟩ = some (.slice wo m.rows.length wc) := HM3.out.cell 1
  have HM3_2 : W3.cell? ⟨w.heap.size, 2, none⟩ = some (.slice bo m.base.length bc) := HM3.out.cell 2
  have HM3_l := HM3.out.lt
  have HP3_0 : W3.cell? ⟨W1.heap.size, 0, none⟩ = some (.string x.name) := HP3.out.cell 0
  have HP3_1 : W3.cell? ⟨W1.heap.size, 1, none⟩ = some (.slice lo x.rings.length lc) := HP3.out.cell 1
  have HP3_l := HP3.out.lt
  have HG3_0 : W3.cell? ⟨W2.heap.size, 0, none⟩ = some (.int .i64 g.a) := HG3.out.cell 0
  have HG3_1 : W3.cell? ⟨W2.heap.size, 1, none⟩ = some (.int .i64 g.b) := HG3.out.cell 1
  have HG3_2 : W3.cell? ⟨W2.heap.size, 2, none⟩ = some (.int .i64 g.c) := HG3.out.cell 2
  have HG3_3 : W3.cell? ⟨W2.heap.size, 3, none⟩ = some (.int .i64 g.d) := HG3.out.cell 3
  have HG3_4 : W3.cell? ⟨W2.heap.size, 4, none⟩ = some (.int .i64 g.e) := HG3.out.cell 4
  have HG3_5 : W3.cell? ⟨W2.heap.size, 5, none⟩ = some (.int .i64 g.tol) := HG3.out.cell 5
  have HG3_6 : W3.cell? ⟨W2.heap.size, 6, none⟩ = some (.int .i64 g.most) := HG3.out.cell 6
  have HG3_l := HG3.out.lt
  have HLM := Lib.hid (fun (w' : World) (hb : Below W3.heap.size W3 w') => (by
    have q := impl_limits w' zo wo bo lo zc wc bc lc m x g (hr.up (bnext BB3 hb)) hs (hR.up (bnext BB3 hb)) hx hzb
    rw [hn] at q
    exact q : Calls Tryz.prog 94 #[.agg #[.slice zo n zc, .slice wo m.rows.length wc, .slice bo m.base.length bc], .agg #[.string x.name, .slice lo x.rings.length lc], .agg #[.int .i64 g.a, .int .i64 g.b, .int .i64 g.c, .int .i64 g.d, .int .i64 g.e, .int .i64 g.tol, .int .i64 g.most]] w' fun e w'' => (∃ r, e = .returned r ∧ w''.ownsRow w'.heap.size 2 1 r n ((roomL g m x).flatMap putI)) ∧ Below w'.heap.size w' w''))
  have hmk := run_makeZ n (by omega)
  have HZZ : Hid (zeroZ m = List.replicate n 0) := Lib.hid (by unfold zeroZ; rw [hn])
  have HCL : Hid (∀ rv sv, cutL zo wo bo lo zc wc bc lc m x g rv sv = [.int .i64 1, .bool false, .slice zo n zc, .slice wo m.rows.length wc, .slice bo m.base.length bc, .string x.name, .slice lo x.rings.length lc, .int .i64 g.a, .int .i64 g.b, .int .i64 g.c, .int .i64 g.d, .int .i64 g.e, .int .i64 g.tol, .int .i64 g.most, rv, sv, .int .i64 (-1), .bool false, .int .i64 0, .slice none 0 0]) := Lib.hid (fun rv sv => by unfold cutL; rw [hn])
  rw [hn]
  have hzw := BB3.size
  clear hr hs hR hx hzb b1 b2 b3 M1 M3 P2 P3 G3 BB3 hn hz18
  go_enter Tryz.func52, Tryz.ntmps52
  go_wp2_with fail
  go_region_held3 (fun w' => w'.cell? ⟨w.heap.size, 0, none⟩ = some (.slice zo n zc) ∧ w'.cell? ⟨w.heap.size, 1, none⟩ = some (.slice wo m.rows.length wc) ∧ w'.cell? ⟨w.heap.size, 2, none⟩ = some (.slice bo m.base.length bc) ∧ w'.cell? ⟨W1.heap.size, 0, none⟩ = some (.string x.name) ∧ w'.cell? ⟨W1.heap.size, 1, none⟩ = some (.slice lo x.rings.length lc) ∧ w'.cell? ⟨W2.heap.size, 0, none⟩ = some (.int .i64 g.a) ∧ w'.cell? ⟨W2.heap.size, 1, none⟩ = some (.int .i64 g.b) ∧ w'.cell? ⟨W2.heap.size, 2, none⟩ = some (.int .i64 g.c) ∧ w'.cell? ⟨W2.heap.size, 3, none⟩ = some (.int .i64 g.d) ∧ w'.cell? ⟨W2.heap.size, 4, none⟩ = some (.int .i64 g.e) ∧ w'.cell? ⟨W2.heap.size, 5, none⟩ = some (.int .i64 g.tol) ∧ w'.cell? ⟨W2.heap.size, 6, none⟩ = some (.int .i64 g.most)) (first | (with_reducible assumption) | (go_keep; done)) (first
    | (go_at_call 94
       refine (HLM.out _ (by (repeat' (first | (with_reducible exact Below.refl _ _) | (with_reducible assumption) | (with_reducible refine below_dn ?_ _) | (with_reducible refine Below.drew ?_) | (with_reducible refine Below.alloc ?_ ?_ _) | (with_reducible refine Below.setCell ?_ ?_ _) | go_size)))).mono ?_; rintro e1 w6 ⟨⟨r6, rfl, o6⟩, b6⟩
       have B6 : Below W3.heap.size W3 w6 := Below.trans (by (repeat' (first | (with_reducible exact Below.refl _ _) | (with_reducible assumption) | (with_reducible refine below_dn ?_ _) | (with_reducible refine Below.drew ?_) | (with_reducible refine Below.alloc ?_ ?_ _) | (with_reducible refine Below.setCell ?_ ?_ _) | go_size))) (b6.mono (by simp <;> omega))
       have M6 := HM3.out.below B6 HM3.out.lt
       have P6 := HP3.out.below B6 HP3.out.lt
       have G6 := HG3.out.below B6 HG3.out.lt
       have HS6 : w6.cell? ⟨w.heap.size, 0, none⟩ = some (.slice zo n zc) ∧ w6.cell? ⟨w.heap.size, 1, none⟩ = some (.slice wo m.rows.length wc) ∧ w6.cell? ⟨w.heap.size, 2, none⟩ = some (.slice bo m.base.length bc) ∧ w6.cell? ⟨W1.heap.size, 0, none⟩ = some (.string x.name) ∧ w6.cell? ⟨W1.heap.size, 1, none⟩ = some (.slice lo x.rings.length lc) ∧ w6.cell? ⟨W2.heap.size, 0, none⟩ = some (.int .i64 g.a) ∧ w6.cell? ⟨W2.heap.size, 1, none⟩ = some (.int .i64 g.b) ∧ w6.cell? ⟨W2.heap.size, 2, none⟩ = some (.int .i64 g.c) ∧ w6.cell? ⟨W2.heap.size, 3, none⟩ = some (.int .i64 g.d) ∧ w6.cell? ⟨W2.heap.size, 4, none⟩ = some (.int .i64 g.e) ∧ w6.cell? ⟨W2.heap.size, 5, none⟩ = some (.int .i64 g.tol) ∧ w6.cell? ⟨W2.heap.size, 6, none⟩ = some (.int .i64 g.most) := ⟨M6.cell 0, M6.cell 1, M6.cell 2, P6.cell 0, P6.cell 1, G6.cell 0, G6.cell 1, G6.cell 2, G6.cell 3, G6.cell 4, G6.cell 5, G6.cell 6⟩
       obtain ⟨ro6, rc6, er6⟩ := (own_rd o6).form
       subst er6
       have HB6 := Lib.hid B6
       have O6 := Lib.hid o6
       first
         | (have b6' : Below (W3.alloc (.cells ((List.replicate n (0 : Int)).flatMap putI).toArray 2)).drew.heap.size (W3.alloc (.cells ((List.replicate n (0 : Int)).flatMap putI).toArray 2)).drew w6 := b6
            have OZ : Own (W3.alloc (.cells ((List.replicate n (0 : Int)).flatMap putI).toArray 2)).drew W3.heap.size 2 ((List.replicate n (0 : Int)).flatMap putI) := Own.new W3 _ _
            have OZ6 := Lib.hid (OZ.below b6' OZ.lt)
            clear b6 b6' OZ o6 B6 M6 P6 G6)
         | (clear b6 o6 B6 M6 P6 G6)))
  · clear HS6
    obtain ⟨W7, hW7⟩ : ∃ W7, w6.alloc (.cells ((List.replicate n (0 : Int)).flatMap putI).toArray 2) = W7 := ⟨_, rfl⟩
    obtain ⟨W8, hW8⟩ : ∃ W8, W7.alloc (.cells #[.int .i64 1, .bool false, .slice zo n zc, .slice wo m.rows.length wc, .slice bo m.base.length bc, .string x.name, .slice lo x.rings.length lc, .int .i64 g.a, .int .i64 g.b, .int .i64 g.c, .int .i64 g.d, .int .i64 g.e, .int .i64 g.tol, .int .i64 g.most, .slice ro6 n rc6, .slice (some ⟨w6.heap.size, 0, none⟩) n n, .int .i64 (-1), .bool false, .int .i64 0, .slice none 0 0] 105) = W8 := ⟨_, rfl⟩
    have b7 : Below w6.heap.size w6 W7 := hW7 ▸ (Below.refl _ _).alloc (Nat.le_refl _) _
    have b8 : Below W7.heap.size W7 W8 := hW8 ▸ (Below.refl _ _).alloc (Nat.le_refl _) _
    have Z7 : Own W7 w6.heap.size 2 ((List.replicate n (0 : Int)).flatMap putI) := hW7 ▸ Own.new w6 _ _
    have C8 : Own W8 W7.heap.size 105 [.int .i64 1, .bool false, .slice zo n zc, .slice wo m.rows.length wc, .slice bo m.base.length bc, .string x.name, .slice lo x.rings.length lc, .int .i64 g.a, .int .i64 g.b, .int .i64 g.c, .int .i64 g.d, .int .i64 g.e, .int .i64 g.tol, .int .i64 g.most, .slice ro6 n rc6, .slice (some ⟨w6.heap.size, 0, none⟩) n n, .int .i64 (-1), .bool false, .int .i64 0, .slice none 0 0] := hW8 ▸ Own.new W7 _ _
    have Z8 := Lib.hid (Z7.below b8 Z7.lt)
    have H8 := Lib.hid (((Held.of_row O6.out).below b7).below b8)
    have HC8 := Lib.hid C8
    have B8 := Lib.hid (bnext (bnext (bnext B3.out HB6.out) b7) b8)
    have n1 : ¬ W7.heap.size = w6.heap.size := Nat.ne_of_gt Z7.lt
    have n2 : w.heap.size ≤ w6.heap.size := Nat.le_trans hzw HB6.out.size
    have n3 : w.heap.size ≤ W7.heap.size := Nat.le_trans n2 b7.size
    clear b7 b8 Z7 C8 O6 HB6 hmk HLM
    rw [hW7, hW8]
    have e7 : (w6.heap.size + 1) = W7.heap.size := by rw [← hW7]; simp
    clear hW7 hW8
    go_wp2_with fail
    go_ret
    refine ⟨W7.heap.size, w6.heap.size, _, _, _, ?_, by rw [HCL.out]; exact HC8.out, by rw [HZZ.out]; exact Z8.out, H8.out, .inr (Nat.le_refl _), n1, n2, n3, B8.out⟩
    simp [e7]
  · clear HS6
    obtain ⟨W8, hW8⟩ : ∃ W8, w6.alloc (.cells #[.int .i64 1, .bool false, .slice zo n zc, .slice wo m.rows.length wc, .slice bo m.base.length bc, .string x.name, .slice lo x.rings.length lc, .int .i64 g.a, .int .i64 g.b, .int .i64 g.c, .int .i64 g.d, .int .i64 g.e, .int .i64 g.tol, .int .i64 g.most, .slice ro6 n rc6, .slice (some ⟨W3.heap.size, 0, none⟩) n n, .int .i64 (-1), .bool false, .int .i64 0, .slice none 0 0] 105) = W8 := ⟨_, rfl⟩
    have b8 : Below w6.heap.size w6 W8 := hW8 ▸ (Below.refl _ _).alloc (Nat.le_refl _) _
    have C8 : Own W8 w6.heap.size 105 [.int .i64 1, .bool false, .slice zo n zc, .slice wo m.rows.length wc, .slice bo m.base.length bc, .string x.name, .slice lo x.rings.length lc, .int .i64 g.a, .int .i64 g.b, .int .i64 g.c, .int .i64 g.d, .int .i64 g.e, .int .i64 g.tol, .int .i64 g.most, .slice ro6 n rc6, .slice (some ⟨W3.heap.size, 0, none⟩) n n, .int .i64 (-1), .bool false, .int .i64 0, .slice none 0 0] := hW8 ▸ Own.new w6 _ _
    have Z8 := Lib.hid (OZ6.out.below b8 OZ6.out.lt)
    have H8 := Lib.hid ((Held.of_row O6.out).below b8)
    have HC8 := Lib.hid C8
    have B8 := Lib.hid (bnext (bnext B3.out HB6.out) b8)
    have n1 : ¬ w6.heap.size = W3.heap.size := Nat.ne_of_gt OZ6.out.lt
    have n2 : w.heap.size ≤ w6.heap.size := Nat.le_trans hzw HB6.out.size
    have n3 : w.heap.size ≤ W3.heap.size := hzw
    have n4 : W3.heap.size < (W3.alloc (.cells ((List.replicate n (0 : Int)).flatMap putI).toArray 2)).drew.heap.size := by simp
    clear b8 C8 O6 HB6 hmk HLM OZ6
    rw [hW8]
    clear hW8
    go_wp2_with fail
    go_ret
    exact ⟨w6.heap.size, W3.heap.size, _, _, _, rfl, by rw [HCL.out]; exact HC8.out, by rw [HZZ.out]; exact Z8.out, H8.out, .inl n4, n1, n3, n2, B8.out⟩
end Go.Proofs.YtcjekailcljaaaaGreat
