/- Contracts and plain facts, joined: LWFnExactGreedyPlan. -/
import Derived.Test.YtcjekailcljaaaaGreatRows
import Derived.Test.YtcjekailcljaaaaGreatZFnExactGreedyPlanC
import Derived.Test.YtcjekailcljaaaaGreatZFnExactGreedyPlanR
import Derived.Test.YtcjekailcljaaaaGreatZFnExactGreedyPlanS
import Derived.Test.YtcjekailcljaaaaGreatZFnExactGreedyPlanZM
import Derived.Test.YtcjekailcljaaaaGreatZFnExactGreedyPlanZS
import Derived.Deep.RegionHeld3
namespace Go.Proofs.YtcjekailcljaaaaGreat
open Go.ChangeShapes Go.WideShapes Go.ChangeAt Go.RowKit Go.Deep Go.Joins
set_option linter.unusedVariables false
set_option maxRecDepth 100000
set_option linter.unusedSimpArgs false
theorem spec_GrdC (w : World) (gz gw gb gp : Nat) (ys : List Row) (a0 : MdlX) (a1 : Profile) (a2 : GoalX) (nz : a0.zones.length ≤ 1048576) (nw : a0.rows.length ≤ 1048576) (nr : ∀ y ∈ a0.rows, y.2.length ≤ 1048576) (nb : a0.base.length ≤ 1048576) (ns : a1.name.size ≤ maxLen) (np : a1.rings.length ≤ 1048576)
    (c : CopM w gz gw gb ys a0) (op : Own w gp 123 (a1.rings.flatMap Ring.put)) :
    Calls Tryz.prog 23 #[.agg #[.slice (some ⟨gz, 0, none⟩) a0.zones.length a0.zones.length, .slice (some ⟨gw, 0, none⟩) a0.rows.length a0.rows.length, .slice (some ⟨gb, 0, none⟩) a0.base.length a0.base.length], .agg #[.string a1.name, .slice (some ⟨gp, 0, none⟩) a1.rings.length a1.rings.length], .agg #[.int .i64 a2.a, .int .i64 a2.b, .int .i64 a2.c, .int .i64 a2.d, .int .i64 a2.e, .int .i64 a2.tol, .int .i64 a2.most]] w fun e w' => (∃ r, e = .returned (.tuple #[r, .int .i64 (grdC a2 (mdlOf a0) a1)]) ∧ w'.ownsRow w.heap.size 80 2 r (grdL a2 (mdlOf a0) a1).length ((grdL a2 (mdlOf a0) a1).flatMap Cut.put)) ∧ Below w.heap.size w w' := by
  have e : (mdlOf a0).rows.length = a0.rows.length := List.length_map ..
  have h := spec_GreedyPlan w (some ⟨gz, 0, none⟩) (some ⟨gw, 0, none⟩) (some ⟨gb, 0, none⟩) (some ⟨gp, 0, none⟩) a0.zones.length a0.rows.length a0.base.length a1.rings.length (mdlOf a0) a1 a2
  rw [e] at h
  exact h (c.rd nz nw nr nb) nz nw nb ns (own_ring op np) np
theorem impl_GrdC (w : World) (gz gw gb gp : Nat) (ys : List Row) (a0 : MdlX) (a1 : Profile) (a2 : GoalX) (nz : a0.zones.length ≤ 1048576) (nw : a0.rows.length ≤ 1048576) (nr : ∀ y ∈ a0.rows, y.2.length ≤ 1048576) (nb : a0.base.length ≤ 1048576) (ns : a1.name.size ≤ maxLen) (np : a1.rings.length ≤ 1048576)
    (c : CopM w gz gw gb ys a0) (op : Own w gp 123 (a1.rings.flatMap Ring.put)) :
    Calls Tryz.prog 24 #[.agg #[.slice (some ⟨gz, 0, none⟩) a0.zones.length a0.zones.length, .slice (some ⟨gw, 0, none⟩) a0.rows.length a0.rows.length, .slice (some ⟨gb, 0, none⟩) a0.base.length a0.base.length], .agg #[.string a1.name, .slice (some ⟨gp, 0, none⟩) a1.rings.length a1.rings.length], .agg #[.int .i64 a2.a, .int .i64 a2.b, .int .i64 a2.c, .int .i64 a2.d, .int .i64 a2.e, .int .i64 a2.tol, .int .i64 a2.most]] w fun e w' => (∃ r, e = .returned (.tuple #[r, .int .i64 (grdC a2 (mdlOf a0) a1)]) ∧ w'.ownsRow w.heap.size 80 2 r (grdL a2 (mdlOf a0) a1).length ((grdL a2 (mdlOf a0) a1).flatMap Cut.put)) ∧ Below w.heap.size w w' := by
  have e : (mdlOf a0).rows.length = a0.rows.length := List.length_map ..
  have h := impl_GreedyPlan w (some ⟨gz, 0, none⟩) (some ⟨gw, 0, none⟩) (some ⟨gb, 0, none⟩) (some ⟨gp, 0, none⟩) a0.zones.length a0.rows.length a0.base.length a1.rings.length (mdlOf a0) a1 a2
  rw [e] at h
  exact h (c.rd nz nw nr nb) nz nw nb ns (own_ring op np) np
theorem runG_len (g : GoalX) (m : Mdl) (x : Profile) : ∀ (f : Nat) (st : List Int) (now : Int), (runG g m x f st now).1.length = st.length
  | 0, _, _ => rfl
  | f + 1, st, now => by
    show (if now ≤ g.tol then (st, (0 : Int)) else if (pickS g m x st).1 < 0 ∨ now ≤ (pickS g m x st).2 then (st, 6) else runG g m x f (incZ st (pickS g m x st).1.toNat) (pickS g m x st).2).1.length = st.length
    split
    · rfl
    · split
      · rfl
      · rw [runG_len g m x f, incZ_len]
theorem grdL_len (g : GoalX) (m : Mdl) (x : Profile) : (grdL g m x).length ≤ 8 := by
  unfold grdL
  by_cases h : grdC g m x = 0
  · rw [if_pos h]
    have ha : aimC g m x = 0 := by
      unfold grdC at h
      by_cases q : aimC g m x = 0
      · exact q
      · rw [if_neg q] at h; exact h
    have h8 := (zonesB_parts (aimC_zero ha).2.2.2).1.2
    have hl : (grdR g m x).1.length = m.zones.length := by
      unfold grdR
      split
      · simp [zeroZ]
      · rw [runG_len]; simp [zeroZ]
    have := cutsK_len (grdR g m x).1 (grdR g m x).1.length
    unfold cutsZ
    omega
  · rw [if_neg h]; exact Nat.zero_le _
theorem szR_cases (left : Int) (n : Nat) (h0 : 0 ≤ left) : szR left n = -1 ∨ (0 ≤ szR left n ∧ szR left n ≤ left ∧ (n : Int) ≤ left) := by
  unfold szR
  by_cases h : (n : Int) ≤ left
  · rw [if_pos h]; exact Or.inr ⟨by omega, by omega, h⟩
  · rw [if_neg h]; exact Or.inl rfl
set_option maxHeartbeats 1000000 in
theorem FnExactGreedyPlan_walk (w : World) (a0 : MdlX) (k0 : a0.ok w) (a1 : Profile) (k1 : a1.ok w) (a2 : GoalX) (k2 : a2.ok) :
    Calls Tryz.prog 4 #[.agg #[a0.zv, a0.wv, a0.bv], .agg #[.string a1.name, a1.list], .agg #[.int .i64 a2.a, .int .i64 a2.b, .int .i64 a2.c, .int .i64 a2.d, .int .i64 a2.e, .int .i64 a2.tol, .int .i64 a2.most]] w fun e w' => e = .returned (.bool true) ∧ Below w.heap.size w w' := by
  obtain ⟨W1, hW1⟩ : ∃ W1, w.alloc (.cells #[a0.zv, a0.wv, a0.bv] 25) = W1 := ⟨_, rfl⟩
  obtain ⟨W2, hW2⟩ : ∃ W2, W1.alloc (.cells #[.string a1.name, a1.list] 28) = W2 := ⟨_, rfl⟩
  obtain ⟨W3, hW3⟩ : ∃ W3, W2.alloc (.cells #[.int .i64 a2.a, .int .i64 a2.b, .int .i64 a2.c, .int .i64 a2.d, .int .i64 a2.e, .int .i64 a2.tol, .int .i64 a2.most] 32) = W3 := ⟨_, rfl⟩
  have b1 : Below w.heap.size w W1 := hW1 ▸ (Below.refl _ _).alloc (Nat.le_refl _) _
  have b2 : Below W1.heap.size W1 W2 := hW2 ▸ (Below.refl _ _).alloc (Nat.le_refl _) _
  have b3 : Below W2.heap.size W2 W3 := hW3 ▸ (Below.refl _ _).alloc (Nat.le_refl _) _
  have M1 : Own W1 w.heap.size 25 a0.put := hW1 ▸ Own.new w _ _
  have M3 := Lib.hid ((M1.below b2 M1.lt).below b3 (M1.below b2 M1.lt).lt)
  have P2 : Own W2 W1.heap.size 28 a1.put := hW2 ▸ Own.new W1 _ _
  have P3 := Lib.hid (P2.below b3 P2.lt)
  have G3 : Hid (Own W3 W2.heap.size 32 a2.put) := Lib.hid (hW3 ▸ Own.new W2 _ _)
  have B3 := Lib.hid (bnext (bnext b1 b2) b3)
  have K0 := Lib.hid (k0.up B3.out)
  have K1 := Lib.hid (k1.up B3.out)
  have HS1 := Lib.hid (szModel a0 1048576 W3 K0.out (by omega) (by omega))
  have c1 := szR_cases 1048576 a0.wt (by omega)
  obtain ⟨z1, hz1⟩ : ∃ z, szR 1048576 a0.wt = z := ⟨_, rfl⟩
  rw [hz1] at HS1 c1
  have m0 : W3.cell? ⟨w.heap.size, 0, none⟩ = some a0.zv := M3.out.cell 0
  have m1 : W3.cell? ⟨w.heap.size, 1, none⟩ = some a0.wv := M3.out.cell 1
  have m2 : W3.cell? ⟨w.heap.size, 2, none⟩ = some a0.bv := M3.out.cell 2
  have ml := M3.out.lt
  clear hz1 b1 b2 b3 M1 P2 k0 k1
  rcases c1 with rfl | ⟨c1a, c1b, c1c⟩
  · go_enter Tryz.func4, Tryz.ntmps4
    go_wp2_with fail
    refine HS1.out.mono ?_; rintro e w4 ⟨rfl, b4⟩
    have B4 := Lib.hid (bnext B3.out b4)
    clear b4
    go_wp2_with fail
    go_ret
    exact ⟨rfl, B4.out⟩
  go_enter Tryz.func4, Tryz.ntmps4
  go_wp2_with fail
  refine HS1.out.mono ?_; rintro e w4 ⟨rfl, b4⟩
  have M4 := Lib.hid (M3.out.below b4 M3.out.lt)
  have P4 := Lib.hid (P3.out.below b4 P3.out.lt)
  have G4 := Lib.hid (G3.out.below b4 G3.out.lt)
  have J0 := Lib.hid (K0.out.up b4)
  have J1 := Lib.hid (K1.out.up b4)
  have B4 := Lib.hid (bnext B3.out b4)
  have p0 : w4.cell? ⟨W1.heap.size, 0, none⟩ = some (.string a1.name) := P4.out.cell 0
  have p1 : w4.cell? ⟨W1.heap.size, 1, none⟩ = some a1.list := P4.out.cell 1
  have pl := P4.out.lt
  have HS2 := Lib.hid (szProfile a1 z1 w4 J1.out c1a (by omega))
  have c2 := szR_cases z1 (a1.name.size + a1.rings.length) c1a
  obtain ⟨z2, hz2⟩ : ∃ z, szR z1 (a1.name.size + a1.rings.length) = z := ⟨_, rfl⟩
  rw [hz2] at HS2 c2
  clear hz2 b4 m0 m1 m2 ml M3 P3 G3 K0 K1 HS1 B3 hW1 hW2 hW3
  rcases c2 with rfl | ⟨c2a, c2b, c2c⟩
  · go_wp2_with fail
    refine HS2.out.mono ?_; rintro e w5 ⟨rfl, b5⟩
    have B5 := Lib.hid (bnext B4.out b5)
    clear b5
    go_wp2_with fail
    go_ret
    exact ⟨rfl, B5.out⟩
  go_wp2_with fail
  refine HS2.out.mono ?_; rintro e w5 ⟨rfl, b5⟩
  have M5 := Lib.hid (M4.out.below b5 M4.out.lt)
  have P5 := Lib.hid (P4.out.below b5 P4.out.lt)
  have G5 := Lib.hid (G4.out.below b5 G4.out.lt)
  have I0 := Lib.hid (J0.out.up b5)
  have I1 := Lib.hid (J1.out.up b5)
  have B5 := Lib.hid (bnext B4.out b5)
  clear b5 p0 p1 pl M4 P4 G4 J0 J1 HS2 B4
  have nz : a0.zones.length ≤ 1048576 := by unfold MdlX.wt at c1c; omega
  have nw : a0.rows.length ≤ 1048576 := by unfold MdlX.wt at c1c; omega
  have nr : wtRows a0.rows ≤ 1048576 := by unfold MdlX.wt at c1c; omega
  have nb : a0.base.length ≤ 1048576 := by unfold MdlX.wt at c1c; omega
  have np : a1.rings.length ≤ 1048576 := by omega
  clear c1c c2c
  have lz : w.heap.size < w5.heap.size ∧ W1.heap.size < w5.heap.size ∧ W2.heap.size < w5.heap.size := ⟨M5.out.lt, P5.out.lt, G5.out.lt⟩
  have AZ : Hid (ArgZ w5 w5 w.heap.size W1.heap.size W2.heap.size a0 a1 a2) := Lib.hid ⟨Below.refl _ _, M5.out, P5.out, G5.out⟩
  have Hr : Hid (∀ y ∈ a0.rows, y.2.length ≤ 1048576) := Lib.hid fun y hy => by have := wtRows_mem a0.rows y hy; omega
  have nl : (grdL a2 (mdlOf a0) a1).length ≤ 1048576 := by have := grdL_len a2 (mdlOf a0) a1; omega
  have HS := Lib.hid (fun (w' : World) (gz gw gb gp : Nat) (ys : List Row) (c : CopM w' gz gw gb ys a0) (op : Own w' gp 123 (a1.rings.flatMap Ring.put)) => spec_GrdC w' gz gw gb gp ys a0 a1 a2 nz nw Hr.out nb I1.out.1 np c op)
  have HI := Lib.hid (fun (w' : World) (gz gw gb gp : Nat) (ys : List Row) (c : CopM w' gz gw gb ys a0) (op : Own w' gp 123 (a1.rings.flatMap Ring.put)) => impl_GrdC w' gz gw gb gp ys a0 a1 a2 nz nw Hr.out nb I1.out.1 np c op)
  obtain ⟨cc, hcc⟩ : ∃ c, grdC a2 (mdlOf a0) a1 = c := ⟨_, rfl⟩
  obtain ⟨L, hL⟩ : ∃ l, grdL a2 (mdlOf a0) a1 = l := ⟨_, rfl⟩
  rw [hcc, hL] at HS HI
  rw [hL] at nl
  have hnL := nl
  clear hcc hL nl M5 P5 G5
  have tb : (cc != cc) = false := by simp
  -- the reference
  have n0_0 : w5.cell? ⟨w.heap.size, 0, none⟩ = some (a0.zv) := AZ.out.m0
  have n0_1 : w5.cell? ⟨w.heap.size, 1, none⟩ = some (a0.wv) := AZ.out.m1
  have n0_2 : w5.cell? ⟨w.heap.size, 2, none⟩ = some (a0.bv) := AZ.out.m2
  have l0 := AZ.out.lm
  have n1_0 : w5.cell? ⟨W1.heap.size, 0, none⟩ = some (.string a1.name) := AZ.out.p0
  have n1_1 : w5.cell? ⟨W1.heap.size, 1, none⟩ = some (a1.list) := AZ.out.p1
  have l1 := AZ.out.lp
  have n2_0 : w5.cell? ⟨W2.heap.size, 0, none⟩ = some (.int .i64 a2.a) := AZ.out.q0
  have n2_1 : w5.cell? ⟨W2.heap.size, 1, none⟩ = some (.int .i64 a2.b) := AZ.out.q1
  have n2_2 : w5.cell? ⟨W2.heap.size, 2, none⟩ = some (.int .i64 a2.c) := AZ.out.q2
  have n2_3 : w5.cell? ⟨W2.heap.size, 3, none⟩ = some (.int .i64 a2.d) := AZ.out.q3
  have n2_4 : w5.cell? ⟨W2.heap.size, 4, none⟩ = some (.int .i64 a2.e) := AZ.out.q4
  have n2_5 : w5.cell? ⟨W2.heap.size, 5, none⟩ = some (.int .i64 a2.tol) := AZ.out.q5
  have n2_6 : w5.cell? ⟨W2.heap.size, 6, none⟩ = some (.int .i64 a2.most) := AZ.out.q6
  have l2 := AZ.out.lq
  go_wp2_with fail
  go_region_held3 (fun w' => w'.cell? ⟨w.heap.size, 0, none⟩ = some (a0.zv) ∧ w'.cell? ⟨w.heap.size, 1, none⟩ = some (a0.wv) ∧ w'.cell? ⟨w.heap.size, 2, none⟩ = some (a0.bv) ∧ w'.cell? ⟨W1.heap.size, 0, none⟩ = some (.string a1.name) ∧ w'.cell? ⟨W1.heap.size, 1, none⟩ = some (a1.list) ∧ w'.cell? ⟨W2.heap.size, 0, none⟩ = some (.int .i64 a2.a) ∧ w'.cell? ⟨W2.heap.size, 1, none⟩ = some (.int .i64 a2.b) ∧ w'.cell? ⟨W2.heap.size, 2, none⟩ = some (.int .i64 a2.c) ∧ w'.cell? ⟨W2.heap.size, 3, none⟩ = some (.int .i64 a2.d) ∧ w'.cell? ⟨W2.heap.size, 4, none⟩ = some (.int .i64 a2.e) ∧ w'.cell? ⟨W2.heap.size, 5, none⟩ = some (.int .i64 a2.tol) ∧ w'.cell? ⟨W2.heap.size, 6, none⟩ = some (.int .i64 a2.most)) (first | (with_reducible assumption) | (go_keep; done)) (first
    | (go_at_call 9
       refine (toModelC a0 _ (by exact I0.out.up (AZ.out.1.drew)) nz nw Hr.out nb).mono ?_; rintro e w6 ⟨gz6, gw6, gb6, ys6, rfl, hg6, c6, b6⟩
       have b6' : Below w5.heap.size w5 w6 := Below.trans (by (repeat' (first | (with_reducible exact Below.refl _ _) | (with_reducible assumption) | (with_reducible refine below_dn ?_ _) | (with_reducible refine Below.drew ?_) | (with_reducible refine Below.alloc ?_ ?_ _) | (with_reducible refine Below.setCell ?_ ?_ _) | go_size))) (b6.mono (by simp <;> omega))
       clear b6
       have b6 := b6'; clear b6'
       have AZ' := Lib.hid (AZ.out.below b6); clear AZ; have AZ := AZ'; clear AZ'
       have sz6 : w5.heap.size ≤ w6.heap.size := b6.size
       have ga6 : w5.heap.size ≤ gz6 := hg6
       have gw6_ : gz6 < gw6 ∧ gw6 < gb6 ∧ gb6 < w6.heap.size := ⟨c6.1, c6.2.1.2.2.1, c6.2.2.2.lt⟩
       have C6 := Lib.hid c6; clear c6 hg6
       clear b6
       have HS6 : w6.cell? ⟨w.heap.size, 0, none⟩ = some (a0.zv) ∧ w6.cell? ⟨w.heap.size, 1, none⟩ = some (a0.wv) ∧ w6.cell? ⟨w.heap.size, 2, none⟩ = some (a0.bv) ∧ w6.cell? ⟨W1.heap.size, 0, none⟩ = some (.string a1.name) ∧ w6.cell? ⟨W1.heap.size, 1, none⟩ = some (a1.list) ∧ w6.cell? ⟨W2.heap.size, 0, none⟩ = some (.int .i64 a2.a) ∧ w6.cell? ⟨W2.heap.size, 1, none⟩ = some (.int .i64 a2.b) ∧ w6.cell? ⟨W2.heap.size, 2, none⟩ = some (.int .i64 a2.c) ∧ w6.cell? ⟨W2.heap.size, 3, none⟩ = some (.int .i64 a2.d) ∧ w6.cell? ⟨W2.heap.size, 4, none⟩ = some (.int .i64 a2.e) ∧ w6.cell? ⟨W2.heap.size, 5, none⟩ = some (.int .i64 a2.tol) ∧ w6.cell? ⟨W2.heap.size, 6, none⟩ = some (.int .i64 a2.most) := ⟨AZ.out.m0, AZ.out.m1, AZ.out.m2, AZ.out.p0, AZ.out.p1, AZ.out.q0, AZ.out.q1, AZ.out.q2, AZ.out.q3, AZ.out.q4, AZ.out.q5, AZ.out.q6⟩)
    | (go_at_call 10
       refine (toProfile a1 _ (by exact I1.out.2.1.up AZ.out.1) np).mono ?_; rintro e w7 ⟨g7, rfl, hg7, o7, b7⟩
       have AZ' := Lib.hid (AZ.out.below b7); clear AZ; have AZ := AZ'; clear AZ'
       have C6' := Lib.hid (C6.out.below b7); clear C6; have C6 := C6'; clear C6'
       have sz7 : w6.heap.size ≤ w7.heap.size := b7.size
       have ga7 : w6.heap.size ≤ g7 := by first | exact hg7 | (have := hg7; simp at this; omega)
       have gb7 : g7 < w7.heap.size := o7.lt
       have O7 := Lib.hid o7; clear o7 hg7
       clear b7
       have HS7 : w7.cell? ⟨w.heap.size, 0, none⟩ = some (a0.zv) ∧ w7.cell? ⟨w.heap.size, 1, none⟩ = some (a0.wv) ∧ w7.cell? ⟨w.heap.size, 2, none⟩ = some (a0.bv) ∧ w7.cell? ⟨W1.heap.size, 0, none⟩ = some (.string a1.name) ∧ w7.cell? ⟨W1.heap.size, 1, none⟩ = some (a1.list) ∧ w7.cell? ⟨W2.heap.size, 0, none⟩ = some (.int .i64 a2.a) ∧ w7.cell? ⟨W2.heap.size, 1, none⟩ = some (.int .i64 a2.b) ∧ w7.cell? ⟨W2.heap.size, 2, none⟩ = some (.int .i64 a2.c) ∧ w7.cell? ⟨W2.heap.size, 3, none⟩ = some (.int .i64 a2.d) ∧ w7.cell? ⟨W2.heap.size, 4, none⟩ = some (.int .i64 a2.e) ∧ w7.cell? ⟨W2.heap.size, 5, none⟩ = some (.int .i64 a2.tol) ∧ w7.cell? ⟨W2.heap.size, 6, none⟩ = some (.int .i64 a2.most) := ⟨AZ.out.m0, AZ.out.m1, AZ.out.m2, AZ.out.p0, AZ.out.p1, AZ.out.q0, AZ.out.q1, AZ.out.q2, AZ.out.q3, AZ.out.q4, AZ.out.q5, AZ.out.q6⟩)
    | (go_at_call 11
       refine (toGoal a2 _).mono ?_; rintro e w8 ⟨rfl, b8⟩
       have AZ' := Lib.hid (AZ.out.below b8); clear AZ; have AZ := AZ'; clear AZ'
       have C6' := Lib.hid (C6.out.below b8); clear C6; have C6 := C6'; clear C6'
       have O7' := Lib.hid (O7.out.below b8 O7.out.lt); clear O7; have O7 := O7'; clear O7'
       have sz8 : w7.heap.size ≤ w8.heap.size := b8.size
       clear b8
       have HS8 : w8.cell? ⟨w.heap.size, 0, none⟩ = some (a0.zv) ∧ w8.cell? ⟨w.heap.size, 1, none⟩ = some (a0.wv) ∧ w8.cell? ⟨w.heap.size, 2, none⟩ = some (a0.bv) ∧ w8.cell? ⟨W1.heap.size, 0, none⟩ = some (.string a1.name) ∧ w8.cell? ⟨W1.heap.size, 1, none⟩ = some (a1.list) ∧ w8.cell? ⟨W2.heap.size, 0, none⟩ = some (.int .i64 a2.a) ∧ w8.cell? ⟨W2.heap.size, 1, none⟩ = some (.int .i64 a2.b) ∧ w8.cell? ⟨W2.heap.size, 2, none⟩ = some (.int .i64 a2.c) ∧ w8.cell? ⟨W2.heap.size, 3, none⟩ = some (.int .i64 a2.d) ∧ w8.cell? ⟨W2.heap.size, 4, none⟩ = some (.int .i64 a2.e) ∧ w8.cell? ⟨W2.heap.size, 5, none⟩ = some (.int .i64 a2.tol) ∧ w8.cell? ⟨W2.heap.size, 6, none⟩ = some (.int .i64 a2.most) := ⟨AZ.out.m0, AZ.out.m1, AZ.out.m2, AZ.out.p0, AZ.out.p1, AZ.out.q0, AZ.out.q1, AZ.out.q2, AZ.out.q3, AZ.out.q4, AZ.out.q5, AZ.out.q6⟩)
    | (go_at_call 23
       refine (HS.out _ _ _ _ _ _ C6.out O7.out).mono ?_; rintro e w9 ⟨⟨r9, rfl, o9⟩, b9⟩
       have AZ' := Lib.hid (AZ.out.below b9); clear AZ; have AZ := AZ'; clear AZ'
       have C6' := Lib.hid (C6.out.below b9); clear C6; have C6 := C6'; clear C6'
       have O7' := Lib.hid (O7.out.below b9 O7.out.lt); clear O7; have O7 := O7'; clear O7'
       have sz9 : w8.heap.size ≤ w9.heap.size := b9.size
       obtain ⟨ra9, rc9, rfl⟩ := (own_rd o9).form
       have R9 := Lib.hid (Held.of_row o9); clear o9
       clear b9
       have HS9 : w9.cell? ⟨w.heap.size, 0, none⟩ = some (a0.zv) ∧ w9.cell? ⟨w.heap.size, 1, none⟩ = some (a0.wv) ∧ w9.cell? ⟨w.heap.size, 2, none⟩ = some (a0.bv) ∧ w9.cell? ⟨W1.heap.size, 0, none⟩ = some (.string a1.name) ∧ w9.cell? ⟨W1.heap.size, 1, none⟩ = some (a1.list) ∧ w9.cell? ⟨W2.heap.size, 0, none⟩ = some (.int .i64 a2.a) ∧ w9.cell? ⟨W2.heap.size, 1, none⟩ = some (.int .i64 a2.b) ∧ w9.cell? ⟨W2.heap.size, 2, none⟩ = some (.int .i64 a2.c) ∧ w9.cell? ⟨W2.heap.size, 3, none⟩ = some (.int .i64 a2.d) ∧ w9.cell? ⟨W2.heap.size, 4, none⟩ = some (.int .i64 a2.e) ∧ w9.cell? ⟨W2.heap.size, 5, none⟩ = some (.int .i64 a2.tol) ∧ w9.cell? ⟨W2.heap.size, 6, none⟩ = some (.int .i64 a2.most) := ⟨AZ.out.m0, AZ.out.m1, AZ.out.m2, AZ.out.p0, AZ.out.p1, AZ.out.q0, AZ.out.q1, AZ.out.q2, AZ.out.q3, AZ.out.q4, AZ.out.q5, AZ.out.q6⟩))
  clear n0_0 n0_1 n0_2 l0 n1_0 n1_1 l1 n2_0 n2_1 n2_2 n2_3 n2_4 n2_5 n2_6 l2 HS9
  clear C6 O7
  -- the copies
  have n0_0 : w9.cell? ⟨w.heap.size, 0, none⟩ = some (a0.zv) := AZ.out.m0
  have n0_1 : w9.cell? ⟨w.heap.size, 1, none⟩ = some (a0.wv) := AZ.out.m1
  have n0_2 : w9.cell? ⟨w.heap.size, 2, none⟩ = some (a0.bv) := AZ.out.m2
  have l0 := AZ.out.lm
  go_wp2_with fail
  refine (toModelC a0 _ (by exact I0.out.up (AZ.out.1)) nz nw Hr.out nb).mono ?_; rintro e w10 ⟨gz10, gw10, gb10, ys10, rfl, hg10, c10, b10⟩
  have AZ' := Lib.hid (AZ.out.below b10); clear AZ; have AZ := AZ'; clear AZ'
  have R9' := Lib.hid (R9.out.below b10); clear R9; have R9 := R9'; clear R9'
  have sz10 : w9.heap.size ≤ w10.heap.size := b10.size
  have ga10 : w9.heap.size ≤ gz10 := hg10
  have gw10_ : gz10 < gw10 ∧ gw10 < gb10 ∧ gb10 < w10.heap.size := ⟨c10.1, c10.2.1.2.2.1, c10.2.2.2.lt⟩
  have C10 := Lib.hid c10; clear c10 hg10
  clear b10
  clear n0_0 n0_1 n0_2 l0
  have n0_0 : w10.cell? ⟨W1.heap.size, 0, none⟩ = some (.string a1.name) := AZ.out.p0
  have n0_1 : w10.cell? ⟨W1.heap.size, 1, none⟩ = some (a1.list) := AZ.out.p1
  have l0 := AZ.out.lp
  go_wp2_with fail
  refine (toProfile a1 _ (by exact I1.out.2.1.up (AZ.out.1.trans (by (repeat' (first | (with_reducible exact Below.refl _ _) | (with_reducible assumption) | (with_reducible refine below_dn ?_ _) | (with_reducible refine Below.drew ?_) | (with_reducible refine Below.alloc ?_ ?_ _) | (with_reducible refine Below.setCell ?_ ?_ _) | go_size))))) np).mono ?_; rintro e w11 ⟨g11, rfl, hg11, o11, b11⟩
  have VM : Hid (Own w11 (w10.heap.size) 39 [.slice (some ⟨gz10, 0, none⟩) a0.zones.length a0.zones.length, .slice (some ⟨gw10, 0, none⟩) a0.rows.length a0.rows.length, .slice (some ⟨gb10, 0, none⟩) a0.base.length a0.base.length]) := Lib.hid ((Own.newAt 39 [.slice (some ⟨gz10, 0, none⟩) a0.zones.length a0.zones.length, .slice (some ⟨gw10, 0, none⟩) a0.rows.length a0.rows.length, .slice (some ⟨gb10, 0, none⟩) a0.base.length a0.base.length] (by simp)).below b11 (by simp <;> omega))
  have b11' : Below w10.heap.size w10 w11 := Below.trans (by (repeat' (first | (with_reducible exact Below.refl _ _) | (with_reducible assumption) | (with_reducible refine below_dn ?_ _) | (with_reducible refine Below.drew ?_) | (with_reducible refine Below.alloc ?_ ?_ _) | (with_reducible refine Below.setCell ?_ ?_ _) | go_size))) (b11.mono (by simp <;> omega))
  clear b11
  have b11 := b11'; clear b11'
  have AZ' := Lib.hid (AZ.out.below b11); clear AZ; have AZ := AZ'; clear AZ'
  have R9' := Lib.hid (R9.out.below b11); clear R9; have R9 := R9'; clear R9'
  have C10' := Lib.hid (C10.out.below b11); clear C10; have C10 := C10'; clear C10'
  have sz11 : w10.heap.size ≤ w11.heap.size := b11.size
  have ga11 : w10.heap.size ≤ g11 := by first | exact hg11 | (have := hg11; simp at this; omega)
  have gb11 : g11 < w11.heap.size := o11.lt
  have O11 := Lib.hid o11; clear o11 hg11
  clear b11
  clear n0_0 n0_1 l0
  obtain ⟨w12, hw12⟩ : ∃ W, w11.alloc (.cells #[.string a1.name, .slice (some ⟨g11, 0, none⟩) a1.rings.length a1.rings.length] 43) = W := ⟨_, rfl⟩
  have b12 : Below w11.heap.size w11 w12 := hw12 ▸ (Below.refl _ _).alloc (Nat.le_refl _) _
  have VP : Hid (Own w12 (w11.heap.size) 43 [.string a1.name, .slice (some ⟨g11, 0, none⟩) a1.rings.length a1.rings.length]) := Lib.hid (hw12 ▸ Own.new w11 _ _)
  have AZ' := Lib.hid (AZ.out.below b12); clear AZ; have AZ := AZ'; clear AZ'
  have R9' := Lib.hid (R9.out.below b12); clear R9; have R9 := R9'; clear R9'
  have C10' := Lib.hid (C10.out.below b12); clear C10; have C10 := C10'; clear C10'
  have VM' := Lib.hid (VM.out.below b12 VM.out.lt); clear VM; have VM := VM'; clear VM'
  have O11' := Lib.hid (O11.out.below b12 O11.out.lt); clear O11; have O11 := O11'; clear O11'
  have sz12 : w11.heap.size ≤ w12.heap.size := b12.size
  clear b12
  have n0_0 : w12.cell? ⟨w10.heap.size, 0, none⟩ = some (.slice (some ⟨gz10, 0, none⟩) a0.zones.length a0.zones.length) := VM.out.cell 0
  have n0_1 : w12.cell? ⟨w10.heap.size, 1, none⟩ = some (.slice (some ⟨gw10, 0, none⟩) a0.rows.length a0.rows.length) := VM.out.cell 1
  have n0_2 : w12.cell? ⟨w10.heap.size, 2, none⟩ = some (.slice (some ⟨gb10, 0, none⟩) a0.base.length a0.base.length) := VM.out.cell 2
  have l0 := VM.out.lt
  have n1_0 : w12.cell? ⟨w11.heap.size, 0, none⟩ = some (.string a1.name) := VP.out.cell 0
  have n1_1 : w12.cell? ⟨w11.heap.size, 1, none⟩ = some (.slice (some ⟨g11, 0, none⟩) a1.rings.length a1.rings.length) := VP.out.cell 1
  have l1 := VP.out.lt
  have n2_0 : w12.cell? ⟨W2.heap.size, 0, none⟩ = some (.int .i64 a2.a) := AZ.out.q0
  have n2_1 : w12.cell? ⟨W2.heap.size, 1, none⟩ = some (.int .i64 a2.b) := AZ.out.q1
  have n2_2 : w12.cell? ⟨W2.heap.size, 2, none⟩ = some (.int .i64 a2.c) := AZ.out.q2
  have n2_3 : w12.cell? ⟨W2.heap.size, 3, none⟩ = some (.int .i64 a2.d) := AZ.out.q3
  have n2_4 : w12.cell? ⟨W2.heap.size, 4, none⟩ = some (.int .i64 a2.e) := AZ.out.q4
  have n2_5 : w12.cell? ⟨W2.heap.size, 5, none⟩ = some (.int .i64 a2.tol) := AZ.out.q5
  have n2_6 : w12.cell? ⟨W2.heap.size, 6, none⟩ = some (.int .i64 a2.most) := AZ.out.q6
  have l2 := AZ.out.lq
  go_wp2_with fail
  try rw [hw12]
  clear hw12
  go_region_held3 (fun w' => w'.cell? ⟨w10.heap.size, 0, none⟩ = some (.slice (some ⟨gz10, 0, none⟩) a0.zones.length a0.zones.length) ∧ w'.cell? ⟨w10.heap.size, 1, none⟩ = some (.slice (some ⟨gw10, 0, none⟩) a0.rows.length a0.rows.length) ∧ w'.cell? ⟨w10.heap.size, 2, none⟩ = some (.slice (some ⟨gb10, 0, none⟩) a0.base.length a0.base.length) ∧ w'.cell? ⟨w11.heap.size, 0, none⟩ = some (.string a1.name) ∧ w'.cell? ⟨w11.heap.size, 1, none⟩ = some (.slice (some ⟨g11, 0, none⟩) a1.rings.length a1.rings.length) ∧ w'.cell? ⟨W2.heap.size, 0, none⟩ = some (.int .i64 a2.a) ∧ w'.cell? ⟨W2.heap.size, 1, none⟩ = some (.int .i64 a2.b) ∧ w'.cell? ⟨W2.heap.size, 2, none⟩ = some (.int .i64 a2.c) ∧ w'.cell? ⟨W2.heap.size, 3, none⟩ = some (.int .i64 a2.d) ∧ w'.cell? ⟨W2.heap.size, 4, none⟩ = some (.int .i64 a2.e) ∧ w'.cell? ⟨W2.heap.size, 5, none⟩ = some (.int .i64 a2.tol) ∧ w'.cell? ⟨W2.heap.size, 6, none⟩ = some (.int .i64 a2.most)) (first | (with_reducible assumption) | (go_keep; done)) (first
    | (go_at_call 11
       refine (toGoal a2 _).mono ?_; rintro e w13 ⟨rfl, b13⟩
       have b13' : Below w12.heap.size w12 w13 := Below.trans (by (repeat' (first | (with_reducible exact Below.refl _ _) | (with_reducible assumption) | (with_reducible refine below_dn ?_ _) | (with_reducible refine Below.drew ?_) | (with_reducible refine Below.alloc ?_ ?_ _) | (with_reducible refine Below.setCell ?_ ?_ _) | go_size))) (b13.mono (by simp <;> omega))
       clear b13
       have b13 := b13'; clear b13'
       have AZ' := Lib.hid (AZ.out.below b13); clear AZ; have AZ := AZ'; clear AZ'
       have R9' := Lib.hid (R9.out.below b13); clear R9; have R9 := R9'; clear R9'
       have C10' := Lib.hid (C10.out.below b13); clear C10; have C10 := C10'; clear C10'
       have VM' := Lib.hid (VM.out.below b13 VM.out.lt); clear VM; have VM := VM'; clear VM'
       have O11' := Lib.hid (O11.out.below b13 O11.out.lt); clear O11; have O11 := O11'; clear O11'
       have VP' := Lib.hid (VP.out.below b13 VP.out.lt); clear VP; have VP := VP'; clear VP'
       have sz13 : w12.heap.size ≤ w13.heap.size := b13.size
       clear b13
       have HS13 : w13.cell? ⟨w10.heap.size, 0, none⟩ = some (.slice (some ⟨gz10, 0, none⟩) a0.zones.length a0.zones.length) ∧ w13.cell? ⟨w10.heap.size, 1, none⟩ = some (.slice (some ⟨gw10, 0, none⟩) a0.rows.length a0.rows.length) ∧ w13.cell? ⟨w10.heap.size, 2, none⟩ = some (.slice (some ⟨gb10, 0, none⟩) a0.base.length a0.base.length) ∧ w13.cell? ⟨w11.heap.size, 0, none⟩ = some (.string a1.name) ∧ w13.cell? ⟨w11.heap.size, 1, none⟩ = some (.slice (some ⟨g11, 0, none⟩) a1.rings.length a1.rings.length) ∧ w13.cell? ⟨W2.heap.size, 0, none⟩ = some (.int .i64 a2.a) ∧ w13.cell? ⟨W2.heap.size, 1, none⟩ = some (.int .i64 a2.b) ∧ w13.cell? ⟨W2.heap.size, 2, none⟩ = some (.int .i64 a2.c) ∧ w13.cell? ⟨W2.heap.size, 3, none⟩ = some (.int .i64 a2.d) ∧ w13.cell? ⟨W2.heap.size, 4, none⟩ = some (.int .i64 a2.e) ∧ w13.cell? ⟨W2.heap.size, 5, none⟩ = some (.int .i64 a2.tol) ∧ w13.cell? ⟨W2.heap.size, 6, none⟩ = some (.int .i64 a2.most) := ⟨VM.out.cell 0, VM.out.cell 1, VM.out.cell 2, VP.out.cell 0, VP.out.cell 1, AZ.out.q0, AZ.out.q1, AZ.out.q2, AZ.out.q3, AZ.out.q4, AZ.out.q5, AZ.out.q6⟩)
    | (go_at_call 24
       refine (HI.out _ _ _ _ _ _ C10.out O11.out).mono ?_; rintro e w14 ⟨⟨r14, rfl, o14⟩, b14⟩
       have AZ' := Lib.hid (AZ.out.below b14); clear AZ; have AZ := AZ'; clear AZ'
       have R9' := Lib.hid (R9.out.below b14); clear R9; have R9 := R9'; clear R9'
       have C10' := Lib.hid (C10.out.below b14); clear C10; have C10 := C10'; clear C10'
       have VM' := Lib.hid (VM.out.below b14 VM.out.lt); clear VM; have VM := VM'; clear VM'
       have O11' := Lib.hid (O11.out.below b14 O11.out.lt); clear O11; have O11 := O11'; clear O11'
       have VP' := Lib.hid (VP.out.below b14 VP.out.lt); clear VP; have VP := VP'; clear VP'
       have sz14 : w13.heap.size ≤ w14.heap.size := b14.size
       obtain ⟨ra14, rc14, rfl⟩ := (own_rd o14).form
       have R14 := Lib.hid (Held.of_row o14); clear o14
       clear b14
       have HS14 : w14.cell? ⟨w10.heap.size, 0, none⟩ = some (.slice (some ⟨gz10, 0, none⟩) a0.zones.length a0.zones.length) ∧ w14.cell? ⟨w10.heap.size, 1, none⟩ = some (.slice (some ⟨gw10, 0, none⟩) a0.rows.length a0.rows.length) ∧ w14.cell? ⟨w10.heap.size, 2, none⟩ = some (.slice (some ⟨gb10, 0, none⟩) a0.base.length a0.base.length) ∧ w14.cell? ⟨w11.heap.size, 0, none⟩ = some (.string a1.name) ∧ w14.cell? ⟨w11.heap.size, 1, none⟩ = some (.slice (some ⟨g11, 0, none⟩) a1.rings.length a1.rings.length) ∧ w14.cell? ⟨W2.heap.size, 0, none⟩ = some (.int .i64 a2.a) ∧ w14.cell? ⟨W2.heap.size, 1, none⟩ = some (.int .i64 a2.b) ∧ w14.cell? ⟨W2.heap.size, 2, none⟩ = some (.int .i64 a2.c) ∧ w14.cell? ⟨W2.heap.size, 3, none⟩ = some (.int .i64 a2.d) ∧ w14.cell? ⟨W2.heap.size, 4, none⟩ = some (.int .i64 a2.e) ∧ w14.cell? ⟨W2.heap.size, 5, none⟩ = some (.int .i64 a2.tol) ∧ w14.cell? ⟨W2.heap.size, 6, none⟩ = some (.int .i64 a2.most) := ⟨VM.out.cell 0, VM.out.cell 1, VM.out.cell 2, VP.out.cell 0, VP.out.cell 1, AZ.out.q0, AZ.out.q1, AZ.out.q2, AZ.out.q3, AZ.out.q4, AZ.out.q5, AZ.out.q6⟩))
  clear n0_0 n0_1 n0_2 l0 n1_0 n1_1 l1 n2_0 n2_1 n2_2 n2_3 n2_4 n2_5 n2_6 l2 HS14
  go_wp2_with fail
  refine (eqCutS _ _ _ L (by exact R14.out.rd) (by exact R9.out.rd) hnL).mono ?_; rintro e w15 ⟨rfl, b15⟩
  have AZ' := Lib.hid (AZ.out.below b15); clear AZ; have AZ := AZ'; clear AZ'
  have R9' := Lib.hid (R9.out.below b15); clear R9; have R9 := R9'; clear R9'
  have C10' := Lib.hid (C10.out.below b15); clear C10; have C10 := C10'; clear C10'
  have VM' := Lib.hid (VM.out.below b15 VM.out.lt); clear VM; have VM := VM'; clear VM'
  have O11' := Lib.hid (O11.out.below b15 O11.out.lt); clear O11; have O11 := O11'; clear O11'
  have VP' := Lib.hid (VP.out.below b15 VP.out.lt); clear VP; have VP := VP'; clear VP'
  have R14' := Lib.hid (R14.out.below b15); clear R14; have R14 := R14'; clear R14'
  have sz15 : w14.heap.size ≤ w15.heap.size := b15.size
  clear b15
  -- the arguments are as they were
  have n0_0 : w15.cell? ⟨w10.heap.size, 0, none⟩ = some (.slice (some ⟨gz10, 0, none⟩) a0.zones.length a0.zones.length) := VM.out.cell 0
  have n0_1 : w15.cell? ⟨w10.heap.size, 1, none⟩ = some (.slice (some ⟨gw10, 0, none⟩) a0.rows.length a0.rows.length) := VM.out.cell 1
  have n0_2 : w15.cell? ⟨w10.heap.size, 2, none⟩ = some (.slice (some ⟨gb10, 0, none⟩) a0.base.length a0.base.length) := VM.out.cell 2
  have l0 := VM.out.lt
  have n1_0 : w15.cell? ⟨w.heap.size, 0, none⟩ = some (a0.zv) := AZ.out.m0
  have n1_1 : w15.cell? ⟨w.heap.size, 1, none⟩ = some (a0.wv) := AZ.out.m1
  have n1_2 : w15.cell? ⟨w.heap.size, 2, none⟩ = some (a0.bv) := AZ.out.m2
  have l1 := AZ.out.lm
  go_wp2_with fail
  go_region_held3 (fun w' => w'.cell? ⟨w10.heap.size, 0, none⟩ = some (.slice (some ⟨gz10, 0, none⟩) a0.zones.length a0.zones.length) ∧ w'.cell? ⟨w10.heap.size, 1, none⟩ = some (.slice (some ⟨gw10, 0, none⟩) a0.rows.length a0.rows.length) ∧ w'.cell? ⟨w10.heap.size, 2, none⟩ = some (.slice (some ⟨gb10, 0, none⟩) a0.base.length a0.base.length) ∧ w'.cell? ⟨w.heap.size, 0, none⟩ = some (a0.zv) ∧ w'.cell? ⟨w.heap.size, 1, none⟩ = some (a0.wv) ∧ w'.cell? ⟨w.heap.size, 2, none⟩ = some (a0.bv)) (first | (with_reducible assumption) | (go_keep; done)) (first
    | (go_at_call 9
       refine (toModelC a0 _ (by exact I0.out.up (AZ.out.1.drew)) nz nw Hr.out nb).mono ?_; rintro e w16 ⟨gz16, gw16, gb16, ys16, rfl, hg16, c16, b16⟩
       have b16' : Below w15.heap.size w15 w16 := Below.trans (by (repeat' (first | (with_reducible exact Below.refl _ _) | (with_reducible assumption) | (with_reducible refine below_dn ?_ _) | (with_reducible refine Below.drew ?_) | (with_reducible refine Below.alloc ?_ ?_ _) | (with_reducible refine Below.setCell ?_ ?_ _) | go_size))) (b16.mono (by simp <;> omega))
       clear b16
       have b16 := b16'; clear b16'
       have AZ' := Lib.hid (AZ.out.below b16); clear AZ; have AZ := AZ'; clear AZ'
       have R9' := Lib.hid (R9.out.below b16); clear R9; have R9 := R9'; clear R9'
       have C10' := Lib.hid (C10.out.below b16); clear C10; have C10 := C10'; clear C10'
       have VM' := Lib.hid (VM.out.below b16 VM.out.lt); clear VM; have VM := VM'; clear VM'
       have O11' := Lib.hid (O11.out.below b16 O11.out.lt); clear O11; have O11 := O11'; clear O11'
       have VP' := Lib.hid (VP.out.below b16 VP.out.lt); clear VP; have VP := VP'; clear VP'
       have R14' := Lib.hid (R14.out.below b16); clear R14; have R14 := R14'; clear R14'
       have sz16 : w15.heap.size ≤ w16.heap.size := b16.size
       have ga16 : w15.heap.size ≤ gz16 := hg16
       have gw16_ : gz16 < gw16 ∧ gw16 < gb16 ∧ gb16 < w16.heap.size := ⟨c16.1, c16.2.1.2.2.1, c16.2.2.2.lt⟩
       have C16 := Lib.hid c16; clear c16 hg16
       clear b16
       have HS16 : w16.cell? ⟨w10.heap.size, 0, none⟩ = some (.slice (some ⟨gz10, 0, none⟩) a0.zones.length a0.zones.length) ∧ w16.cell? ⟨w10.heap.size, 1, none⟩ = some (.slice (some ⟨gw10, 0, none⟩) a0.rows.length a0.rows.length) ∧ w16.cell? ⟨w10.heap.size, 2, none⟩ = some (.slice (some ⟨gb10, 0, none⟩) a0.base.length a0.base.length) ∧ w16.cell? ⟨w.heap.size, 0, none⟩ = some (a0.zv) ∧ w16.cell? ⟨w.heap.size, 1, none⟩ = some (a0.wv) ∧ w16.cell? ⟨w.heap.size, 2, none⟩ = some (a0.bv) := ⟨VM.out.cell 0, VM.out.cell 1, VM.out.cell 2, AZ.out.m0, AZ.out.m1, AZ.out.m2⟩)
    | (go_at_call 15
       refine (eqModelC _ _ _ _ _ _ _ _ _ a0 C10.out C16.out nz nw Hr.out nb).mono ?_; rintro e w17 ⟨rfl, b17⟩
       have AZ' := Lib.hid (AZ.out.below b17); clear AZ; have AZ := AZ'; clear AZ'
       have R9' := Lib.hid (R9.out.below b17); clear R9; have R9 := R9'; clear R9'
       have C10' := Lib.hid (C10.out.below b17); clear C10; have C10 := C10'; clear C10'
       have VM' := Lib.hid (VM.out.below b17 VM.out.lt); clear VM; have VM := VM'; clear VM'
       have O11' := Lib.hid (O11.out.below b17 O11.out.lt); clear O11; have O11 := O11'; clear O11'
       have VP' := Lib.hid (VP.out.below b17 VP.out.lt); clear VP; have VP := VP'; clear VP'
       have R14' := Lib.hid (R14.out.below b17); clear R14; have R14 := R14'; clear R14'
       have C16' := Lib.hid (C16.out.below b17); clear C16; have C16 := C16'; clear C16'
       have sz17 : w16.heap.size ≤ w17.heap.size := b17.size
       clear b17
       have HS17 : w17.cell? ⟨w10.heap.size, 0, none⟩ = some (.slice (some ⟨gz10, 0, none⟩) a0.zones.length a0.zones.length) ∧ w17.cell? ⟨w10.heap.size, 1, none⟩ = some (.slice (some ⟨gw10, 0, none⟩) a0.rows.length a0.rows.length) ∧ w17.cell? ⟨w10.heap.size, 2, none⟩ = some (.slice (some ⟨gb10, 0, none⟩) a0.base.length a0.base.length) ∧ w17.cell? ⟨w.heap.size, 0, none⟩ = some (a0.zv) ∧ w17.cell? ⟨w.heap.size, 1, none⟩ = some (a0.wv) ∧ w17.cell? ⟨w.heap.size, 2, none⟩ = some (a0.bv) := ⟨VM.out.cell 0, VM.out.cell 1, VM.out.cell 2, AZ.out.m0, AZ.out.m1, AZ.out.m2⟩))
  clear n0_0 n0_1 n0_2 l0 n1_0 n1_1 n1_2 l1 HS17
  clear C16
  have n0_0 : w17.cell? ⟨w11.heap.size, 0, none⟩ = some (.string a1.name) := VP.out.cell 0
  have n0_1 : w17.cell? ⟨w11.heap.size, 1, none⟩ = some (.slice (some ⟨g11, 0, none⟩) a1.rings.length a1.rings.length) := VP.out.cell 1
  have l0 := VP.out.lt
  have n1_0 : w17.cell? ⟨W1.heap.size, 0, none⟩ = some (.string a1.name) := AZ.out.p0
  have n1_1 : w17.cell? ⟨W1.heap.size, 1, none⟩ = some (a1.list) := AZ.out.p1
  have l1 := AZ.out.lp
  go_wp2_with fail
  go_region_held3 (fun w' => w'.cell? ⟨w11.heap.size, 0, none⟩ = some (.string a1.name) ∧ w'.cell? ⟨w11.heap.size, 1, none⟩ = some (.slice (some ⟨g11, 0, none⟩) a1.rings.length a1.rings.length) ∧ w'.cell? ⟨W1.heap.size, 0, none⟩ = some (.string a1.name) ∧ w'.cell? ⟨W1.heap.size, 1, none⟩ = some (a1.list)) (first | (with_reducible assumption) | (go_keep; done)) (first
    | (go_at_call 10
       refine (toProfile a1 _ (by exact I1.out.2.1.up (AZ.out.1.drew)) np).mono ?_; rintro e w18 ⟨g18, rfl, hg18, o18, b18⟩
       have b18' : Below w17.heap.size w17 w18 := Below.trans (by (repeat' (first | (with_reducible exact Below.refl _ _) | (with_reducible assumption) | (with_reducible refine below_dn ?_ _) | (with_reducible refine Below.drew ?_) | (with_reducible refine Below.alloc ?_ ?_ _) | (with_reducible refine Below.setCell ?_ ?_ _) | go_size))) (b18.mono (by simp <;> omega))
       clear b18
       have b18 := b18'; clear b18'
       have AZ' := Lib.hid (AZ.out.below b18); clear AZ; have AZ := AZ'; clear AZ'
       have R9' := Lib.hid (R9.out.below b18); clear R9; have R9 := R9'; clear R9'
       have C10' := Lib.hid (C10.out.below b18); clear C10; have C10 := C10'; clear C10'
       have VM' := Lib.hid (VM.out.below b18 VM.out.lt); clear VM; have VM := VM'; clear VM'
       have O11' := Lib.hid (O11.out.below b18 O11.out.lt); clear O11; have O11 := O11'; clear O11'
       have VP' := Lib.hid (VP.out.below b18 VP.out.lt); clear VP; have VP := VP'; clear VP'
       have R14' := Lib.hid (R14.out.below b18); clear R14; have R14 := R14'; clear R14'
       have sz18 : w17.heap.size ≤ w18.heap.size := b18.size
       have ga18 : w17.heap.size ≤ g18 := by first | exact hg18 | (have := hg18; simp at this; omega)
       have gb18 : g18 < w18.heap.size := o18.lt
       have O18 := Lib.hid o18; clear o18 hg18
       clear b18
       have HS18 : w18.cell? ⟨w11.heap.size, 0, none⟩ = some (.string a1.name) ∧ w18.cell? ⟨w11.heap.size, 1, none⟩ = some (.slice (some ⟨g11, 0, none⟩) a1.rings.length a1.rings.length) ∧ w18.cell? ⟨W1.heap.size, 0, none⟩ = some (.string a1.name) ∧ w18.cell? ⟨W1.heap.size, 1, none⟩ = some (a1.list) := ⟨VP.out.cell 0, VP.out.cell 1, AZ.out.p0, AZ.out.p1⟩)
    | (go_at_call 16
       refine (eqProfile a1 _ _ _ (own_ring O11.out np) (own_ring O18.out np) np).mono ?_; rintro e w19 ⟨rfl, b19⟩
       have AZ' := Lib.hid (AZ.out.below b19); clear AZ; have AZ := AZ'; clear AZ'
       have R9' := Lib.hid (R9.out.below b19); clear R9; have R9 := R9'; clear R9'
       have C10' := Lib.hid (C10.out.below b19); clear C10; have C10 := C10'; clear C10'
       have VM' := Lib.hid (VM.out.below b19 VM.out.lt); clear VM; have VM := VM'; clear VM'
       have O11' := Lib.hid (O11.out.below b19 O11.out.lt); clear O11; have O11 := O11'; clear O11'
       have VP' := Lib.hid (VP.out.below b19 VP.out.lt); clear VP; have VP := VP'; clear VP'
       have R14' := Lib.hid (R14.out.below b19); clear R14; have R14 := R14'; clear R14'
       have O18' := Lib.hid (O18.out.below b19 O18.out.lt); clear O18; have O18 := O18'; clear O18'
       have sz19 : w18.heap.size ≤ w19.heap.size := b19.size
       clear b19
       have HS19 : w19.cell? ⟨w11.heap.size, 0, none⟩ = some (.string a1.name) ∧ w19.cell? ⟨w11.heap.size, 1, none⟩ = some (.slice (some ⟨g11, 0, none⟩) a1.rings.length a1.rings.length) ∧ w19.cell? ⟨W1.heap.size, 0, none⟩ = some (.string a1.name) ∧ w19.cell? ⟨W1.heap.size, 1, none⟩ = some (a1.list) := ⟨VP.out.cell 0, VP.out.cell 1, AZ.out.p0, AZ.out.p1⟩))
  clear n0_0 n0_1 l0 n1_0 n1_1 l1 HS19
  clear O18
  -- the marks
  have n0_0 : w19.cell? ⟨w10.heap.size, 0, none⟩ = some (.slice (some ⟨gz10, 0, none⟩) a0.zones.length a0.zones.length) := VM.out.cell 0
  have n0_1 : w19.cell? ⟨w10.heap.size, 1, none⟩ = some (.slice (some ⟨gw10, 0, none⟩) a0.rows.length a0.rows.length) := VM.out.cell 1
  have n0_2 : w19.cell? ⟨w10.heap.size, 2, none⟩ = some (.slice (some ⟨gb10, 0, none⟩) a0.base.length a0.base.length) := VM.out.cell 2
  have l0 := VM.out.lt
  go_wp2_with fail
  refine (mA (c := 3145729) (markModelC _ _ _ _ _ _ a0 (by exact C10.out) nz nw nr nb (by omega) (by omega)) (by omega) (by omega)).mono ?_; rintro e w20 ⟨q20, rfl, qa20, qb20, t20⟩
  have sz20 := t20.size
  have AZ' := Lib.hid (AZ.out.turn t20 (by omega) (by omega) (by omega) (by omega)); clear AZ; have AZ := AZ'; clear AZ'
  have R9' := Lib.hid (R9.out.turn t20 (by omega)); clear R9; have R9 := R9'; clear R9'
  have VM' := Lib.hid (VM.out.turn t20 (by omega)); clear VM; have VM := VM'; clear VM'
  have O11' := Lib.hid (O11.out.turn t20 (by omega)); clear O11; have O11 := O11'; clear O11'
  have VP' := Lib.hid (VP.out.turn t20 (by omega)); clear VP; have VP := VP'; clear VP'
  have R14' := Lib.hid (R14.out.turn t20 (by omega)); clear R14; have R14 := R14'; clear R14'
  clear t20
  have tk : decide (q20 < (0 : Int)) = false := decide_eq_false (by omega)
  clear n0_0 n0_1 n0_2 l0 C10
  clear VM
  have n0_0 : w20.cell? ⟨w11.heap.size, 0, none⟩ = some (.string a1.name) := VP.out.cell 0
  have n0_1 : w20.cell? ⟨w11.heap.size, 1, none⟩ = some (.slice (some ⟨g11, 0, none⟩) a1.rings.length a1.rings.length) := VP.out.cell 1
  have l0 := VP.out.lt
  go_wp2_with fail
  have hp11 := O11.out.lt
  refine (mA (c := 6291457) (markProfileR _ _ g11 (g11 + 1) _ _ _ _ _ (Held.of_own (by exact O11.out) (Ring_len a1.rings) (by unfold maxLen; omega)) (by omega) np (by omega) (by omega)) (by omega) (by omega)).mono ?_; rintro e w21 ⟨q21, rfl, qa21, qb21, t21⟩
  have sz21 := t21.size
  have AZ' := Lib.hid (AZ.out.turn t21 (by omega) (by omega) (by omega) (by omega)); clear AZ; have AZ := AZ'; clear AZ'
  have R9' := Lib.hid (R9.out.turn t21 (by omega)); clear R9; have R9 := R9'; clear R9'
  have VP' := Lib.hid (VP.out.turn t21 (by omega)); clear VP; have VP := VP'; clear VP'
  have R14' := Lib.hid (R14.out.turn t21 (by omega)); clear R14; have R14 := R14'; clear R14'
  clear t21
  have tk : decide (q21 < (0 : Int)) = false := decide_eq_false (by omega)
  clear n0_0 n0_1 l0 O11 VP hp11
  go_wp2_with fail
  refine (eqCutS _ _ _ L (by exact R14.out.rd) (by exact R9.out.rd) hnL).mono ?_; rintro e w22 ⟨rfl, b22⟩
  have AZ' := Lib.hid (AZ.out.below b22); clear AZ; have AZ := AZ'; clear AZ'
  have R9' := Lib.hid (R9.out.below b22); clear R9; have R9 := R9'; clear R9'
  have R14' := Lib.hid (R14.out.below b22); clear R14; have R14 := R14'; clear R14'
  have sz22 : w21.heap.size ≤ w22.heap.size := b22.size
  clear b22
  obtain ⟨mm, hmm, hm1⟩ : ∃ mm : Int, 1 + 2 * ((L.length : Nat) : Int) = mm ∧ 1 ≤ mm := ⟨_, rfl, by omega⟩
  have tm : decide (mm < (0 : Int)) = false := decide_eq_false (by omega)
  have HMM := Lib.hid hmm; clear hmm
  go_wp2_with fail
  refine (toM (markCutS _ _ _ _ _ _ _ (by exact R14.out) hnL (by omega) (by omega)) HMM.out).mono ?_; rintro e w23 ⟨rfl, t23, o23⟩
  have sz23 := t23.size
  have AZ' := Lib.hid (AZ.out.turn t23 (by omega) (by omega) (by omega) (by omega)); clear AZ; have AZ := AZ'; clear AZ'
  have R9' := Lib.hid (R9.out.turn t23 (by omega)); clear R9; have R9 := R9'; clear R9'
  have R23 := Lib.hid o23; clear o23 t23 R14
  go_wp2_with fail
  refine (toM (heldCutS _ _ _ _ (by exact R23.out.rd) hnL (by omega) (by omega)) HMM.out).mono ?_; rintro e w24 ⟨rfl, b24⟩
  have AZ' := Lib.hid (AZ.out.below b24); clear AZ; have AZ := AZ'; clear AZ'
  have R9' := Lib.hid (R9.out.below b24); clear R9; have R9 := R9'; clear R9'
  have R23' := Lib.hid (R23.out.below b24); clear R23; have R23 := R23'; clear R23'
  have sz24 : w23.heap.size ≤ w24.heap.size := b24.size
  clear b24
  -- the second call
  have n0_0 : w24.cell? ⟨w.heap.size, 0, none⟩ = some (a0.zv) := AZ.out.m0
  have n0_1 : w24.cell? ⟨w.heap.size, 1, none⟩ = some (a0.wv) := AZ.out.m1
  have n0_2 : w24.cell? ⟨w.heap.size, 2, none⟩ = some (a0.bv) := AZ.out.m2
  have l0 := AZ.out.lm
  have n1_0 : w24.cell? ⟨W1.heap.size, 0, none⟩ = some (.string a1.name) := AZ.out.p0
  have n1_1 : w24.cell? ⟨W1.heap.size, 1, none⟩ = some (a1.list) := AZ.out.p1
  have l1 := AZ.out.lp
  have n2_0 : w24.cell? ⟨W2.heap.size, 0, none⟩ = some (.int .i64 a2.a) := AZ.out.q0
  have n2_1 : w24.cell? ⟨W2.heap.size, 1, none⟩ = some (.int .i64 a2.b) := AZ.out.q1
  have n2_2 : w24.cell? ⟨W2.heap.size, 2, none⟩ = some (.int .i64 a2.c) := AZ.out.q2
  have n2_3 : w24.cell? ⟨W2.heap.size, 3, none⟩ = some (.int .i64 a2.d) := AZ.out.q3
  have n2_4 : w24.cell? ⟨W2.heap.size, 4, none⟩ = some (.int .i64 a2.e) := AZ.out.q4
  have n2_5 : w24.cell? ⟨W2.heap.size, 5, none⟩ = some (.int .i64 a2.tol) := AZ.out.q5
  have n2_6 : w24.cell? ⟨W2.heap.size, 6, none⟩ = some (.int .i64 a2.most) := AZ.out.q6
  have l2 := AZ.out.lq
  go_wp2_with fail
  go_region_held3 (fun w' => w'.cell? ⟨w.heap.size, 0, none⟩ = some (a0.zv) ∧ w'.cell? ⟨w.heap.size, 1, none⟩ = some (a0.wv) ∧ w'.cell? ⟨w.heap.size, 2, none⟩ = some (a0.bv) ∧ w'.cell? ⟨W1.heap.size, 0, none⟩ = some (.string a1.name) ∧ w'.cell? ⟨W1.heap.size, 1, none⟩ = some (a1.list) ∧ w'.cell? ⟨W2.heap.size, 0, none⟩ = some (.int .i64 a2.a) ∧ w'.cell? ⟨W2.heap.size, 1, none⟩ = some (.int .i64 a2.b) ∧ w'.cell? ⟨W2.heap.size, 2, none⟩ = some (.int .i64 a2.c) ∧ w'.cell? ⟨W2.heap.size, 3, none⟩ = some (.int .i64 a2.d) ∧ w'.cell? ⟨W2.heap.size, 4, none⟩ = some (.int .i64 a2.e) ∧ w'.cell? ⟨W2.heap.size, 5, none⟩ = some (.int .i64 a2.tol) ∧ w'.cell? ⟨W2.heap.size, 6, none⟩ = some (.int .i64 a2.most)) (first | (with_reducible assumption) | (go_keep; done)) (first
    | (go_at_call 9
       refine (toModelC a0 _ (by exact I0.out.up (AZ.out.1.drew)) nz nw Hr.out nb).mono ?_; rintro e w25 ⟨gz25, gw25, gb25, ys25, rfl, hg25, c25, b25⟩
       have b25' : Below w24.heap.size w24 w25 := Below.trans (by (repeat' (first | (with_reducible exact Below.refl _ _) | (with_reducible assumption) | (with_reducible refine below_dn ?_ _) | (with_reducible refine Below.drew ?_) | (with_reducible refine Below.alloc ?_ ?_ _) | (with_reducible refine Below.setCell ?_ ?_ _) | go_size))) (b25.mono (by simp <;> omega))
       clear b25
       have b25 := b25'; clear b25'
       have AZ' := Lib.hid (AZ.out.below b25); clear AZ; have AZ := AZ'; clear AZ'
       have R9' := Lib.hid (R9.out.below b25); clear R9; have R9 := R9'; clear R9'
       have R23' := Lib.hid (R23.out.below b25); clear R23; have R23 := R23'; clear R23'
       have sz25 : w24.heap.size ≤ w25.heap.size := b25.size
       have ga25 : w24.heap.size ≤ gz25 := hg25
       have gw25_ : gz25 < gw25 ∧ gw25 < gb25 ∧ gb25 < w25.heap.size := ⟨c25.1, c25.2.1.2.2.1, c25.2.2.2.lt⟩
       have C25 := Lib.hid c25; clear c25 hg25
       clear b25
       have HS25 : w25.cell? ⟨w.heap.size, 0, none⟩ = some (a0.zv) ∧ w25.cell? ⟨w.heap.size, 1, none⟩ = some (a0.wv) ∧ w25.cell? ⟨w.heap.size, 2, none⟩ = some (a0.bv) ∧ w25.cell? ⟨W1.heap.size, 0, none⟩ = some (.string a1.name) ∧ w25.cell? ⟨W1.heap.size, 1, none⟩ = some (a1.list) ∧ w25.cell? ⟨W2.heap.size, 0, none⟩ = some (.int .i64 a2.a) ∧ w25.cell? ⟨W2.heap.size, 1, none⟩ = some (.int .i64 a2.b) ∧ w25.cell? ⟨W2.heap.size, 2, none⟩ = some (.int .i64 a2.c) ∧ w25.cell? ⟨W2.heap.size, 3, none⟩ = some (.int .i64 a2.d) ∧ w25.cell? ⟨W2.heap.size, 4, none⟩ = some (.int .i64 a2.e) ∧ w25.cell? ⟨W2.heap.size, 5, none⟩ = some (.int .i64 a2.tol) ∧ w25.cell? ⟨W2.heap.size, 6, none⟩ = some (.int .i64 a2.most) := ⟨AZ.out.m0, AZ.out.m1, AZ.out.m2, AZ.out.p0, AZ.out.p1, AZ.out.q0, AZ.out.q1, AZ.out.q2, AZ.out.q3, AZ.out.q4, AZ.out.q5, AZ.out.q6⟩)
    | (go_at_call 10
       refine (toProfile a1 _ (by exact I1.out.2.1.up AZ.out.1) np).mono ?_; rintro e w26 ⟨g26, rfl, hg26, o26, b26⟩
       have AZ' := Lib.hid (AZ.out.below b26); clear AZ; have AZ := AZ'; clear AZ'
       have R9' := Lib.hid (R9.out.below b26); clear R9; have R9 := R9'; clear R9'
       have R23' := Lib.hid (R23.out.below b26); clear R23; have R23 := R23'; clear R23'
       have C25' := Lib.hid (C25.out.below b26); clear C25; have C25 := C25'; clear C25'
       have sz26 : w25.heap.size ≤ w26.heap.size := b26.size
       have ga26 : w25.heap.size ≤ g26 := by first | exact hg26 | (have := hg26; simp at this; omega)
       have gb26 : g26 < w26.heap.size := o26.lt
       have O26 := Lib.hid o26; clear o26 hg26
       clear b26
       have HS26 : w26.cell? ⟨w.heap.size, 0, none⟩ = some (a0.zv) ∧ w26.cell? ⟨w.heap.size, 1, none⟩ = some (a0.wv) ∧ w26.cell? ⟨w.heap.size, 2, none⟩ = some (a0.bv) ∧ w26.cell? ⟨W1.heap.size, 0, none⟩ = some (.string a1.name) ∧ w26.cell? ⟨W1.heap.size, 1, none⟩ = some (a1.list) ∧ w26.cell? ⟨W2.heap.size, 0, none⟩ = some (.int .i64 a2.a) ∧ w26.cell? ⟨W2.heap.size, 1, none⟩ = some (.int .i64 a2.b) ∧ w26.cell? ⟨W2.heap.size, 2, none⟩ = some (.int .i64 a2.c) ∧ w26.cell? ⟨W2.heap.size, 3, none⟩ = some (.int .i64 a2.d) ∧ w26.cell? ⟨W2.heap.size, 4, none⟩ = some (.int .i64 a2.e) ∧ w26.cell? ⟨W2.heap.size, 5, none⟩ = some (.int .i64 a2.tol) ∧ w26.cell? ⟨W2.heap.size, 6, none⟩ = some (.int .i64 a2.most) := ⟨AZ.out.m0, AZ.out.m1, AZ.out.m2, AZ.out.p0, AZ.out.p1, AZ.out.q0, AZ.out.q1, AZ.out.q2, AZ.out.q3, AZ.out.q4, AZ.out.q5, AZ.out.q6⟩)
    | (go_at_call 11
       refine (toGoal a2 _).mono ?_; rintro e w27 ⟨rfl, b27⟩
       have AZ' := Lib.hid (AZ.out.below b27); clear AZ; have AZ := AZ'; clear AZ'
       have R9' := Lib.hid (R9.out.below b27); clear R9; have R9 := R9'; clear R9'
       have R23' := Lib.hid (R23.out.below b27); clear R23; have R23 := R23'; clear R23'
       have C25' := Lib.hid (C25.out.below b27); clear C25; have C25 := C25'; clear C25'
       have O26' := Lib.hid (O26.out.below b27 O26.out.lt); clear O26; have O26 := O26'; clear O26'
       have sz27 : w26.heap.size ≤ w27.heap.size := b27.size
       clear b27
       have HS27 : w27.cell? ⟨w.heap.size, 0, none⟩ = some (a0.zv) ∧ w27.cell? ⟨w.heap.size, 1, none⟩ = some (a0.wv) ∧ w27.cell? ⟨w.heap.size, 2, none⟩ = some (a0.bv) ∧ w27.cell? ⟨W1.heap.size, 0, none⟩ = some (.string a1.name) ∧ w27.cell? ⟨W1.heap.size, 1, none⟩ = some (a1.list) ∧ w27.cell? ⟨W2.heap.size, 0, none⟩ = some (.int .i64 a2.a) ∧ w27.cell? ⟨W2.heap.size, 1, none⟩ = some (.int .i64 a2.b) ∧ w27.cell? ⟨W2.heap.size, 2, none⟩ = some (.int .i64 a2.c) ∧ w27.cell? ⟨W2.heap.size, 3, none⟩ = some (.int .i64 a2.d) ∧ w27.cell? ⟨W2.heap.size, 4, none⟩ = some (.int .i64 a2.e) ∧ w27.cell? ⟨W2.heap.size, 5, none⟩ = some (.int .i64 a2.tol) ∧ w27.cell? ⟨W2.heap.size, 6, none⟩ = some (.int .i64 a2.most) := ⟨AZ.out.m0, AZ.out.m1, AZ.out.m2, AZ.out.p0, AZ.out.p1, AZ.out.q0, AZ.out.q1, AZ.out.q2, AZ.out.q3, AZ.out.q4, AZ.out.q5, AZ.out.q6⟩)
    | (go_at_call 24
       refine (HI.out _ _ _ _ _ _ C25.out O26.out).mono ?_; rintro e w28 ⟨⟨r28, rfl, o28⟩, b28⟩
       have AZ' := Lib.hid (AZ.out.below b28); clear AZ; have AZ := AZ'; clear AZ'
       have R9' := Lib.hid (R9.out.below b28); clear R9; have R9 := R9'; clear R9'
       have R23' := Lib.hid (R23.out.below b28); clear R23; have R23 := R23'; clear R23'
       have C25' := Lib.hid (C25.out.below b28); clear C25; have C25 := C25'; clear C25'
       have O26' := Lib.hid (O26.out.below b28 O26.out.lt); clear O26; have O26 := O26'; clear O26'
       have sz28 : w27.heap.size ≤ w28.heap.size := b28.size
       obtain ⟨ra28, rc28, rfl⟩ := (own_rd o28).form
       have R28 := Lib.hid (Held.of_row o28); clear o28
       clear b28
       have HS28 : w28.cell? ⟨w.heap.size, 0, none⟩ = some (a0.zv) ∧ w28.cell? ⟨w.heap.size, 1, none⟩ = some (a0.wv) ∧ w28.cell? ⟨w.heap.size, 2, none⟩ = some (a0.bv) ∧ w28.cell? ⟨W1.heap.size, 0, none⟩ = some (.string a1.name) ∧ w28.cell? ⟨W1.heap.size, 1, none⟩ = some (a1.list) ∧ w28.cell? ⟨W2.heap.size, 0, none⟩ = some (.int .i64 a2.a) ∧ w28.cell? ⟨W2.heap.size, 1, none⟩ = some (.int .i64 a2.b) ∧ w28.cell? ⟨W2.heap.size, 2, none⟩ = some (.int .i64 a2.c) ∧ w28.cell? ⟨W2.heap.size, 3, none⟩ = some (.int .i64 a2.d) ∧ w28.cell? ⟨W2.heap.size, 4, none⟩ = some (.int .i64 a2.e) ∧ w28.cell? ⟨W2.heap.size, 5, none⟩ = some (.int .i64 a2.tol) ∧ w28.cell? ⟨W2.heap.size, 6, none⟩ = some (.int .i64 a2.most) := ⟨AZ.out.m0, AZ.out.m1, AZ.out.m2, AZ.out.p0, AZ.out.p1, AZ.out.q0, AZ.out.q1, AZ.out.q2, AZ.out.q3, AZ.out.q4, AZ.out.q5, AZ.out.q6⟩))
  clear n0_0 n0_1 n0_2 l0 n1_0 n1_1 l1 n2_0 n2_1 n2_2 n2_3 n2_4 n2_5 n2_6 l2 HS28
  clear C25 O26
  go_wp2_with fail
  refine (eqCutS _ _ _ L (by exact R28.out.rd) (by exact R9.out.rd) hnL).mono ?_; rintro e w29 ⟨rfl, b29⟩
  have AZ' := Lib.hid (AZ.out.below b29); clear AZ; have AZ := AZ'; clear AZ'
  have R9' := Lib.hid (R9.out.below b29); clear R9; have R9 := R9'; clear R9'
  have R23' := Lib.hid (R23.out.below b29); clear R23; have R23 := R23'; clear R23'
  have R28' := Lib.hid (R28.out.below b29); clear R28; have R28 := R28'; clear R28'
  have sz29 : w28.heap.size ≤ w29.heap.size := b29.size
  clear b29
  go_wp2_with fail
  refine (toM (heldCutS _ _ _ _ (by exact R23.out.rd) hnL (by omega) (by omega)) HMM.out).mono ?_; rintro e w30 ⟨rfl, b30⟩
  have AZ' := Lib.hid (AZ.out.below b30); clear AZ; have AZ := AZ'; clear AZ'
  have R9' := Lib.hid (R9.out.below b30); clear R9; have R9 := R9'; clear R9'
  have R23' := Lib.hid (R23.out.below b30); clear R23; have R23 := R23'; clear R23'
  have R28' := Lib.hid (R28.out.below b30); clear R28; have R28 := R28'; clear R28'
  have sz30 : w29.heap.size ≤ w30.heap.size := b30.size
  clear b30
  go_wp2_with fail
  all_goals go_ret
  all_goals exact ⟨rfl, bnext B5.out AZ.out.1⟩
end Go.Proofs.YtcjekailcljaaaaGreat
