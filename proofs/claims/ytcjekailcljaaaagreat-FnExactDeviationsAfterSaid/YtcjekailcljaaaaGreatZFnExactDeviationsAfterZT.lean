/- Contracts and plain facts, joined: LWFnExactDeviationsAfter. -/
import Derived.Test.YtcjekailcljaaaaGreatRows
import Derived.Test.YtcjekailcljaaaaGreatZFnExactDeviationsAfterD
import Derived.Test.YtcjekailcljaaaaGreatZFnExactDeviationsAfterW
import Derived.Test.YtcjekailcljaaaaGreatZFnExactDeviationsAfterX
import Derived.Test.YtcjekailcljaaaaGreatZFnExactDeviationsAfterY
import Derived.Test.YtcjekailcljaaaaGreatZFnExactDeviationsAfterZM
import Derived.Test.YtcjekailcljaaaaGreatZFnExactDeviationsAfterZS
import Derived.Deep.RegionHeld3
namespace Go.Proofs.YtcjekailcljaaaaGreat
open Go.ChangeShapes Go.WideShapes Go.ChangeAt Go.RowKit Go.Deep Go.Joins
set_option linter.unusedVariables false
set_option maxRecDepth 100000
set_option linter.unusedSimpArgs false
theorem spec_DevC (w : World) (gz gw gb gp gc : Nat) (ys : List Row) (a0 : MdlX) (a1 : Profile) (a2 : GoalX) (x3 : List Cut) (nz : a0.zones.length ≤ 1048576) (nw : a0.rows.length ≤ 1048576) (nr : ∀ y ∈ a0.rows, y.2.length ≤ 1048576) (nb : a0.base.length ≤ 1048576) (ns : a1.name.size ≤ maxLen) (np : a1.rings.length ≤ 1048576) (nc : x3.length ≤ 1048576)
    (c : CopM w gz gw gb ys a0) (op : Own w gp 123 (a1.rings.flatMap Ring.put)) (oc : Own w gc 80 (x3.flatMap Cut.put)) :
    Calls Tryz.prog 8 #[.agg #[.slice (some ⟨gz, 0, none⟩) a0.zones.length a0.zones.length, .slice (some ⟨gw, 0, none⟩) a0.rows.length a0.rows.length, .slice (some ⟨gb, 0, none⟩) a0.base.length a0.base.length], .agg #[.string a1.name, .slice (some ⟨gp, 0, none⟩) a1.rings.length a1.rings.length], .agg #[.int .i64 a2.a, .int .i64 a2.b, .int .i64 a2.c, .int .i64 a2.d, .int .i64 a2.e, .int .i64 a2.tol, .int .i64 a2.most], .slice (some ⟨gc, 0, none⟩) x3.length x3.length] w fun e w' => (∃ r, e = .returned (.tuple #[r, .int .i64 (devC a2 (mdlOf a0) a1 x3)]) ∧ w'.ownsRow w.heap.size 2 1 r (devL a2 (mdlOf a0) a1 x3).length ((devL a2 (mdlOf a0) a1 x3).flatMap putI)) ∧ Below w.heap.size w w' := by
  have e : (mdlOf a0).rows.length = a0.rows.length := List.length_map ..
  have h := spec_DevAfter w (some ⟨gz, 0, none⟩) (some ⟨gw, 0, none⟩) (some ⟨gb, 0, none⟩) (some ⟨gp, 0, none⟩) (some ⟨gc, 0, none⟩) a0.zones.length a0.rows.length a0.base.length a1.rings.length x3.length (mdlOf a0) a1 a2 x3
  rw [e] at h
  exact h (c.rd nz nw nr nb) nz nw nb ns (own_ring op np) np (oc.rd oc.lt (Cut_len x3) (by unfold maxLen; omega) _ (Nat.le_refl _) (by unfold maxLen; omega)) nc
theorem impl_DevC (w : World) (gz gw gb gp gc : Nat) (ys : List Row) (a0 : MdlX) (a1 : Profile) (a2 : GoalX) (x3 : List Cut) (nz : a0.zones.length ≤ 1048576) (nw : a0.rows.length ≤ 1048576) (nr : ∀ y ∈ a0.rows, y.2.length ≤ 1048576) (nb : a0.base.length ≤ 1048576) (ns : a1.name.size ≤ maxLen) (np : a1.rings.length ≤ 1048576) (nc : x3.length ≤ 1048576)
    (c : CopM w gz gw gb ys a0) (op : Own w gp 123 (a1.rings.flatMap Ring.put)) (oc : Own w gc 80 (x3.flatMap Cut.put)) :
    Calls Tryz.prog 13 #[.agg #[.slice (some ⟨gz, 0, none⟩) a0.zones.length a0.zones.length, .slice (some ⟨gw, 0, none⟩) a0.rows.length a0.rows.length, .slice (some ⟨gb, 0, none⟩) a0.base.length a0.base.length], .agg #[.string a1.name, .slice (some ⟨gp, 0, none⟩) a1.rings.length a1.rings.length], .agg #[.int .i64 a2.a, .int .i64 a2.b, .int .i64 a2.c, .int .i64 a2.d, .int .i64 a2.e, .int .i64 a2.tol, .int .i64 a2.most], .slice (some ⟨gc, 0, none⟩) x3.length x3.length] w fun e w' => (∃ r, e = .returned (.tuple #[r, .int .i64 (devC a2 (mdlOf a0) a1 x3)]) ∧ w'.ownsRow w.heap.size 2 1 r (devL a2 (mdlOf a0) a1 x3).length ((devL a2 (mdlOf a0) a1 x3).flatMap putI)) ∧ Below w.heap.size w w' := by
  have e : (mdlOf a0).rows.length = a0.rows.length := List.length_map ..
  have h := impl_DevAfter w (some ⟨gz, 0, none⟩) (some ⟨gw, 0, none⟩) (some ⟨gb, 0, none⟩) (some ⟨gp, 0, none⟩) (some ⟨gc, 0, none⟩) a0.zones.length a0.rows.length a0.base.length a1.rings.length x3.length (mdlOf a0) a1 a2 x3
  rw [e] at h
  exact h (c.rd nz nw nr nb) nz nw nb ns (own_ring op np) np (oc.rd oc.lt (Cut_len x3) (by unfold maxLen; omega) _ (Nat.le_refl _) (by unfold maxLen; omega)) nc
theorem devL_len (g : GoalX) (m : Mdl) (x : Profile) (cs : List Cut) : (devL g m x cs).length ≤ 5 := by
  unfold devL
  split
  · rw [devZ_len rfl (rawA_len m x cs)]; exact Nat.le_refl _
  · exact Nat.zero_le _
theorem szR_cases (left : Int) (n : Nat) (h0 : 0 ≤ left) : szR left n = -1 ∨ (0 ≤ szR left n ∧ szR left n ≤ left ∧ (n : Int) ≤ left) := by
  unfold szR
  by_cases h : (n : Int) ≤ left
  · rw [if_pos h]; exact Or.inr ⟨by omega, by omega, h⟩
  · rw [if_neg h]; exact Or.inl rfl
set_option maxHeartbeats 1000000 in
theorem FnExactDeviationsAfter_walk (w : World) (a0 : MdlX) (k0 : a0.ok w) (a1 : Profile) (k1 : a1.ok w) (a2 : GoalX) (k2 : a2.ok) (v3 : Value) (x3 : List Cut) (k3 : Rd w.heap.size w v3 2 x3.length (x3.flatMap Cut.put) ∧ x3.length ≤ maxLen ∧ ∀ x ∈ x3, x.ok) :
    Calls Tryz.prog 3 #[.agg #[a0.zv, a0.wv, a0.bv], .agg #[.string a1.name, a1.list], .agg #[.int .i64 a2.a, .int .i64 a2.b, .int .i64 a2.c, .int .i64 a2.d, .int .i64 a2.e, .int .i64 a2.tol, .int .i64 a2.most], v3] w fun e w' => e = .returned (.bool true) ∧ Below w.heap.size w w' := by
  obtain ⟨W1, hW1⟩ : ∃ W1, w.alloc (.cells #[a0.zv, a0.wv, a0.bv] 25) = W1 := ⟨_, rfl⟩
  obtain ⟨W2, hW2⟩ : ∃ W2, W1.alloc (.cells #[.string a1.name, a1.list] 28) = W2 := ⟨_, rfl⟩
  obtain ⟨W3, hW3⟩ : ∃ W3, W2.alloc (.cells #[.int .i64 a2.a, .int .i64 a2.b, .int .i64 a2.c, .int .i64 a2.d, .int .i64 a2.e, .int .i64 a2.tol, .int .i64 a2.most] 32) = W3 := ⟨_, rfl⟩
  have b1 : Below w.heap.size w W1 := hW1 ▸ (Below.refl _ _).alloc (Nat.le_refl _) _
  have b2 : Below W1.heap.size W1 W2 := hW2 ▸ (Below.refl _ _).alloc (Nat.le_refl _) _
  have b3 : Below W2.heap.size W2 W3 := hW3 ▸ (Below.refl _ _).alloc (Nat.le_refl _) _
  have M1 : Own W1 w.heap.size 25 a0.put := hW1 ▸ Own.new w _ _
  have M3 := Lib.hid ((M1.below b2 M1.lt).below b3 (M1.below b2 M1.lt).lt)
  have P2 : Own W2 W1.heap.size 28 a1.put := hW2 ▸ Own.new W1 _ _
  have P3 := Lib.hid (P2.below b3 P2.lt)
  have G3 : Hid (Own W3 W2.heap.size 32 a2.put) := Lib.hid (hW3 ▸ Own.new W2 _ _)
  have B3 := Lib.hid (bnext (bnext b1 b2) b3)
  have K0 := Lib.hid (k0.up B3.out)
  have K1 := Lib.hid (k1.up B3.out)
  have K3 := Lib.hid (k3.1.up B3.out)
  have HS1 := Lib.hid (szModel a0 1048576 W3 K0.out (by omega) (by omega))
  have c1 := szR_cases 1048576 a0.wt (by omega)
  obtain ⟨z1, hz1⟩ : ∃ z, szR 1048576 a0.wt = z := ⟨_, rfl⟩
  rw [hz1] at HS1 c1
  have m0 : W3.cell? ⟨w.heap.size, 0, none⟩ = some a0.zv := M3.out.cell 0
  have m1 : W3.cell? ⟨w.heap.size, 1, none⟩ = some a0.wv := M3.out.cell 1
  have m2 : W3.cell? ⟨w.heap.size, 2, none⟩ = some a0.bv := M3.out.cell 2
  have ml := M3.out.lt
  clear hz1 b1 b2 b3 M1 P2 k0 k1
  rcases c1 with rfl | ⟨c1a, c1b, c1c⟩
  · go_enter Tryz.func3, Tryz.ntmps3
    go_wp2_with fail
    refine HS1.out.mono ?_; rintro e w4 ⟨rfl, b4⟩
    have B4 := Lib.hid (bnext B3.out b4)
    clear b4
    go_wp2_with fail
    go_ret
    exact ⟨rfl, B4.out⟩
  go_enter Tryz.func3, Tryz.ntmps3
  go_wp2_with fail
  refine HS1.out.mono ?_; rintro e w4 ⟨rfl, b4⟩
  have M4 := Lib.hid (M3.out.below b4 M3.out.lt)
  have P4 := Lib.hid (P3.out.below b4 P3.out.lt)
  have G4 := Lib.hid (G3.out.below b4 G3.out.lt)
  have J0 := Lib.hid (K0.out.up b4)
  have J1 := Lib.hid (K1.out.up b4)
  have J3 := Lib.hid (K3.out.up b4)
  have B4 := Lib.hid (bnext B3.out b4)
  have p0 : w4.cell? ⟨W1.heap.size, 0, none⟩ = some (.string a1.name) := P4.out.cell 0
  have p1 : w4.cell? ⟨W1.heap.size, 1, none⟩ = some a1.list := P4.out.cell 1
  have pl := P4.out.lt
  have HS2 := Lib.hid (szProfile a1 z1 w4 J1.out c1a (by omega))
  have c2 := szR_cases z1 (a1.name.size + a1.rings.length) c1a
  obtain ⟨z2, hz2⟩ : ∃ z, szR z1 (a1.name.size + a1.rings.length) = z := ⟨_, rfl⟩
  rw [hz2] at HS2 c2
  clear hz2 b4 m0 m1 m2 ml M3 P3 G3 K0 K1 HS1 B3 hW1 hW2 hW3
  clear K3
  rcases c2 with rfl | ⟨c2a, c2b, c2c⟩
  · go_wp2_with fail
    refine HS2.out.mono ?_; rintro e w5 ⟨rfl, b5⟩
    have B5 := Lib.hid (bnext B4.out b5)
    clear b5
    go_wp2_with fail
    go_ret
    exact ⟨rfl, B5.out⟩
  go_wp2_with fail
  refine HS2.out.mono ?_; rintro e w5 ⟨rfl, b5⟩
  have M5 := Lib.hid (M4.out.below b5 M4.out.lt)
  have P5 := Lib.hid (P4.out.below b5 P4.out.lt)
  have G5 := Lib.hid (G4.out.below b5 G4.out.lt)
  have I0 := Lib.hid (J0.out.up b5)
  have I1 := Lib.hid (J1.out.up b5)
  have I3 := Lib.hid (J3.out.up b5)
  have B5 := Lib.hid (bnext B4.out b5)
  have HS3 := Lib.hid (szCutS w5 v3 x3 z2 w5.heap.size I3.out k3.2.1 c2a (by omega))
  have c3 := szR_cases z2 x3.length c2a
  obtain ⟨z3, hz3⟩ : ∃ z, szR z2 x3.length = z := ⟨_, rfl⟩
  rw [hz3] at HS3 c3
  clear hz3 b5 p0 p1 pl M4 P4 G4 J0 J1 J3 HS2 B4
  rcases c3 with rfl | ⟨c3a, c3b, c3c⟩
  · go_wp2_with fail
    refine HS3.out.mono ?_; rintro e w6 ⟨rfl, rfl⟩
    go_wp2_with fail
    go_ret
    exact ⟨rfl, B5.out⟩
  go_wp2_with fail
  refine HS3.out.mono ?_; rintro e w6 ⟨rfl, rfl⟩
  have nz : a0.zones.length ≤ 1048576 := by unfold MdlX.wt at c1c; omega
  have nw : a0.rows.length ≤ 1048576 := by unfold MdlX.wt at c1c; omega
  have nr : wtRows a0.rows ≤ 1048576 := by unfold MdlX.wt at c1c; omega
  have nb : a0.base.length ≤ 1048576 := by unfold MdlX.wt at c1c; omega
  have np : a1.rings.length ≤ 1048576 := by omega
  have nc : x3.length ≤ 1048576 := by omega
  clear HS3 c3c
  clear c1c c2c
  have lz : w.heap.size < w5.heap.size ∧ W1.heap.size < w5.heap.size ∧ W2.heap.size < w5.heap.size := ⟨M5.out.lt, P5.out.lt, G5.out.lt⟩
  have AZ : Hid (ArgZ w5 w5 w.heap.size W1.heap.size W2.heap.size a0 a1 a2) := Lib.hid ⟨Below.refl _ _, M5.out, P5.out, G5.out⟩
  have Hr : Hid (∀ y ∈ a0.rows, y.2.length ≤ 1048576) := Lib.hid fun y hy => by have := wtRows_mem a0.rows y hy; omega
  have nl : (devL a2 (mdlOf a0) a1 x3).length ≤ 1048576 := by have := devL_len a2 (mdlOf a0) a1 x3; omega
  have HS := Lib.hid (fun (w' : World) (gz gw gb gp gc : Nat) (ys : List Row) (c : CopM w' gz gw gb ys a0) (op : Own w' gp 123 (a1.rings.flatMap Ring.put)) (oc : Own w' gc 80 (x3.flatMap Cut.put)) => spec_DevC w' gz gw gb gp gc ys a0 a1 a2 x3 nz nw Hr.out nb I1.out.1 np nc c op oc)
  have HI := Lib.hid (fun (w' : World) (gz gw gb gp gc : Nat) (ys : List Row) (c : CopM w' gz gw gb ys a0) (op : Own w' gp 123 (a1.rings.flatMap Ring.put)) (oc : Own w' gc 80 (x3.flatMap Cut.put)) => impl_DevC w' gz gw gb gp gc ys a0 a1 a2 x3 nz nw Hr.out nb I1.out.1 np nc c op oc)
  obtain ⟨cc, hcc⟩ : ∃ c, devC a2 (mdlOf a0) a1 x3 = c := ⟨_, rfl⟩
  obtain ⟨L, hL⟩ : ∃ l, devL a2 (mdlOf a0) a1 x3 = l := ⟨_, rfl⟩
  rw [hcc, hL] at HS HI
  rw [hL] at nl
  have hnL := nl
  clear hcc hL nl M5 P5 G5
  have tb : (cc != cc) = false := by simp
  -- the reference
  have n0_0 : w5.cell? ⟨w.heap.size, 0, none⟩ = some (a0.zv) := AZ.out.m0
  have n0_1 : w5.cell? ⟨w.heap.size, 1, none⟩ = some (a0.wv) := AZ.out.m1
  have n0_2 : w5.cell? ⟨w.heap.size, 2, none⟩ = some (a0.bv) := AZ.out.m2
  have l0 := AZ.out.lm
  have n1_0 : w5.cell? ⟨W1.heap.size, 0, none⟩ = some (.string a1.name) := AZ.out.p0
  have n1_1 : w5.cell? ⟨W1.heap.size, 1, none⟩ = some (a1.list) := AZ.out.p1
  have l1 := AZ.out.lp
  have n2_0 : w5.cell? ⟨W2.heap.size, 0, none⟩ = some (.int .i64 a2.a) := AZ.out.q0
  have n2_1 : w5.cell? ⟨W2.heap.size, 1, none⟩ = some (.int .i64 a2.b) := AZ.out.q1
  have n2_2 : w5.cell? ⟨W2.heap.size, 2, none⟩ = some (.int .i64 a2.c) := AZ.out.q2
  have n2_3 : w5.cell? ⟨W2.heap.size, 3, none⟩ = some (.int .i64 a2.d) := AZ.out.q3
  have n2_4 : w5.cell? ⟨W2.heap.size, 4, none⟩ = some (.int .i64 a2.e) := AZ.out.q4
  have n2_5 : w5.cell? ⟨W2.heap.size, 5, none⟩ = some (.int .i64 a2.tol) := AZ.out.q5
  have n2_6 : w5.cell? ⟨W2.heap.size, 6, none⟩ = some (.int .i64 a2.most) := AZ.out.q6
  have l2 := AZ.out.lq
  go_wp2_with fail
  go_region_held3 (fun w' => w'.cell? ⟨w.heap.size, 0, none⟩ = some (a0.zv) ∧ w'.cell? ⟨w.heap.size, 1, none⟩ = some (a0.wv) ∧ w'.cell? ⟨w.heap.size, 2, none⟩ = some (a0.bv) ∧ w'.cell? ⟨W1.heap.size, 0, none⟩ = some (.string a1.name) ∧ w'.cell? ⟨W1.heap.size, 1, none⟩ = some (a1.list) ∧ w'.cell? ⟨W2.heap.size, 0, none⟩ = some (.int .i64 a2.a) ∧ w'.cell? ⟨W2.heap.size, 1, none⟩ = some (.int .i64 a2.b) ∧ w'.cell? ⟨W2.heap.size, 2, none⟩ = some (.int .i64 a2.c) ∧ w'.cell? ⟨W2.heap.size, 3, none⟩ = some (.int .i64 a2.d) ∧ w'.cell? ⟨W2.heap.size, 4, none⟩ = some (.int .i64 a2.e) ∧ w'.cell? ⟨W2.heap.size, 5, none⟩ = some (.int .i64 a2.tol) ∧ w'.cell? ⟨W2.heap.size, 6, none⟩ = some (.int .i64 a2.most)) (first | (with_reducible assumption) | (go_keep; done)) (first
    | (go_at_call 9
       refine (toModelC a0 _ (by exact I0.out.up (AZ.out.1.drew)) nz nw Hr.out nb).mono ?_; rintro e w6 ⟨gz6, gw6, gb6, ys6, rfl, hg6, c6, b6⟩
       have b6' : Below w5.heap.size w5 w6 := Below.trans (by (repeat' (first | (with_reducible exact Below.refl _ _) | (with_reducible assumption) | (with_reducible refine below_dn ?_ _) | (with_reducible refine Below.drew ?_) | (with_reducible refine Below.alloc ?_ ?_ _) | (with_reducible refine Below.setCell ?_ ?_ _) | go_size))) (b6.mono (by simp <;> omega))
       clear b6
       have b6 := b6'; clear b6'
       have AZ' := Lib.hid (AZ.out.below b6); clear AZ; have AZ := AZ'; clear AZ'
       have sz6 : w5.heap.size ≤ w6.heap.size := b6.size
       have ga6 : w5.heap.size ≤ gz6 := hg6
       have gw6_ : gz6 < gw6 ∧ gw6 < gb6 ∧ gb6 < w6.heap.size := ⟨c6.1, c6.2.1.2.2.1, c6.2.2.2.lt⟩
       have C6 := Lib.hid c6; clear c6 hg6
       clear b6
       have HS6 : w6.cell? ⟨w.heap.size, 0, none⟩ = some (a0.zv) ∧ w6.cell? ⟨w.heap.size, 1, none⟩ = some (a0.wv) ∧ w6.cell? ⟨w.heap.size, 2, none⟩ = some (a0.bv) ∧ w6.cell? ⟨W1.heap.size, 0, none⟩ = some (.string a1.name) ∧ w6.cell? ⟨W1.heap.size, 1, none⟩ = some (a1.list) ∧ w6.cell? ⟨W2.heap.size, 0, none⟩ = some (.int .i64 a2.a) ∧ w6.cell? ⟨W2.heap.size, 1, none⟩ = some (.int .i64 a2.b) ∧ w6.cell? ⟨W2.heap.size, 2, none⟩ = some (.int .i64 a2.c) ∧ w6.cell? ⟨W2.heap.size, 3, none⟩ = some (.int .i64 a2.d) ∧ w6.cell? ⟨W2.heap.size, 4, none⟩ = some (.int .i64 a2.e) ∧ w6.cell? ⟨W2.heap.size, 5, none⟩ = some (.int .i64 a2.tol) ∧ w6.cell? ⟨W2.heap.size, 6, none⟩ = some (.int .i64 a2.most) := ⟨AZ.out.m0, AZ.out.m1, AZ.out.m2, AZ.out.p0, AZ.out.p1, AZ.out.q0, AZ.out.q1, AZ.out.q2, AZ.out.q3, AZ.out.q4, AZ.out.q5, AZ.out.q6⟩)
    | (go_at_call 10
       refine (toProfile a1 _ (by exact I1.out.2.1.up AZ.out.1) np).mono ?_; rintro e w7 ⟨g7, rfl, hg7, o7, b7⟩
       have AZ' := Lib.hid (AZ.out.below b7); clear AZ; have AZ := AZ'; clear AZ'
       have C6' := Lib.hid (C6.out.below b7); clear C6; have C6 := C6'; clear C6'
       have sz7 : w6.heap.size ≤ w7.heap.size := b7.size
       have ga7 : w6.heap.size ≤ g7 := by first | exact hg7 | (have := hg7; simp at this; omega)
       have gb7 : g7 < w7.heap.size := o7.lt
       have O7 := Lib.hid o7; clear o7 hg7
       clear b7
       have HS7 : w7.cell? ⟨w.heap.size, 0, none⟩ = some (a0.zv) ∧ w7.cell? ⟨w.heap.size, 1, none⟩ = some (a0.wv) ∧ w7.cell? ⟨w.heap.size, 2, none⟩ = some (a0.bv) ∧ w7.cell? ⟨W1.heap.size, 0, none⟩ = some (.string a1.name) ∧ w7.cell? ⟨W1.heap.size, 1, none⟩ = some (a1.list) ∧ w7.cell? ⟨W2.heap.size, 0, none⟩ = some (.int .i64 a2.a) ∧ w7.cell? ⟨W2.heap.size, 1, none⟩ = some (.int .i64 a2.b) ∧ w7.cell? ⟨W2.heap.size, 2, none⟩ = some (.int .i64 a2.c) ∧ w7.cell? ⟨W2.heap.size, 3, none⟩ = some (.int .i64 a2.d) ∧ w7.cell? ⟨W2.heap.size, 4, none⟩ = some (.int .i64 a2.e) ∧ w7.cell? ⟨W2.heap.size, 5, none⟩ = some (.int .i64 a2.tol) ∧ w7.cell? ⟨W2.heap.size, 6, none⟩ = some (.int .i64 a2.most) := ⟨AZ.out.m0, AZ.out.m1, AZ.out.m2, AZ.out.p0, AZ.out.p1, AZ.out.q0, AZ.out.q1, AZ.out.q2, AZ.out.q3, AZ.out.q4, AZ.out.q5, AZ.out.q6⟩)
    | (go_at_call 11
       refine (toGoal a2 _).mono ?_; rintro e w8 ⟨rfl, b8⟩
       have AZ' := Lib.hid (AZ.out.below b8); clear AZ; have AZ := AZ'; clear AZ'
       have C6' := Lib.hid (C6.out.below b8); clear C6; have C6 := C6'; clear C6'
       have O7' := Lib.hid (O7.out.below b8 O7.out.lt); clear O7; have O7 := O7'; clear O7'
       have sz8 : w7.heap.size ≤ w8.heap.size := b8.size
       clear b8
       have HS8 : w8.cell? ⟨w.heap.size, 0, none⟩ = some (a0.zv) ∧ w8.cell? ⟨w.heap.size, 1, none⟩ = some (a0.wv) ∧ w8.cell? ⟨w.heap.size, 2, none⟩ = some (a0.bv) ∧ w8.cell? ⟨W1.heap.size, 0, none⟩ = some (.string a1.name) ∧ w8.cell? ⟨W1.heap.size, 1, none⟩ = some (a1.list) ∧ w8.cell? ⟨W2.heap.size, 0, none⟩ = some (.int .i64 a2.a) ∧ w8.cell? ⟨W2.heap.size, 1, none⟩ = some (.int .i64 a2.b) ∧ w8.cell? ⟨W2.heap.size, 2, none⟩ = some (.int .i64 a2.c) ∧ w8.cell? ⟨W2.heap.size, 3, none⟩ = some (.int .i64 a2.d) ∧ w8.cell? ⟨W2.heap.size, 4, none⟩ = some (.int .i64 a2.e) ∧ w8.cell? ⟨W2.heap.size, 5, none⟩ = some (.int .i64 a2.tol) ∧ w8.cell? ⟨W2.heap.size, 6, none⟩ = some (.int .i64 a2.most) := ⟨AZ.out.m0, AZ.out.m1, AZ.out.m2, AZ.out.p0, AZ.out.p1, AZ.out.q0, AZ.out.q1, AZ.out.q2, AZ.out.q3, AZ.out.q4, AZ.out.q5, AZ.out.q6⟩)
    | (go_at_call 12
       refine (toCutS _ v3 x3 (by exact I3.out.up AZ.out.1) nc).mono ?_; rintro e w9 ⟨g9, rfl, hg9, o9, b9⟩
       have AZ' := Lib.hid (AZ.out.below b9); clear AZ; have AZ := AZ'; clear AZ'
       have C6' := Lib.hid (C6.out.below b9); clear C6; have C6 := C6'; clear C6'
       have O7' := Lib.hid (O7.out.below b9 O7.out.lt); clear O7; have O7 := O7'; clear O7'
       have sz9 : w8.heap.size ≤ w9.heap.size := b9.size
       have ga9 : w8.heap.size ≤ g9 := by first | exact hg9 | (have := hg9; simp at this; omega)
       have gb9 : g9 < w9.heap.size := o9.lt
       have O9 := Lib.hid o9; clear o9 hg9
       clear b9
       have HS9 : w9.cell? ⟨w.heap.size, 0, none⟩ = some (a0.zv) ∧ w9.cell? ⟨w.heap.size, 1, none⟩ = some (a0.wv) ∧ w9.cell? ⟨w.heap.size, 2, none⟩ = some (a0.bv) ∧ w9.cell? ⟨W1.heap.size, 0, none⟩ = some (.string a1.name) ∧ w9.cell? ⟨W1.heap.size, 1, none⟩ = some (a1.list) ∧ w9.cell? ⟨W2.heap.size, 0, none⟩ = some (.int .i64 a2.a) ∧ w9.cell? ⟨W2.heap.size, 1, none⟩ = some (.int .i64 a2.b) ∧ w9.cell? ⟨W2.heap.size, 2, none⟩ = some (.int .i64 a2.c) ∧ w9.cell? ⟨W2.heap.size, 3, none⟩ = some (.int .i64 a2.d) ∧ w9.cell? ⟨W2.heap.size, 4, none⟩ = some (.int .i64 a2.e) ∧ w9.cell? ⟨W2.heap.size, 5, none⟩ = some (.int .i64 a2.tol) ∧ w9.cell? ⟨W2.heap.size, 6, none⟩ = some (.int .i64 a2.most) := ⟨AZ.out.m0, AZ.out.m1, AZ.out.m2, AZ.out.p0, AZ.out.p1, AZ.out.q0, AZ.out.q1, AZ.out.q2, AZ.out.q3, AZ.out.q4, AZ.out.q5, AZ.out.q6⟩)
    | (go_at_call 8
       refine (HS.out _ _ _ _ _ _ _ C6.out O7.out O9.out).mono ?_; rintro e w10 ⟨⟨r10, rfl, o10⟩, b10⟩
       have AZ' := Lib.hid (AZ.out.below b10); clear AZ; have AZ := AZ'; clear AZ'
       have C6' := Lib.hid (C6.out.below b10); clear C6; have C6 := C6'; clear C6'
       have O7' := Lib.hid (O7.out.below b10 O7.out.lt); clear O7; have O7 := O7'; clear O7'
       have O9' := Lib.hid (O9.out.below b10 O9.out.lt); clear O9; have O9 := O9'; clear O9'
       have sz10 : w9.heap.size ≤ w10.heap.size := b10.size
       obtain ⟨ra10, rc10, rfl⟩ := (own_rd o10).form
       have R10 := Lib.hid (Held.of_row o10); clear o10
       clear b10
       have HS10 : w10.cell? ⟨w.heap.size, 0, none⟩ = some (a0.zv) ∧ w10.cell? ⟨w.heap.size, 1, none⟩ = some (a0.wv) ∧ w10.cell? ⟨w.heap.size, 2, none⟩ = some (a0.bv) ∧ w10.cell? ⟨W1.heap.size, 0, none⟩ = some (.string a1.name) ∧ w10.cell? ⟨W1.heap.size, 1, none⟩ = some (a1.list) ∧ w10.cell? ⟨W2.heap.size, 0, none⟩ = some (.int .i64 a2.a) ∧ w10.cell? ⟨W2.heap.size, 1, none⟩ = some (.int .i64 a2.b) ∧ w10.cell? ⟨W2.heap.size, 2, none⟩ = some (.int .i64 a2.c) ∧ w10.cell? ⟨W2.heap.size, 3, none⟩ = some (.int .i64 a2.d) ∧ w10.cell? ⟨W2.heap.size, 4, none⟩ = some (.int .i64 a2.e) ∧ w10.cell? ⟨W2.heap.size, 5, none⟩ = some (.int .i64 a2.tol) ∧ w10.cell? ⟨W2.heap.size, 6, none⟩ = some (.int .i64 a2.most) := ⟨AZ.out.m0, AZ.out.m1, AZ.out.m2, AZ.out.p0, AZ.out.p1, AZ.out.q0, AZ.out.q1, AZ.out.q2, AZ.out.q3, AZ.out.q4, AZ.out.q5, AZ.out.q6⟩))
  clear n0_0 n0_1 n0_2 l0 n1_0 n1_1 l1 n2_0 n2_1 n2_2 n2_3 n2_4 n2_5 n2_6 l2 HS10
  clear C6 O7 O9
  -- the copies
  have n0_0 : w10.cell? ⟨w.heap.size, 0, none⟩ = some (a0.zv) := AZ.out.m0
  have n0_1 : w10.cell? ⟨w.heap.size, 1, none⟩ = some (a0.wv) := AZ.out.m1
  have n0_2 : w10.cell? ⟨w.heap.size, 2, none⟩ = some (a0.bv) := AZ.out.m2
  have l0 := AZ.out.lm
  go_wp2_with fail
  refine (toModelC a0 _ (by exact I0.out.up (AZ.out.1)) nz nw Hr.out nb).mono ?_; rintro e w11 ⟨gz11, gw11, gb11, ys11, rfl, hg11, c11, b11⟩
  have AZ' := Lib.hid (AZ.out.below b11); clear AZ; have AZ := AZ'; clear AZ'
  have R10' := Lib.hid (R10.out.below b11); clear R10; have R10 := R10'; clear R10'
  have sz11 : w10.heap.size ≤ w11.heap.size := b11.size
  have ga11 : w10.heap.size ≤ gz11 := hg11
  have gw11_ : gz11 < gw11 ∧ gw11 < gb11 ∧ gb11 < w11.heap.size := ⟨c11.1, c11.2.1.2.2.1, c11.2.2.2.lt⟩
  have C11 := Lib.hid c11; clear c11 hg11
  clear b11
  clear n0_0 n0_1 n0_2 l0
  have n0_0 : w11.cell? ⟨W1.heap.size, 0, none⟩ = some (.string a1.name) := AZ.out.p0
  have n0_1 : w11.cell? ⟨W1.heap.size, 1, none⟩ = some (a1.list) := AZ.out.p1
  have l0 := AZ.out.lp
  go_wp2_with fail
  refine (toProfile a1 _ (by exact I1.out.2.1.up (AZ.out.1.trans (by (repeat' (first | (with_reducible exact Below.refl _ _) | (with_reducible assumption) | (with_reducible refine below_dn ?_ _) | (with_reducible refine Below.drew ?_) | (with_reducible refine Below.alloc ?_ ?_ _) | (with_reducible refine Below.setCell ?_ ?_ _) | go_size))))) np).mono ?_; rintro e w12 ⟨g12, rfl, hg12, o12, b12⟩
  have VM : Hid (Own w12 (w11.heap.size) 39 [.slice (some ⟨gz11, 0, none⟩) a0.zones.length a0.zones.length, .slice (some ⟨gw11, 0, none⟩) a0.rows.length a0.rows.length, .slice (some ⟨gb11, 0, none⟩) a0.base.length a0.base.length]) := Lib.hid ((Own.newAt 39 [.slice (some ⟨gz11, 0, none⟩) a0.zones.length a0.zones.length, .slice (some ⟨gw11, 0, none⟩) a0.rows.length a0.rows.length, .slice (some ⟨gb11, 0, none⟩) a0.base.length a0.base.length] (by simp)).below b12 (by simp <;> omega))
  have b12' : Below w11.heap.size w11 w12 := Below.trans (by (repeat' (first | (with_reducible exact Below.refl _ _) | (with_reducible assumption) | (with_reducible refine below_dn ?_ _) | (with_reducible refine Below.drew ?_) | (with_reducible refine Below.alloc ?_ ?_ _) | (with_reducible refine Below.setCell ?_ ?_ _) | go_size))) (b12.mono (by simp <;> omega))
  clear b12
  have b12 := b12'; clear b12'
  have AZ' := Lib.hid (AZ.out.below b12); clear AZ; have AZ := AZ'; clear AZ'
  have R10' := Lib.hid (R10.out.below b12); clear R10; have R10 := R10'; clear R10'
  have C11' := Lib.hid (C11.out.below b12); clear C11; have C11 := C11'; clear C11'
  have sz12 : w11.heap.size ≤ w12.heap.size := b12.size
  have ga12 : w11.heap.size ≤ g12 := by first | exact hg12 | (have := hg12; simp at this; omega)
  have gb12 : g12 < w12.heap.size := o12.lt
  have O12 := Lib.hid o12; clear o12 hg12
  clear b12
  clear n0_0 n0_1 l0
  go_wp2_with fail
  refine (toCutS _ v3 x3 (by exact I3.out.up (AZ.out.1.trans (by (repeat' (first | (with_reducible exact Below.refl _ _) | (with_reducible assumption) | (with_reducible refine below_dn ?_ _) | (with_reducible refine Below.drew ?_) | (with_reducible refine Below.alloc ?_ ?_ _) | (with_reducible refine Below.setCell ?_ ?_ _) | go_size))))) nc).mono ?_; rintro e w13 ⟨g13, rfl, hg13, o13, b13⟩
  have VP : Hid (Own w13 (w12.heap.size) 43 [.string a1.name, .slice (some ⟨g12, 0, none⟩) a1.rings.length a1.rings.length]) := Lib.hid ((Own.newAt 43 [.string a1.name, .slice (some ⟨g12, 0, none⟩) a1.rings.length a1.rings.length] (by simp)).below b13 (by simp <;> omega))
  have b13' : Below w12.heap.size w12 w13 := Below.trans (by (repeat' (first | (with_reducible exact Below.refl _ _) | (with_reducible assumption) | (with_reducible refine below_dn ?_ _) | (with_reducible refine Below.drew ?_) | (with_reducible refine Below.alloc ?_ ?_ _) | (with_reducible refine Below.setCell ?_ ?_ _) | go_size))) (b13.mono (by simp <;> omega))
  clear b13
  have b13 := b13'; clear b13'
  have AZ' := Lib.hid (AZ.out.below b13); clear AZ; have AZ := AZ'; clear AZ'
  have R10' := Lib.hid (R10.out.below b13); clear R10; have R10 := R10'; clear R10'
  have C11' := Lib.hid (C11.out.below b13); clear C11; have C11 := C11'; clear C11'
  have VM' := Lib.hid (VM.out.below b13 VM.out.lt); clear VM; have VM := VM'; clear VM'
  have O12' := Lib.hid (O12.out.below b13 O12.out.lt); clear O12; have O12 := O12'; clear O12'
  have sz13 : w12.heap.size ≤ w13.heap.size := b13.size
  have ga13 : w12.heap.size ≤ g13 := by first | exact hg13 | (have := hg13; simp at this; omega)
  have gb13 : g13 < w13.heap.size := o13.lt
  have O13 := Lib.hid o13; clear o13 hg13
  clear b13
  have n0_0 : w13.cell? ⟨w11.heap.size, 0, none⟩ = some (.slice (some ⟨gz11, 0, none⟩) a0.zones.length a0.zones.length) := VM.out.cell 0
  have n0_1 : w13.cell? ⟨w11.heap.size, 1, none⟩ = some (.slice (some ⟨gw11, 0, none⟩) a0.rows.length a0.rows.length) := VM.out.cell 1
  have n0_2 : w13.cell? ⟨w11.heap.size, 2, none⟩ = some (.slice (some ⟨gb11, 0, none⟩) a0.base.length a0.base.length) := VM.out.cell 2
  have l0 := VM.out.lt
  have n1_0 : w13.cell? ⟨w12.heap.size, 0, none⟩ = some (.string a1.name) := VP.out.cell 0
  have n1_1 : w13.cell? ⟨w12.heap.size, 1, none⟩ = some (.slice (some ⟨g12, 0, none⟩) a1.rings.length a1.rings.length) := VP.out.cell 1
  have l1 := VP.out.lt
  have n2_0 : w13.cell? ⟨W2.heap.size, 0, none⟩ = some (.int .i64 a2.a) := AZ.out.q0
  have n2_1 : w13.cell? ⟨W2.heap.size, 1, none⟩ = some (.int .i64 a2.b) := AZ.out.q1
  have n2_2 : w13.cell? ⟨W2.heap.size, 2, none⟩ = some (.int .i64 a2.c) := AZ.out.q2
  have n2_3 : w13.cell? ⟨W2.heap.size, 3, none⟩ = some (.int .i64 a2.d) := AZ.out.q3
  have n2_4 : w13.cell? ⟨W2.heap.size, 4, none⟩ = some (.int .i64 a2.e) := AZ.out.q4
  have n2_5 : w13.cell? ⟨W2.heap.size, 5, none⟩ = some (.int .i64 a2.tol) := AZ.out.q5
  have n2_6 : w13.cell? ⟨W2.heap.size, 6, none⟩ = some (.int .i64 a2.most) := AZ.out.q6
  have l2 := AZ.out.lq
  go_wp2_with fail
  go_region_held3 (fun w' => w'.cell? ⟨w11.heap.size, 0, none⟩ = some (.slice (some ⟨gz11, 0, none⟩) a0.zones.length a0.zones.length) ∧ w'.cell? ⟨w11.heap.size, 1, none⟩ = some (.slice (some ⟨gw11, 0, none⟩) a0.rows.length a0.rows.length) ∧ w'.cell? ⟨w11.heap.size, 2, none⟩ = some (.slice (some ⟨gb11, 0, none⟩) a0.base.length a0.base.length) ∧ w'.cell? ⟨w12.heap.size, 0, none⟩ = some (.string a1.name) ∧ w'.cell? ⟨w12.heap.size, 1, none⟩ = some (.slice (some ⟨g12, 0, none⟩) a1.rings.length a1.rings.length) ∧ w'.cell? ⟨W2.heap.size, 0, none⟩ = some (.int .i64 a2.a) ∧ w'.cell? ⟨W2.heap.size, 1, none⟩ = some (.int .i64 a2.b) ∧ w'.cell? ⟨W2.heap.size, 2, none⟩ = some (.int .i64 a2.c) ∧ w'.cell? ⟨W2.heap.size, 3, none⟩ = some (.int .i64 a2.d) ∧ w'.cell? ⟨W2.heap.size, 4, none⟩ = some (.int .i64 a2.e) ∧ w'.cell? ⟨W2.heap.size, 5, none⟩ = some (.int .i64 a2.tol) ∧ w'.cell? ⟨W2.heap.size, 6, none⟩ = some (.int .i64 a2.most)) (first | (with_reducible assumption) | (go_keep; done)) (first
    | (go_at_call 11
       refine (toGoal a2 _).mono ?_; rintro e w14 ⟨rfl, b14⟩
       have b14' : Below w13.heap.size w13 w14 := Below.trans (by (repeat' (first | (with_reducible exact Below.refl _ _) | (with_reducible assumption) | (with_reducible refine below_dn ?_ _) | (with_reducible refine Below.drew ?_) | (with_reducible refine Below.alloc ?_ ?_ _) | (with_reducible refine Below.setCell ?_ ?_ _) | go_size))) (b14.mono (by simp <;> omega))
       clear b14
       have b14 := b14'; clear b14'
       have AZ' := Lib.hid (AZ.out.below b14); clear AZ; have AZ := AZ'; clear AZ'
       have R10' := Lib.hid (R10.out.below b14); clear R10; have R10 := R10'; clear R10'
       have C11' := Lib.hid (C11.out.below b14); clear C11; have C11 := C11'; clear C11'
       have VM' := Lib.hid (VM.out.below b14 VM.out.lt); clear VM; have VM := VM'; clear VM'
       have O12' := Lib.hid (O12.out.below b14 O12.out.lt); clear O12; have O12 := O12'; clear O12'
       have VP' := Lib.hid (VP.out.below b14 VP.out.lt); clear VP; have VP := VP'; clear VP'
       have O13' := Lib.hid (O13.out.below b14 O13.out.lt); clear O13; have O13 := O13'; clear O13'
       have sz14 : w13.heap.size ≤ w14.heap.size := b14.size
       clear b14
       have HS14 : w14.cell? ⟨w11.heap.size, 0, none⟩ = some (.slice (some ⟨gz11, 0, none⟩) a0.zones.length a0.zones.length) ∧ w14.cell? ⟨w11.heap.size, 1, none⟩ = some (.slice (some ⟨gw11, 0, none⟩) a0.rows.length a0.rows.length) ∧ w14.cell? ⟨w11.heap.size, 2, none⟩ = some (.slice (some ⟨gb11, 0, none⟩) a0.base.length a0.base.length) ∧ w14.cell? ⟨w12.heap.size, 0, none⟩ = some (.string a1.name) ∧ w14.cell? ⟨w12.heap.size, 1, none⟩ = some (.slice (some ⟨g12, 0, none⟩) a1.rings.length a1.rings.length) ∧ w14.cell? ⟨W2.heap.size, 0, none⟩ = some (.int .i64 a2.a) ∧ w14.cell? ⟨W2.heap.size, 1, none⟩ = some (.int .i64 a2.b) ∧ w14.cell? ⟨W2.heap.size, 2, none⟩ = some (.int .i64 a2.c) ∧ w14.cell? ⟨W2.heap.size, 3, none⟩ = some (.int .i64 a2.d) ∧ w14.cell? ⟨W2.heap.size, 4, none⟩ = some (.int .i64 a2.e) ∧ w14.cell? ⟨W2.heap.size, 5, none⟩ = some (.int .i64 a2.tol) ∧ w14.cell? ⟨W2.heap.size, 6, none⟩ = some (.int .i64 a2.most) := ⟨VM.out.cell 0, VM.out.cell 1, VM.out.cell 2, VP.out.cell 0, VP.out.cell 1, AZ.out.q0, AZ.out.q1, AZ.out.q2, AZ.out.q3, AZ.out.q4, AZ.out.q5, AZ.out.q6⟩)
    | (go_at_call 13
       refine (HI.out _ _ _ _ _ _ _ C11.out O12.out O13.out).mono ?_; rintro e w15 ⟨⟨r15, rfl, o15⟩, b15⟩
       have AZ' := Lib.hid (AZ.out.below b15); clear AZ; have AZ := AZ'; clear AZ'
       have R10' := Lib.hid (R10.out.below b15); clear R10; have R10 := R10'; clear R10'
       have C11' := Lib.hid (C11.out.below b15); clear C11; have C11 := C11'; clear C11'
       have VM' := Lib.hid (VM.out.below b15 VM.out.lt); clear VM; have VM := VM'; clear VM'
       have O12' := Lib.hid (O12.out.below b15 O12.out.lt); clear O12; have O12 := O12'; clear O12'
       have VP' := Lib.hid (VP.out.below b15 VP.out.lt); clear VP; have VP := VP'; clear VP'
       have O13' := Lib.hid (O13.out.below b15 O13.out.lt); clear O13; have O13 := O13'; clear O13'
       have sz15 : w14.heap.size ≤ w15.heap.size := b15.size
       obtain ⟨ra15, rc15, rfl⟩ := (own_rd o15).form
       have R15 := Lib.hid (Held.of_row o15); clear o15
       clear b15
       have HS15 : w15.cell? ⟨w11.heap.size, 0, none⟩ = some (.slice (some ⟨gz11, 0, none⟩) a0.zones.length a0.zones.length) ∧ w15.cell? ⟨w11.heap.size, 1, none⟩ = some (.slice (some ⟨gw11, 0, none⟩) a0.rows.length a0.rows.length) ∧ w15.cell? ⟨w11.heap.size, 2, none⟩ = some (.slice (some ⟨gb11, 0, none⟩) a0.base.length a0.base.length) ∧ w15.cell? ⟨w12.heap.size, 0, none⟩ = some (.string a1.name) ∧ w15.cell? ⟨w12.heap.size, 1, none⟩ = some (.slice (some ⟨g12, 0, none⟩) a1.rings.length a1.rings.length) ∧ w15.cell? ⟨W2.heap.size, 0, none⟩ = some (.int .i64 a2.a) ∧ w15.cell? ⟨W2.heap.size, 1, none⟩ = some (.int .i64 a2.b) ∧ w15.cell? ⟨W2.heap.size, 2, none⟩ = some (.int .i64 a2.c) ∧ w15.cell? ⟨W2.heap.size, 3, none⟩ = some (.int .i64 a2.d) ∧ w15.cell? ⟨W2.heap.size, 4, none⟩ = some (.int .i64 a2.e) ∧ w15.cell? ⟨W2.heap.size, 5, none⟩ = some (.int .i64 a2.tol) ∧ w15.cell? ⟨W2.heap.size, 6, none⟩ = some (.int .i64 a2.most) := ⟨VM.out.cell 0, VM.out.cell 1, VM.out.cell 2, VP.out.cell 0, VP.out.cell 1, AZ.out.q0, AZ.out.q1, AZ.out.q2, AZ.out.q3, AZ.out.q4, AZ.out.q5, AZ.out.q6⟩))
  clear n0_0 n0_1 n0_2 l0 n1_0 n1_1 l1 n2_0 n2_1 n2_2 n2_3 n2_4 n2_5 n2_6 l2 HS15
  go_wp2_with fail
  refine (eqInt64S _ _ _ _ _ L L (by exact R15.out.rd) (by exact R10.out.rd) hnL hnL rfl).mono ?_; rintro e w16 ⟨rfl, d16⟩; have b16 := d16.below (B := w15.heap.size); clear d16
  have AZ' := Lib.hid (AZ.out.below b16); clear AZ; have AZ := AZ'; clear AZ'
  have R10' := Lib.hid (R10.out.below b16); clear R10; have R10 := R10'; clear R10'
  have C11' := Lib.hid (C11.out.below b16); clear C11; have C11 := C11'; clear C11'
  have VM' := Lib.hid (VM.out.below b16 VM.out.lt); clear VM; have VM := VM'; clear VM'
  have O12' := Lib.hid (O12.out.below b16 O12.out.lt); clear O12; have O12 := O12'; clear O12'
  have VP' := Lib.hid (VP.out.below b16 VP.out.lt); clear VP; have VP := VP'; clear VP'
  have O13' := Lib.hid (O13.out.below b16 O13.out.lt); clear O13; have O13 := O13'; clear O13'
  have R15' := Lib.hid (R15.out.below b16); clear R15; have R15 := R15'; clear R15'
  have sz16 : w15.heap.size ≤ w16.heap.size := b16.size
  clear b16
  -- the arguments are as they were
  have n0_0 : w16.cell? ⟨w11.heap.size, 0, none⟩ = some (.slice (some ⟨gz11, 0, none⟩) a0.zones.length a0.zones.length) := VM.out.cell 0
  have n0_1 : w16.cell? ⟨w11.heap.size, 1, none⟩ = some (.slice (some ⟨gw11, 0, none⟩) a0.rows.length a0.rows.length) := VM.out.cell 1
  have n0_2 : w16.cell? ⟨w11.heap.size, 2, none⟩ = some (.slice (some ⟨gb11, 0, none⟩) a0.base.length a0.base.length) := VM.out.cell 2
  have l0 := VM.out.lt
  have n1_0 : w16.cell? ⟨w.heap.size, 0, none⟩ = some (a0.zv) := AZ.out.m0
  have n1_1 : w16.cell? ⟨w.heap.size, 1, none⟩ = some (a0.wv) := AZ.out.m1
  have n1_2 : w16.cell? ⟨w.heap.size, 2, none⟩ = some (a0.bv) := AZ.out.m2
  have l1 := AZ.out.lm
  go_wp2_with fail
  go_region_held3 (fun w' => w'.cell? ⟨w11.heap.size, 0, none⟩ = some (.slice (some ⟨gz11, 0, none⟩) a0.zones.length a0.zones.length) ∧ w'.cell? ⟨w11.heap.size, 1, none⟩ = some (.slice (some ⟨gw11, 0, none⟩) a0.rows.length a0.rows.length) ∧ w'.cell? ⟨w11.heap.size, 2, none⟩ = some (.slice (some ⟨gb11, 0, none⟩) a0.base.length a0.base.length) ∧ w'.cell? ⟨w.heap.size, 0, none⟩ = some (a0.zv) ∧ w'.cell? ⟨w.heap.size, 1, none⟩ = some (a0.wv) ∧ w'.cell? ⟨w.heap.size, 2, none⟩ = some (a0.bv)) (first | (with_reducible assumption) | (go_keep; done)) (first
    | (go_at_call 9
       refine (toModelC a0 _ (by exact I0.out.up (AZ.out.1.drew)) nz nw Hr.out nb).mono ?_; rintro e w17 ⟨gz17, gw17, gb17, ys17, rfl, hg17, c17, b17⟩
       have b17' : Below w16.heap.size w16 w17 := Below.trans (by (repeat' (first | (with_reducible exact Below.refl _ _) | (with_reducible assumption) | (with_reducible refine below_dn ?_ _) | (with_reducible refine Below.drew ?_) | (with_reducible refine Below.alloc ?_ ?_ _) | (with_reducible refine Below.setCell ?_ ?_ _) | go_size))) (b17.mono (by simp <;> omega))
       clear b17
       have b17 := b17'; clear b17'
       have AZ' := Lib.hid (AZ.out.below b17); clear AZ; have AZ := AZ'; clear AZ'
       have R10' := Lib.hid (R10.out.below b17); clear R10; have R10 := R10'; clear R10'
       have C11' := Lib.hid (C11.out.below b17); clear C11; have C11 := C11'; clear C11'
       have VM' := Lib.hid (VM.out.below b17 VM.out.lt); clear VM; have VM := VM'; clear VM'
       have O12' := Lib.hid (O12.out.below b17 O12.out.lt); clear O12; have O12 := O12'; clear O12'
       have VP' := Lib.hid (VP.out.below b17 VP.out.lt); clear VP; have VP := VP'; clear VP'
       have O13' := Lib.hid (O13.out.below b17 O13.out.lt); clear O13; have O13 := O13'; clear O13'
       have R15' := Lib.hid (R15.out.below b17); clear R15; have R15 := R15'; clear R15'
       have sz17 : w16.heap.size ≤ w17.heap.size := b17.size
       have ga17 : w16.heap.size ≤ gz17 := hg17
       have gw17_ : gz17 < gw17 ∧ gw17 < gb17 ∧ gb17 < w17.heap.size := ⟨c17.1, c17.2.1.2.2.1, c17.2.2.2.lt⟩
       have C17 := Lib.hid c17; clear c17 hg17
       clear b17
       have HS17 : w17.cell? ⟨w11.heap.size, 0, none⟩ = some (.slice (some ⟨gz11, 0, none⟩) a0.zones.length a0.zones.length) ∧ w17.cell? ⟨w11.heap.size, 1, none⟩ = some (.slice (some ⟨gw11, 0, none⟩) a0.rows.length a0.rows.length) ∧ w17.cell? ⟨w11.heap.size, 2, none⟩ = some (.slice (some ⟨gb11, 0, none⟩) a0.base.length a0.base.length) ∧ w17.cell? ⟨w.heap.size, 0, none⟩ = some (a0.zv) ∧ w17.cell? ⟨w.heap.size, 1, none⟩ = some (a0.wv) ∧ w17.cell? ⟨w.heap.size, 2, none⟩ = some (a0.bv) := ⟨VM.out.cell 0, VM.out.cell 1, VM.out.cell 2, AZ.out.m0, AZ.out.m1, AZ.out.m2⟩)
    | (go_at_call 15
       refine (eqModelC _ _ _ _ _ _ _ _ _ a0 C11.out C17.out nz nw Hr.out nb).mono ?_; rintro e w18 ⟨rfl, b18⟩
       have AZ' := Lib.hid (AZ.out.below b18); clear AZ; have AZ := AZ'; clear AZ'
       have R10' := Lib.hid (R10.out.below b18); clear R10; have R10 := R10'; clear R10'
       have C11' := Lib.hid (C11.out.below b18); clear C11; have C11 := C11'; clear C11'
       have VM' := Lib.hid (VM.out.below b18 VM.out.lt); clear VM; have VM := VM'; clear VM'
       have O12' := Lib.hid (O12.out.below b18 O12.out.lt); clear O12; have O12 := O12'; clear O12'
       have VP' := Lib.hid (VP.out.below b18 VP.out.lt); clear VP; have VP := VP'; clear VP'
       have O13' := Lib.hid (O13.out.below b18 O13.out.lt); clear O13; have O13 := O13'; clear O13'
       have R15' := Lib.hid (R15.out.below b18); clear R15; have R15 := R15'; clear R15'
       have C17' := Lib.hid (C17.out.below b18); clear C17; have C17 := C17'; clear C17'
       have sz18 : w17.heap.size ≤ w18.heap.size := b18.size
       clear b18
       have HS18 : w18.cell? ⟨w11.heap.size, 0, none⟩ = some (.slice (some ⟨gz11, 0, none⟩) a0.zones.length a0.zones.length) ∧ w18.cell? ⟨w11.heap.size, 1, none⟩ = some (.slice (some ⟨gw11, 0, none⟩) a0.rows.length a0.rows.length) ∧ w18.cell? ⟨w11.heap.size, 2, none⟩ = some (.slice (some ⟨gb11, 0, none⟩) a0.base.length a0.base.length) ∧ w18.cell? ⟨w.heap.size, 0, none⟩ = some (a0.zv) ∧ w18.cell? ⟨w.heap.size, 1, none⟩ = some (a0.wv) ∧ w18.cell? ⟨w.heap.size, 2, none⟩ = some (a0.bv) := ⟨VM.out.cell 0, VM.out.cell 1, VM.out.cell 2, AZ.out.m0, AZ.out.m1, AZ.out.m2⟩))
  clear n0_0 n0_1 n0_2 l0 n1_0 n1_1 n1_2 l1 HS18
  clear C17
  have n0_0 : w18.cell? ⟨w12.heap.size, 0, none⟩ = some (.string a1.name) := VP.out.cell 0
  have n0_1 : w18.cell? ⟨w12.heap.size, 1, none⟩ = some (.slice (some ⟨g12, 0, none⟩) a1.rings.length a1.rings.length) := VP.out.cell 1
  have l0 := VP.out.lt
  have n1_0 : w18.cell? ⟨W1.heap.size, 0, none⟩ = some (.string a1.name) := AZ.out.p0
  have n1_1 : w18.cell? ⟨W1.heap.size, 1, none⟩ = some (a1.list) := AZ.out.p1
  have l1 := AZ.out.lp
  go_wp2_with fail
  go_region_held3 (fun w' => w'.cell? ⟨w12.heap.size, 0, none⟩ = some (.string a1.name) ∧ w'.cell? ⟨w12.heap.size, 1, none⟩ = some (.slice (some ⟨g12, 0, none⟩) a1.rings.length a1.rings.length) ∧ w'.cell? ⟨W1.heap.size, 0, none⟩ = some (.string a1.name) ∧ w'.cell? ⟨W1.heap.size, 1, none⟩ = some (a1.list)) (first | (with_reducible assumption) | (go_keep; done)) (first
    | (go_at_call 10
       refine (toProfile a1 _ (by exact I1.out.2.1.up (AZ.out.1.drew)) np).mono ?_; rintro e w19 ⟨g19, rfl, hg19, o19, b19⟩
       have b19' : Below w18.heap.size w18 w19 := Below.trans (by (repeat' (first | (with_reducible exact Below.refl _ _) | (with_reducible assumption) | (with_reducible refine below_dn ?_ _) | (with_reducible refine Below.drew ?_) | (with_reducible refine Below.alloc ?_ ?_ _) | (with_reducible refine Below.setCell ?_ ?_ _) | go_size))) (b19.mono (by simp <;> omega))
       clear b19
       have b19 := b19'; clear b19'
       have AZ' := Lib.hid (AZ.out.below b19); clear AZ; have AZ := AZ'; clear AZ'
       have R10' := Lib.hid (R10.out.below b19); clear R10; have R10 := R10'; clear R10'
       have C11' := Lib.hid (C11.out.below b19); clear C11; have C11 := C11'; clear C11'
       have VM' := Lib.hid (VM.out.below b19 VM.out.lt); clear VM; have VM := VM'; clear VM'
       have O12' := Lib.hid (O12.out.below b19 O12.out.lt); clear O12; have O12 := O12'; clear O12'
       have VP' := Lib.hid (VP.out.below b19 VP.out.lt); clear VP; have VP := VP'; clear VP'
       have O13' := Lib.hid (O13.out.below b19 O13.out.lt); clear O13; have O13 := O13'; clear O13'
       have R15' := Lib.hid (R15.out.below b19); clear R15; have R15 := R15'; clear R15'
       have sz19 : w18.heap.size ≤ w19.heap.size := b19.size
       have ga19 : w18.heap.size ≤ g19 := by first | exact hg19 | (have := hg19; simp at this; omega)
       have gb19 : g19 < w19.heap.size := o19.lt
       have O19 := Lib.hid o19; clear o19 hg19
       clear b19
       have HS19 : w19.cell? ⟨w12.heap.size, 0, none⟩ = some (.string a1.name) ∧ w19.cell? ⟨w12.heap.size, 1, none⟩ = some (.slice (some ⟨g12, 0, none⟩) a1.rings.length a1.rings.length) ∧ w19.cell? ⟨W1.heap.size, 0, none⟩ = some (.string a1.name) ∧ w19.cell? ⟨W1.heap.size, 1, none⟩ = some (a1.list) := ⟨VP.out.cell 0, VP.out.cell 1, AZ.out.p0, AZ.out.p1⟩)
    | (go_at_call 16
       refine (eqProfile a1 _ _ _ (own_ring O12.out np) (own_ring O19.out np) np).mono ?_; rintro e w20 ⟨rfl, b20⟩
       have AZ' := Lib.hid (AZ.out.below b20); clear AZ; have AZ := AZ'; clear AZ'
       have R10' := Lib.hid (R10.out.below b20); clear R10; have R10 := R10'; clear R10'
       have C11' := Lib.hid (C11.out.below b20); clear C11; have C11 := C11'; clear C11'
       have VM' := Lib.hid (VM.out.below b20 VM.out.lt); clear VM; have VM := VM'; clear VM'
       have O12' := Lib.hid (O12.out.below b20 O12.out.lt); clear O12; have O12 := O12'; clear O12'
       have VP' := Lib.hid (VP.out.below b20 VP.out.lt); clear VP; have VP := VP'; clear VP'
       have O13' := Lib.hid (O13.out.below b20 O13.out.lt); clear O13; have O13 := O13'; clear O13'
       have R15' := Lib.hid (R15.out.below b20); clear R15; have R15 := R15'; clear R15'
       have O19' := Lib.hid (O19.out.below b20 O19.out.lt); clear O19; have O19 := O19'; clear O19'
       have sz20 : w19.heap.size ≤ w20.heap.size := b20.size
       clear b20
       have HS20 : w20.cell? ⟨w12.heap.size, 0, none⟩ = some (.string a1.name) ∧ w20.cell? ⟨w12.heap.size, 1, none⟩ = some (.slice (some ⟨g12, 0, none⟩) a1.rings.length a1.rings.length) ∧ w20.cell? ⟨W1.heap.size, 0, none⟩ = some (.string a1.name) ∧ w20.cell? ⟨W1.heap.size, 1, none⟩ = some (a1.list) := ⟨VP.out.cell 0, VP.out.cell 1, AZ.out.p0, AZ.out.p1⟩))
  clear n0_0 n0_1 l0 n1_0 n1_1 l1 HS20
  clear O19
  go_wp2_with fail
  refine (toCutS _ v3 x3 (by exact I3.out.up AZ.out.1) nc).mono ?_; rintro e w21 ⟨g21, rfl, hg21, o21, b21⟩
  have AZ' := Lib.hid (AZ.out.below b21); clear AZ; have AZ := AZ'; clear AZ'
  have R10' := Lib.hid (R10.out.below b21); clear R10; have R10 := R10'; clear R10'
  have C11' := Lib.hid (C11.out.below b21); clear C11; have C11 := C11'; clear C11'
  have VM' := Lib.hid (VM.out.below b21 VM.out.lt); clear VM; have VM := VM'; clear VM'
  have O12' := Lib.hid (O12.out.below b21 O12.out.lt); clear O12; have O12 := O12'; clear O12'
  have VP' := Lib.hid (VP.out.below b21 VP.out.lt); clear VP; have VP := VP'; clear VP'
  have O13' := Lib.hid (O13.out.below b21 O13.out.lt); clear O13; have O13 := O13'; clear O13'
  have R15' := Lib.hid (R15.out.below b21); clear R15; have R15 := R15'; clear R15'
  have sz21 : w20.heap.size ≤ w21.heap.size := b21.size
  have ga21 : w20.heap.size ≤ g21 := by first | exact hg21 | (have := hg21; simp at this; omega)
  have gb21 : g21 < w21.heap.size := o21.lt
  have O21 := Lib.hid o21; clear o21 hg21
  clear b21
  go_wp2_with fail
  refine (eqCutS _ _ _ x3 (O13.out.rd O13.out.lt (Cut_len x3) (by unfold maxLen; omega) _ (Nat.le_refl _) (by unfold maxLen; omega)) (O21.out.rd O21.out.lt (Cut_len x3) (by unfold maxLen; omega) _ (Nat.le_refl _) (by unfold maxLen; omega)) nc).mono ?_; rintro e w22 ⟨rfl, b22⟩
  have AZ' := Lib.hid (AZ.out.below b22); clear AZ; have AZ := AZ'; clear AZ'
  have R10' := Lib.hid (R10.out.below b22); clear R10; have R10 := R10'; clear R10'
  have C11' := Lib.hid (C11.out.below b22); clear C11; have C11 := C11'; clear C11'
  have VM' := Lib.hid (VM.out.below b22 VM.out.lt); clear VM; have VM := VM'; clear VM'
  have O12' := Lib.hid (O12.out.below b22 O12.out.lt); clear O12; have O12 := O12'; clear O12'
  have VP' := Lib.hid (VP.out.below b22 VP.out.lt); clear VP; have VP := VP'; clear VP'
  have O13' := Lib.hid (O13.out.below b22 O13.out.lt); clear O13; have O13 := O13'; clear O13'
  have R15' := Lib.hid (R15.out.below b22); clear R15; have R15 := R15'; clear R15'
  have O21' := Lib.hid (O21.out.below b22 O21.out.lt); clear O21; have O21 := O21'; clear O21'
  have sz22 : w21.heap.size ≤ w22.heap.size := b22.size
  clear b22
  clear O21
  -- the marks
  have n0_0 : w22.cell? ⟨w11.heap.size, 0, none⟩ = some (.slice (some ⟨gz11, 0, none⟩) a0.zones.length a0.zones.length) := VM.out.cell 0
  have n0_1 : w22.cell? ⟨w11.heap.size, 1, none⟩ = some (.slice (some ⟨gw11, 0, none⟩) a0.rows.length a0.rows.length) := VM.out.cell 1
  have n0_2 : w22.cell? ⟨w11.heap.size, 2, none⟩ = some (.slice (some ⟨gb11, 0, none⟩) a0.base.length a0.base.length) := VM.out.cell 2
  have l0 := VM.out.lt
  go_wp2_with fail
  refine (mA (c := 3145729) (markModelC _ _ _ _ _ _ a0 (by exact C11.out) nz nw nr nb (by omega) (by omega)) (by omega) (by omega)).mono ?_; rintro e w23 ⟨q23, rfl, qa23, qb23, t23⟩
  have sz23 := t23.size
  have AZ' := Lib.hid (AZ.out.turn t23 (by omega) (by omega) (by omega) (by omega)); clear AZ; have AZ := AZ'; clear AZ'
  have R10' := Lib.hid (R10.out.turn t23 (by omega)); clear R10; have R10 := R10'; clear R10'
  have VM' := Lib.hid (VM.out.turn t23 (by omega)); clear VM; have VM := VM'; clear VM'
  have O12' := Lib.hid (O12.out.turn t23 (by omega)); clear O12; have O12 := O12'; clear O12'
  have VP' := Lib.hid (VP.out.turn t23 (by omega)); clear VP; have VP := VP'; clear VP'
  have O13' := Lib.hid (O13.out.turn t23 (by omega)); clear O13; have O13 := O13'; clear O13'
  have R15' := Lib.hid (R15.out.turn t23 (by omega)); clear R15; have R15 := R15'; clear R15'
  clear t23
  have tk : decide (q23 < (0 : Int)) = false := decide_eq_false (by omega)
  clear n0_0 n0_1 n0_2 l0 C11
  clear VM
  have n0_0 : w23.cell? ⟨w12.heap.size, 0, none⟩ = some (.string a1.name) := VP.out.cell 0
  have n0_1 : w23.cell? ⟨w12.heap.size, 1, none⟩ = some (.slice (some ⟨g12, 0, none⟩) a1.rings.length a1.rings.length) := VP.out.cell 1
  have l0 := VP.out.lt
  go_wp2_with fail
  have hp12 := O12.out.lt
  refine (mA (c := 6291457) (markProfileR _ _ g12 (g12 + 1) _ _ _ _ _ (Held.of_own (by exact O12.out) (Ring_len a1.rings) (by unfold maxLen; omega)) (by omega) np (by omega) (by omega)) (by omega) (by omega)).mono ?_; rintro e w24 ⟨q24, rfl, qa24, qb24, t24⟩
  have sz24 := t24.size
  have AZ' := Lib.hid (AZ.out.turn t24 (by omega) (by omega) (by omega) (by omega)); clear AZ; have AZ := AZ'; clear AZ'
  have R10' := Lib.hid (R10.out.turn t24 (by omega)); clear R10; have R10 := R10'; clear R10'
  have VP' := Lib.hid (VP.out.turn t24 (by omega)); clear VP; have VP := VP'; clear VP'
  have O13' := Lib.hid (O13.out.turn t24 (by omega)); clear O13; have O13 := O13'; clear O13'
  have R15' := Lib.hid (R15.out.turn t24 (by omega)); clear R15; have R15 := R15'; clear R15'
  clear t24
  have tk : decide (q24 < (0 : Int)) = false := decide_eq_false (by omega)
  clear n0_0 n0_1 l0 O12 VP hp12
  go_wp2_with fail
  refine (mA3 (c := 8388609) (markCutS _ _ g13 (g13 + 1) _ _ _ (Held.of_own (by exact O13.out) (Cut_len x3) (by unfold maxLen; omega)) nc (by omega) (by omega)) (by omega) (by omega)).mono ?_; rintro e w25 ⟨q25, rfl, qa25, qb25, t25⟩
  have sz25 := t25.size
  have AZ' := Lib.hid (AZ.out.turn t25 (by omega) (by omega) (by omega) (by omega)); clear AZ; have AZ := AZ'; clear AZ'
  have R10' := Lib.hid (R10.out.turn t25 (by omega)); clear R10; have R10 := R10'; clear R10'
  have R15' := Lib.hid (R15.out.turn t25 (by omega)); clear R15; have R15 := R15'; clear R15'
  clear t25
  have tk : decide (q25 < (0 : Int)) = false := decide_eq_false (by omega)
  clear O13
  go_wp2_with fail
  refine (eqInt64S _ _ _ _ _ L L (by exact R15.out.rd) (by exact R10.out.rd) hnL hnL rfl).mono ?_; rintro e w26 ⟨rfl, d26⟩; have b26 := d26.below (B := w25.heap.size); clear d26
  have AZ' := Lib.hid (AZ.out.below b26); clear AZ; have AZ := AZ'; clear AZ'
  have R10' := Lib.hid (R10.out.below b26); clear R10; have R10 := R10'; clear R10'
  have R15' := Lib.hid (R15.out.below b26); clear R15; have R15 := R15'; clear R15'
  have sz26 : w25.heap.size ≤ w26.heap.size := b26.size
  clear b26
  obtain ⟨mm, hmm, hm1⟩ : ∃ mm : Int, 1 + 1 * ((L.length : Nat) : Int) = mm ∧ 1 ≤ mm := ⟨_, rfl, by omega⟩
  have tm : decide (mm < (0 : Int)) = false := decide_eq_false (by omega)
  have HMM := Lib.hid hmm; clear hmm
  go_wp2_with fail
  refine (toM (markInt64S _ _ _ _ _ _ _ (by exact R15.out) hnL (by omega) (by omega)) HMM.out).mono ?_; rintro e w27 ⟨rfl, t27, o27⟩
  have sz27 := t27.size
  have AZ' := Lib.hid (AZ.out.turn t27 (by omega) (by omega) (by omega) (by omega)); clear AZ; have AZ := AZ'; clear AZ'
  have R10' := Lib.hid (R10.out.turn t27 (by omega)); clear R10; have R10 := R10'; clear R10'
  have R27 := Lib.hid o27; clear o27 t27 R15
  go_wp2_with fail
  refine (toM (heldInt64S _ _ _ _ (by exact R27.out.rd) hnL (by omega) (by omega)) HMM.out).mono ?_; rintro e w28 ⟨rfl, b28⟩
  have AZ' := Lib.hid (AZ.out.below b28); clear AZ; have AZ := AZ'; clear AZ'
  have R10' := Lib.hid (R10.out.below b28); clear R10; have R10 := R10'; clear R10'
  have R27' := Lib.hid (R27.out.below b28); clear R27; have R27 := R27'; clear R27'
  have sz28 : w27.heap.size ≤ w28.heap.size := b28.size
  clear b28
  -- the second call
  have n0_0 : w28.cell? ⟨w.heap.size, 0, none⟩ = some (a0.zv) := AZ.out.m0
  have n0_1 : w28.cell? ⟨w.heap.size, 1, none⟩ = some (a0.wv) := AZ.out.m1
  have n0_2 : w28.cell? ⟨w.heap.size, 2, none⟩ = some (a0.bv) := AZ.out.m2
  have l0 := AZ.out.lm
  have n1_0 : w28.cell? ⟨W1.heap.size, 0, none⟩ = some (.string a1.name) := AZ.out.p0
  have n1_1 : w28.cell? ⟨W1.heap.size, 1, none⟩ = some (a1.list) := AZ.out.p1
  have l1 := AZ.out.lp
  have n2_0 : w28.cell? ⟨W2.heap.size, 0, none⟩ = some (.int .i64 a2.a) := AZ.out.q0
  have n2_1 : w28.cell? ⟨W2.heap.size, 1, none⟩ = some (.int .i64 a2.b) := AZ.out.q1
  have n2_2 : w28.cell? ⟨W2.heap.size, 2, none⟩ = some (.int .i64 a2.c) := AZ.out.q2
  have n2_3 : w28.cell? ⟨W2.heap.size, 3, none⟩ = some (.int .i64 a2.d) := AZ.out.q3
  have n2_4 : w28.cell? ⟨W2.heap.size, 4, none⟩ = some (.int .i64 a2.e) := AZ.out.q4
  have n2_5 : w28.cell? ⟨W2.heap.size, 5, none⟩ = some (.int .i64 a2.tol) := AZ.out.q5
  have n2_6 : w28.cell? ⟨W2.heap.size, 6, none⟩ = some (.int .i64 a2.most) := AZ.out.q6
  have l2 := AZ.out.lq
  go_wp2_with fail
  go_region_held3 (fun w' => w'.cell? ⟨w.heap.size, 0, none⟩ = some (a0.zv) ∧ w'.cell? ⟨w.heap.size, 1, none⟩ = some (a0.wv) ∧ w'.cell? ⟨w.heap.size, 2, none⟩ = some (a0.bv) ∧ w'.cell? ⟨W1.heap.size, 0, none⟩ = some (.string a1.name) ∧ w'.cell? ⟨W1.heap.size, 1, none⟩ = some (a1.list) ∧ w'.cell? ⟨W2.heap.size, 0, none⟩ = some (.int .i64 a2.a) ∧ w'.cell? ⟨W2.heap.size, 1, none⟩ = some (.int .i64 a2.b) ∧ w'.cell? ⟨W2.heap.size, 2, none⟩ = some (.int .i64 a2.c) ∧ w'.cell? ⟨W2.heap.size, 3, none⟩ = some (.int .i64 a2.d) ∧ w'.cell? ⟨W2.heap.size, 4, none⟩ = some (.int .i64 a2.e) ∧ w'.cell? ⟨W2.heap.size, 5, none⟩ = some (.int .i64 a2.tol) ∧ w'.cell? ⟨W2.heap.size, 6, none⟩ = some (.int .i64 a2.most)) (first | (with_reducible assumption) | (go_keep; done)) (first
    | (go_at_call 9
       refine (toModelC a0 _ (by exact I0.out.up (AZ.out.1.drew)) nz nw Hr.out nb).mono ?_; rintro e w29 ⟨gz29, gw29, gb29, ys29, rfl, hg29, c29, b29⟩
       have b29' : Below w28.heap.size w28 w29 := Below.trans (by (repeat' (first | (with_reducible exact Below.refl _ _) | (with_reducible assumption) | (with_reducible refine below_dn ?_ _) | (with_reducible refine Below.drew ?_) | (with_reducible refine Below.alloc ?_ ?_ _) | (with_reducible refine Below.setCell ?_ ?_ _) | go_size))) (b29.mono (by simp <;> omega))
       clear b29
       have b29 := b29'; clear b29'
       have AZ' := Lib.hid (AZ.out.below b29); clear AZ; have AZ := AZ'; clear AZ'
       have R10' := Lib.hid (R10.out.below b29); clear R10; have R10 := R10'; clear R10'
       have R27' := Lib.hid (R27.out.below b29); clear R27; have R27 := R27'; clear R27'
       have sz29 : w28.heap.size ≤ w29.heap.size := b29.size
       have ga29 : w28.heap.size ≤ gz29 := hg29
       have gw29_ : gz29 < gw29 ∧ gw29 < gb29 ∧ gb29 < w29.heap.size := ⟨c29.1, c29.2.1.2.2.1, c29.2.2.2.lt⟩
       have C29 := Lib.hid c29; clear c29 hg29
       clear b29
       have HS29 : w29.cell? ⟨w.heap.size, 0, none⟩ = some (a0.zv) ∧ w29.cell? ⟨w.heap.size, 1, none⟩ = some (a0.wv) ∧ w29.cell? ⟨w.heap.size, 2, none⟩ = some (a0.bv) ∧ w29.cell? ⟨W1.heap.size, 0, none⟩ = some (.string a1.name) ∧ w29.cell? ⟨W1.heap.size, 1, none⟩ = some (a1.list) ∧ w29.cell? ⟨W2.heap.size, 0, none⟩ = some (.int .i64 a2.a) ∧ w29.cell? ⟨W2.heap.size, 1, none⟩ = some (.int .i64 a2.b) ∧ w29.cell? ⟨W2.heap.size, 2, none⟩ = some (.int .i64 a2.c) ∧ w29.cell? ⟨W2.heap.size, 3, none⟩ = some (.int .i64 a2.d) ∧ w29.cell? ⟨W2.heap.size, 4, none⟩ = some (.int .i64 a2.e) ∧ w29.cell? ⟨W2.heap.size, 5, none⟩ = some (.int .i64 a2.tol) ∧ w29.cell? ⟨W2.heap.size, 6, none⟩ = some (.int .i64 a2.most) := ⟨AZ.out.m0, AZ.out.m1, AZ.out.m2, AZ.out.p0, AZ.out.p1, AZ.out.q0, AZ.out.q1, AZ.out.q2, AZ.out.q3, AZ.out.q4, AZ.out.q5, AZ.out.q6⟩)
    | (go_at_call 10
       refine (toProfile a1 _ (by exact I1.out.2.1.up AZ.out.1) np).mono ?_; rintro e w30 ⟨g30, rfl, hg30, o30, b30⟩
       have AZ' := Lib.hid (AZ.out.below b30); clear AZ; have AZ := AZ'; clear AZ'
       have R10' := Lib.hid (R10.out.below b30); clear R10; have R10 := R10'; clear R10'
       have R27' := Lib.hid (R27.out.below b30); clear R27; have R27 := R27'; clear R27'
       have C29' := Lib.hid (C29.out.below b30); clear C29; have C29 := C29'; clear C29'
       have sz30 : w29.heap.size ≤ w30.heap.size := b30.size
       have ga30 : w29.heap.size ≤ g30 := by first | exact hg30 | (have := hg30; simp at this; omega)
       have gb30 : g30 < w30.heap.size := o30.lt
       have O30 := Lib.hid o30; clear o30 hg30
       clear b30
       have HS30 : w30.cell? ⟨w.heap.size, 0, none⟩ = some (a0.zv) ∧ w30.cell? ⟨w.heap.size, 1, none⟩ = some (a0.wv) ∧ w30.cell? ⟨w.heap.size, 2, none⟩ = some (a0.bv) ∧ w30.cell? ⟨W1.heap.size, 0, none⟩ = some (.string a1.name) ∧ w30.cell? ⟨W1.heap.size, 1, none⟩ = some (a1.list) ∧ w30.cell? ⟨W2.heap.size, 0, none⟩ = some (.int .i64 a2.a) ∧ w30.cell? ⟨W2.heap.size, 1, none⟩ = some (.int .i64 a2.b) ∧ w30.cell? ⟨W2.heap.size, 2, none⟩ = some (.int .i64 a2.c) ∧ w30.cell? ⟨W2.heap.size, 3, none⟩ = some (.int .i64 a2.d) ∧ w30.cell? ⟨W2.heap.size, 4, none⟩ = some (.int .i64 a2.e) ∧ w30.cell? ⟨W2.heap.size, 5, none⟩ = some (.int .i64 a2.tol) ∧ w30.cell? ⟨W2.heap.size, 6, none⟩ = some (.int .i64 a2.most) := ⟨AZ.out.m0, AZ.out.m1, AZ.out.m2, AZ.out.p0, AZ.out.p1, AZ.out.q0, AZ.out.q1, AZ.out.q2, AZ.out.q3, AZ.out.q4, AZ.out.q5, AZ.out.q6⟩)
    | (go_at_call 11
       refine (toGoal a2 _).mono ?_; rintro e w31 ⟨rfl, b31⟩
       have AZ' := Lib.hid (AZ.out.below b31); clear AZ; have AZ := AZ'; clear AZ'
       have R10' := Lib.hid (R10.out.below b31); clear R10; have R10 := R10'; clear R10'
       have R27' := Lib.hid (R27.out.below b31); clear R27; have R27 := R27'; clear R27'
       have C29' := Lib.hid (C29.out.below b31); clear C29; have C29 := C29'; clear C29'
       have O30' := Lib.hid (O30.out.below b31 O30.out.lt); clear O30; have O30 := O30'; clear O30'
       have sz31 : w30.heap.size ≤ w31.heap.size := b31.size
       clear b31
       have HS31 : w31.cell? ⟨w.heap.size, 0, none⟩ = some (a0.zv) ∧ w31.cell? ⟨w.heap.size, 1, none⟩ = some (a0.wv) ∧ w31.cell? ⟨w.heap.size, 2, none⟩ = some (a0.bv) ∧ w31.cell? ⟨W1.heap.size, 0, none⟩ = some (.string a1.name) ∧ w31.cell? ⟨W1.heap.size, 1, none⟩ = some (a1.list) ∧ w31.cell? ⟨W2.heap.size, 0, none⟩ = some (.int .i64 a2.a) ∧ w31.cell? ⟨W2.heap.size, 1, none⟩ = some (.int .i64 a2.b) ∧ w31.cell? ⟨W2.heap.size, 2, none⟩ = some (.int .i64 a2.c) ∧ w31.cell? ⟨W2.heap.size, 3, none⟩ = some (.int .i64 a2.d) ∧ w31.cell? ⟨W2.heap.size, 4, none⟩ = some (.int .i64 a2.e) ∧ w31.cell? ⟨W2.heap.size, 5, none⟩ = some (.int .i64 a2.tol) ∧ w31.cell? ⟨W2.heap.size, 6, none⟩ = some (.int .i64 a2.most) := ⟨AZ.out.m0, AZ.out.m1, AZ.out.m2, AZ.out.p0, AZ.out.p1, AZ.out.q0, AZ.out.q1, AZ.out.q2, AZ.out.q3, AZ.out.q4, AZ.out.q5, AZ.out.q6⟩)
    | (go_at_call 12
       refine (toCutS _ v3 x3 (by exact I3.out.up AZ.out.1) nc).mono ?_; rintro e w32 ⟨g32, rfl, hg32, o32, b32⟩
       have AZ' := Lib.hid (AZ.out.below b32); clear AZ; have AZ := AZ'; clear AZ'
       have R10' := Lib.hid (R10.out.below b32); clear R10; have R10 := R10'; clear R10'
       have R27' := Lib.hid (R27.out.below b32); clear R27; have R27 := R27'; clear R27'
       have C29' := Lib.hid (C29.out.below b32); clear C29; have C29 := C29'; clear C29'
       have O30' := Lib.hid (O30.out.below b32 O30.out.lt); clear O30; have O30 := O30'; clear O30'
       have sz32 : w31.heap.size ≤ w32.heap.size := b32.size
       have ga32 : w31.heap.size ≤ g32 := by first | exact hg32 | (have := hg32; simp at this; omega)
       have gb32 : g32 < w32.heap.size := o32.lt
       have O32 := Lib.hid o32; clear o32 hg32
       clear b32
       have HS32 : w32.cell? ⟨w.heap.size, 0, none⟩ = some (a0.zv) ∧ w32.cell? ⟨w.heap.size, 1, none⟩ = some (a0.wv) ∧ w32.cell? ⟨w.heap.size, 2, none⟩ = some (a0.bv) ∧ w32.cell? ⟨W1.heap.size, 0, none⟩ = some (.string a1.name) ∧ w32.cell? ⟨W1.heap.size, 1, none⟩ = some (a1.list) ∧ w32.cell? ⟨W2.heap.size, 0, none⟩ = some (.int .i64 a2.a) ∧ w32.cell? ⟨W2.heap.size, 1, none⟩ = some (.int .i64 a2.b) ∧ w32.cell? ⟨W2.heap.size, 2, none⟩ = some (.int .i64 a2.c) ∧ w32.cell? ⟨W2.heap.size, 3, none⟩ = some (.int .i64 a2.d) ∧ w32.cell? ⟨W2.heap.size, 4, none⟩ = some (.int .i64 a2.e) ∧ w32.cell? ⟨W2.heap.size, 5, none⟩ = some (.int .i64 a2.tol) ∧ w32.cell? ⟨W2.heap.size, 6, none⟩ = some (.int .i64 a2.most) := ⟨AZ.out.m0, AZ.out.m1, AZ.out.m2, AZ.out.p0, AZ.out.p1, AZ.out.q0, AZ.out.q1, AZ.out.q2, AZ.out.q3, AZ.out.q4, AZ.out.q5, AZ.out.q6⟩)
    | (go_at_call 13
       refine (HI.out _ _ _ _ _ _ _ C29.out O30.out O32.out).mono ?_; rintro e w33 ⟨⟨r33, rfl, o33⟩, b33⟩
       have AZ' := Lib.hid (AZ.out.below b33); clear AZ; have AZ := AZ'; clear AZ'
       have R10' := Lib.hid (R10.out.below b33); clear R10; have R10 := R10'; clear R10'
       have R27' := Lib.hid (R27.out.below b33); clear R27; have R27 := R27'; clear R27'
       have C29' := Lib.hid (C29.out.below b33); clear C29; have C29 := C29'; clear C29'
       have O30' := Lib.hid (O30.out.below b33 O30.out.lt); clear O30; have O30 := O30'; clear O30'
       have O32' := Lib.hid (O32.out.below b33 O32.out.lt); clear O32; have O32 := O32'; clear O32'
       have sz33 : w32.heap.size ≤ w33.heap.size := b33.size
       obtain ⟨ra33, rc33, rfl⟩ := (own_rd o33).form
       have R33 := Lib.hid (Held.of_row o33); clear o33
       clear b33
       have HS33 : w33.cell? ⟨w.heap.size, 0, none⟩ = some (a0.zv) ∧ w33.cell? ⟨w.heap.size, 1, none⟩ = some (a0.wv) ∧ w33.cell? ⟨w.heap.size, 2, none⟩ = some (a0.bv) ∧ w33.cell? ⟨W1.heap.size, 0, none⟩ = some (.string a1.name) ∧ w33.cell? ⟨W1.heap.size, 1, none⟩ = some (a1.list) ∧ w33.cell? ⟨W2.heap.size, 0, none⟩ = some (.int .i64 a2.a) ∧ w33.cell? ⟨W2.heap.size, 1, none⟩ = some (.int .i64 a2.b) ∧ w33.cell? ⟨W2.heap.size, 2, none⟩ = some (.int .i64 a2.c) ∧ w33.cell? ⟨W2.heap.size, 3, none⟩ = some (.int .i64 a2.d) ∧ w33.cell? ⟨W2.heap.size, 4, none⟩ = some (.int .i64 a2.e) ∧ w33.cell? ⟨W2.heap.size, 5, none⟩ = some (.int .i64 a2.tol) ∧ w33.cell? ⟨W2.heap.size, 6, none⟩ = some (.int .i64 a2.most) := ⟨AZ.out.m0, AZ.out.m1, AZ.out.m2, AZ.out.p0, AZ.out.p1, AZ.out.q0, AZ.out.q1, AZ.out.q2, AZ.out.q3, AZ.out.q4, AZ.out.q5, AZ.out.q6⟩))
  clear n0_0 n0_1 n0_2 l0 n1_0 n1_1 l1 n2_0 n2_1 n2_2 n2_3 n2_4 n2_5 n2_6 l2 HS33
  clear C29 O30 O32
  go_wp2_with fail
  refine (eqInt64S _ _ _ _ _ L L (by exact R33.out.rd) (by exact R10.out.rd) hnL hnL rfl).mono ?_; rintro e w34 ⟨rfl, d34⟩; have b34 := d34.below (B := w33.heap.size); clear d34
  have AZ' := Lib.hid (AZ.out.below b34); clear AZ; have AZ := AZ'; clear AZ'
  have R10' := Lib.hid (R10.out.below b34); clear R10; have R10 := R10'; clear R10'
  have R27' := Lib.hid (R27.out.below b34); clear R27; have R27 := R27'; clear R27'
  have R33' := Lib.hid (R33.out.below b34); clear R33; have R33 := R33'; clear R33'
  have sz34 : w33.heap.size ≤ w34.heap.size := b34.size
  clear b34
  go_wp2_with fail
  refine (toM (heldInt64S _ _ _ _ (by exact R27.out.rd) hnL (by omega) (by omega)) HMM.out).mono ?_; rintro e w35 ⟨rfl, b35⟩
  have AZ' := Lib.hid (AZ.out.below b35); clear AZ; have AZ := AZ'; clear AZ'
  have R10' := Lib.hid (R10.out.below b35); clear R10; have R10 := R10'; clear R10'
  have R27' := Lib.hid (R27.out.below b35); clear R27; have R27 := R27'; clear R27'
  have R33' := Lib.hid (R33.out.below b35); clear R33; have R33 := R33'; clear R33'
  have sz35 : w34.heap.size ≤ w35.heap.size := b35.size
  clear b35
  go_wp2_with fail
  all_goals go_ret
  all_goals exact ⟨rfl, bnext B5.out AZ.out.1⟩
end Go.Proofs.YtcjekailcljaaaaGreat
