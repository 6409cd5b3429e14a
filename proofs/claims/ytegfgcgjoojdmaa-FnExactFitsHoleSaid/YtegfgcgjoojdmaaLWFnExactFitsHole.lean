/- FnExactFitsHole: the law. -/
import Derived.Test.YtegfgcgjoojdmaaRows
import Derived.Test.YtegfgcgjoojdmaaLaw
import Derived.Test.YtegfgcgjoojdmaaFitsHoleT
import Derived.Test.YtegfgcgjoojdmaaHProfile
import Derived.Test.YtegfgcgjoojdmaaHHole
import Derived.Deep.RegionHeld3
namespace Go.Proofs.Ytegfgcgjoojdmaa
open Go.ChangeShapes Go.WideShapes Go.ChangeAt Go.RowKit Go.Deep Go.Joins
set_option linter.unusedVariables false
set_option maxRecDepth 100000
set_option linter.unusedSimpArgs false
set_option maxHeartbeats 1000000 in
theorem FnExactFitsHole_walk (w : World) (a0 : Profile) (k0 : a0.ok w) (a1 : Int) (k1 : I64 a1) (a2 : Hole) (k2 : a2.ok) :
    Calls Try.prog 6 #[.agg #[.string a0.name, a0.list], .int .i64 a1, .agg #[.string a2.name, .int .i64 a2.radius, .int .i64 a2.depth]] w fun e w' => e = .returned (.bool true) ∧ Below w.heap.size w w' := by
  have Hk0 := Lib.hid k0; clear k0
  have Hk2 := Lib.hid k2; clear k2
  by_cases hq0 : (a0.name.size + a0.rings.length) ≤ 1048576
  case neg =>
    have e0 : Hid (szR 1048576 (a0.name.size + a0.rings.length) = -1) := (if_neg (by omega) : szR 1048576 (a0.name.size + a0.rings.length) = -1)
    go_enter Try.func6, Try.ntmps6
    go_wp2_with fail
    refine (szProfile a0 1048576 _ (by exact Hk0.out.up (by (repeat' (first | (with_reducible exact Below.refl _ _) | (with_reducible assumption) | (with_reducible refine below_dn ?_ _) | (with_reducible refine Below.drew ?_) | (with_reducible refine Below.alloc ?_ ?_ _) | (with_reducible refine Below.setCell ?_ ?_ _) | go_size)))) (by omega) (by omega)).mono ?_; rw [e0.out]; rintro e w1 ⟨rfl, b1⟩
    have B1 : Below w.heap.size w w1 := Below.trans (by (repeat' (first | (with_reducible exact Below.refl _ _) | (with_reducible assumption) | (with_reducible refine below_dn ?_ _) | (with_reducible refine Below.drew ?_) | (with_reducible refine Below.alloc ?_ ?_ _) | (with_reducible refine Below.setCell ?_ ?_ _) | go_size))) (b1.mono (by simp <;> omega))
    have VaCavity : Hid (Own w1 (w.heap.size) 51 [.string a0.name, a0.list]) := Lib.hid (((Own.newAt 51 [.string a0.name, a0.list] (by simp)).alloc _).below b1 (by simp <;> omega))
    have VaHole : Hid (Own w1 (w.heap.size + 1) 52 [.string a2.name, .int .i64 a2.radius, .int .i64 a2.depth]) := Lib.hid ((Own.newAt 52 [.string a2.name, .int .i64 a2.radius, .int .i64 a2.depth] (by simp)).below b1 (by simp <;> omega))
    clear b1
    go_wp2_with fail
    go_ret
    exact ⟨rfl, B1⟩
  obtain ⟨z0, hz0, hy0, hy0_⟩ : ∃ z : Int, szR 1048576 (a0.name.size + a0.rings.length) = z ∧ (0 ≤ z ∧ z ≤ 1048576) ∧ z = 1048576 - (((a0.name.size + a0.rings.length) : Nat) : Int) := ⟨_, rfl, by unfold szR; rw [if_pos (by omega)]; omega, by unfold szR; rw [if_pos (by omega)]⟩
  have Hy0 := Lib.hid hy0_; clear hy0_
  have Hz0 := Lib.hid hz0; clear hz0
  have hn0 : a0.rings.length ≤ 1048576 := by omega
  by_cases hq1 : (a0.name.size + a0.rings.length) + a2.name.size ≤ 1048576
  case neg =>
    have e0 : Hid (szR z0 a2.name.size = -1) := (if_neg (by have := Hy0.out; omega) : szR z0 a2.name.size = -1)
    go_enter Try.func6, Try.ntmps6
    go_wp2_with fail
    refine (szProfile a0 1048576 _ (by exact Hk0.out.up (by (repeat' (first | (with_reducible exact Below.refl _ _) | (with_reducible assumption) | (with_reducible refine below_dn ?_ _) | (with_reducible refine Below.drew ?_) | (with_reducible refine Below.alloc ?_ ?_ _) | (with_reducible refine Below.setCell ?_ ?_ _) | go_size)))) (by omega) (by omega)).mono ?_; rw [Hz0.out]; rintro e w1 ⟨rfl, b1⟩
    have B1 : Below w.heap.size w w1 := Below.trans (by (repeat' (first | (with_reducible exact Below.refl _ _) | (with_reducible assumption) | (with_reducible refine below_dn ?_ _) | (with_reducible refine Below.drew ?_) | (with_reducible refine Below.alloc ?_ ?_ _) | (with_reducible refine Below.setCell ?_ ?_ _) | go_size))) (b1.mono (by simp <;> omega))
    have VaCavity : Hid (Own w1 (w.heap.size) 51 [.string a0.name, a0.list]) := Lib.hid (((Own.newAt 51 [.string a0.name, a0.list] (by simp)).alloc _).below b1 (by simp <;> omega))
    have VaHole : Hid (Own w1 (w.heap.size + 1) 52 [.string a2.name, .int .i64 a2.radius, .int .i64 a2.depth]) := Lib.hid ((Own.newAt 52 [.string a2.name, .int .i64 a2.radius, .int .i64 a2.depth] (by simp)).below b1 (by simp <;> omega))
    clear b1
    have naHole0 : w1.cell? ⟨w.heap.size + 1, 0, none⟩ = some (.string a2.name) := VaHole.out.cell 0
    have naHole1 : w1.cell? ⟨w.heap.size + 1, 1, none⟩ = some (.int .i64 a2.radius) := VaHole.out.cell 1
    have naHole2 : w1.cell? ⟨w.heap.size + 1, 2, none⟩ = some (.int .i64 a2.depth) := VaHole.out.cell 2
    have laHole : w.heap.size + 1 < w1.heap.size := VaHole.out.lt
    go_wp2_with fail
    refine (szHole a2 z0 _ (by omega) (by omega) Hk2.out.1).mono ?_; rw [e0.out]; rintro e w2 ⟨rfl, b2⟩
    clear naHole0 naHole1 naHole2 laHole
    have B2 := bnext B1 b2
    have VaCavity' := Lib.hid (VaCavity.out.below b2 VaCavity.out.lt); clear VaCavity; have VaCavity := VaCavity'; clear VaCavity'
    have VaHole' := Lib.hid (VaHole.out.below b2 VaHole.out.lt); clear VaHole; have VaHole := VaHole'; clear VaHole'
    clear B1
    clear b2
    go_wp2_with fail
    go_ret
    exact ⟨rfl, B2⟩
  obtain ⟨z1, hz1, hy1, hy1_⟩ : ∃ z : Int, szR z0 a2.name.size = z ∧ (0 ≤ z ∧ z ≤ 1048576) ∧ z = z0 - ((a2.name.size : Nat) : Int) := ⟨_, rfl, by have := Hy0.out; unfold szR; rw [if_pos (by omega)]; omega, by have := Hy0.out; unfold szR; rw [if_pos (by omega)]⟩
  have Hy1 := Lib.hid hy1_; clear hy1_
  have Hz1 := Lib.hid hz1; clear hz1
  go_enter Try.func6, Try.ntmps6
  go_wp2_with fail
  refine (szProfile a0 1048576 _ (by exact Hk0.out.up (by (repeat' (first | (with_reducible exact Below.refl _ _) | (with_reducible assumption) | (with_reducible refine below_dn ?_ _) | (with_reducible refine Below.drew ?_) | (with_reducible refine Below.alloc ?_ ?_ _) | (with_reducible refine Below.setCell ?_ ?_ _) | go_size)))) (by omega) (by omega)).mono ?_; rw [Hz0.out]; rintro e w1 ⟨rfl, b1⟩
  have B1 : Below w.heap.size w w1 := Below.trans (by (repeat' (first | (with_reducible exact Below.refl _ _) | (with_reducible assumption) | (with_reducible refine below_dn ?_ _) | (with_reducible refine Below.drew ?_) | (with_reducible refine Below.alloc ?_ ?_ _) | (with_reducible refine Below.setCell ?_ ?_ _) | go_size))) (b1.mono (by simp <;> omega))
  have VaCavity : Hid (Own w1 (w.heap.size) 51 [.string a0.name, a0.list]) := Lib.hid (((Own.newAt 51 [.string a0.name, a0.list] (by simp)).alloc _).below b1 (by simp <;> omega))
  have VaHole : Hid (Own w1 (w.heap.size + 1) 52 [.string a2.name, .int .i64 a2.radius, .int .i64 a2.depth]) := Lib.hid ((Own.newAt 52 [.string a2.name, .int .i64 a2.radius, .int .i64 a2.depth] (by simp)).below b1 (by simp <;> omega))
  clear b1
  have naHole0 : w1.cell? ⟨w.heap.size + 1, 0, none⟩ = some (.string a2.name) := VaHole.out.cell 0
  have naHole1 : w1.cell? ⟨w.heap.size + 1, 1, none⟩ = some (.int .i64 a2.radius) := VaHole.out.cell 1
  have naHole2 : w1.cell? ⟨w.heap.size + 1, 2, none⟩ = some (.int .i64 a2.depth) := VaHole.out.cell 2
  have laHole : w.heap.size + 1 < w1.heap.size := VaHole.out.lt
  go_wp2_with fail
  refine (szHole a2 z0 _ (by omega) (by omega) Hk2.out.1).mono ?_; rw [Hz1.out]; rintro e w2 ⟨rfl, b2⟩
  clear naHole0 naHole1 naHole2 laHole
  have B2 := bnext B1 b2
  have VaCavity' := Lib.hid (VaCavity.out.below b2 VaCavity.out.lt); clear VaCavity; have VaCavity := VaCavity'; clear VaCavity'
  have VaHole' := Lib.hid (VaHole.out.below b2 VaHole.out.lt); clear VaHole; have VaHole := VaHole'; clear VaHole'
  clear B1
  clear b2
  clear Hz0 Hz1 hq0 Hy0 hq1 Hy1
  have naCavity0 : w2.cell? ⟨w.heap.size, 0, none⟩ = some (.string a0.name) := VaCavity.out.cell 0
  have naCavity1 : w2.cell? ⟨w.heap.size, 1, none⟩ = some (a0.list) := VaCavity.out.cell 1
  have laCavity : w.heap.size < w2.heap.size := VaCavity.out.lt
  have naHole0 : w2.cell? ⟨w.heap.size + 1, 0, none⟩ = some (.string a2.name) := VaHole.out.cell 0
  have naHole1 : w2.cell? ⟨w.heap.size + 1, 1, none⟩ = some (.int .i64 a2.radius) := VaHole.out.cell 1
  have naHole2 : w2.cell? ⟨w.heap.size + 1, 2, none⟩ = some (.int .i64 a2.depth) := VaHole.out.cell 2
  have laHole : w.heap.size + 1 < w2.heap.size := VaHole.out.lt
  go_wp2_with fail
  go_region_held3 (fun w' => w'.cell? ⟨w.heap.size, 0, none⟩ = some (.string a0.name) ∧ w'.cell? ⟨w.heap.size, 1, none⟩ = some (a0.list) ∧ w'.cell? ⟨w.heap.size + 1, 0, none⟩ = some (.string a2.name) ∧ w'.cell? ⟨w.heap.size + 1, 1, none⟩ = some (.int .i64 a2.radius) ∧ w'.cell? ⟨w.heap.size + 1, 2, none⟩ = some (.int .i64 a2.depth)) (first | assumption | go_keep) (first
    | (go_at_call 31
       refine (toProfile a0 _ (by exact Hk0.out.2.1.up (B2.drew)) hn0).mono ?_; rintro e w3 ⟨g3, rfl, hg3, o3, b3⟩
       have b3' : Below w2.heap.size w2 w3 := Below.trans (by (repeat' (first | (with_reducible exact Below.refl _ _) | (with_reducible assumption) | (with_reducible refine below_dn ?_ _) | (with_reducible refine Below.drew ?_) | (with_reducible refine Below.alloc ?_ ?_ _) | (with_reducible refine Below.setCell ?_ ?_ _) | go_size))) (b3.mono (by simp <;> omega))
       clear b3
       have b3 := b3'; clear b3'
       have B3 := bnext B2 b3
       have VaCavity' := Lib.hid (VaCavity.out.below b3 VaCavity.out.lt); clear VaCavity; have VaCavity := VaCavity'; clear VaCavity'
       have VaHole' := Lib.hid (VaHole.out.below b3 VaHole.out.lt); clear VaHole; have VaHole := VaHole'; clear VaHole'
       clear B2
       have O3 := Lib.hid o3; clear o3 hg3
       clear b3
       have HS3 : w3.cell? ⟨w.heap.size, 0, none⟩ = some (.string a0.name) ∧ w3.cell? ⟨w.heap.size, 1, none⟩ = some (a0.list) ∧ w3.cell? ⟨w.heap.size + 1, 0, none⟩ = some (.string a2.name) ∧ w3.cell? ⟨w.heap.size + 1, 1, none⟩ = some (.int .i64 a2.radius) ∧ w3.cell? ⟨w.heap.size + 1, 2, none⟩ = some (.int .i64 a2.depth) := ⟨VaCavity.out.cell 0, VaCavity.out.cell 1, VaHole.out.cell 0, VaHole.out.cell 1, VaHole.out.cell 2⟩)
    | (go_at_call 32
       refine (toHole a2 _).mono ?_; rintro e w4 ⟨rfl, b4⟩
       have B4 := bnext B3 b4
       have VaCavity' := Lib.hid (VaCavity.out.below b4 VaCavity.out.lt); clear VaCavity; have VaCavity := VaCavity'; clear VaCavity'
       have VaHole' := Lib.hid (VaHole.out.below b4 VaHole.out.lt); clear VaHole; have VaHole := VaHole'; clear VaHole'
       have O3' := Lib.hid (O3.out.below b4 O3.out.lt); clear O3; have O3 := O3'; clear O3'
       clear B3
       clear b4
       have HS4 : w4.cell? ⟨w.heap.size, 0, none⟩ = some (.string a0.name) ∧ w4.cell? ⟨w.heap.size, 1, none⟩ = some (a0.list) ∧ w4.cell? ⟨w.heap.size + 1, 0, none⟩ = some (.string a2.name) ∧ w4.cell? ⟨w.heap.size + 1, 1, none⟩ = some (.int .i64 a2.radius) ∧ w4.cell? ⟨w.heap.size + 1, 2, none⟩ = some (.int .i64 a2.depth) := ⟨VaCavity.out.cell 0, VaCavity.out.cell 1, VaHole.out.cell 0, VaHole.out.cell 1, VaHole.out.cell 2⟩)
    | (go_at_call 30
       refine (spec_FitsHole _ a0 _ _ a2 a1 Hk0.out.1 (O3.out.rd O3.out.lt (Ring_len _) (by unfold maxLen; omega) _ (Nat.le_refl _) (by unfold maxLen; omega)) hn0 Hk2.out).mono ?_; rintro e w5 ⟨rfl, b5⟩
       have B5 := bnext B4 b5
       have VaCavity' := Lib.hid (VaCavity.out.below b5 VaCavity.out.lt); clear VaCavity; have VaCavity := VaCavity'; clear VaCavity'
       have VaHole' := Lib.hid (VaHole.out.below b5 VaHole.out.lt); clear VaHole; have VaHole := VaHole'; clear VaHole'
       have O3' := Lib.hid (O3.out.below b5 O3.out.lt); clear O3; have O3 := O3'; clear O3'
       clear B4
       clear b5
       have HS5 : w5.cell? ⟨w.heap.size, 0, none⟩ = some (.string a0.name) ∧ w5.cell? ⟨w.heap.size, 1, none⟩ = some (a0.list) ∧ w5.cell? ⟨w.heap.size + 1, 0, none⟩ = some (.string a2.name) ∧ w5.cell? ⟨w.heap.size + 1, 1, none⟩ = some (.int .i64 a2.radius) ∧ w5.cell? ⟨w.heap.size + 1, 2, none⟩ = some (.int .i64 a2.depth) := ⟨VaCavity.out.cell 0, VaCavity.out.cell 1, VaHole.out.cell 0, VaHole.out.cell 1, VaHole.out.cell 2⟩))
  clear naCavity0 naCavity1 laCavity naHole0 naHole1 naHole2 laHole HS5
  clear O3
  have naCavity0 : w5.cell? ⟨w.heap.size, 0, none⟩ = some (.string a0.name) := VaCavity.out.cell 0
  have naCavity1 : w5.cell? ⟨w.heap.size, 1, none⟩ = some (a0.list) := VaCavity.out.cell 1
  have laCavity : w.heap.size < w5.heap.size := VaCavity.out.lt
  go_wp2_with fail
  refine (toProfile a0 _ (by exact Hk0.out.2.1.up B5) hn0).mono ?_; rintro e w6 ⟨g6, rfl, hg6, o6, b6⟩
  clear naCavity0 naCavity1 laCavity
  have B6 := bnext B5 b6
  have VaCavity' := Lib.hid (VaCavity.out.below b6 VaCavity.out.lt); clear VaCavity; have VaCavity := VaCavity'; clear VaCavity'
  have VaHole' := Lib.hid (VaHole.out.below b6 VaHole.out.lt); clear VaHole; have VaHole := VaHole'; clear VaHole'
  clear B5
  have O6 := Lib.hid o6; clear o6 hg6
  clear b6
  have naHole0 : w6.cell? ⟨w.heap.size + 1, 0, none⟩ = some (.string a2.name) := VaHole.out.cell 0
  have naHole1 : w6.cell? ⟨w.heap.size + 1, 1, none⟩ = some (.int .i64 a2.radius) := VaHole.out.cell 1
  have naHole2 : w6.cell? ⟨w.heap.size + 1, 2, none⟩ = some (.int .i64 a2.depth) := VaHole.out.cell 2
  have laHole : w.heap.size + 1 < w6.heap.size := VaHole.out.lt
  go_wp2_with fail
  go_region_held3 (fun w' => w'.cell? ⟨w6.heap.size, 0, none⟩ = some (.string a0.name) ∧ w'.cell? ⟨w6.heap.size, 1, none⟩ = some (.slice (some ⟨g6, 0, none⟩) a0.rings.length a0.rings.length) ∧ w'.cell? ⟨w.heap.size + 1, 0, none⟩ = some (.string a2.name) ∧ w'.cell? ⟨w.heap.size + 1, 1, none⟩ = some (.int .i64 a2.radius) ∧ w'.cell? ⟨w.heap.size + 1, 2, none⟩ = some (.int .i64 a2.depth)) (first | assumption | go_keep) (first
    | (go_at_call 32
       refine (toHole a2 _).mono ?_; rintro e w7 ⟨rfl, b7⟩
       have Vx0 : Hid (Own w7 (w6.heap.size) 34 [.string a0.name, .slice (some ⟨g6, 0, none⟩) a0.rings.length a0.rings.length]) := Lib.hid ((Own.drew1 (Own.newAt 34 [.string a0.name, .slice (some ⟨g6, 0, none⟩) a0.rings.length a0.rings.length] (by simp))).below b7 (by simp <;> omega))
       have b7' : Below w6.heap.size w6 w7 := Below.trans (by (repeat' (first | (with_reducible exact Below.refl _ _) | (with_reducible assumption) | (with_reducible refine below_dn ?_ _) | (with_reducible refine Below.drew ?_) | (with_reducible refine Below.alloc ?_ ?_ _) | (with_reducible refine Below.setCell ?_ ?_ _) | go_size))) (b7.mono (by simp <;> omega))
       clear b7
       have b7 := b7'; clear b7'
       have B7 := bnext B6 b7
       have VaCavity' := Lib.hid (VaCavity.out.below b7 VaCavity.out.lt); clear VaCavity; have VaCavity := VaCavity'; clear VaCavity'
       have VaHole' := Lib.hid (VaHole.out.below b7 VaHole.out.lt); clear VaHole; have VaHole := VaHole'; clear VaHole'
       have O6' := Lib.hid (O6.out.below b7 O6.out.lt); clear O6; have O6 := O6'; clear O6'
       clear B6
       clear b7
       have HS7 : w7.cell? ⟨w6.heap.size, 0, none⟩ = some (.string a0.name) ∧ w7.cell? ⟨w6.heap.size, 1, none⟩ = some (.slice (some ⟨g6, 0, none⟩) a0.rings.length a0.rings.length) ∧ w7.cell? ⟨w.heap.size + 1, 0, none⟩ = some (.string a2.name) ∧ w7.cell? ⟨w.heap.size + 1, 1, none⟩ = some (.int .i64 a2.radius) ∧ w7.cell? ⟨w.heap.size + 1, 2, none⟩ = some (.int .i64 a2.depth) := ⟨Vx0.out.cell 0, Vx0.out.cell 1, VaHole.out.cell 0, VaHole.out.cell 1, VaHole.out.cell 2⟩)
    | (go_at_call 23
       refine (impl_FitsHole _ a0 _ _ a2 a1 Hk0.out.1 (O6.out.rd O6.out.lt (Ring_len _) (by unfold maxLen; omega) _ (Nat.le_refl _) (by unfold maxLen; omega)) hn0 Hk2.out).mono ?_; rintro e w8 ⟨rfl, b8⟩
       have B8 := bnext B7 b8
       have VaCavity' := Lib.hid (VaCavity.out.below b8 VaCavity.out.lt); clear VaCavity; have VaCavity := VaCavity'; clear VaCavity'
       have VaHole' := Lib.hid (VaHole.out.below b8 VaHole.out.lt); clear VaHole; have VaHole := VaHole'; clear VaHole'
       have O6' := Lib.hid (O6.out.below b8 O6.out.lt); clear O6; have O6 := O6'; clear O6'
       have Vx0' := Lib.hid (Vx0.out.below b8 Vx0.out.lt); clear Vx0; have Vx0 := Vx0'; clear Vx0'
       clear B7
       clear b8
       have HS8 : w8.cell? ⟨w6.heap.size, 0, none⟩ = some (.string a0.name) ∧ w8.cell? ⟨w6.heap.size, 1, none⟩ = some (.slice (some ⟨g6, 0, none⟩) a0.rings.length a0.rings.length) ∧ w8.cell? ⟨w.heap.size + 1, 0, none⟩ = some (.string a2.name) ∧ w8.cell? ⟨w.heap.size + 1, 1, none⟩ = some (.int .i64 a2.radius) ∧ w8.cell? ⟨w.heap.size + 1, 2, none⟩ = some (.int .i64 a2.depth) := ⟨Vx0.out.cell 0, Vx0.out.cell 1, VaHole.out.cell 0, VaHole.out.cell 1, VaHole.out.cell 2⟩))
  clear naHole0 naHole1 naHole2 laHole HS8
  have nx00 : w8.cell? ⟨w6.heap.size, 0, none⟩ = some (.string a0.name) := Vx0.out.cell 0
  have nx01 : w8.cell? ⟨w6.heap.size, 1, none⟩ = some (.slice (some ⟨g6, 0, none⟩) a0.rings.length a0.rings.length) := Vx0.out.cell 1
  have lx0 : w6.heap.size < w8.heap.size := Vx0.out.lt
  have naCavity0 : w8.cell? ⟨w.heap.size, 0, none⟩ = some (.string a0.name) := VaCavity.out.cell 0
  have naCavity1 : w8.cell? ⟨w.heap.size, 1, none⟩ = some (a0.list) := VaCavity.out.cell 1
  have laCavity : w.heap.size < w8.heap.size := VaCavity.out.lt
  go_wp2_with fail
  go_region_held3 (fun w' => w'.cell? ⟨w6.heap.size, 0, none⟩ = some (.string a0.name) ∧ w'.cell? ⟨w6.heap.size, 1, none⟩ = some (.slice (some ⟨g6, 0, none⟩) a0.rings.length a0.rings.length) ∧ w'.cell? ⟨w.heap.size, 0, none⟩ = some (.string a0.name) ∧ w'.cell? ⟨w.heap.size, 1, none⟩ = some (a0.list)) (first | assumption | go_keep) (first
    | (go_at_call 31
       refine (toProfile a0 _ (by exact Hk0.out.2.1.up (B8.drew)) hn0).mono ?_; rintro e w9 ⟨g9, rfl, hg9, o9, b9⟩
       have b9' : Below w8.heap.size w8 w9 := Below.trans (by (repeat' (first | (with_reducible exact Below.refl _ _) | (with_reducible assumption) | (with_reducible refine below_dn ?_ _) | (with_reducible refine Below.drew ?_) | (with_reducible refine Below.alloc ?_ ?_ _) | (with_reducible refine Below.setCell ?_ ?_ _) | go_size))) (b9.mono (by simp <;> omega))
       clear b9
       have b9 := b9'; clear b9'
       have B9 := bnext B8 b9
       have VaCavity' := Lib.hid (VaCavity.out.below b9 VaCavity.out.lt); clear VaCavity; have VaCavity := VaCavity'; clear VaCavity'
       have VaHole' := Lib.hid (VaHole.out.below b9 VaHole.out.lt); clear VaHole; have VaHole := VaHole'; clear VaHole'
       have O6' := Lib.hid (O6.out.below b9 O6.out.lt); clear O6; have O6 := O6'; clear O6'
       have Vx0' := Lib.hid (Vx0.out.below b9 Vx0.out.lt); clear Vx0; have Vx0 := Vx0'; clear Vx0'
       clear B8
       have O9 := Lib.hid o9; clear o9 hg9
       clear b9
       have HS9 : w9.cell? ⟨w6.heap.size, 0, none⟩ = some (.string a0.name) ∧ w9.cell? ⟨w6.heap.size, 1, none⟩ = some (.slice (some ⟨g6, 0, none⟩) a0.rings.length a0.rings.length) ∧ w9.cell? ⟨w.heap.size, 0, none⟩ = some (.string a0.name) ∧ w9.cell? ⟨w.heap.size, 1, none⟩ = some (a0.list) := ⟨Vx0.out.cell 0, Vx0.out.cell 1, VaCavity.out.cell 0, VaCavity.out.cell 1⟩)
    | (go_at_call 33
       refine (eqProfile a0 _ _ _ (O6.out.rd O6.out.lt (Ring_len _) (by unfold maxLen; omega) _ (Nat.le_refl _) (by unfold maxLen; omega)) (O9.out.rd O9.out.lt (Ring_len _) (by unfold maxLen; omega) _ (Nat.le_refl _) (by unfold maxLen; omega)) hn0).mono ?_; rintro e w10 ⟨rfl, b10⟩
       have B10 := bnext B9 b10
       have VaCavity' := Lib.hid (VaCavity.out.below b10 VaCavity.out.lt); clear VaCavity; have VaCavity := VaCavity'; clear VaCavity'
       have VaHole' := Lib.hid (VaHole.out.below b10 VaHole.out.lt); clear VaHole; have VaHole := VaHole'; clear VaHole'
       have O6' := Lib.hid (O6.out.below b10 O6.out.lt); clear O6; have O6 := O6'; clear O6'
       have Vx0' := Lib.hid (Vx0.out.below b10 Vx0.out.lt); clear Vx0; have Vx0 := Vx0'; clear Vx0'
       have O9' := Lib.hid (O9.out.below b10 O9.out.lt); clear O9; have O9 := O9'; clear O9'
       clear B9
       clear b10
       have HS10 : w10.cell? ⟨w6.heap.size, 0, none⟩ = some (.string a0.name) ∧ w10.cell? ⟨w6.heap.size, 1, none⟩ = some (.slice (some ⟨g6, 0, none⟩) a0.rings.length a0.rings.length) ∧ w10.cell? ⟨w.heap.size, 0, none⟩ = some (.string a0.name) ∧ w10.cell? ⟨w.heap.size, 1, none⟩ = some (a0.list) := ⟨Vx0.out.cell 0, Vx0.out.cell 1, VaCavity.out.cell 0, VaCavity.out.cell 1⟩))
  clear nx00 nx01 lx0 naCavity0 naCavity1 laCavity HS10
  clear O6 O9
  go_wp2_with fail
  all_goals go_ret
  all_goals exact ⟨rfl, B10⟩
end Go.Proofs.Ytegfgcgjoojdmaa
