/- Contracts and plain facts, joined: LWFnExactAddMelt. -/
import Derived.Test.YtnbodmbagendnaaRows
import Derived.Test.YtnbodmbagendnaaZFnExactAddMeltN
import Derived.Deep.RegionHeld3
namespace Go.Proofs.Ytnbodmbagendnaa
open Go.ChangeShapes Go.WideShapes Go.ChangeAt Go.RowKit Go.Deep Go.Joins
set_option linter.unusedVariables false
set_option maxRecDepth 100000
set_option linter.unusedSimpArgs false
set_option maxHeartbeats 8000000 in
theorem FnExactAddMelt_walk (w : World) (v0 : Value) (x0 : List Ingot) (k0 : Rd w.heap.size w v0 5 x0.length (x0.flatMap Ingot.put) ∧ x0.length ≤ maxLen ∧ ∀ x ∈ x0, x.ok) (v1 : Value) (x1 : List Melt) (k1 : Rd w.heap.size w v1 3 x1.length (x1.flatMap Melt.put) ∧ x1.length ≤ maxLen ∧ ∀ x ∈ x1, x.ok w) (a2 : Melt) (k2 : a2.ok w) :
    Calls Try.prog 5 #[v0, v1, .agg #[.string a2.id, a2.list, .int .i64 a2.mass]] w fun e w' => e = .returned (.bool true) ∧ Below w.heap.size w w' := by
  obtain ⟨h0, hm0, hok0⟩ := k0
  have H0 := Lib.hid h0; clear h0
  have Hok0 := Lib.hid hok0; clear hok0
  obtain ⟨h1, hm1, hok1⟩ := k1
  have H1 := Lib.hid h1; clear h1
  have Hok1 := Lib.hid hok1; clear hok1
  have Hk2 := Lib.hid k2; clear k2
  by_cases hq0 : (x0.length + wtIngot x0) ≤ 1048576
  case neg =>
    have e0 : Hid (szR 1048576 (x0.length + wtIngot x0) = -1) := (if_neg (by omega) : szR 1048576 (x0.length + wtIngot x0) = -1)
    go_enter Try.func5, Try.ntmps5
    go_wp2_with fail
    refine (szIngotS _ _ x0 1048576 (by exact H0.out.up (by (repeat' (first | (with_reducible exact Below.refl _ _) | (with_reducible assumption) | (with_reducible refine below_dn ?_ _) | (with_reducible refine Below.drew ?_) | (with_reducible refine Below.alloc ?_ ?_ _) | (with_reducible refine Below.setCell ?_ ?_ _) | go_size)))) hm0 (fun x hx => (Hok0.out x hx).1) (by omega) (by omega)).mono ?_; rw [e0.out]; rintro e w1 ⟨rfl, b1⟩
    have B1 : Below w.heap.size w w1 := Below.trans (by (repeat' (first | (with_reducible exact Below.refl _ _) | (with_reducible assumption) | (with_reducible refine below_dn ?_ _) | (with_reducible refine Below.drew ?_) | (with_reducible refine Below.alloc ?_ ?_ _) | (with_reducible refine Below.setCell ?_ ?_ _) | go_size))) (b1.mono (by simp <;> omega))
    have VaX : Hid (Own w1 (w.heap.size) 53 [.string a2.id, a2.list, .int .i64 a2.mass]) := Lib.hid ((Own.newAt 53 [.string a2.id, a2.list, .int .i64 a2.mass] (by simp)).below b1 (by simp <;> omega))
    have sz1 : w.heap.size ≤ w1.heap.size := B1.size
    clear b1
    go_wp2_with fail
    go_ret
    exact ⟨rfl, B1⟩
  obtain ⟨z0, hz0, hy0, hy0_⟩ : ∃ z : Int, szR 1048576 (x0.length + wtIngot x0) = z ∧ (0 ≤ z ∧ z ≤ 1048576) ∧ z = 1048576 - (((x0.length + wtIngot x0) : Nat) : Int) := ⟨_, rfl, by unfold szR; rw [if_pos (by omega)]; omega, by unfold szR; rw [if_pos (by omega)]⟩
  have Hy0 := Lib.hid hy0_; clear hy0_
  have Hz0 := Lib.hid hz0; clear hz0
  have hn0 : x0.length ≤ 1048576 := by omega
  by_cases hq1 : (x0.length + wtIngot x0) + (x1.length + wtMelt x1) ≤ 1048576
  case neg =>
    have e0 : Hid (szR z0 (x1.length + wtMelt x1) = -1) := (if_neg (by have := Hy0.out; omega) : szR z0 (x1.length + wtMelt x1) = -1)
    go_enter Try.func5, Try.ntmps5
    go_wp2_with fail
    refine (szIngotS _ _ x0 1048576 (by exact H0.out.up (by (repeat' (first | (with_reducible exact Below.refl _ _) | (with_reducible assumption) | (with_reducible refine below_dn ?_ _) | (with_reducible refine Below.drew ?_) | (with_reducible refine Below.alloc ?_ ?_ _) | (with_reducible refine Below.setCell ?_ ?_ _) | go_size)))) hm0 (fun x hx => (Hok0.out x hx).1) (by omega) (by omega)).mono ?_; rw [Hz0.out]; rintro e w1 ⟨rfl, b1⟩
    have B1 : Below w.heap.size w w1 := Below.trans (by (repeat' (first | (with_reducible exact Below.refl _ _) | (with_reducible assumption) | (with_reducible refine below_dn ?_ _) | (with_reducible refine Below.drew ?_) | (with_reducible refine Below.alloc ?_ ?_ _) | (with_reducible refine Below.setCell ?_ ?_ _) | go_size))) (b1.mono (by simp <;> omega))
    have VaX : Hid (Own w1 (w.heap.size) 53 [.string a2.id, a2.list, .int .i64 a2.mass]) := Lib.hid ((Own.newAt 53 [.string a2.id, a2.list, .int .i64 a2.mass] (by simp)).below b1 (by simp <;> omega))
    have sz1 : w.heap.size ≤ w1.heap.size := B1.size
    clear b1
    go_wp2_with fail
    refine (szMeltS _ _ x1 z0 (by exact H1.out.up B1) hm1 (by exact fun x hx => (Hok1.out x hx).up B1) (by omega) (by omega)).mono ?_; rw [e0.out]; rintro e w2 ⟨rfl, b2⟩
    have B2 := bnext B1 b2
    have VaX' := Lib.hid (VaX.out.below b2 VaX.out.lt); clear VaX; have VaX := VaX'; clear VaX'
    clear B1
    have sz2 : w1.heap.size ≤ w2.heap.size := b2.size
    clear b2
    go_wp2_with fail
    go_ret
    exact ⟨rfl, B2⟩
  obtain ⟨z1, hz1, hy1, hy1_⟩ : ∃ z : Int, szR z0 (x1.length + wtMelt x1) = z ∧ (0 ≤ z ∧ z ≤ 1048576) ∧ z = z0 - (((x1.length + wtMelt x1) : Nat) : Int) := ⟨_, rfl, by have := Hy0.out; unfold szR; rw [if_pos (by omega)]; omega, by have := Hy0.out; unfold szR; rw [if_pos (by omega)]⟩
  have Hy1 := Lib.hid hy1_; clear hy1_
  have Hz1 := Lib.hid hz1; clear hz1
  have hn1 : x1.length ≤ 1048576 := by omega
  have Hin1 := Lib.hid (fun x (hx : x ∈ x1) => (show x.ingots.length ≤ 1048576 by have := wtMelt_mem x1 x hx; unfold Melt.wt at this; omega))
  have hcnt1 : cntM x1 ≤ 1048576 := by have := cntM_wt x1; omega
  by_cases hq2 : (x0.length + wtIngot x0) + (x1.length + wtMelt x1) + (a2.id.size + (a2.ingots.length + wtStr a2.ingots)) ≤ 1048576
  case neg =>
    have e0 : Hid (szR z1 (a2.id.size + (a2.ingots.length + wtStr a2.ingots)) = -1) := (if_neg (by have := Hy0.out; have := Hy1.out; omega) : szR z1 (a2.id.size + (a2.ingots.length + wtStr a2.ingots)) = -1)
    go_enter Try.func5, Try.ntmps5
    go_wp2_with fail
    refine (szIngotS _ _ x0 1048576 (by exact H0.out.up (by (repeat' (first | (with_reducible exact Below.refl _ _) | (with_reducible assumption) | (with_reducible refine below_dn ?_ _) | (with_reducible refine Below.drew ?_) | (with_reducible refine Below.alloc ?_ ?_ _) | (with_reducible refine Below.setCell ?_ ?_ _) | go_size)))) hm0 (fun x hx => (Hok0.out x hx).1) (by omega) (by omega)).mono ?_; rw [Hz0.out]; rintro e w1 ⟨rfl, b1⟩
    have B1 : Below w.heap.size w w1 := Below.trans (by (repeat' (first | (with_reducible exact Below.refl _ _) | (with_reducible assumption) | (with_reducible refine below_dn ?_ _) | (with_reducible refine Below.drew ?_) | (with_reducible refine Below.alloc ?_ ?_ _) | (with_reducible refine Below.setCell ?_ ?_ _) | go_size))) (b1.mono (by simp <;> omega))
    have VaX : Hid (Own w1 (w.heap.size) 53 [.string a2.id, a2.list, .int .i64 a2.mass]) := Lib.hid ((Own.newAt 53 [.string a2.id, a2.list, .int .i64 a2.mass] (by simp)).below b1 (by simp <;> omega))
    have sz1 : w.heap.size ≤ w1.heap.size := B1.size
    clear b1
    go_wp2_with fail
    refine (szMeltS _ _ x1 z0 (by exact H1.out.up B1) hm1 (by exact fun x hx => (Hok1.out x hx).up B1) (by omega) (by omega)).mono ?_; rw [Hz1.out]; rintro e w2 ⟨rfl, b2⟩
    have B2 := bnext B1 b2
    have VaX' := Lib.hid (VaX.out.below b2 VaX.out.lt); clear VaX; have VaX := VaX'; clear VaX'
    clear B1
    have sz2 : w1.heap.size ≤ w2.heap.size := b2.size
    clear b2
    have naX0 : w2.cell? ⟨w.heap.size, 0, none⟩ = some (.string a2.id) := VaX.out.cell 0
    have naX1 : w2.cell? ⟨w.heap.size, 1, none⟩ = some (a2.list) := VaX.out.cell 1
    have naX2 : w2.cell? ⟨w.heap.size, 2, none⟩ = some (.int .i64 a2.mass) := VaX.out.cell 2
    have laX : w.heap.size < w2.heap.size := VaX.out.lt
    go_wp2_with fail
    refine (szMelt a2 z1 _ (by exact Hk2.out.up B2) (by omega) (by omega)).mono ?_; rw [e0.out]; rintro e w3 ⟨rfl, b3⟩
    clear naX0 naX1 naX2 laX
    have B3 := bnext B2 b3
    have VaX' := Lib.hid (VaX.out.below b3 VaX.out.lt); clear VaX; have VaX := VaX'; clear VaX'
    clear B2
    have sz3 : w2.heap.size ≤ w3.heap.size := b3.size
    clear b3
    go_wp2_with fail
    go_ret
    exact ⟨rfl, B3⟩
  obtain ⟨z2, hz2, hy2, hy2_⟩ : ∃ z : Int, szR z1 (a2.id.size + (a2.ingots.length + wtStr a2.ingots)) = z ∧ (0 ≤ z ∧ z ≤ 1048576) ∧ z = z1 - (((a2.id.size + (a2.ingots.length + wtStr a2.ingots)) : Nat) : Int) := ⟨_, rfl, by have := Hy0.out; have := Hy1.out; unfold szR; rw [if_pos (by omega)]; omega, by have := Hy0.out; have := Hy1.out; unfold szR; rw [if_pos (by omega)]⟩
  have Hy2 := Lib.hid hy2_; clear hy2_
  have Hz2 := Lib.hid hz2; clear hz2
  have hn2 : a2.ingots.length ≤ 1048576 := by omega
  have Hf1 := Lib.hid (fun x hx => (⟨(Hok1.out x hx).1, (Hok1.out x hx).2.1.2.2, (Hok1.out x hx).2.2, Hin1.out x hx⟩ : Melt.fine x))
  have Hf2 : Hid (Melt.fine a2) := ⟨Hk2.out.1, Hk2.out.2.1.2.2, Hk2.out.2.2, hn2⟩
  obtain ⟨hR12, hRi⟩ := addM_fine x0 x1 a2
  have HRI := Lib.hid hRi; clear hRi
  obtain ⟨R, hR⟩ : ∃ R, (addM x0 x1 a2).1 = R := ⟨_, rfl⟩
  obtain ⟨cc, hcc⟩ : ∃ cc, (addM x0 x1 a2).2 = cc := ⟨_, rfl⟩
  have HS := Lib.hid (fun (w' : World) (v u : Value) (lo : Option Addr) (lc : Nat) h0 h1 h2 => spec_AddMelt2 w' v u x0 x1 a2 lo lc h0 hn0 Hok0.out h1 hn1 Hf1.out h2 Hf2.out)
  have HI := Lib.hid (fun (w' : World) (v u : Value) (lo : Option Addr) (lc : Nat) h0 h1 h2 => impl_AddMelt w' v u x0 x1 a2 lo lc h0 hn0 Hok0.out h1 hn1 Hf1.out h2 Hf2.out)
  rw [hR, hcc] at HS HI
  rw [hR] at hR12 HRI
  clear hR hcc
  have tb : (cc != cc) = false := by simp
  go_enter Try.func5, Try.ntmps5
  go_wp2_with fail
  refine (szIngotS _ _ x0 1048576 (by exact H0.out.up (by (repeat' (first | (with_reducible exact Below.refl _ _) | (with_reducible assumption) | (with_reducible refine below_dn ?_ _) | (with_reducible refine Below.drew ?_) | (with_reducible refine Below.alloc ?_ ?_ _) | (with_reducible refine Below.setCell ?_ ?_ _) | go_size)))) hm0 (fun x hx => (Hok0.out x hx).1) (by omega) (by omega)).mono ?_; rw [Hz0.out]; rintro e w1 ⟨rfl, b1⟩
  have B1 : Below w.heap.size w w1 := Below.trans (by (repeat' (first | (with_reducible exact Below.refl _ _) | (with_reducible assumption) | (with_reducible refine below_dn ?_ _) | (with_reducible refine Below.drew ?_) | (with_reducible refine Below.alloc ?_ ?_ _) | (with_reducible refine Below.setCell ?_ ?_ _) | go_size))) (b1.mono (by simp <;> omega))
  have VaX : Hid (Own w1 (w.heap.size) 53 [.string a2.id, a2.list, .int .i64 a2.mass]) := Lib.hid ((Own.newAt 53 [.string a2.id, a2.list, .int .i64 a2.mass] (by simp)).below b1 (by simp <;> omega))
  have sz1 : w.heap.size ≤ w1.heap.size := B1.size
  clear b1
  go_wp2_with fail
  refine (szMeltS _ _ x1 z0 (by exact H1.out.up B1) hm1 (by exact fun x hx => (Hok1.out x hx).up B1) (by omega) (by omega)).mono ?_; rw [Hz1.out]; rintro e w2 ⟨rfl, b2⟩
  have B2 := bnext B1 b2
  have VaX' := Lib.hid (VaX.out.below b2 VaX.out.lt); clear VaX; have VaX := VaX'; clear VaX'
  clear B1
  have sz2 : w1.heap.size ≤ w2.heap.size := b2.size
  clear b2
  have naX0 : w2.cell? ⟨w.heap.size, 0, none⟩ = some (.string a2.id) := VaX.out.cell 0
  have naX1 : w2.cell? ⟨w.heap.size, 1, none⟩ = some (a2.list) := VaX.out.cell 1
  have naX2 : w2.cell? ⟨w.heap.size, 2, none⟩ = some (.int .i64 a2.mass) := VaX.out.cell 2
  have laX : w.heap.size < w2.heap.size := VaX.out.lt
  go_wp2_with fail
  refine (szMelt a2 z1 _ (by exact Hk2.out.up B2) (by omega) (by omega)).mono ?_; rw [Hz2.out]; rintro e w3 ⟨rfl, b3⟩
  clear naX0 naX1 naX2 laX
  have B3 := bnext B2 b3
  have VaX' := Lib.hid (VaX.out.below b3 VaX.out.lt); clear VaX; have VaX := VaX'; clear VaX'
  clear B2
  have sz3 : w2.heap.size ≤ w3.heap.size := b3.size
  clear b3
  clear Hz0 Hz1 Hz2 hq0 Hy0 hq1 Hy1 hq2 Hy2
  have naX0 : w3.cell? ⟨w.heap.size, 0, none⟩ = some (.string a2.id) := VaX.out.cell 0
  have naX1 : w3.cell? ⟨w.heap.size, 1, none⟩ = some (a2.list) := VaX.out.cell 1
  have naX2 : w3.cell? ⟨w.heap.size, 2, none⟩ = some (.int .i64 a2.mass) := VaX.out.cell 2
  have laX : w.heap.size < w3.heap.size := VaX.out.lt
  go_wp2_with fail
  go_region_held3 (fun w' => w'.cell? ⟨w.heap.size, 0, none⟩ = some (.string a2.id) ∧ w'.cell? ⟨w.heap.size, 1, none⟩ = some (a2.list) ∧ w'.cell? ⟨w.heap.size, 2, none⟩ = some (.int .i64 a2.mass)) (first | assumption | go_keep) (first
    | (go_at_call 27
       refine (toIngotS _ _ x0 (by exact H0.out.up (B3.drew)) hn0).mono ?_; rintro e w4 ⟨g4, rfl, hg4, o4, b4⟩
       have b4' : Below w3.heap.size w3 w4 := Below.trans (by (repeat' (first | (with_reducible exact Below.refl _ _) | (with_reducible assumption) | (with_reducible refine below_dn ?_ _) | (with_reducible refine Below.drew ?_) | (with_reducible refine Below.alloc ?_ ?_ _) | (with_reducible refine Below.setCell ?_ ?_ _) | go_size))) (b4.mono (by simp <;> omega))
       clear b4
       have b4 := b4'; clear b4'
       have B4 := bnext B3 b4
       have VaX' := Lib.hid (VaX.out.below b4 VaX.out.lt); clear VaX; have VaX := VaX'; clear VaX'
       clear B3
       have sz4 : w3.heap.size ≤ w4.heap.size := b4.size
       have ga4 : w3.heap.size ≤ g4 := hg4
       have gb4 : g4 < w4.heap.size := o4.lt
       have O4 := Lib.hid o4; clear o4 hg4
       clear b4
       have HS4 : w4.cell? ⟨w.heap.size, 0, none⟩ = some (.string a2.id) ∧ w4.cell? ⟨w.heap.size, 1, none⟩ = some (a2.list) ∧ w4.cell? ⟨w.heap.size, 2, none⟩ = some (.int .i64 a2.mass) := ⟨VaX.out.cell 0, VaX.out.cell 1, VaX.out.cell 2⟩)
    | (go_at_call 28
       refine (toMeltL _ _ x1 (by exact H1.out.up B4) hn1 (by exact fun x hx => ⟨(Hok1.out x hx).up B4, Hin1.out x hx⟩)).mono ?_; rintro e w5 ⟨g5, y5, rfl, hg5, o5, b5⟩
       have B5 := bnext B4 b5
       have VaX' := Lib.hid (VaX.out.below b5 VaX.out.lt); clear VaX; have VaX := VaX'; clear VaX'
       have O4' := Lib.hid (O4.out.below b5 O4.out.lt); clear O4; have O4 := O4'; clear O4'
       clear B4
       have sz5 : w4.heap.size ≤ w5.heap.size := b5.size
       have ga5 : w4.heap.size ≤ g5 := hg5
       have gb5 : g5 < w5.heap.size := o5.lt
       have O5 := Lib.hid (MeltsIn.of o5 hg5); clear o5 hg5
       clear b5
       have HS5 : w5.cell? ⟨w.heap.size, 0, none⟩ = some (.string a2.id) ∧ w5.cell? ⟨w.heap.size, 1, none⟩ = some (a2.list) ∧ w5.cell? ⟨w.heap.size, 2, none⟩ = some (.int .i64 a2.mass) := ⟨VaX.out.cell 0, VaX.out.cell 1, VaX.out.cell 2⟩)
    | (go_at_call 29
       refine (toMelt a2 _ (by exact Hk2.out.2.1.1.up B5) hn2).mono ?_; rintro e w6 ⟨g6, rfl, hg6, o6, b6⟩
       have B6 := bnext B5 b6
       have VaX' := Lib.hid (VaX.out.below b6 VaX.out.lt); clear VaX; have VaX := VaX'; clear VaX'
       have O4' := Lib.hid (O4.out.below b6 O4.out.lt); clear O4; have O4 := O4'; clear O4'
       have O5' := Lib.hid (O5.out.below b6 O5.out.lt); clear O5; have O5 := O5'; clear O5'
       clear B5
       have sz6 : w5.heap.size ≤ w6.heap.size := b6.size
       have ga6 : w5.heap.size ≤ g6 := hg6
       have gb6 : g6 < w6.heap.size := o6.lt
       have O6 := Lib.hid o6; clear o6 hg6
       clear b6
       have HS6 : w6.cell? ⟨w.heap.size, 0, none⟩ = some (.string a2.id) ∧ w6.cell? ⟨w.heap.size, 1, none⟩ = some (a2.list) ∧ w6.cell? ⟨w.heap.size, 2, none⟩ = some (.int .i64 a2.mass) := ⟨VaX.out.cell 0, VaX.out.cell 1, VaX.out.cell 2⟩)
    | (go_at_call 26
       refine (HS.out _ _ _ _ _ (O4.out.rd O4.out.lt (Ingot_len x0) (by unfold maxLen; omega) _ (Nat.le_refl _) (by unfold maxLen; omega)) (O5.out.1.rdm hn1 Hin1.out) (O6.out.rd O6.out.lt (putStr_len _) (by unfold maxLen; omega) _ (Nat.le_refl _) (by unfold maxLen; omega))).mono ?_; rintro e w7 ⟨r7, os7, rfl, k7, s7, b7⟩
       have B7 := bnext B6 b7
       have VaX' := Lib.hid (VaX.out.below b7 VaX.out.lt); clear VaX; have VaX := VaX'; clear VaX'
       have O4' := Lib.hid (O4.out.below b7 O4.out.lt); clear O4; have O4 := O4'; clear O4'
       have O5' := Lib.hid (O5.out.below b7 O5.out.lt); clear O5; have O5 := O5'; clear O5'
       have O6' := Lib.hid (O6.out.below b7 O6.out.lt); clear O6; have O6 := O6'; clear O6'
       clear B6
       have k7 := k7.lower (show w6.heap.size ≤ _ by first | exact Nat.le_refl _ | (simp <;> omega))
       have sz7 : w6.heap.size ≤ w7.heap.size := b7.size
       obtain ⟨ra7, rc7, rfl⟩ := k7.form
       have R7 := Lib.hid k7; clear k7
       obtain ⟨hl7, hc7, hi7, h07⟩ := nest_bounds s7 (by omega) HRI.out
       have S7 := Lib.hid s7; clear s7
       have Hi7 := Lib.hid hi7; clear hi7
       have H07 := Lib.hid h07; clear h07
       clear b7
       have HS7 : w7.cell? ⟨w.heap.size, 0, none⟩ = some (.string a2.id) ∧ w7.cell? ⟨w.heap.size, 1, none⟩ = some (a2.list) ∧ w7.cell? ⟨w.heap.size, 2, none⟩ = some (.int .i64 a2.mass) := ⟨VaX.out.cell 0, VaX.out.cell 1, VaX.out.cell 2⟩))
  clear naX0 naX1 naX2 laX HS7
  clear O4 O5 O6
  go_wp2_with fail
  refine (toIngotS _ _ x0 (by exact H0.out.up B7) hn0).mono ?_; rintro e w8 ⟨g8, rfl, hg8, o8, b8⟩
  have B8 := bnext B7 b8
  have VaX' := Lib.hid (VaX.out.below b8 VaX.out.lt); clear VaX; have VaX := VaX'; clear VaX'
  have R7' := Lib.hid (R7.out.below b8); clear R7; have R7 := R7'; clear R7'
  clear B7
  have sz8 : w7.heap.size ≤ w8.heap.size := b8.size
  have ga8 : w7.heap.size ≤ g8 := hg8
  have gb8 : g8 < w8.heap.size := o8.lt
  have O8 := Lib.hid o8; clear o8 hg8
  clear b8
  go_wp2_with fail
  refine (toMeltL _ _ x1 (by exact H1.out.up B8) hn1 (by exact fun x hx => ⟨(Hok1.out x hx).up B8, Hin1.out x hx⟩)).mono ?_; rintro e w9 ⟨g9, y9, rfl, hg9, o9, b9⟩
  have B9 := bnext B8 b9
  have VaX' := Lib.hid (VaX.out.below b9 VaX.out.lt); clear VaX; have VaX := VaX'; clear VaX'
  have R7' := Lib.hid (R7.out.below b9); clear R7; have R7 := R7'; clear R7'
  have O8' := Lib.hid (O8.out.below b9 O8.out.lt); clear O8; have O8 := O8'; clear O8'
  clear B8
  have sz9 : w8.heap.size ≤ w9.heap.size := b9.size
  have ga9 : w8.heap.size ≤ g9 := hg9
  have gb9 : g9 < w9.heap.size := o9.lt
  have O9 := Lib.hid (MeltsIn.of o9 hg9); clear o9 hg9
  clear b9
  have naX0 : w9.cell? ⟨w.heap.size, 0, none⟩ = some (.string a2.id) := VaX.out.cell 0
  have naX1 : w9.cell? ⟨w.heap.size, 1, none⟩ = some (a2.list) := VaX.out.cell 1
  have naX2 : w9.cell? ⟨w.heap.size, 2, none⟩ = some (.int .i64 a2.mass) := VaX.out.cell 2
  have laX : w.heap.size < w9.heap.size := VaX.out.lt
  go_wp2_with fail
  refine (toMelt a2 _ (by exact Hk2.out.2.1.1.up B9) hn2).mono ?_; rintro e w10 ⟨g10, rfl, hg10, o10, b10⟩
  clear naX0 naX1 naX2 laX
  have B10 := bnext B9 b10
  have VaX' := Lib.hid (VaX.out.below b10 VaX.out.lt); clear VaX; have VaX := VaX'; clear VaX'
  have R7' := Lib.hid (R7.out.below b10); clear R7; have R7 := R7'; clear R7'
  have O8' := Lib.hid (O8.out.below b10 O8.out.lt); clear O8; have O8 := O8'; clear O8'
  have O9' := Lib.hid (O9.out.below b10 O9.out.lt); clear O9; have O9 := O9'; clear O9'
  clear B9
  have sz10 : w9.heap.size ≤ w10.heap.size := b10.size
  have ga10 : w9.heap.size ≤ g10 := hg10
  have gb10 : g10 < w10.heap.size := o10.lt
  have O10 := Lib.hid o10; clear o10 hg10
  clear b10
  go_wp2_with fail
  refine (HI.out _ _ _ _ _ (by exact (O8.out.rd O8.out.lt (Ingot_len x0) (by unfold maxLen; omega) _ (Nat.le_refl _) (by unfold maxLen; omega)).up (by (repeat' (first | (with_reducible exact Below.refl _ _) | (with_reducible assumption) | (with_reducible refine below_dn ?_ _) | (with_reducible refine Below.drew ?_) | (with_reducible refine Below.alloc ?_ ?_ _) | (with_reducible refine Below.setCell ?_ ?_ _) | go_size)))) (by exact (O9.out.1.rdm hn1 Hin1.out).up (by (repeat' (first | (with_reducible exact Below.refl _ _) | (with_reducible assumption) | (with_reducible refine below_dn ?_ _) | (with_reducible refine Below.drew ?_) | (with_reducible refine Below.alloc ?_ ?_ _) | (with_reducible refine Below.setCell ?_ ?_ _) | go_size)))) (by exact (O10.out.rd O10.out.lt (putStr_len _) (by unfold maxLen; omega) _ (Nat.le_refl _) (by unfold maxLen; omega)).up (by (repeat' (first | (with_reducible exact Below.refl _ _) | (with_reducible assumption) | (with_reducible refine below_dn ?_ _) | (with_reducible refine Below.drew ?_) | (with_reducible refine Below.alloc ?_ ?_ _) | (with_reducible refine Below.setCell ?_ ?_ _) | go_size))))).mono ?_; rintro e w11 ⟨r11, os11, rfl, k11, s11, b11⟩
  have Vx2 : Hid (Own w11 (w10.heap.size) 63 [.string a2.id, .slice (some ⟨g10, 0, none⟩) a2.ingots.length a2.ingots.length, .int .i64 a2.mass]) := Lib.hid ((Own.newAt 63 [.string a2.id, .slice (some ⟨g10, 0, none⟩) a2.ingots.length a2.ingots.length, .int .i64 a2.mass] (by simp)).below b11 (by simp <;> omega))
  have b11' : Below w10.heap.size w10 w11 := Below.trans (by (repeat' (first | (with_reducible exact Below.refl _ _) | (with_reducible assumption) | (with_reducible refine below_dn ?_ _) | (with_reducible refine Below.drew ?_) | (with_reducible refine Below.alloc ?_ ?_ _) | (with_reducible refine Below.setCell ?_ ?_ _) | go_size))) (b11.mono (by simp <;> omega))
  clear b11
  have b11 := b11'; clear b11'
  have B11 := bnext B10 b11
  have VaX' := Lib.hid (VaX.out.below b11 VaX.out.lt); clear VaX; have VaX := VaX'; clear VaX'
  have R7' := Lib.hid (R7.out.below b11); clear R7; have R7 := R7'; clear R7'
  have O8' := Lib.hid (O8.out.below b11 O8.out.lt); clear O8; have O8 := O8'; clear O8'
  have O9' := Lib.hid (O9.out.below b11 O9.out.lt); clear O9; have O9 := O9'; clear O9'
  have O10' := Lib.hid (O10.out.below b11 O10.out.lt); clear O10; have O10 := O10'; clear O10'
  clear B10
  have k11 := k11.lower (show w10.heap.size ≤ _ by first | exact Nat.le_refl _ | (simp <;> omega))
  have sz11 : w10.heap.size ≤ w11.heap.size := b11.size
  obtain ⟨ra11, rc11, rfl⟩ := k11.form
  have R11 := Lib.hid k11; clear k11
  obtain ⟨hl11, hc11, hi11, h011⟩ := nest_bounds s11 (by omega) HRI.out
  have S11 := Lib.hid s11; clear s11
  have Hi11 := Lib.hid hi11; clear hi11
  have H011 := Lib.hid h011; clear h011
  clear b11
  go_wp2_with fail
  refine (eqMeltN _ _ _ _ _ _ _ os11 os7 R11.out R7.out (S11.out.trans S7.out.symm) (by omega) Hi11.out).mono ?_; rintro e w12 ⟨rfl, b12⟩
  have B12 := bnext B11 b12
  have VaX' := Lib.hid (VaX.out.below b12 VaX.out.lt); clear VaX; have VaX := VaX'; clear VaX'
  have R7' := Lib.hid (R7.out.below b12); clear R7; have R7 := R7'; clear R7'
  have O8' := Lib.hid (O8.out.below b12 O8.out.lt); clear O8; have O8 := O8'; clear O8'
  have O9' := Lib.hid (O9.out.below b12 O9.out.lt); clear O9; have O9 := O9'; clear O9'
  have O10' := Lib.hid (O10.out.below b12 O10.out.lt); clear O10; have O10 := O10'; clear O10'
  have Vx2' := Lib.hid (Vx2.out.below b12 Vx2.out.lt); clear Vx2; have Vx2 := Vx2'; clear Vx2'
  have R11' := Lib.hid (R11.out.below b12); clear R11; have R11 := R11'; clear R11'
  clear B11
  have sz12 : w11.heap.size ≤ w12.heap.size := b12.size
  clear b12
  go_wp2_with fail
  refine (toIngotS _ _ x0 (by exact H0.out.up B12) hn0).mono ?_; rintro e w13 ⟨g13, rfl, hg13, o13, b13⟩
  have B13 := bnext B12 b13
  have VaX' := Lib.hid (VaX.out.below b13 VaX.out.lt); clear VaX; have VaX := VaX'; clear VaX'
  have R7' := Lib.hid (R7.out.below b13); clear R7; have R7 := R7'; clear R7'
  have O8' := Lib.hid (O8.out.below b13 O8.out.lt); clear O8; have O8 := O8'; clear O8'
  have O9' := Lib.hid (O9.out.below b13 O9.out.lt); clear O9; have O9 := O9'; clear O9'
  have O10' := Lib.hid (O10.out.below b13 O10.out.lt); clear O10; have O10 := O10'; clear O10'
  have Vx2' := Lib.hid (Vx2.out.below b13 Vx2.out.lt); clear Vx2; have Vx2 := Vx2'; clear Vx2'
  have R11' := Lib.hid (R11.out.below b13); clear R11; have R11 := R11'; clear R11'
  clear B12
  have sz13 : w12.heap.size ≤ w13.heap.size := b13.size
  have ga13 : w12.heap.size ≤ g13 := hg13
  have gb13 : g13 < w13.heap.size := o13.lt
  have O13 := Lib.hid o13; clear o13 hg13
  clear b13
  go_wp2_with fail
  refine (eqIngotS _ _ _ x0 (O8.out.rd O8.out.lt (Ingot_len x0) (by unfold maxLen; omega) _ (Nat.le_refl _) (by unfold maxLen; omega)) (O13.out.rd O13.out.lt (Ingot_len x0) (by unfold maxLen; omega) _ (Nat.le_refl _) (by unfold maxLen; omega)) hn0).mono ?_; rintro e w14 ⟨rfl, b14⟩
  have B14 := bnext B13 b14
  have VaX' := Lib.hid (VaX.out.below b14 VaX.out.lt); clear VaX; have VaX := VaX'; clear VaX'
  have R7' := Lib.hid (R7.out.below b14); clear R7; have R7 := R7'; clear R7'
  have O8' := Lib.hid (O8.out.below b14 O8.out.lt); clear O8; have O8 := O8'; clear O8'
  have O9' := Lib.hid (O9.out.below b14 O9.out.lt); clear O9; have O9 := O9'; clear O9'
  have O10' := Lib.hid (O10.out.below b14 O10.out.lt); clear O10; have O10 := O10'; clear O10'
  have Vx2' := Lib.hid (Vx2.out.below b14 Vx2.out.lt); clear Vx2; have Vx2 := Vx2'; clear Vx2'
  have R11' := Lib.hid (R11.out.below b14); clear R11; have R11 := R11'; clear R11'
  have O13' := Lib.hid (O13.out.below b14 O13.out.lt); clear O13; have O13 := O13'; clear O13'
  clear B13
  have sz14 : w13.heap.size ≤ w14.heap.size := b14.size
  clear b14
  clear O13
  go_wp2_with fail
  refine (toMeltL _ _ x1 (by exact H1.out.up B14) hn1 (by exact fun x hx => ⟨(Hok1.out x hx).up B14, Hin1.out x hx⟩)).mono ?_; rintro e w15 ⟨g15, y15, rfl, hg15, o15, b15⟩
  have B15 := bnext B14 b15
  have VaX' := Lib.hid (VaX.out.below b15 VaX.out.lt); clear VaX; have VaX := VaX'; clear VaX'
  have R7' := Lib.hid (R7.out.below b15); clear R7; have R7 := R7'; clear R7'
  have O8' := Lib.hid (O8.out.below b15 O8.out.lt); clear O8; have O8 := O8'; clear O8'
  have O9' := Lib.hid (O9.out.below b15 O9.out.lt); clear O9; have O9 := O9'; clear O9'
  have O10' := Lib.hid (O10.out.below b15 O10.out.lt); clear O10; have O10 := O10'; clear O10'
  have Vx2' := Lib.hid (Vx2.out.below b15 Vx2.out.lt); clear Vx2; have Vx2 := Vx2'; clear Vx2'
  have R11' := Lib.hid (R11.out.below b15); clear R11; have R11 := R11'; clear R11'
  clear B14
  have sz15 : w14.heap.size ≤ w15.heap.size := b15.size
  have ga15 : w14.heap.size ≤ g15 := hg15
  have gb15 : g15 < w15.heap.size := o15.lt
  have O15 := Lib.hid (MeltsIn.of o15 hg15); clear o15 hg15
  clear b15
  go_wp2_with fail
  refine (eqMeltL _ _ _ _ _ x1 O9.out.1 O15.out.1 hn1 Hin1.out).mono ?_; rintro e w16 ⟨rfl, b16⟩
  have B16 := bnext B15 b16
  have VaX' := Lib.hid (VaX.out.below b16 VaX.out.lt); clear VaX; have VaX := VaX'; clear VaX'
  have R7' := Lib.hid (R7.out.below b16); clear R7; have R7 := R7'; clear R7'
  have O8' := Lib.hid (O8.out.below b16 O8.out.lt); clear O8; have O8 := O8'; clear O8'
  have O9' := Lib.hid (O9.out.below b16 O9.out.lt); clear O9; have O9 := O9'; clear O9'
  have O10' := Lib.hid (O10.out.below b16 O10.out.lt); clear O10; have O10 := O10'; clear O10'
  have Vx2' := Lib.hid (Vx2.out.below b16 Vx2.out.lt); clear Vx2; have Vx2 := Vx2'; clear Vx2'
  have R11' := Lib.hid (R11.out.below b16); clear R11; have R11 := R11'; clear R11'
  have O15' := Lib.hid (O15.out.below b16 O15.out.lt); clear O15; have O15 := O15'; clear O15'
  clear B15
  have sz16 : w15.heap.size ≤ w16.heap.size := b16.size
  clear b16
  clear O15
  have nx20 : w16.cell? ⟨w10.heap.size, 0, none⟩ = some (.string a2.id) := Vx2.out.cell 0
  have nx21 : w16.cell? ⟨w10.heap.size, 1, none⟩ = some (.slice (some ⟨g10, 0, none⟩) a2.ingots.length a2.ingots.length) := Vx2.out.cell 1
  have nx22 : w16.cell? ⟨w10.heap.size, 2, none⟩ = some (.int .i64 a2.mass) := Vx2.out.cell 2
  have lx2 : w10.heap.size < w16.heap.size := Vx2.out.lt
  have naX0 : w16.cell? ⟨w.heap.size, 0, none⟩ = some (.string a2.id) := VaX.out.cell 0
  have naX1 : w16.cell? ⟨w.heap.size, 1, none⟩ = some (a2.list) := VaX.out.cell 1
  have naX2 : w16.cell? ⟨w.heap.size, 2, none⟩ = some (.int .i64 a2.mass) := VaX.out.cell 2
  have laX : w.heap.size < w16.heap.size := VaX.out.lt
  go_wp2_with fail
  go_region_held3 (fun w' => w'.cell? ⟨w10.heap.size, 0, none⟩ = some (.string a2.id) ∧ w'.cell? ⟨w10.heap.size, 1, none⟩ = some (.slice (some ⟨g10, 0, none⟩) a2.ingots.length a2.ingots.length) ∧ w'.cell? ⟨w10.heap.size, 2, none⟩ = some (.int .i64 a2.mass) ∧ w'.cell? ⟨w.heap.size, 0, none⟩ = some (.string a2.id) ∧ w'.cell? ⟨w.heap.size, 1, none⟩ = some (a2.list) ∧ w'.cell? ⟨w.heap.size, 2, none⟩ = some (.int .i64 a2.mass)) (first | assumption | go_keep) (first
    | (go_at_call 29
       refine (toMelt a2 _ (by exact Hk2.out.2.1.1.up (B16.drew)) hn2).mono ?_; rintro e w17 ⟨g17, rfl, hg17, o17, b17⟩
       have b17' : Below w16.heap.size w16 w17 := Below.trans (by (repeat' (first | (with_reducible exact Below.refl _ _) | (with_reducible assumption) | (with_reducible refine below_dn ?_ _) | (with_reducible refine Below.drew ?_) | (with_reducible refine Below.alloc ?_ ?_ _) | (with_reducible refine Below.setCell ?_ ?_ _) | go_size))) (b17.mono (by simp <;> omega))
       clear b17
       have b17 := b17'; clear b17'
       have B17 := bnext B16 b17
       have VaX' := Lib.hid (VaX.out.below b17 VaX.out.lt); clear VaX; have VaX := VaX'; clear VaX'
       have R7' := Lib.hid (R7.out.below b17); clear R7; have R7 := R7'; clear R7'
       have O8' := Lib.hid (O8.out.below b17 O8.out.lt); clear O8; have O8 := O8'; clear O8'
       have O9' := Lib.hid (O9.out.below b17 O9.out.lt); clear O9; have O9 := O9'; clear O9'
       have O10' := Lib.hid (O10.out.below b17 O10.out.lt); clear O10; have O10 := O10'; clear O10'
       have Vx2' := Lib.hid (Vx2.out.below b17 Vx2.out.lt); clear Vx2; have Vx2 := Vx2'; clear Vx2'
       have R11' := Lib.hid (R11.out.below b17); clear R11; have R11 := R11'; clear R11'
       clear B16
       have sz17 : w16.heap.size ≤ w17.heap.size := b17.size
       have ga17 : w16.heap.size ≤ g17 := hg17
       have gb17 : g17 < w17.heap.size := o17.lt
       have O17 := Lib.hid o17; clear o17 hg17
       clear b17
       have HS17 : w17.cell? ⟨w10.heap.size, 0, none⟩ = some (.string a2.id) ∧ w17.cell? ⟨w10.heap.size, 1, none⟩ = some (.slice (some ⟨g10, 0, none⟩) a2.ingots.length a2.ingots.length) ∧ w17.cell? ⟨w10.heap.size, 2, none⟩ = some (.int .i64 a2.mass) ∧ w17.cell? ⟨w.heap.size, 0, none⟩ = some (.string a2.id) ∧ w17.cell? ⟨w.heap.size, 1, none⟩ = some (a2.list) ∧ w17.cell? ⟨w.heap.size, 2, none⟩ = some (.int .i64 a2.mass) := ⟨Vx2.out.cell 0, Vx2.out.cell 1, Vx2.out.cell 2, VaX.out.cell 0, VaX.out.cell 1, VaX.out.cell 2⟩)
    | (go_at_call 33
       refine (eqMelt a2 _ _ _ (O10.out.rd O10.out.lt (putStr_len _) (by unfold maxLen; omega) _ (Nat.le_refl _) (by unfold maxLen; omega)) (O17.out.rd O17.out.lt (putStr_len _) (by unfold maxLen; omega) _ (Nat.le_refl _) (by unfold maxLen; omega)) hn2).mono ?_; rintro e w18 ⟨rfl, b18⟩
       have B18 := bnext B17 b18
       have VaX' := Lib.hid (VaX.out.below b18 VaX.out.lt); clear VaX; have VaX := VaX'; clear VaX'
       have R7' := Lib.hid (R7.out.below b18); clear R7; have R7 := R7'; clear R7'
       have O8' := Lib.hid (O8.out.below b18 O8.out.lt); clear O8; have O8 := O8'; clear O8'
       have O9' := Lib.hid (O9.out.below b18 O9.out.lt); clear O9; have O9 := O9'; clear O9'
       have O10' := Lib.hid (O10.out.below b18 O10.out.lt); clear O10; have O10 := O10'; clear O10'
       have Vx2' := Lib.hid (Vx2.out.below b18 Vx2.out.lt); clear Vx2; have Vx2 := Vx2'; clear Vx2'
       have R11' := Lib.hid (R11.out.below b18); clear R11; have R11 := R11'; clear R11'
       have O17' := Lib.hid (O17.out.below b18 O17.out.lt); clear O17; have O17 := O17'; clear O17'
       clear B17
       have sz18 : w17.heap.size ≤ w18.heap.size := b18.size
       clear b18
       have HS18 : w18.cell? ⟨w10.heap.size, 0, none⟩ = some (.string a2.id) ∧ w18.cell? ⟨w10.heap.size, 1, none⟩ = some (.slice (some ⟨g10, 0, none⟩) a2.ingots.length a2.ingots.length) ∧ w18.cell? ⟨w10.heap.size, 2, none⟩ = some (.int .i64 a2.mass) ∧ w18.cell? ⟨w.heap.size, 0, none⟩ = some (.string a2.id) ∧ w18.cell? ⟨w.heap.size, 1, none⟩ = some (a2.list) ∧ w18.cell? ⟨w.heap.size, 2, none⟩ = some (.int .i64 a2.mass) := ⟨Vx2.out.cell 0, Vx2.out.cell 1, Vx2.out.cell 2, VaX.out.cell 0, VaX.out.cell 1, VaX.out.cell 2⟩))
  clear nx20 nx21 nx22 lx2 naX0 naX1 naX2 laX HS18
  clear O17
  go_wp2_with fail
  refine (mA3 (c := 5242881) (markIngotS _ _ g8 (g8 + 1) _ _ _ (Held.of_own (by exact O8.out) (Ingot_len x0) (by unfold maxLen; omega)) hn0 (by omega) (by omega)) (by omega) (by omega)).mono ?_; rintro e w19 ⟨q19, rfl, qa19, qb19, t19⟩
  have B19 := B18.trans (t19.below (B := w.heap.size) (by omega) (by omega))
  have sz19 := t19.size
  have VaX' := Lib.hid (VaX.out.turn t19 (by omega)); clear VaX; have VaX := VaX'; clear VaX'
  have R7' := Lib.hid (R7.out.turn t19 (by omega)); clear R7; have R7 := R7'; clear R7'
  have O9' := Lib.hid (O9.out.turn t19 (by omega)); clear O9; have O9 := O9'; clear O9'
  have O10' := Lib.hid (O10.out.turn t19 (by omega)); clear O10; have O10 := O10'; clear O10'
  have Vx2' := Lib.hid (Vx2.out.turn t19 (by omega)); clear Vx2; have Vx2 := Vx2'; clear Vx2'
  have R11' := Lib.hid (R11.out.turn t19 (by omega)); clear R11; have R11 := R11'; clear R11'
  clear t19 B18 O8
  have tk : decide (q19 < (0 : Int)) = false := decide_eq_false (by omega)
  go_wp2_with fail
  refine (mA (c := 8388609) (markMeltS _ _ _ _ _ _ _ (by exact O9.out) hn1 hcnt1 (by omega) (by omega)) (by omega) (by omega)).mono ?_; rintro e w20 ⟨q20, rfl, qa20, qb20, t20⟩
  have B20 := B19.trans (t20.below (B := w.heap.size) (by omega) (by omega))
  have sz20 := t20.size
  have VaX' := Lib.hid (VaX.out.turn t20 (by omega)); clear VaX; have VaX := VaX'; clear VaX'
  have R7' := Lib.hid (R7.out.turn t20 (by omega)); clear R7; have R7 := R7'; clear R7'
  have O10' := Lib.hid (O10.out.turn t20 (by omega)); clear O10; have O10 := O10'; clear O10'
  have Vx2' := Lib.hid (Vx2.out.turn t20 (by omega)); clear Vx2; have Vx2 := Vx2'; clear Vx2'
  have R11' := Lib.hid (R11.out.turn t20 (by omega)); clear R11; have R11 := R11'; clear R11'
  clear t20 B19 O9
  have tk : decide (q20 < (0 : Int)) = false := decide_eq_false (by omega)
  have nx20 : w20.cell? ⟨w10.heap.size, 0, none⟩ = some (.string a2.id) := Vx2.out.cell 0
  have nx21 : w20.cell? ⟨w10.heap.size, 1, none⟩ = some (.slice (some ⟨g10, 0, none⟩) a2.ingots.length a2.ingots.length) := Vx2.out.cell 1
  have nx22 : w20.cell? ⟨w10.heap.size, 2, none⟩ = some (.int .i64 a2.mass) := Vx2.out.cell 2
  have lx2 : w10.heap.size < w20.heap.size := Vx2.out.lt
  go_wp2_with fail
  refine (mA3 (c := 9437185) (markMelt1 _ _ g10 (g10 + 1) _ _ _ _ _ (Held.of_own (by exact O10.out) (putStr_len _) (by unfold maxLen; omega)) (by omega) hn2 (by omega) (by omega)) (by omega) (by omega)).mono ?_; rintro e w21 ⟨q21, rfl, qa21, qb21, t21⟩
  have B21 := B20.trans (t21.below (B := w.heap.size) (by omega) (by omega))
  have sz21 := t21.size
  have VaX' := Lib.hid (VaX.out.turn t21 (by omega)); clear VaX; have VaX := VaX'; clear VaX'
  have R7' := Lib.hid (R7.out.turn t21 (by omega)); clear R7; have R7 := R7'; clear R7'
  have R11' := Lib.hid (R11.out.turn t21 (by omega)); clear R11; have R11 := R11'; clear R11'
  clear t21 B20 O10
  clear nx20 nx21 nx22 lx2 Vx2
  have tk : decide (q21 < (0 : Int)) = false := decide_eq_false (by omega)
  go_wp2_with fail
  refine (eqMeltN _ _ _ _ _ _ _ os11 os7 R11.out R7.out (S11.out.trans S7.out.symm) (by omega) Hi11.out).mono ?_; rintro e w22 ⟨rfl, b22⟩
  have B22 := bnext B21 b22
  have VaX' := Lib.hid (VaX.out.below b22 VaX.out.lt); clear VaX; have VaX := VaX'; clear VaX'
  have R7' := Lib.hid (R7.out.below b22); clear R7; have R7 := R7'; clear R7'
  have R11' := Lib.hid (R11.out.below b22); clear R11; have R11 := R11'; clear R11'
  clear B21
  have sz22 : w21.heap.size ≤ w22.heap.size := b22.size
  clear b22
  obtain ⟨mm, hmm, hm1⟩ : ∃ mm : Int, 1 + 2 * ((os11.length : Nat) : Int) + ((cntM os11 : Nat) : Int) = mm ∧ 1 ≤ mm := ⟨_, rfl, by omega⟩
  have tm : decide (mm < (0 : Int)) = false := decide_eq_false (by omega)
  have HMM := Lib.hid hmm; clear hmm
  go_wp2_with fail
  refine (toM (markMeltN _ _ _ _ _ os11 (by exact R11.out) (by omega) (by omega) H011.out (by omega) (by omega)) HMM.out).mono ?_; rintro e w23 ⟨rfl, t23, o23⟩
  have B23 := B22.trans (t23.below (B := w.heap.size) (by omega) (by omega))
  have sz23 := t23.size
  have VaX' := Lib.hid (VaX.out.turn t23 (by omega)); clear VaX; have VaX := VaX'; clear VaX'
  have R7' := Lib.hid (R7.out.turn t23 (by omega)); clear R7; have R7 := R7'; clear R7'
  have R23 := Lib.hid o23; clear o23
  clear t23 B22 R11
  go_wp2_with fail
  refine (toM (heldMeltN _ _ _ _ _ os11 (by exact R23.out) (by omega) (by omega) (by omega) (by omega)) HMM.out).mono ?_; rintro e w24 ⟨rfl, b24⟩
  have B24 := bnext B23 b24
  have VaX' := Lib.hid (VaX.out.below b24 VaX.out.lt); clear VaX; have VaX := VaX'; clear VaX'
  have R7' := Lib.hid (R7.out.below b24); clear R7; have R7 := R7'; clear R7'
  have R23' := Lib.hid (R23.out.below b24); clear R23; have R23 := R23'; clear R23'
  clear B23
  have sz24 : w23.heap.size ≤ w24.heap.size := b24.size
  clear b24
  have naX0 : w24.cell? ⟨w.heap.size, 0, none⟩ = some (.string a2.id) := VaX.out.cell 0
  have naX1 : w24.cell? ⟨w.heap.size, 1, none⟩ = some (a2.list) := VaX.out.cell 1
  have naX2 : w24.cell? ⟨w.heap.size, 2, none⟩ = some (.int .i64 a2.mass) := VaX.out.cell 2
  have laX : w.heap.size < w24.heap.size := VaX.out.lt
  go_wp2_with fail
  go_region_held3 (fun w' => w'.cell? ⟨w.heap.size, 0, none⟩ = some (.string a2.id) ∧ w'.cell? ⟨w.heap.size, 1, none⟩ = some (a2.list) ∧ w'.cell? ⟨w.heap.size, 2, none⟩ = some (.int .i64 a2.mass)) (first | assumption | go_keep) (first
    | (go_at_call 27
       refine (toIngotS _ _ x0 (by exact H0.out.up (B24.drew)) hn0).mono ?_; rintro e w25 ⟨g25, rfl, hg25, o25, b25⟩
       have b25' : Below w24.heap.size w24 w25 := Below.trans (by (repeat' (first | (with_reducible exact Below.refl _ _) | (with_reducible assumption) | (with_reducible refine below_dn ?_ _) | (with_reducible refine Below.drew ?_) | (with_reducible refine Below.alloc ?_ ?_ _) | (with_reducible refine Below.setCell ?_ ?_ _) | go_size))) (b25.mono (by simp <;> omega))
       clear b25
       have b25 := b25'; clear b25'
       have B25 := bnext B24 b25
       have VaX' := Lib.hid (VaX.out.below b25 VaX.out.lt); clear VaX; have VaX := VaX'; clear VaX'
       have R7' := Lib.hid (R7.out.below b25); clear R7; have R7 := R7'; clear R7'
       have R23' := Lib.hid (R23.out.below b25); clear R23; have R23 := R23'; clear R23'
       clear B24
       have sz25 : w24.heap.size ≤ w25.heap.size := b25.size
       have ga25 : w24.heap.size ≤ g25 := hg25
       have gb25 : g25 < w25.heap.size := o25.lt
       have O25 := Lib.hid o25; clear o25 hg25
       clear b25
       have HS25 : w25.cell? ⟨w.heap.size, 0, none⟩ = some (.string a2.id) ∧ w25.cell? ⟨w.heap.size, 1, none⟩ = some (a2.list) ∧ w25.cell? ⟨w.heap.size, 2, none⟩ = some (.int .i64 a2.mass) := ⟨VaX.out.cell 0, VaX.out.cell 1, VaX.out.cell 2⟩)
    | (go_at_call 28
       refine (toMeltL _ _ x1 (by exact H1.out.up B25) hn1 (by exact fun x hx => ⟨(Hok1.out x hx).up B25, Hin1.out x hx⟩)).mono ?_; rintro e w26 ⟨g26, y26, rfl, hg26, o26, b26⟩
       have B26 := bnext B25 b26
       have VaX' := Lib.hid (VaX.out.below b26 VaX.out.lt); clear VaX; have VaX := VaX'; clear VaX'
       have R7' := Lib.hid (R7.out.below b26); clear R7; have R7 := R7'; clear R7'
       have R23' := Lib.hid (R23.out.below b26); clear R23; have R23 := R23'; clear R23'
       have O25' := Lib.hid (O25.out.below b26 O25.out.lt); clear O25; have O25 := O25'; clear O25'
       clear B25
       have sz26 : w25.heap.size ≤ w26.heap.size := b26.size
       have ga26 : w25.heap.size ≤ g26 := hg26
       have gb26 : g26 < w26.heap.size := o26.lt
       have O26 := Lib.hid (MeltsIn.of o26 hg26); clear o26 hg26
       clear b26
       have HS26 : w26.cell? ⟨w.heap.size, 0, none⟩ = some (.string a2.id) ∧ w26.cell? ⟨w.heap.size, 1, none⟩ = some (a2.list) ∧ w26.cell? ⟨w.heap.size, 2, none⟩ = some (.int .i64 a2.mass) := ⟨VaX.out.cell 0, VaX.out.cell 1, VaX.out.cell 2⟩)
    | (go_at_call 29
       refine (toMelt a2 _ (by exact Hk2.out.2.1.1.up B26) hn2).mono ?_; rintro e w27 ⟨g27, rfl, hg27, o27, b27⟩
       have B27 := bnext B26 b27
       have VaX' := Lib.hid (VaX.out.below b27 VaX.out.lt); clear VaX; have VaX := VaX'; clear VaX'
       have R7' := Lib.hid (R7.out.below b27); clear R7; have R7 := R7'; clear R7'
       have R23' := Lib.hid (R23.out.below b27); clear R23; have R23 := R23'; clear R23'
       have O25' := Lib.hid (O25.out.below b27 O25.out.lt); clear O25; have O25 := O25'; clear O25'
       have O26' := Lib.hid (O26.out.below b27 O26.out.lt); clear O26; have O26 := O26'; clear O26'
       clear B26
       have sz27 : w26.heap.size ≤ w27.heap.size := b27.size
       have ga27 : w26.heap.size ≤ g27 := hg27
       have gb27 : g27 < w27.heap.size := o27.lt
       have O27 := Lib.hid o27; clear o27 hg27
       clear b27
       have HS27 : w27.cell? ⟨w.heap.size, 0, none⟩ = some (.string a2.id) ∧ w27.cell? ⟨w.heap.size, 1, none⟩ = some (a2.list) ∧ w27.cell? ⟨w.heap.size, 2, none⟩ = some (.int .i64 a2.mass) := ⟨VaX.out.cell 0, VaX.out.cell 1, VaX.out.cell 2⟩)
    | (go_at_call 30
       refine (HI.out _ _ _ _ _ (O25.out.rd O25.out.lt (Ingot_len x0) (by unfold maxLen; omega) _ (Nat.le_refl _) (by unfold maxLen; omega)) (O26.out.1.rdm hn1 Hin1.out) (O27.out.rd O27.out.lt (putStr_len _) (by unfold maxLen; omega) _ (Nat.le_refl _) (by unfold maxLen; omega))).mono ?_; rintro e w28 ⟨r28, os28, rfl, k28, s28, b28⟩
       have B28 := bnext B27 b28
       have VaX' := Lib.hid (VaX.out.below b28 VaX.out.lt); clear VaX; have VaX := VaX'; clear VaX'
       have R7' := Lib.hid (R7.out.below b28); clear R7; have R7 := R7'; clear R7'
       have R23' := Lib.hid (R23.out.below b28); clear R23; have R23 := R23'; clear R23'
       have O25' := Lib.hid (O25.out.below b28 O25.out.lt); clear O25; have O25 := O25'; clear O25'
       have O26' := Lib.hid (O26.out.below b28 O26.out.lt); clear O26; have O26 := O26'; clear O26'
       have O27' := Lib.hid (O27.out.below b28 O27.out.lt); clear O27; have O27 := O27'; clear O27'
       clear B27
       have k28 := k28.lower (show w27.heap.size ≤ _ by first | exact Nat.le_refl _ | (simp <;> omega))
       have sz28 : w27.heap.size ≤ w28.heap.size := b28.size
       obtain ⟨ra28, rc28, rfl⟩ := k28.form
       have R28 := Lib.hid k28; clear k28
       obtain ⟨hl28, hc28, hi28, h028⟩ := nest_bounds s28 (by omega) HRI.out
       have S28 := Lib.hid s28; clear s28
       have Hi28 := Lib.hid hi28; clear hi28
       have H028 := Lib.hid h028; clear h028
       clear b28
       have HS28 : w28.cell? ⟨w.heap.size, 0, none⟩ = some (.string a2.id) ∧ w28.cell? ⟨w.heap.size, 1, none⟩ = some (a2.list) ∧ w28.cell? ⟨w.heap.size, 2, none⟩ = some (.int .i64 a2.mass) := ⟨VaX.out.cell 0, VaX.out.cell 1, VaX.out.cell 2⟩))
  clear naX0 naX1 naX2 laX HS28
  clear O25 O26 O27
  go_wp2_with fail
  refine (eqMeltN _ _ _ _ _ _ _ os28 os7 R28.out R7.out (S28.out.trans S7.out.symm) (by omega) Hi28.out).mono ?_; rintro e w29 ⟨rfl, b29⟩
  have B29 := bnext B28 b29
  have VaX' := Lib.hid (VaX.out.below b29 VaX.out.lt); clear VaX; have VaX := VaX'; clear VaX'
  have R7' := Lib.hid (R7.out.below b29); clear R7; have R7 := R7'; clear R7'
  have R23' := Lib.hid (R23.out.below b29); clear R23; have R23 := R23'; clear R23'
  have R28' := Lib.hid (R28.out.below b29); clear R28; have R28 := R28'; clear R28'
  clear B28
  have sz29 : w28.heap.size ≤ w29.heap.size := b29.size
  clear b29
  go_wp2_with fail
  refine (toM (heldMeltN _ _ _ _ _ os11 (by exact R23.out) (by omega) (by omega) (by omega) (by omega)) HMM.out).mono ?_; rintro e w30 ⟨rfl, b30⟩
  have B30 := bnext B29 b30
  have VaX' := Lib.hid (VaX.out.below b30 VaX.out.lt); clear VaX; have VaX := VaX'; clear VaX'
  have R7' := Lib.hid (R7.out.below b30); clear R7; have R7 := R7'; clear R7'
  have R23' := Lib.hid (R23.out.below b30); clear R23; have R23 := R23'; clear R23'
  have R28' := Lib.hid (R28.out.below b30); clear R28; have R28 := R28'; clear R28'
  clear B29
  have sz30 : w29.heap.size ≤ w30.heap.size := b30.size
  clear b30
  go_wp2_with fail
  all_goals go_ret
  all_goals exact ⟨rfl, B30⟩
end Go.Proofs.Ytnbodmbagendnaa
