/- MostFrom: both sides compute the same. -/
import Derived.Test.YtdliabgdgjboiaaRows
import Derived.Test.YtdliabgdgjboiaaMost
import Derived.Test.YtdliabgdgjboiaaAskS
namespace Go.Proofs.Ytdliabgdgjboiaa
open Go.ChangeShapes Go.WideShapes Go.ChangeAt Go.RowKit Go.Deep Go.Joins
set_option linter.unusedVariables false
set_option maxRecDepth 100000
set_option linter.unusedSimpArgs false
def mostFromS (xs : List Ingot) (x : Melt) : Int × Int := if askS xs x = 0 then (mostS xs x.ingots, 0) else (0, askS xs x)

set_option maxHeartbeats 2000000 in
theorem spec_MostFrom (w : World) (v : Value) (xs : List Ingot) (x : Melt) (lo : Option Addr) (lc : Nat) (h : Rd w.heap.size w v 5 xs.length (xs.flatMap Ingot.put)) (hn : xs.length ≤ 1048576) (hok : ∀ x ∈ xs, x.ok) (h2 : Rd w.heap.size w (.slice lo x.ingots.length lc) 1 x.ingots.length (x.ingots.flatMap putStr)) (hf : x.fine) :
    Calls Try.prog 20 #[v, .agg #[.string x.id, .slice lo x.ingots.length lc, .int .i64 x.mass]] w fun e w' => e = .returned (.tuple #[.int .i64 (mostFromS xs x).1, .int .i64 (mostFromS xs x).2]) ∧ Below w.heap.size w w' := by
  have H1 := Lib.hid h
  obtain ⟨vo, vc, rfl⟩ := h.form
  clear h
  have H2 := Lib.hid h2; clear h2
  have Hok := Lib.hid hok; clear hok
  have Hf := Lib.hid hf; clear hf
  have HX := Lib.hid (Own.new w 34 [.string x.id, .slice lo x.ingots.length lc, .int .i64 x.mass])
  by_cases h0 : askS xs x = 0
  case neg =>
    have e : Hid (mostFromS xs x = (0, askS xs x)) := (if_neg h0 : mostFromS xs x = (0, askS xs x))
    have t0 : (askS xs x != 0) = true := bne_iff_ne.2 h0
    have H0 := Lib.hid h0; clear h0
    go_enter Try.func20, Try.ntmps20
    go_wp2_with fail
    refine (spec_l14Ask _ _ xs x w.heap.size 0 lo lc (by exact H1.out.up (by (repeat' (first | (with_reducible exact Below.refl _ _) | (with_reducible assumption) | (with_reducible refine below_dn ?_ _) | (with_reducible refine Below.drew ?_) | (with_reducible refine Below.alloc ?_ ?_ _) | (with_reducible refine Below.setCell ?_ ?_ _) | go_size)))) hn Hok.out (HX.out.cell 0) (HX.out.cell 1) (HX.out.cell 2) HX.out.lt (by exact H2.out.up (by (repeat' (first | (with_reducible exact Below.refl _ _) | (with_reducible assumption) | (with_reducible refine below_dn ?_ _) | (with_reducible refine Below.drew ?_) | (with_reducible refine Below.alloc ?_ ?_ _) | (with_reducible refine Below.setCell ?_ ?_ _) | go_size)))) Hf.out).mono ?_; rintro e1 w1 ⟨rfl, b1⟩
    have HB1 := Lib.hid (show Below w.heap.size w w1 from Below.trans (by (repeat' (first | (with_reducible exact Below.refl _ _) | (with_reducible assumption) | (with_reducible refine below_dn ?_ _) | (with_reducible refine Below.drew ?_) | (with_reducible refine Below.alloc ?_ ?_ _) | (with_reducible refine Below.setCell ?_ ?_ _) | go_size))) (b1.mono (by simp <;> omega))); clear b1
    go_wp2_with fail
    go_ret2
    exact ⟨by rw [e.out]; rfl, HB1.out⟩
  obtain ⟨hV, hM, cs, hc⟩ := askS_zero h0
  obtain ⟨h16, hall⟩ := validIngotS_true hV
  have e : Hid (mostFromS xs x = (mostV (sumK massF xs cs), 0)) := (by unfold mostFromS mostS; rw [if_pos h0, metalS_some hc]; rfl : mostFromS xs x = (mostV (sumK massF xs cs), 0))
  have hpos : 1 ≤ mostV (sumK massF xs cs) := (most_pos ⟨mass_pos hall (ask_choice hV hM hc) (chosen_pos hM hc), (metal_bd h16 hall (ask_choice hV hM hc)).2⟩).1
  have t5 : (mostV (sumK massF xs cs) == 0) = false := beq_eq_false_iff_ne.2 (by omega)
  have HC := Lib.hid hc
  have HCH := Lib.hid (ask_choice hV hM hc)
  have HR := Lib.hid (rises_of hV)
  have HV := Lib.hid hall
  have H0 := Lib.hid h0
  clear hc hall hV hM h0
  go_enter Try.func20, Try.ntmps20
  go_wp2_with fail
  refine (spec_l14Ask _ _ xs x w.heap.size 0 lo lc (by exact H1.out.up (by (repeat' (first | (with_reducible exact Below.refl _ _) | (with_reducible assumption) | (with_reducible refine below_dn ?_ _) | (with_reducible refine Below.drew ?_) | (with_reducible refine Below.alloc ?_ ?_ _) | (with_reducible refine Below.setCell ?_ ?_ _) | go_size)))) hn Hok.out (HX.out.cell 0) (HX.out.cell 1) (HX.out.cell 2) HX.out.lt (by exact H2.out.up (by (repeat' (first | (with_reducible exact Below.refl _ _) | (with_reducible assumption) | (with_reducible refine below_dn ?_ _) | (with_reducible refine Below.drew ?_) | (with_reducible refine Below.alloc ?_ ?_ _) | (with_reducible refine Below.setCell ?_ ?_ _) | go_size)))) Hf.out).mono ?_; rw [H0.out]; rintro e1 w1 ⟨rfl, b1⟩
  have HB1 := Lib.hid (show Below w.heap.size w w1 from Below.trans (by (repeat' (first | (with_reducible exact Below.refl _ _) | (with_reducible assumption) | (with_reducible refine below_dn ?_ _) | (with_reducible refine Below.drew ?_) | (with_reducible refine Below.alloc ?_ ?_ _) | (with_reducible refine Below.setCell ?_ ?_ _) | go_size))) (b1.mono (by simp <;> omega)))
  have HX1 := Lib.hid (HX.out.below b1 HX.out.lt); clear b1
  go_wp2_with fail
  refine (spec_l14Most _ _ xs x.ingots cs w.heap.size 0 _ (by exact H1.out.up HB1.out) h16 HR.out HV.out (HX1.out.cell 1) HX1.out.lt (by exact H2.out.up HB1.out) Hf.out.2.2.2 HC.out HCH.out).mono ?_; rintro e2 w2 ⟨rfl, b2⟩
  have HB2 := Lib.hid (bnext HB1.out b2); clear b2
  go_wp2_with fail
  go_ret2
  exact ⟨by rw [e.out]; rfl, HB2.out⟩

set_option maxHeartbeats 2000000 in
theorem impl_MostFrom (w : World) (v : Value) (xs : List Ingot) (x : Melt) (lo : Option Addr) (lc : Nat) (h : Rd w.heap.size w v 5 xs.length (xs.flatMap Ingot.put)) (hn : xs.length ≤ 1048576) (hok : ∀ x ∈ xs, x.ok) (h2 : Rd w.heap.size w (.slice lo x.ingots.length lc) 1 x.ingots.length (x.ingots.flatMap putStr)) (hf : x.fine) :
    Calls Try.prog 21 #[v, .agg #[.string x.id, .slice lo x.ingots.length lc, .int .i64 x.mass]] w fun e w' => e = .returned (.tuple #[.int .i64 (mostFromS xs x).1, .int .i64 (mostFromS xs x).2]) ∧ Below w.heap.size w w' := by
  have H1 := Lib.hid h
  obtain ⟨vo, vc, rfl⟩ := h.form
  clear h
  have H2 := Lib.hid h2; clear h2
  have Hok := Lib.hid hok; clear hok
  have Hf := Lib.hid hf; clear hf
  have HX := Lib.hid (Own.new w 34 [.string x.id, .slice lo x.ingots.length lc, .int .i64 x.mass])
  by_cases h0 : askS xs x = 0
  case neg =>
    have e : Hid (mostFromS xs x = (0, askS xs x)) := (if_neg h0 : mostFromS xs x = (0, askS xs x))
    have t0 : (askS xs x != 0) = true := bne_iff_ne.2 h0
    have H0 := Lib.hid h0; clear h0
    go_enter Try.func21, Try.ntmps21
    go_wp2_with fail
    refine (impl_melted _ _ xs x lo lc (by exact H1.out.up (by (repeat' (first | (with_reducible exact Below.refl _ _) | (with_reducible assumption) | (with_reducible refine below_dn ?_ _) | (with_reducible refine Below.drew ?_) | (with_reducible refine Below.alloc ?_ ?_ _) | (with_reducible refine Below.setCell ?_ ?_ _) | go_size)))) hn Hok.out (by exact H2.out.up (by (repeat' (first | (with_reducible exact Below.refl _ _) | (with_reducible assumption) | (with_reducible refine below_dn ?_ _) | (with_reducible refine Below.drew ?_) | (with_reducible refine Below.alloc ?_ ?_ _) | (with_reducible refine Below.setCell ?_ ?_ _) | go_size)))) Hf.out).mono ?_; rintro e1 w1 ⟨rfl, b1⟩
    have HB1 := Lib.hid (show Below w.heap.size w w1 from Below.trans (by (repeat' (first | (with_reducible exact Below.refl _ _) | (with_reducible assumption) | (with_reducible refine below_dn ?_ _) | (with_reducible refine Below.drew ?_) | (with_reducible refine Below.alloc ?_ ?_ _) | (with_reducible refine Below.setCell ?_ ?_ _) | go_size))) (b1.mono (by simp <;> omega))); clear b1
    go_wp2_with fail
    go_ret2
    exact ⟨by rw [e.out]; rfl, HB1.out⟩
  obtain ⟨hV, hM, cs, hc⟩ := askS_zero h0
  obtain ⟨h16, hall⟩ := validIngotS_true hV
  have e : Hid (mostFromS xs x = (mostV (sumK massF xs cs), 0)) := (by unfold mostFromS mostS; rw [if_pos h0, metalS_some hc]; rfl : mostFromS xs x = (mostV (sumK massF xs cs), 0))
  have hpos : 1 ≤ mostV (sumK massF xs cs) := (most_pos ⟨mass_pos hall (ask_choice hV hM hc) (chosen_pos hM hc), (metal_bd h16 hall (ask_choice hV hM hc)).2⟩).1
  have t5 : (mostV (sumK massF xs cs) == 0) = false := beq_eq_false_iff_ne.2 (by omega)
  have HC := Lib.hid hc
  have HCH := Lib.hid (ask_choice hV hM hc)
  have HR := Lib.hid (rises_of hV)
  have HV := Lib.hid hall
  have H0 := Lib.hid h0
  clear hc hall hV hM h0
  go_enter Try.func21, Try.ntmps21
  go_wp2_with fail
  refine (impl_melted _ _ xs x lo lc (by exact H1.out.up (by (repeat' (first | (with_reducible exact Below.refl _ _) | (with_reducible assumption) | (with_reducible refine below_dn ?_ _) | (with_reducible refine Below.drew ?_) | (with_reducible refine Below.alloc ?_ ?_ _) | (with_reducible refine Below.setCell ?_ ?_ _) | go_size)))) hn Hok.out (by exact H2.out.up (by (repeat' (first | (with_reducible exact Below.refl _ _) | (with_reducible assumption) | (with_reducible refine below_dn ?_ _) | (with_reducible refine Below.drew ?_) | (with_reducible refine Below.alloc ?_ ?_ _) | (with_reducible refine Below.setCell ?_ ?_ _) | go_size)))) Hf.out).mono ?_; rw [H0.out]; rintro e1 w1 ⟨rfl, b1⟩
  have HB1 := Lib.hid (show Below w.heap.size w w1 from Below.trans (by (repeat' (first | (with_reducible exact Below.refl _ _) | (with_reducible assumption) | (with_reducible refine below_dn ?_ _) | (with_reducible refine Below.drew ?_) | (with_reducible refine Below.alloc ?_ ?_ _) | (with_reducible refine Below.setCell ?_ ?_ _) | go_size))) (b1.mono (by simp <;> omega)))
  have HX1 := Lib.hid (HX.out.below b1 HX.out.lt); clear b1
  have q0 : w1.cell? ⟨w.heap.size, 0, none⟩ = some (.string x.id) := HX1.out.cell 0
  have q1 : w1.cell? ⟨w.heap.size, 1, none⟩ = some (.slice lo x.ingots.length lc) := HX1.out.cell 1
  have q2 : w1.cell? ⟨w.heap.size, 2, none⟩ = some (.int .i64 x.mass) := HX1.out.cell 2
  go_wp2_with fail
  refine (impl_mostFrom _ _ xs x lo lc cs (by exact H1.out.up HB1.out) h16 HR.out HV.out (by exact H2.out.up HB1.out) Hf.out.2.2.2 HC.out HCH.out).mono ?_; rintro e2 w2 ⟨rfl, b2⟩
  have HB2 := Lib.hid (bnext HB1.out b2); clear b2
  go_wp2_with fail
  go_ret2
  exact ⟨by rw [e.out]; rfl, HB2.out⟩
end Go.Proofs.Ytdliabgdgjboiaa
