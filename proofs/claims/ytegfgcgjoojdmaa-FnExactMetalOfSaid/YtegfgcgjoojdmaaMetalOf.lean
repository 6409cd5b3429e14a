/- MetalOf: both sides compute the same. -/
import Derived.Test.YtegfgcgjoojdmaaRows
import Derived.Test.YtegfgcgjoojdmaaMetal
namespace Go.Proofs.Ytegfgcgjoojdmaa
open Go.ChangeShapes Go.WideShapes Go.ChangeAt Go.RowKit Go.Deep Go.Joins
set_option linter.unusedVariables false
set_option maxRecDepth 100000
set_option linter.unusedSimpArgs false
theorem askS_zero {xs : List Ingot} {x : Melt} (h : askS xs x = 0) : validIngotS xs = true ∧ meltB x = true ∧ ∃ cs, chosenL xs x.ingots = some cs := by
  unfold askS at h
  cases hV : validIngotS xs <;> cases hM : meltB x <;> rw [hV, hM] at h <;> simp at h
  refine ⟨rfl, rfl, ?_⟩
  exact Option.ne_none_iff_exists'.1 h
theorem ask_choice {xs : List Ingot} {x : Melt} {cs : List Int} (hV : validIngotS xs = true) (hM : meltB x = true) (hc : chosenL xs x.ingots = some cs) : choiceB xs.length cs = true :=
  choice_of (rises_of hV) (risesT_of (meltB_parts hM).2.2.2.1) hc
def metalOfS (xs : List Ingot) (x : Melt) : Int × Int := if askS xs x = 0 then (metalS xs x.ingots, 0) else (0, askS xs x)

set_option maxHeartbeats 2000000 in
theorem spec_MetalOf (w : World) (v : Value) (xs : List Ingot) (x : Melt) (lo : Option Addr) (lc : Nat) (h : Rd w.heap.size w v 5 xs.length (xs.flatMap Ingot.put)) (hn : xs.length ≤ 1048576) (hok : ∀ x ∈ xs, x.ok) (h2 : Rd w.heap.size w (.slice lo x.ingots.length lc) 1 x.ingots.length (x.ingots.flatMap putStr)) (hf : x.fine) :
    Calls Try.prog 66 #[v, .agg #[.string x.id, .slice lo x.ingots.length lc, .int .i64 x.mass]] w fun e w' => e = .returned (.tuple #[.int .i64 (metalOfS xs x).1, .int .i64 (metalOfS xs x).2]) ∧ Below w.heap.size w w' := by
  have H1 := Lib.hid h
  obtain ⟨vo, vc, rfl⟩ := h.form
  clear h
  have H2 := Lib.hid h2; clear h2
  have Hok := Lib.hid hok; clear hok
  have Hf := Lib.hid hf; clear hf
  have HX := Lib.hid (Own.new w 107 [.string x.id, .slice lo x.ingots.length lc, .int .i64 x.mass])
  by_cases h0 : askS xs x = 0
  case neg =>
    have e : Hid (metalOfS xs x = (0, askS xs x)) := (if_neg h0 : metalOfS xs x = (0, askS xs x))
    have t0 : (askS xs x != 0) = true := bne_iff_ne.2 h0
    have H0 := Lib.hid h0; clear h0
    go_enter Try.func66, Try.ntmps66
    go_wp2_with fail
    refine (spec_l14Ask _ _ xs x w.heap.size 0 lo lc (by exact H1.out.up (by (repeat' (first | (with_reducible exact Below.refl _ _) | (with_reducible assumption) | (with_reducible refine below_dn ?_ _) | (with_reducible refine Below.drew ?_) | (with_reducible refine Below.alloc ?_ ?_ _) | (with_reducible refine Below.setCell ?_ ?_ _) | go_size)))) hn Hok.out (HX.out.cell 0) (HX.out.cell 1) (HX.out.cell 2) HX.out.lt (by exact H2.out.up (by (repeat' (first | (with_reducible exact Below.refl _ _) | (with_reducible assumption) | (with_reducible refine below_dn ?_ _) | (with_reducible refine Below.drew ?_) | (with_reducible refine Below.alloc ?_ ?_ _) | (with_reducible refine Below.setCell ?_ ?_ _) | go_size)))) Hf.out).mono ?_; rintro e1 w1 ⟨rfl, b1⟩
    have HB1 := Lib.hid (show Below w.heap.size w w1 from Below.trans (by (repeat' (first | (with_reducible exact Below.refl _ _) | (with_reducible assumption) | (with_reducible refine below_dn ?_ _) | (with_reducible refine Below.drew ?_) | (with_reducible refine Below.alloc ?_ ?_ _) | (with_reducible refine Below.setCell ?_ ?_ _) | go_size))) (b1.mono (by simp <;> omega))); clear b1
    go_wp2_with fail
    go_ret2
    exact ⟨by rw [e.out]; rfl, HB1.out⟩
  obtain ⟨hV, hM, cs, hc⟩ := askS_zero h0
  obtain ⟨h16, hall⟩ := validIngotS_true hV
  have e : Hid (metalOfS xs x = (sumK massF xs cs, 0)) := (by unfold metalOfS; rw [if_pos h0, metalS_some hc] : metalOfS xs x = (sumK massF xs cs, 0))
  have HC := Lib.hid hc
  have HCH := Lib.hid (ask_choice hV hM hc)
  have HR := Lib.hid (rises_of hV)
  have HV := Lib.hid hall
  have H0 := Lib.hid h0
  clear hc hall hV hM h0
  go_enter Try.func66, Try.ntmps66
  go_wp2_with fail
  refine (spec_l14Ask _ _ xs x w.heap.size 0 lo lc (by exact H1.out.up (by (repeat' (first | (with_reducible exact Below.refl _ _) | (with_reducible assumption) | (with_reducible refine below_dn ?_ _) | (with_reducible refine Below.drew ?_) | (with_reducible refine Below.alloc ?_ ?_ _) | (with_reducible refine Below.setCell ?_ ?_ _) | go_size)))) hn Hok.out (HX.out.cell 0) (HX.out.cell 1) (HX.out.cell 2) HX.out.lt (by exact H2.out.up (by (repeat' (first | (with_reducible exact Below.refl _ _) | (with_reducible assumption) | (with_reducible refine below_dn ?_ _) | (with_reducible refine Below.drew ?_) | (with_reducible refine Below.alloc ?_ ?_ _) | (with_reducible refine Below.setCell ?_ ?_ _) | go_size)))) Hf.out).mono ?_; rw [H0.out]; rintro e1 w1 ⟨rfl, b1⟩
  have HB1 := Lib.hid (show Below w.heap.size w w1 from Below.trans (by (repeat' (first | (with_reducible exact Below.refl _ _) | (with_reducible assumption) | (with_reducible refine below_dn ?_ _) | (with_reducible refine Below.drew ?_) | (with_reducible refine Below.alloc ?_ ?_ _) | (with_reducible refine Below.setCell ?_ ?_ _) | go_size))) (b1.mono (by simp <;> omega)))
  have HX1 := Lib.hid (HX.out.below b1 HX.out.lt); clear b1
  go_wp2_with fail
  refine (spec_l14Metal _ _ xs x.ingots cs w.heap.size 0 _ (by exact H1.out.up HB1.out) h16 HR.out HV.out (HX1.out.cell 1) HX1.out.lt (by exact H2.out.up HB1.out) Hf.out.2.2.2 HC.out HCH.out).mono ?_; rintro e2 w2 ⟨rfl, b2⟩
  have HB2 := Lib.hid (bnext HB1.out b2); clear b2
  go_wp2_with fail
  go_ret2
  exact ⟨by rw [e.out]; rfl, HB2.out⟩

set_option maxHeartbeats 2000000 in
theorem impl_MetalOf (w : World) (v : Value) (xs : List Ingot) (x : Melt) (lo : Option Addr) (lc : Nat) (h : Rd w.heap.size w v 5 xs.length (xs.flatMap Ingot.put)) (hn : xs.length ≤ 1048576) (hok : ∀ x ∈ xs, x.ok) (h2 : Rd w.heap.size w (.slice lo x.ingots.length lc) 1 x.ingots.length (x.ingots.flatMap putStr)) (hf : x.fine) :
    Calls Try.prog 68 #[v, .agg #[.string x.id, .slice lo x.ingots.length lc, .int .i64 x.mass]] w fun e w' => e = .returned (.tuple #[.int .i64 (metalOfS xs x).1, .int .i64 (metalOfS xs x).2]) ∧ Below w.heap.size w w' := by
  have H1 := Lib.hid h
  obtain ⟨vo, vc, rfl⟩ := h.form
  clear h
  have H2 := Lib.hid h2; clear h2
  have Hok := Lib.hid hok; clear hok
  have Hf := Lib.hid hf; clear hf
  have HX := Lib.hid (Own.new w 107 [.string x.id, .slice lo x.ingots.length lc, .int .i64 x.mass])
  by_cases h0 : askS xs x = 0
  case neg =>
    have e : Hid (metalOfS xs x = (0, askS xs x)) := (if_neg h0 : metalOfS xs x = (0, askS xs x))
    have t0 : (askS xs x != 0) = true := bne_iff_ne.2 h0
    have H0 := Lib.hid h0; clear h0
    go_enter Try.func68, Try.ntmps68
    go_wp2_with fail
    refine (impl_melted _ _ xs x lo lc (by exact H1.out.up (by (repeat' (first | (with_reducible exact Below.refl _ _) | (with_reducible assumption) | (with_reducible refine below_dn ?_ _) | (with_reducible refine Below.drew ?_) | (with_reducible refine Below.alloc ?_ ?_ _) | (with_reducible refine Below.setCell ?_ ?_ _) | go_size)))) hn Hok.out (by exact H2.out.up (by (repeat' (first | (with_reducible exact Below.refl _ _) | (with_reducible assumption) | (with_reducible refine below_dn ?_ _) | (with_reducible refine Below.drew ?_) | (with_reducible refine Below.alloc ?_ ?_ _) | (with_reducible refine Below.setCell ?_ ?_ _) | go_size)))) Hf.out).mono ?_; rintro e1 w1 ⟨rfl, b1⟩
    have HB1 := Lib.hid (show Below w.heap.size w w1 from Below.trans (by (repeat' (first | (with_reducible exact Below.refl _ _) | (with_reducible assumption) | (with_reducible refine below_dn ?_ _) | (with_reducible refine Below.drew ?_) | (with_reducible refine Below.alloc ?_ ?_ _) | (with_reducible refine Below.setCell ?_ ?_ _) | go_size))) (b1.mono (by simp <;> omega))); clear b1
    go_wp2_with fail
    go_ret2
    exact ⟨by rw [e.out]; rfl, HB1.out⟩
  obtain ⟨hV, hM, cs, hc⟩ := askS_zero h0
  obtain ⟨h16, hall⟩ := validIngotS_true hV
  have e : Hid (metalOfS xs x = (sumK massF xs cs, 0)) := (by unfold metalOfS; rw [if_pos h0, metalS_some hc] : metalOfS xs x = (sumK massF xs cs, 0))
  have HC := Lib.hid hc
  have HCH := Lib.hid (ask_choice hV hM hc)
  have HR := Lib.hid (rises_of hV)
  have HV := Lib.hid hall
  have H0 := Lib.hid h0
  clear hc hall hV hM h0
  go_enter Try.func68, Try.ntmps68
  go_wp2_with fail
  refine (impl_melted _ _ xs x lo lc (by exact H1.out.up (by (repeat' (first | (with_reducible exact Below.refl _ _) | (with_reducible assumption) | (with_reducible refine below_dn ?_ _) | (with_reducible refine Below.drew ?_) | (with_reducible refine Below.alloc ?_ ?_ _) | (with_reducible refine Below.setCell ?_ ?_ _) | go_size)))) hn Hok.out (by exact H2.out.up (by (repeat' (first | (with_reducible exact Below.refl _ _) | (with_reducible assumption) | (with_reducible refine below_dn ?_ _) | (with_reducible refine Below.drew ?_) | (with_reducible refine Below.alloc ?_ ?_ _) | (with_reducible refine Below.setCell ?_ ?_ _) | go_size)))) Hf.out).mono ?_; rw [H0.out]; rintro e1 w1 ⟨rfl, b1⟩
  have HB1 := Lib.hid (show Below w.heap.size w w1 from Below.trans (by (repeat' (first | (with_reducible exact Below.refl _ _) | (with_reducible assumption) | (with_reducible refine below_dn ?_ _) | (with_reducible refine Below.drew ?_) | (with_reducible refine Below.alloc ?_ ?_ _) | (with_reducible refine Below.setCell ?_ ?_ _) | go_size))) (b1.mono (by simp <;> omega)))
  have HX1 := Lib.hid (HX.out.below b1 HX.out.lt); clear b1
  have q0 : w1.cell? ⟨w.heap.size, 0, none⟩ = some (.string x.id) := HX1.out.cell 0
  have q1 : w1.cell? ⟨w.heap.size, 1, none⟩ = some (.slice lo x.ingots.length lc) := HX1.out.cell 1
  have q2 : w1.cell? ⟨w.heap.size, 2, none⟩ = some (.int .i64 x.mass) := HX1.out.cell 2
  go_wp2_with fail
  refine (impl_metalOf _ _ xs x lo lc cs (by exact H1.out.up HB1.out) h16 HR.out HV.out (by exact H2.out.up HB1.out) Hf.out.2.2.2 HC.out HCH.out).mono ?_; rintro e2 w2 ⟨rfl, b2⟩
  have HB2 := Lib.hid (bnext HB1.out b2); clear b2
  go_wp2_with fail
  go_ret2
  exact ⟨by rw [e.out]; rfl, HB2.out⟩
end Go.Proofs.Ytegfgcgjoojdmaa
