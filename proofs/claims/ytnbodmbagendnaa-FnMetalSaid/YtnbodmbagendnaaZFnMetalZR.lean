/- Contracts and plain facts, joined: AlloyOf, MetalOf. -/
import Derived.Test.YtnbodmbagendnaaRows
import Derived.Test.YtnbodmbagendnaaZFnMetalX
import Derived.Test.YtnbodmbagendnaaZFnMetalZI
import Derived.Test.YtnbodmbagendnaaZFnMetalZQ
namespace Go.Proofs.Ytnbodmbagendnaa
open Go.ChangeShapes Go.WideShapes Go.ChangeAt Go.RowKit Go.Deep Go.Joins
set_option linter.unusedVariables false
set_option maxRecDepth 100000
set_option linter.unusedSimpArgs false
def alloyOfS (xs : List Ingot) (x : Melt) : Alloy × Int := if askS xs x = 0 then ((chosenL xs x.ingots).elim ⟨0, 0, 0⟩ (mixA xs), 0) else (⟨0, 0, 0⟩, askS xs x)

set_option maxHeartbeats 4000000 in
theorem impl_alloyOf (w : World) (v : Value) (xs : List Ingot) (x : Melt) (lo : Option Addr) (lc : Nat) (cs : List Int) (h : Rd w.heap.size w v 5 xs.length (xs.flatMap Ingot.put)) (hn : xs.length ≤ 16) (hr : Rises xs) (hv : ∀ x ∈ xs, ingotB x = true)
    (h2 : Rd w.heap.size w (.slice lo x.ingots.length lc) 1 x.ingots.length (x.ingots.flatMap putStr)) (hn2 : x.ingots.length ≤ 1048576) (hc : chosenL xs x.ingots = some cs) (hch : choiceB xs.length cs = true) (h0 : 0 < cs.length) :
    Calls Try.prog 99 #[v, .agg #[.string x.id, .slice lo x.ingots.length lc, .int .i64 x.mass]] w fun e w' => e = .returned (.agg #[.int .i64 (mixA xs cs).copper, .int .i64 (mixA xs cs).tin, .int .i64 (mixA xs cs).other]) ∧ Below w.heap.size w w' := by
  have H1 := Lib.hid h
  obtain ⟨vo, vc, rfl⟩ := h.form
  clear h
  have H2 := Lib.hid h2; clear h2
  have HR := Lib.hid hr; clear hr
  have HV := Lib.hid hv; clear hv
  have HC := Lib.hid hc; clear hc
  have HCH := Lib.hid hch; clear hch
  have R : Hid (Own ((w.alloc (.cells #[.string x.id, .slice lo x.ingots.length lc, .int .i64 x.mass] 63)).alloc (.cells #[.int .i64 0, .int .i64 0, .int .i64 0] 80)) (w.heap.size + 1) 80 [.int .i64 0, .int .i64 0, .int .i64 0]) := Own.newAt _ _ (by simp)
  go_enter Try.func99, Try.ntmps99
  go_wp2_with fail
  refine (impl_choiceOf _ _ xs x lo lc (by exact H1.out.up (by (repeat' (first | (with_reducible exact Below.refl _ _) | (with_reducible assumption) | (with_reducible refine below_dn ?_ _) | (with_reducible refine Below.drew ?_) | (with_reducible refine Below.alloc ?_ ?_ _) | (with_reducible refine Below.setCell ?_ ?_ _) | go_size)))) (by omega) HR.out (by exact H2.out.up (by (repeat' (first | (with_reducible exact Below.refl _ _) | (with_reducible assumption) | (with_reducible refine below_dn ?_ _) | (with_reducible refine Below.drew ?_) | (with_reducible refine Below.alloc ?_ ?_ _) | (with_reducible refine Below.setCell ?_ ?_ _) | go_size)))) hn2).mono ?_; rintro e1 w1 ⟨⟨u, rfl, hu⟩, b1⟩
  have HU := Lib.hid (hu cs HC.out)
  obtain ⟨uo, uc, rfl⟩ := HU.out.form
  clear hu
  have B := Lib.hid (show Below w.heap.size w w1 from Below.trans (by (repeat' (first | (with_reducible exact Below.refl _ _) | (with_reducible assumption) | (with_reducible refine below_dn ?_ _) | (with_reducible refine Below.drew ?_) | (with_reducible refine Below.alloc ?_ ?_ _) | (with_reducible refine Below.setCell ?_ ?_ _) | go_size))) (b1.mono (by simp <;> omega)))
  have R' := Lib.hid (R.out.below b1 R.out.lt); clear R; have R := R'; clear R'
  clear b1
  generalize (chosenL xs x.ingots).isSome = ok at *
  go_wp2_with fail
  refine (impl_mix _ _ _ xs cs (by exact H1.out.up B.out) HU.out hn HV.out HCH.out h0).mono ?_; rintro e2 w2 ⟨rfl, b2⟩
  have B' := Lib.hid (bnext B.out b2); clear B; have B := B'; clear B'
  have R' := Lib.hid (R.out.below b2 R.out.lt); clear R; have R := R'; clear R'
  clear b2 HU
  have q0 : w2.cell? ⟨w.heap.size + 1, 0, none⟩ = some (.int .i64 0) := R.out.cell 0
  have q1 : w2.cell? ⟨w.heap.size + 1, 1, none⟩ = some (.int .i64 0) := R.out.cell 1
  have q2 : w2.cell? ⟨w.heap.size + 1, 2, none⟩ = some (.int .i64 0) := R.out.cell 2
  have f0 := R.out.free 0
  have f1 := R.out.free 1
  have f2 := R.out.free 2
  have hlr : w.heap.size + 1 < w2.heap.size := R.out.lt
  have hne : ¬ w.heap.size + 1 = w2.heap.size := by omega
  generalize hal : mixA xs cs = al at *
  have HAL := Lib.hid hal; clear hal
  go_wp2_with fail
  have hb := B.out
  exact bodyPost_ret (v := .agg #[.int .i64 al.copper, .int .i64 al.tin, .int .i64 al.other]) (by simp [results, Try.results99, go_sem, q0, q1, q2, hlr, hne]) rfl ⟨by rw [HAL.out], by (repeat' (first | (with_reducible exact Below.refl _ _) | (with_reducible assumption) | (with_reducible refine below_dn ?_ _) | (with_reducible refine Below.drew ?_) | (with_reducible refine Below.alloc ?_ ?_ _) | (with_reducible refine Below.setCell ?_ ?_ _) | go_size))⟩

set_option maxHeartbeats 4000000 in
theorem impl_AlloyOfMelt (w : World) (v : Value) (xs : List Ingot) (x : Melt) (lo : Option Addr) (lc : Nat) (h : Rd w.heap.size w v 5 xs.length (xs.flatMap Ingot.put)) (hn : xs.length ≤ 1048576) (hok : ∀ x ∈ xs, x.ok) (h2 : Rd w.heap.size w (.slice lo x.ingots.length lc) 1 x.ingots.length (x.ingots.flatMap putStr)) (hf : x.fine) :
    Calls Try.prog 43 #[v, .agg #[.string x.id, .slice lo x.ingots.length lc, .int .i64 x.mass]] w fun e w' => e = .returned (.tuple #[.agg #[.int .i64 (alloyOfS xs x).1.copper, .int .i64 (alloyOfS xs x).1.tin, .int .i64 (alloyOfS xs x).1.other], .int .i64 (alloyOfS xs x).2]) ∧ Below w.heap.size w w' := by
  have H1 := Lib.hid h
  obtain ⟨vo, vc, rfl⟩ := h.form
  clear h
  have H2 := Lib.hid h2; clear h2
  have Hok := Lib.hid hok; clear hok
  have Hf := Lib.hid hf; clear hf
  have X := Lib.hid ((Own.newAt 63 [.string x.id, .slice lo x.ingots.length lc, .int .i64 x.mass] (rfl : w.heap.size = w.heap.size)).alloc (.cells #[.int .i64 0, .int .i64 0, .int .i64 0] 80))
  have R : Hid (Own ((w.alloc (.cells #[.string x.id, .slice lo x.ingots.length lc, .int .i64 x.mass] 63)).alloc (.cells #[.int .i64 0, .int .i64 0, .int .i64 0] 80)) (w.heap.size + 1) 80 [.int .i64 0, .int .i64 0, .int .i64 0]) := Own.newAt _ _ (by simp)
  by_cases h0 : askS xs x = 0
  case neg =>
    have e : Hid (alloyOfS xs x = (⟨0, 0, 0⟩, askS xs x)) := (if_neg h0 : alloyOfS xs x = (⟨0, 0, 0⟩, askS xs x))
    have t0 : (askS xs x != 0) = true := bne_iff_ne.2 h0
    have H0 := Lib.hid h0; clear h0
    go_enter Try.func43, Try.ntmps43
    go_wp2_with fail
    refine (impl_melted _ _ xs x lo lc (by exact H1.out.up (by (repeat' (first | (with_reducible exact Below.refl _ _) | (with_reducible assumption) | (with_reducible refine below_dn ?_ _) | (with_reducible refine Below.drew ?_) | (with_reducible refine Below.alloc ?_ ?_ _) | (with_reducible refine Below.setCell ?_ ?_ _) | go_size)))) hn Hok.out (by exact H2.out.up (by (repeat' (first | (with_reducible exact Below.refl _ _) | (with_reducible assumption) | (with_reducible refine below_dn ?_ _) | (with_reducible refine Below.drew ?_) | (with_reducible refine Below.alloc ?_ ?_ _) | (with_reducible refine Below.setCell ?_ ?_ _) | go_size)))) Hf.out).mono ?_; rintro e1 w1 ⟨rfl, b1⟩
    have B := Lib.hid (show Below w.heap.size w w1 from Below.trans (by (repeat' (first | (with_reducible exact Below.refl _ _) | (with_reducible assumption) | (with_reducible refine below_dn ?_ _) | (with_reducible refine Below.drew ?_) | (with_reducible refine Below.alloc ?_ ?_ _) | (with_reducible refine Below.setCell ?_ ?_ _) | go_size))) (b1.mono (by simp <;> omega)))
    have R' := Lib.hid (R.out.below b1 R.out.lt); clear R; have R := R'; clear R'
    clear b1
    have q0 : w1.cell? ⟨w.heap.size + 1, 0, none⟩ = some (.int .i64 0) := R.out.cell 0
    have q1 : w1.cell? ⟨w.heap.size + 1, 1, none⟩ = some (.int .i64 0) := R.out.cell 1
    have q2 : w1.cell? ⟨w.heap.size + 1, 2, none⟩ = some (.int .i64 0) := R.out.cell 2
    have f0 := R.out.free 0
    have f1 := R.out.free 1
    have f2 := R.out.free 2
    have hlr : w.heap.size + 1 < w1.heap.size := R.out.lt
    have hne : ¬ w.heap.size + 1 = w1.heap.size := by omega
    go_wp2_with fail
    have hb := B.out
    exact bodyPost_ret (v := .tuple #[.agg #[.int .i64 0, .int .i64 0, .int .i64 0], .int .i64 (askS xs x)]) (by simp [results, Try.results43, go_sem, q0, q1, q2, hlr, hne]) rfl ⟨by rw [e.out], by (repeat' (first | (with_reducible exact Below.refl _ _) | (with_reducible assumption) | (with_reducible refine below_dn ?_ _) | (with_reducible refine Below.drew ?_) | (with_reducible refine Below.alloc ?_ ?_ _) | (with_reducible refine Below.setCell ?_ ?_ _) | go_size))⟩
  obtain ⟨hV, hM, cs, hc⟩ := askS_zero h0
  obtain ⟨h16, hall⟩ := validIngotS_true hV
  have e : Hid (alloyOfS xs x = (mixA xs cs, 0)) := (by unfold alloyOfS; rw [if_pos h0, hc]; rfl : alloyOfS xs x = (mixA xs cs, 0))
  have hpos := chosen_pos hM hc
  have hch := ask_choice hV hM hc
  have hl16 := choice_len hch
  have hI : ∀ c ∈ cs, I64 c := fun c hcc => by
    obtain ⟨k, hk, rfl⟩ := List.mem_iff_getElem.1 hcc
    have := okC_true (choice_rises hch k hk)
    exact ⟨by omega, by omega⟩
  have em : Hid (mixS xs cs = (mixA xs cs, sumK massF xs cs, 0)) := (by unfold mixS; rw [hV, hch, if_pos rfl, if_pos rfl, if_neg (by omega)] : mixS xs cs = (mixA xs cs, sumK massF xs cs, 0))
  have HC := Lib.hid hc
  have HI := Lib.hid hI
  have HCH := Lib.hid hch
  have HR := Lib.hid (rises_of hV)
  have HV := Lib.hid hall
  have H0 := Lib.hid h0
  clear hc hall hV hM h0 hI hch
  go_enter Try.func43, Try.ntmps43
  go_wp2_with fail
  refine (impl_melted _ _ xs x lo lc (by exact H1.out.up (by (repeat' (first | (with_reducible exact Below.refl _ _) | (with_reducible assumption) | (with_reducible refine below_dn ?_ _) | (with_reducible refine Below.drew ?_) | (with_reducible refine Below.alloc ?_ ?_ _) | (with_reducible refine Below.setCell ?_ ?_ _) | go_size)))) hn Hok.out (by exact H2.out.up (by (repeat' (first | (with_reducible exact Below.refl _ _) | (with_reducible assumption) | (with_reducible refine below_dn ?_ _) | (with_reducible refine Below.drew ?_) | (with_reducible refine Below.alloc ?_ ?_ _) | (with_reducible refine Below.setCell ?_ ?_ _) | go_size)))) Hf.out).mono ?_; rw [H0.out]; rintro e1 w1 ⟨rfl, b1⟩
  have B := Lib.hid (show Below w.heap.size w w1 from Below.trans (by (repeat' (first | (with_reducible exact Below.refl _ _) | (with_reducible assumption) | (with_reducible refine below_dn ?_ _) | (with_reducible refine Below.drew ?_) | (with_reducible refine Below.alloc ?_ ?_ _) | (with_reducible refine Below.setCell ?_ ?_ _) | go_size))) (b1.mono (by simp <;> omega)))
  have R' := Lib.hid (R.out.below b1 R.out.lt); clear R; have R := R'; clear R'
  have X' := Lib.hid (X.out.below b1 X.out.lt); clear X; have X := X'; clear X'
  clear b1
  have m0 : w1.cell? ⟨w.heap.size, 0, none⟩ = some (.string x.id) := X.out.cell 0
  have m1 : w1.cell? ⟨w.heap.size, 1, none⟩ = some (.slice lo x.ingots.length lc) := X.out.cell 1
  have m2 : w1.cell? ⟨w.heap.size, 2, none⟩ = some (.int .i64 x.mass) := X.out.cell 2
  have hlx : w.heap.size < w1.heap.size := X.out.lt
  go_wp2_with fail
  refine (impl_alloyOf _ _ xs x lo lc cs (by exact H1.out.up B.out) h16 HR.out HV.out (by exact H2.out.up B.out) Hf.out.2.2.2 HC.out HCH.out hpos).mono ?_; rintro e2 w2 ⟨rfl, b2⟩
  clear m0 m1 m2 hlx
  have B' := Lib.hid (bnext B.out b2); clear B; have B := B'; clear B'
  have R' := Lib.hid (R.out.below b2 R.out.lt); clear R; have R := R'; clear R'
  clear b2
  have q0 : w2.cell? ⟨w.heap.size + 1, 0, none⟩ = some (.int .i64 0) := R.out.cell 0
  have q1 : w2.cell? ⟨w.heap.size + 1, 1, none⟩ = some (.int .i64 0) := R.out.cell 1
  have q2 : w2.cell? ⟨w.heap.size + 1, 2, none⟩ = some (.int .i64 0) := R.out.cell 2
  have f0 := R.out.free 0
  have f1 := R.out.free 1
  have f2 := R.out.free 2
  have hlr : w.heap.size + 1 < w2.heap.size := R.out.lt
  have hne : ¬ w.heap.size + 1 = w2.heap.size := by omega
  generalize hal : mixA xs cs = al at *
  clear hal
  go_wp2_with fail
  have hb := B.out
  exact bodyPost_ret (v := .tuple #[.agg #[.int .i64 al.copper, .int .i64 al.tin, .int .i64 al.other], .int .i64 0]) (by simp [results, Try.results43, go_sem, q0, q1, q2, hlr, hne]) rfl ⟨by rw [e.out], by (repeat' (first | (with_reducible exact Below.refl _ _) | (with_reducible assumption) | (with_reducible refine below_dn ?_ _) | (with_reducible refine Below.drew ?_) | (with_reducible refine Below.alloc ?_ ?_ _) | (with_reducible refine Below.setCell ?_ ?_ _) | go_size))⟩
end Go.Proofs.Ytnbodmbagendnaa
namespace Go.Proofs.Ytnbodmbagendnaa
open Go.ChangeShapes Go.WideShapes Go.ChangeAt Go.RowKit Go.Deep Go.Joins
set_option linter.unusedVariables false
set_option maxRecDepth 100000
set_option linter.unusedSimpArgs false
def metalOfS (xs : List Ingot) (x : Melt) : Int × Int := if askS xs x = 0 then (metalS xs x.ingots, 0) else (0, askS xs x)

set_option maxHeartbeats 2000000 in
theorem impl_MetalOf (w : World) (v : Value) (xs : List Ingot) (x : Melt) (lo : Option Addr) (lc : Nat) (h : Rd w.heap.size w v 5 xs.length (xs.flatMap Ingot.put)) (hn : xs.length ≤ 1048576) (hok : ∀ x ∈ xs, x.ok) (h2 : Rd w.heap.size w (.slice lo x.ingots.length lc) 1 x.ingots.length (x.ingots.flatMap putStr)) (hf : x.fine) :
    Calls Try.prog 42 #[v, .agg #[.string x.id, .slice lo x.ingots.length lc, .int .i64 x.mass]] w fun e w' => e = .returned (.tuple #[.int .i64 (metalOfS xs x).1, .int .i64 (metalOfS xs x).2]) ∧ Below w.heap.size w w' := by
  have H1 := Lib.hid h
  obtain ⟨vo, vc, rfl⟩ := h.form
  clear h
  have H2 := Lib.hid h2; clear h2
  have Hok := Lib.hid hok; clear hok
  have Hf := Lib.hid hf; clear hf
  have HX := Lib.hid (Own.new w 63 [.string x.id, .slice lo x.ingots.length lc, .int .i64 x.mass])
  by_cases h0 : askS xs x = 0
  case neg =>
    have e : Hid (metalOfS xs x = (0, askS xs x)) := (if_neg h0 : metalOfS xs x = (0, askS xs x))
    have t0 : (askS xs x != 0) = true := bne_iff_ne.2 h0
    have H0 := Lib.hid h0; clear h0
    go_enter Try.func42, Try.ntmps42
    go_wp2_with fail
    refine (impl_melted _ _ xs x lo lc (by exact H1.out.up (by (repeat' (first | (with_reducible exact Below.refl _ _) | (with_reducible assumption) | (with_reducible refine below_dn ?_ _) | (with_reducible refine Below.drew ?_) | (with_reducible refine Below.alloc ?_ ?_ _) | (with_reducible refine Below.setCell ?_ ?_ _) | go_size)))) hn Hok.out (by exact H2.out.up (by (repeat' (first | (with_reducible exact Below.refl _ _) | (with_reducible assumption) | (with_reducible refine below_dn ?_ _) | (with_reducible refine Below.drew ?_) | (with_reducible refine Below.alloc ?_ ?_ _) | (with_reducible refine Below.setCell ?_ ?_ _) | go_size)))) Hf.out).mono ?_; rintro e1 w1 ⟨rfl, b1⟩
    have HB1 := Lib.hid (show Below w.heap.size w w1 from Below.trans (by (repeat' (first | (with_reducible exact Below.refl _ _) | (with_reducible assumption) | (with_reducible refine below_dn ?_ _) | (with_reducible refine Below.drew ?_) | (with_reducible refine Below.alloc ?_ ?_ _) | (with_reducible refine Below.setCell ?_ ?_ _) | go_size))) (b1.mono (by simp <;> omega))); clear b1
    go_wp2_with fail
    go_ret2
    exact ⟨by rw [e.out]; rfl, HB1.out⟩
  obtain ⟨hV, hM, cs, hc⟩ := askS_zero h0
  obtain ⟨h16, hall⟩ := validIngotS_true hV
  have e : Hid (metalOfS xs x = (sumK massF xs cs, 0)) := (by unfold metalOfS; rw [if_pos h0, metalS_some hc] : metalOfS xs x = (sumK massF xs cs, 0))
  have HC := Lib.hid hc
  have HCH := Lib.hid (ask_choice hV hM hc)
  have HR := Lib.hid (rises_of hV)
  have HV := Lib.hid hall
  have H0 := Lib.hid h0
  clear hc hall hV hM h0
  go_enter Try.func42, Try.ntmps42
  go_wp2_with fail
  refine (impl_melted _ _ xs x lo lc (by exact H1.out.up (by (repeat' (first | (with_reducible exact Below.refl _ _) | (with_reducible assumption) | (with_reducible refine below_dn ?_ _) | (with_reducible refine Below.drew ?_) | (with_reducible refine Below.alloc ?_ ?_ _) | (with_reducible refine Below.setCell ?_ ?_ _) | go_size)))) hn Hok.out (by exact H2.out.up (by (repeat' (first | (with_reducible exact Below.refl _ _) | (with_reducible assumption) | (with_reducible refine below_dn ?_ _) | (with_reducible refine Below.drew ?_) | (with_reducible refine Below.alloc ?_ ?_ _) | (with_reducible refine Below.setCell ?_ ?_ _) | go_size)))) Hf.out).mono ?_; rw [H0.out]; rintro e1 w1 ⟨rfl, b1⟩
  have HB1 := Lib.hid (show Below w.heap.size w w1 from Below.trans (by (repeat' (first | (with_reducible exact Below.refl _ _) | (with_reducible assumption) | (with_reducible refine below_dn ?_ _) | (with_reducible refine Below.drew ?_) | (with_reducible refine Below.alloc ?_ ?_ _) | (with_reducible refine Below.setCell ?_ ?_ _) | go_size))) (b1.mono (by simp <;> omega)))
  have HX1 := Lib.hid (HX.out.below b1 HX.out.lt); clear b1
  have q0 : w1.cell? ⟨w.heap.size, 0, none⟩ = some (.string x.id) := HX1.out.cell 0
  have q1 : w1.cell? ⟨w.heap.size, 1, none⟩ = some (.slice lo x.ingots.length lc) := HX1.out.cell 1
  have q2 : w1.cell? ⟨w.heap.size, 2, none⟩ = some (.int .i64 x.mass) := HX1.out.cell 2
  go_wp2_with fail
  refine (impl_metalOf _ _ xs x lo lc cs (by exact H1.out.up HB1.out) h16 HR.out HV.out (by exact H2.out.up HB1.out) Hf.out.2.2.2 HC.out HCH.out).mono ?_; rintro e2 w2 ⟨rfl, b2⟩
  have HB2 := Lib.hid (bnext HB1.out b2); clear b2
  go_wp2_with fail
  go_ret2
  exact ⟨by rw [e.out]; rfl, HB2.out⟩
end Go.Proofs.Ytnbodmbagendnaa
