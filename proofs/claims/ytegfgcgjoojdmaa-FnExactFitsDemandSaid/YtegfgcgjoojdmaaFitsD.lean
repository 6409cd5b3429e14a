/- FitsDemand: both sides compute the same. -/
import Derived.Test.YtegfgcgjoojdmaaRows
import Derived.Test.YtegfgcgjoojdmaaFits
import Derived.Test.YtegfgcgjoojdmaaMixS
namespace Go.Proofs.Ytegfgcgjoojdmaa
open Go.ChangeShapes Go.WideShapes Go.ChangeAt Go.RowKit Go.Deep Go.Joins
set_option linter.unusedVariables false
set_option maxRecDepth 100000
set_option linter.unusedSimpArgs false
def fitsDemandS (xs : List Ingot) (cs : List Int) (d : Demand) : Bool := validIngotS xs && (demandB d && (choiceB xs.length cs && fitsB d (sumK massF xs cs) (sumK tinF xs cs) (sumK otherF xs cs)))

theorem spec_l13Demand_is {r : Bool} (x : Demand) (a : Nat) (w : World) (h0 : w.cell? ⟨a, 0, none⟩ = some (.int .i64 x.least)) (h1 : w.cell? ⟨a, 1, none⟩ = some (.int .i64 x.most)) (h2 : w.cell? ⟨a, 2, none⟩ = some (.int .i64 x.minTin))
    (h3 : w.cell? ⟨a, 3, none⟩ = some (.int .i64 x.maxTin)) (h4 : w.cell? ⟨a, 4, none⟩ = some (.int .i64 x.other)) (hr : demandB x = r) :
    Calls Try.prog 100 #[.pointer (some ⟨a, 0, none⟩)] w fun e w' => e = .returned (.bool r) ∧ Below w.heap.size w w' := by
  subst hr
  exact (spec_l13Demand x a w h0 h1 h2 h3 h4).mono fun _ _ ⟨he, hw⟩ => ⟨he, by obtain ⟨n, rfl⟩ := hw; exact below_dn (Below.refl _ _) n⟩
theorem impl_ValidDemand_is {r : Bool} (x : Demand) (w : World) (hr : demandB x = r) :
    Calls Try.prog 106 #[.agg #[.int .i64 x.least, .int .i64 x.most, .int .i64 x.minTin, .int .i64 x.maxTin, .int .i64 x.other]] w fun e w' => e = .returned (.bool r) ∧ Below w.heap.size w w' := by
  subst hr; exact impl_ValidDemand x w

set_option maxHeartbeats 4000000 in
theorem spec_FitsDemand (d : Demand) (w : World) (v c : Value) (xs : List Ingot) (cs : List Int) (h1 : Rd w.heap.size w v 5 xs.length (xs.flatMap Ingot.put)) (h2 : Rd w.heap.size w c 1 cs.length (cs.flatMap putI)) (hn : xs.length ≤ 1048576) (hcn : cs.length ≤ 1048576) (hok : ∀ x ∈ xs, x.ok) (hi : ∀ c ∈ cs, I64 c) :
    Calls Try.prog 35 #[v, c, .agg #[.int .i64 d.least, .int .i64 d.most, .int .i64 d.minTin, .int .i64 d.maxTin, .int .i64 d.other]] w fun e w' => e = .returned (.bool (fitsDemandS xs cs d)) ∧ Below w.heap.size w w' := by
  have H1 := Lib.hid h1
  have H2 := Lib.hid h2
  obtain ⟨lo, lc, rfl⟩ := h1.form
  obtain ⟨lo2, lc2, rfl⟩ := h2.form
  clear h1 h2
  have Hok := Lib.hid hok; clear hok
  have Hi := Lib.hid hi; clear hi
  have hX := Lib.hid (Own.new w 67 [.int .i64 d.least, .int .i64 d.most, .int .i64 d.minTin, .int .i64 d.maxTin, .int .i64 d.other])
  cases hV : validIngotS xs
  case false =>
    have e : Hid (fitsDemandS xs cs d = false) := (by unfold fitsDemandS; rw [hV]; rfl : fitsDemandS xs cs d = false)
    have HV := Lib.hid hV; clear hV
    go_enter Try.func35, Try.ntmps35
    go_wp2_with fail
    refine (spec_l13Ok_is _ _ xs (by exact H1.out.up (by (repeat' (first | (with_reducible exact Below.refl _ _) | (with_reducible assumption) | (with_reducible refine below_dn ?_ _) | (with_reducible refine Below.drew ?_) | (with_reducible refine Below.alloc ?_ ?_ _) | (with_reducible refine Below.setCell ?_ ?_ _) | go_size)))) hn Hok.out HV.out).mono ?_; rintro e1 w1 ⟨rfl, b1⟩
    go_wp2_with fail
    go_ret
    exact ⟨by rw [e.out]; rfl, Below.trans (by (repeat' (first | (with_reducible exact Below.refl _ _) | (with_reducible assumption) | (with_reducible refine below_dn ?_ _) | (with_reducible refine Below.drew ?_) | (with_reducible refine Below.alloc ?_ ?_ _) | (with_reducible refine Below.setCell ?_ ?_ _) | go_size))) (b1.mono (by simp <;> omega))⟩
  obtain ⟨h16, hall⟩ := validIngotS_true hV
  cases hD : demandB d
  case false =>
    have e : Hid (fitsDemandS xs cs d = false) := (by unfold fitsDemandS; rw [hD]; simp : fitsDemandS xs cs d = false)
    have HV := Lib.hid hV; clear hV hall
    have HD := Lib.hid hD; clear hD
    go_enter Try.func35, Try.ntmps35
    go_wp2_with fail
    refine (spec_l13Ok_is _ _ xs (by exact H1.out.up (by (repeat' (first | (with_reducible exact Below.refl _ _) | (with_reducible assumption) | (with_reducible refine below_dn ?_ _) | (with_reducible refine Below.drew ?_) | (with_reducible refine Below.alloc ?_ ?_ _) | (with_reducible refine Below.setCell ?_ ?_ _) | go_size)))) hn Hok.out HV.out).mono ?_; rintro e1 w1 ⟨rfl, b1⟩
    have HB := Lib.hid (show Below w.heap.size w w1 from Below.trans (by (repeat' (first | (with_reducible exact Below.refl _ _) | (with_reducible assumption) | (with_reducible refine below_dn ?_ _) | (with_reducible refine Below.drew ?_) | (with_reducible refine Below.alloc ?_ ?_ _) | (with_reducible refine Below.setCell ?_ ?_ _) | go_size))) (b1.mono (by simp <;> omega)))
    have O1 := Lib.hid (hX.out.below b1 hX.out.lt); clear b1
    go_wp2_with fail
    refine (spec_l13Demand_is d _ _ (O1.out.cell 0) (O1.out.cell 1) (O1.out.cell 2) (O1.out.cell 3) (O1.out.cell 4) HD.out).mono ?_; rintro e2 w2 ⟨rfl, b2⟩
    have HB2 := Lib.hid (bnext HB.out b2); clear b2
    go_wp2_with fail
    go_ret
    exact ⟨by rw [e.out]; rfl, HB2.out⟩
  cases hC : choiceB xs.length cs
  case false =>
    have e : Hid (fitsDemandS xs cs d = false) := (by unfold fitsDemandS; rw [hC]; simp : fitsDemandS xs cs d = false)
    have HV := Lib.hid hV; clear hV hall
    have HD := Lib.hid hD; clear hD
    have HC := Lib.hid hC; clear hC
    go_enter Try.func35, Try.ntmps35
    go_wp2_with fail
    refine (spec_l13Ok_is _ _ xs (by exact H1.out.up (by (repeat' (first | (with_reducible exact Below.refl _ _) | (with_reducible assumption) | (with_reducible refine below_dn ?_ _) | (with_reducible refine Below.drew ?_) | (with_reducible refine Below.alloc ?_ ?_ _) | (with_reducible refine Below.setCell ?_ ?_ _) | go_size)))) hn Hok.out HV.out).mono ?_; rintro e1 w1 ⟨rfl, b1⟩
    have HB := Lib.hid (show Below w.heap.size w w1 from Below.trans (by (repeat' (first | (with_reducible exact Below.refl _ _) | (with_reducible assumption) | (with_reducible refine below_dn ?_ _) | (with_reducible refine Below.drew ?_) | (with_reducible refine Below.alloc ?_ ?_ _) | (with_reducible refine Below.setCell ?_ ?_ _) | go_size))) (b1.mono (by simp <;> omega)))
    have O1 := Lib.hid (hX.out.below b1 hX.out.lt); clear b1
    go_wp2_with fail
    refine (spec_l13Demand_is d _ _ (O1.out.cell 0) (O1.out.cell 1) (O1.out.cell 2) (O1.out.cell 3) (O1.out.cell 4) HD.out).mono ?_; rintro e2 w2 ⟨rfl, b2⟩
    have HB2 := Lib.hid (bnext HB.out b2); clear b2
    go_wp2_with fail
    refine (spec_l13Chosen_is _ _ _ _ _ cs (by exact H2.out.up HB2.out) hn hcn Hi.out HC.out).mono ?_; rintro e3 w3 ⟨rfl, b3⟩
    have HB3 := Lib.hid (bnext HB2.out b3); clear b3
    go_wp2_with fail
    go_ret
    exact ⟨by rw [e.out]; rfl, HB3.out⟩
  have e : Hid (fitsDemandS xs cs d = fitsB d (sumK massF xs cs) (sumK tinF xs cs) (sumK otherF xs cs)) := (by unfold fitsDemandS; rw [hV, hD, hC]; rfl : fitsDemandS xs cs d = fitsB d (sumK massF xs cs) (sumK tinF xs cs) (sumK otherF xs cs))
  have hcl : cs.length ≤ 16 := Nat.le_trans (choice_len hC) h16
  have hmb := massF_bd hall hcl cs.length
  rw [take_all (Nat.le_refl _)] at hmb
  have HS := Lib.hid (fun w' (hb : Below w.heap.size w w') => spec_l13Sum w' (.slice lo xs.length lc) (.slice lo2 cs.length lc2) xs cs (H1.out.up hb) (H2.out.up hb) h16 hall hC)
  have HV := Lib.hid hV; clear hV hall
  have HD := Lib.hid hD; clear hD
  have HC := Lib.hid hC; clear hC
  generalize sumK massF xs cs = m at *
  generalize sumK tinF xs cs = t at *
  generalize sumK otherF xs cs = u at *
  have HM := Lib.hid hmb; clear hmb
  go_enter Try.func35, Try.ntmps35
  go_wp2_with fail
  refine (spec_l13Ok_is _ _ xs (by exact H1.out.up (by (repeat' (first | (with_reducible exact Below.refl _ _) | (with_reducible assumption) | (with_reducible refine below_dn ?_ _) | (with_reducible refine Below.drew ?_) | (with_reducible refine Below.alloc ?_ ?_ _) | (with_reducible refine Below.setCell ?_ ?_ _) | go_size)))) hn Hok.out HV.out).mono ?_; rintro e1 w1 ⟨rfl, b1⟩
  have HB := Lib.hid (show Below w.heap.size w w1 from Below.trans (by (repeat' (first | (with_reducible exact Below.refl _ _) | (with_reducible assumption) | (with_reducible refine below_dn ?_ _) | (with_reducible refine Below.drew ?_) | (with_reducible refine Below.alloc ?_ ?_ _) | (with_reducible refine Below.setCell ?_ ?_ _) | go_size))) (b1.mono (by simp <;> omega)))
  have O1 := Lib.hid (hX.out.below b1 hX.out.lt); clear b1
  go_wp2_with fail
  refine (spec_l13Demand_is d _ _ (O1.out.cell 0) (O1.out.cell 1) (O1.out.cell 2) (O1.out.cell 3) (O1.out.cell 4) HD.out).mono ?_; rintro e2 w2 ⟨rfl, b2⟩
  have HB2 := Lib.hid (bnext HB.out b2)
  have O2 := Lib.hid (O1.out.below b2 O1.out.lt); clear b2
  go_wp2_with fail
  refine (spec_l13Chosen_is _ _ _ _ _ cs (by exact H2.out.up HB2.out) hn hcn Hi.out HC.out).mono ?_; rintro e3 w3 ⟨rfl, b3⟩
  have HB3 := Lib.hid (bnext HB2.out b3)
  have O3 := Lib.hid (O2.out.below b3 O2.out.lt); clear b3
  go_wp2_with fail
  refine (HS.out _ HB3.out).mono ?_; rintro e4 w4 ⟨rfl, b4⟩
  have HB4 := Lib.hid (bnext HB3.out b4)
  have O4 := Lib.hid (O3.out.below b4 O3.out.lt); clear b4
  go_wp2_with fail
  refine (spec_l13Fits d _ m t u _ (O4.out.cell 0) (O4.out.cell 1) (O4.out.cell 2) (O4.out.cell 3) (O4.out.cell 4) O4.out.lt HD.out HM.out).mono ?_; rintro e5 w5 ⟨rfl, b5⟩
  have HB5 := Lib.hid (bnext HB4.out b5); clear b5
  go_wp2_with fail
  go_ret
  exact ⟨by rw [e.out]; rfl, HB5.out⟩

set_option maxHeartbeats 4000000 in
theorem impl_FitsDemand (d : Demand) (w : World) (v c : Value) (xs : List Ingot) (cs : List Int) (h1 : Rd w.heap.size w v 5 xs.length (xs.flatMap Ingot.put)) (h2 : Rd w.heap.size w c 1 cs.length (cs.flatMap putI)) (hn : xs.length ≤ 1048576) (hcn : cs.length ≤ 1048576) (hok : ∀ x ∈ xs, x.ok) (hi : ∀ c ∈ cs, I64 c) :
    Calls Try.prog 39 #[v, c, .agg #[.int .i64 d.least, .int .i64 d.most, .int .i64 d.minTin, .int .i64 d.maxTin, .int .i64 d.other]] w fun e w' => e = .returned (.bool (fitsDemandS xs cs d)) ∧ Below w.heap.size w w' := by
  have H1 := Lib.hid h1
  have H2 := Lib.hid h2
  obtain ⟨lo, lc, rfl⟩ := h1.form
  obtain ⟨lo2, lc2, rfl⟩ := h2.form
  clear h1 h2
  have Hok := Lib.hid hok; clear hok
  have Hi := Lib.hid hi; clear hi
  have hX := Lib.hid (Own.new w 67 [.int .i64 d.least, .int .i64 d.most, .int .i64 d.minTin, .int .i64 d.maxTin, .int .i64 d.other])
  cases hV : validIngotS xs
  case false =>
    have e : Hid (fitsDemandS xs cs d = false) := (by unfold fitsDemandS; rw [hV]; rfl : fitsDemandS xs cs d = false)
    have HV := Lib.hid hV; clear hV
    go_enter Try.func39, Try.ntmps39
    go_wp2_with fail
    refine (impl_ValidIngots_is _ _ xs (by exact H1.out.up (by (repeat' (first | (with_reducible exact Below.refl _ _) | (with_reducible assumption) | (with_reducible refine below_dn ?_ _) | (with_reducible refine Below.drew ?_) | (with_reducible refine Below.alloc ?_ ?_ _) | (with_reducible refine Below.setCell ?_ ?_ _) | go_size)))) hn Hok.out HV.out).mono ?_; rintro e1 w1 ⟨rfl, b1⟩
    go_wp2_with fail
    go_ret
    exact ⟨by rw [e.out]; rfl, Below.trans (by (repeat' (first | (with_reducible exact Below.refl _ _) | (with_reducible assumption) | (with_reducible refine below_dn ?_ _) | (with_reducible refine Below.drew ?_) | (with_reducible refine Below.alloc ?_ ?_ _) | (with_reducible refine Below.setCell ?_ ?_ _) | go_size))) (b1.mono (by simp <;> omega))⟩
  obtain ⟨h16, hall⟩ := validIngotS_true hV
  cases hD : demandB d
  case false =>
    have e : Hid (fitsDemandS xs cs d = false) := (by unfold fitsDemandS; rw [hD]; simp : fitsDemandS xs cs d = false)
    have HV := Lib.hid hV; clear hV hall
    have HD := Lib.hid hD; clear hD
    go_enter Try.func39, Try.ntmps39
    go_wp2_with fail
    refine (impl_ValidIngots_is _ _ xs (by exact H1.out.up (by (repeat' (first | (with_reducible exact Below.refl _ _) | (with_reducible assumption) | (with_reducible refine below_dn ?_ _) | (with_reducible refine Below.drew ?_) | (with_reducible refine Below.alloc ?_ ?_ _) | (with_reducible refine Below.setCell ?_ ?_ _) | go_size)))) hn Hok.out HV.out).mono ?_; rintro e1 w1 ⟨rfl, b1⟩
    have HB := Lib.hid (show Below w.heap.size w w1 from Below.trans (by (repeat' (first | (with_reducible exact Below.refl _ _) | (with_reducible assumption) | (with_reducible refine below_dn ?_ _) | (with_reducible refine Below.drew ?_) | (with_reducible refine Below.alloc ?_ ?_ _) | (with_reducible refine Below.setCell ?_ ?_ _) | go_size))) (b1.mono (by simp <;> omega)))
    obtain ⟨hc, hf⟩ := bcell b1
    clear b1
    go_wp2_with fail
    clear hc hf
    refine (impl_ValidDemand_is d _ HD.out).mono ?_; rintro e2 w2 ⟨rfl, b2⟩
    have HB2 := Lib.hid (bnext HB.out b2); clear b2
    go_wp2_with fail
    go_ret
    exact ⟨by rw [e.out]; rfl, HB2.out⟩
  cases hC : choiceB xs.length cs
  case false =>
    have e : Hid (fitsDemandS xs cs d = false) := (by unfold fitsDemandS; rw [hC]; simp : fitsDemandS xs cs d = false)
    have HV := Lib.hid hV; clear hV hall
    have HD := Lib.hid hD; clear hD
    have HC := Lib.hid hC; clear hC
    go_enter Try.func39, Try.ntmps39
    go_wp2_with fail
    refine (impl_ValidIngots_is _ _ xs (by exact H1.out.up (by (repeat' (first | (with_reducible exact Below.refl _ _) | (with_reducible assumption) | (with_reducible refine below_dn ?_ _) | (with_reducible refine Below.drew ?_) | (with_reducible refine Below.alloc ?_ ?_ _) | (with_reducible refine Below.setCell ?_ ?_ _) | go_size)))) hn Hok.out HV.out).mono ?_; rintro e1 w1 ⟨rfl, b1⟩
    have HB := Lib.hid (show Below w.heap.size w w1 from Below.trans (by (repeat' (first | (with_reducible exact Below.refl _ _) | (with_reducible assumption) | (with_reducible refine below_dn ?_ _) | (with_reducible refine Below.drew ?_) | (with_reducible refine Below.alloc ?_ ?_ _) | (with_reducible refine Below.setCell ?_ ?_ _) | go_size))) (b1.mono (by simp <;> omega)))
    obtain ⟨hc, hf⟩ := bcell b1
    clear b1
    go_wp2_with fail
    clear hc hf
    refine (impl_ValidDemand_is d _ HD.out).mono ?_; rintro e2 w2 ⟨rfl, b2⟩
    have HB2 := Lib.hid (bnext HB.out b2); clear b2
    go_wp2_with fail
    refine (impl_isChoice_is _ _ _ _ _ cs (by exact H2.out.up HB2.out) hn hcn Hi.out HC.out).mono ?_; rintro e3 w3 ⟨rfl, b3⟩
    have HB3 := Lib.hid (bnext HB2.out b3); clear b3
    go_wp2_with fail
    go_ret
    exact ⟨by rw [e.out]; rfl, HB3.out⟩
  have e : Hid (fitsDemandS xs cs d = fitsB d (sumK massF xs cs) (sumK tinF xs cs) (sumK otherF xs cs)) := (by unfold fitsDemandS; rw [hV, hD, hC]; rfl : fitsDemandS xs cs d = fitsB d (sumK massF xs cs) (sumK tinF xs cs) (sumK otherF xs cs))
  have HS := Lib.hid (fun w' (hb : Below w.heap.size w w') => impl_fits d w' (.slice lo xs.length lc) (.slice lo2 cs.length lc2) xs cs (H1.out.up hb) (H2.out.up hb) h16 hall hC hD)
  have HV := Lib.hid hV; clear hV hall
  have HD := Lib.hid hD; clear hD
  have HC := Lib.hid hC; clear hC
  generalize fitsB d (sumK massF xs cs) (sumK tinF xs cs) (sumK otherF xs cs) = r at *
  go_enter Try.func39, Try.ntmps39
  go_wp2_with fail
  refine (impl_ValidIngots_is _ _ xs (by exact H1.out.up (by (repeat' (first | (with_reducible exact Below.refl _ _) | (with_reducible assumption) | (with_reducible refine below_dn ?_ _) | (with_reducible refine Below.drew ?_) | (with_reducible refine Below.alloc ?_ ?_ _) | (with_reducible refine Below.setCell ?_ ?_ _) | go_size)))) hn Hok.out HV.out).mono ?_; rintro e1 w1 ⟨rfl, b1⟩
  have HB := Lib.hid (show Below w.heap.size w w1 from Below.trans (by (repeat' (first | (with_reducible exact Below.refl _ _) | (with_reducible assumption) | (with_reducible refine below_dn ?_ _) | (with_reducible refine Below.drew ?_) | (with_reducible refine Below.alloc ?_ ?_ _) | (with_reducible refine Below.setCell ?_ ?_ _) | go_size))) (b1.mono (by simp <;> omega)))
  have O1 := Lib.hid (hX.out.below b1 hX.out.lt)
  obtain ⟨hc, hf⟩ := bcell b1
  clear b1
  go_wp2_with fail
  clear hc hf
  refine (impl_ValidDemand_is d _ HD.out).mono ?_; rintro e2 w2 ⟨rfl, b2⟩
  have HB2 := Lib.hid (bnext HB.out b2)
  have O2 := Lib.hid (O1.out.below b2 O1.out.lt); clear b2
  go_wp2_with fail
  refine (impl_isChoice_is _ _ _ _ _ cs (by exact H2.out.up HB2.out) hn hcn Hi.out HC.out).mono ?_; rintro e3 w3 ⟨rfl, b3⟩
  have HB3 := Lib.hid (bnext HB2.out b3)
  have O3 := O2.out.below b3 O2.out.lt
  have q0 := O3.cell 0
  have q1 := O3.cell 1
  have q2 := O3.cell 2
  have q3 := O3.cell 3
  have q4 := O3.cell 4
  simp only [List.getElem?_cons_zero, List.getElem?_cons_succ] at q0 q1 q2 q3 q4
  clear b3 O3
  go_wp2_with fail
  refine (HS.out _ HB3.out).mono ?_; rintro e4 w4 ⟨rfl, b4⟩
  have HB4 := Lib.hid (bnext HB3.out b4); clear b4
  go_wp2_with fail
  go_ret
  exact ⟨by rw [e.out]; rfl, HB4.out⟩
end Go.Proofs.Ytegfgcgjoojdmaa
