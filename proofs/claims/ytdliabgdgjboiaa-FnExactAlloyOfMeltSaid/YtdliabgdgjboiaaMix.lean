/- MixOf: both sides compute the same. -/
import Derived.Test.YtdliabgdgjboiaaRows
import Derived.Test.YtdliabgdgjboiaaMixS
namespace Go.Proofs.Ytdliabgdgjboiaa
open Go.ChangeShapes Go.WideShapes Go.ChangeAt Go.RowKit Go.Deep Go.Joins
set_option linter.unusedVariables false
set_option maxRecDepth 100000
set_option linter.unusedSimpArgs false
set_option maxHeartbeats 4000000 in
theorem spec_MixOf (w : World) (v c : Value) (xs : List Ingot) (cs : List Int) (h1 : Rd w.heap.size w v 5 xs.length (xs.flatMap Ingot.put)) (h2 : Rd w.heap.size w c 1 cs.length (cs.flatMap putI)) (hn : xs.length ≤ 1048576) (hcn : cs.length ≤ 1048576) (hok : ∀ x ∈ xs, x.ok) (hi : ∀ c ∈ cs, I64 c) :
    Calls Try.prog 56 #[v, c] w fun e w' => e = .returned (.tuple #[.agg #[.int .i64 (mixS xs cs).1.copper, .int .i64 (mixS xs cs).1.tin, .int .i64 (mixS xs cs).1.other], .int .i64 (mixS xs cs).2.1, .int .i64 (mixS xs cs).2.2]) ∧ Below w.heap.size w w' := by
  unfold mixS
  have H1 := Lib.hid h1
  have H2 := Lib.hid h2
  obtain ⟨lo, lc, rfl⟩ := h1.form
  obtain ⟨lo2, lc2, rfl⟩ := h2.form
  clear h1 h2
  have Hok := Lib.hid hok; clear hok
  have Hi := Lib.hid hi; clear hi
  have hX := Lib.hid (Own.new w 29 [.int .i64 0, .int .i64 0, .int .i64 0])
  cases hV : validIngotS xs
  case false =>
    simp only [Bool.false_eq_true, if_false]
    have HV := Lib.hid hV; clear hV
    go_enter Try.func56, Try.ntmps56
    go_wp2_with fail
    refine (spec_l13Ok_is _ _ xs (by exact H1.out.up (by (repeat' (first | (with_reducible exact Below.refl _ _) | (with_reducible assumption) | (with_reducible refine below_dn ?_ _) | (with_reducible refine Below.drew ?_) | (with_reducible refine Below.alloc ?_ ?_ _) | (with_reducible refine Below.setCell ?_ ?_ _) | go_size)))) hn Hok.out HV.out).mono ?_; rintro e1 w1 ⟨rfl, b1⟩
    have O1 := hX.out.below b1 hX.out.lt
    have q0 : w1.cell? ⟨w.heap.size, 0, none⟩ = some (.int .i64 0) := O1.cell 0
    have q1 : w1.cell? ⟨w.heap.size, 1, none⟩ = some (.int .i64 0) := O1.cell 1
    have q2 : w1.cell? ⟨w.heap.size, 2, none⟩ = some (.int .i64 0) := O1.cell 2
    have f0 := O1.free 0
    have f1 := O1.free 1
    have f2 := O1.free 2
    have hlt := O1.lt
    have hne : ¬ w.heap.size = w1.heap.size := by omega
    have HO1 := Lib.hid O1; clear O1
    have HB := Lib.hid (show Below w.heap.size w w1 from Below.trans (by (repeat' (first | (with_reducible exact Below.refl _ _) | (with_reducible assumption) | (with_reducible refine below_dn ?_ _) | (with_reducible refine Below.drew ?_) | (with_reducible refine Below.alloc ?_ ?_ _) | (with_reducible refine Below.setCell ?_ ?_ _) | go_size))) (b1.mono (by simp <;> omega)))
    clear b1
    go_wp2_with fail
    have hb := HB.out
    exact bodyPost_ret (v := .tuple #[.agg #[.int .i64 0, .int .i64 0, .int .i64 0], .int .i64 0, .int .i64 1]) (by simp [results, Try.results56, go_sem, q0, q1, q2, hlt, hne]) rfl ⟨rfl, by (repeat' (first | (with_reducible exact Below.refl _ _) | (with_reducible assumption) | (with_reducible refine below_dn ?_ _) | (with_reducible refine Below.drew ?_) | (with_reducible refine Below.alloc ?_ ?_ _) | (with_reducible refine Below.setCell ?_ ?_ _) | go_size))⟩
  obtain ⟨h16, hall⟩ := validIngotS_true hV
  have HV := Lib.hid hV; clear hV
  have HA := Lib.hid hall; clear hall
  cases hC : choiceB xs.length cs
  case false =>
    simp only [Bool.false_eq_true, if_false, if_true]
    have HC := Lib.hid hC; clear hC
    go_enter Try.func56, Try.ntmps56
    go_wp2_with fail
    refine (spec_l13Ok_is _ _ xs (by exact H1.out.up (by (repeat' (first | (with_reducible exact Below.refl _ _) | (with_reducible assumption) | (with_reducible refine below_dn ?_ _) | (with_reducible refine Below.drew ?_) | (with_reducible refine Below.alloc ?_ ?_ _) | (with_reducible refine Below.setCell ?_ ?_ _) | go_size)))) hn Hok.out HV.out).mono ?_; rintro e1 w1 ⟨rfl, b1⟩
    have O1 := hX.out.below b1 hX.out.lt
    have q0 : w1.cell? ⟨w.heap.size, 0, none⟩ = some (.int .i64 0) := O1.cell 0
    have q1 : w1.cell? ⟨w.heap.size, 1, none⟩ = some (.int .i64 0) := O1.cell 1
    have q2 : w1.cell? ⟨w.heap.size, 2, none⟩ = some (.int .i64 0) := O1.cell 2
    have f0 := O1.free 0
    have f1 := O1.free 1
    have f2 := O1.free 2
    have hlt := O1.lt
    have hne : ¬ w.heap.size = w1.heap.size := by omega
    have HO1 := Lib.hid O1; clear O1
    have HB := Lib.hid (show Below w.heap.size w w1 from Below.trans (by (repeat' (first | (with_reducible exact Below.refl _ _) | (with_reducible assumption) | (with_reducible refine below_dn ?_ _) | (with_reducible refine Below.drew ?_) | (with_reducible refine Below.alloc ?_ ?_ _) | (with_reducible refine Below.setCell ?_ ?_ _) | go_size))) (b1.mono (by simp <;> omega)))
    clear b1
    clear q0 q1 q2 f0 f1 f2 hlt hne
    go_wp2_with fail
    refine (spec_l13Chosen_is _ _ _ _ _ cs (by exact H2.out.up HB.out) hn hcn Hi.out HC.out).mono ?_; rintro e2 w2 ⟨rfl, b2⟩
    have O2 := HO1.out.below b2 HO1.out.lt
    have q0 : w2.cell? ⟨w.heap.size, 0, none⟩ = some (.int .i64 0) := O2.cell 0
    have q1 : w2.cell? ⟨w.heap.size, 1, none⟩ = some (.int .i64 0) := O2.cell 1
    have q2 : w2.cell? ⟨w.heap.size, 2, none⟩ = some (.int .i64 0) := O2.cell 2
    have f0 := O2.free 0
    have f1 := O2.free 1
    have f2 := O2.free 2
    have hlt := O2.lt
    have hne : ¬ w.heap.size = w2.heap.size := by omega
    have HO2 := Lib.hid O2; clear O2
    have HB' := Lib.hid (bnext HB.out b2); clear HB; have HB := HB'; clear HB'
    clear b2 HO1
    go_wp2_with fail
    have hb := HB.out
    exact bodyPost_ret (v := .tuple #[.agg #[.int .i64 0, .int .i64 0, .int .i64 0], .int .i64 0, .int .i64 2]) (by simp [results, Try.results56, go_sem, q0, q1, q2, hlt, hne]) rfl ⟨rfl, by (repeat' (first | (with_reducible exact Below.refl _ _) | (with_reducible assumption) | (with_reducible refine below_dn ?_ _) | (with_reducible refine Below.drew ?_) | (with_reducible refine Below.alloc ?_ ?_ _) | (with_reducible refine Below.setCell ?_ ?_ _) | go_size))⟩
  have HC := Lib.hid hC; clear hC
  by_cases h0 : cs.length = 0
  · simp only [if_pos h0, if_true]
    have hz : ((cs.length : Int) == 0) = true := beq_iff_eq.2 (by omega)
    have H0 := Lib.hid h0; clear h0
    go_enter Try.func56, Try.ntmps56
    go_wp2_with fail
    refine (spec_l13Ok_is _ _ xs (by exact H1.out.up (by (repeat' (first | (with_reducible exact Below.refl _ _) | (with_reducible assumption) | (with_reducible refine below_dn ?_ _) | (with_reducible refine Below.drew ?_) | (with_reducible refine Below.alloc ?_ ?_ _) | (with_reducible refine Below.setCell ?_ ?_ _) | go_size)))) hn Hok.out HV.out).mono ?_; rintro e1 w1 ⟨rfl, b1⟩
    have O1 := hX.out.below b1 hX.out.lt
    have q0 : w1.cell? ⟨w.heap.size, 0, none⟩ = some (.int .i64 0) := O1.cell 0
    have q1 : w1.cell? ⟨w.heap.size, 1, none⟩ = some (.int .i64 0) := O1.cell 1
    have q2 : w1.cell? ⟨w.heap.size, 2, none⟩ = some (.int .i64 0) := O1.cell 2
    have f0 := O1.free 0
    have f1 := O1.free 1
    have f2 := O1.free 2
    have hlt := O1.lt
    have hne : ¬ w.heap.size = w1.heap.size := by omega
    have HO1 := Lib.hid O1; clear O1
    have HB := Lib.hid (show Below w.heap.size w w1 from Below.trans (by (repeat' (first | (with_reducible exact Below.refl _ _) | (with_reducible assumption) | (with_reducible refine below_dn ?_ _) | (with_reducible refine Below.drew ?_) | (with_reducible refine Below.alloc ?_ ?_ _) | (with_reducible refine Below.setCell ?_ ?_ _) | go_size))) (b1.mono (by simp <;> omega)))
    clear b1
    clear q0 q1 q2 f0 f1 f2 hlt hne
    go_wp2_with fail
    refine (spec_l13Chosen_is _ _ _ _ _ cs (by exact H2.out.up HB.out) hn hcn Hi.out HC.out).mono ?_; rintro e2 w2 ⟨rfl, b2⟩
    have O2 := HO1.out.below b2 HO1.out.lt
    have q0 : w2.cell? ⟨w.heap.size, 0, none⟩ = some (.int .i64 0) := O2.cell 0
    have q1 : w2.cell? ⟨w.heap.size, 1, none⟩ = some (.int .i64 0) := O2.cell 1
    have q2 : w2.cell? ⟨w.heap.size, 2, none⟩ = some (.int .i64 0) := O2.cell 2
    have f0 := O2.free 0
    have f1 := O2.free 1
    have f2 := O2.free 2
    have hlt := O2.lt
    have hne : ¬ w.heap.size = w2.heap.size := by omega
    have HO2 := Lib.hid O2; clear O2
    have HB' := Lib.hid (bnext HB.out b2); clear HB; have HB := HB'; clear HB'
    clear b2 HO1
    go_wp2_with fail
    have hb := HB.out
    exact bodyPost_ret (v := .tuple #[.agg #[.int .i64 0, .int .i64 0, .int .i64 0], .int .i64 0, .int .i64 6]) (by simp [results, Try.results56, go_sem, q0, q1, q2, hlt, hne]) rfl ⟨rfl, by (repeat' (first | (with_reducible exact Below.refl _ _) | (with_reducible assumption) | (with_reducible refine below_dn ?_ _) | (with_reducible refine Below.drew ?_) | (with_reducible refine Below.alloc ?_ ?_ _) | (with_reducible refine Below.setCell ?_ ?_ _) | go_size))⟩
  simp only [if_true, if_neg h0]
  have hz : ((cs.length : Int) == 0) = false := beq_eq_false_iff_ne.2 (by omega)
  have hpos := mass_pos HA.out HC.out (by omega)
  have hcl : cs.length ≤ 16 := Nat.le_trans (choice_len HC.out) h16
  have hmb := massF_bd HA.out hcl cs.length
  have htb := tinF_bd HA.out hcl cs.length
  have hob := otherF_bd HA.out hcl cs.length
  rw [take_all (Nat.le_refl _)] at hmb htb hob
  obtain ⟨r1, r2⟩ := quot_bd _ _ htb hpos
  obtain ⟨r3, r4⟩ := quot_bd _ _ hob hpos
  have hd0 : (sumK massF xs cs == 0) = false := beq_eq_false_iff_ne.2 (by omega)
  have H0 := Lib.hid h0; clear h0
  have HS := Lib.hid (fun w' (hb : Below w.heap.size w w') => spec_l13Sum w' (.slice lo xs.length lc) (.slice lo2 cs.length lc2) xs cs (H1.out.up hb) (H2.out.up hb) h16 HA.out HC.out)
  unfold mixA
  generalize sumK massF xs cs = m at *
  generalize sumK tinF xs cs = t at *
  generalize sumK otherF xs cs = u at *
  go_enter Try.func56, Try.ntmps56
  go_wp2_with fail
  refine (spec_l13Ok_is _ _ xs (by exact H1.out.up (by (repeat' (first | (with_reducible exact Below.refl _ _) | (with_reducible assumption) | (with_reducible refine below_dn ?_ _) | (with_reducible refine Below.drew ?_) | (with_reducible refine Below.alloc ?_ ?_ _) | (with_reducible refine Below.setCell ?_ ?_ _) | go_size)))) hn Hok.out HV.out).mono ?_; rintro e1 w1 ⟨rfl, b1⟩
  have O1 := hX.out.below b1 hX.out.lt
  have q0 : w1.cell? ⟨w.heap.size, 0, none⟩ = some (.int .i64 0) := O1.cell 0
  have q1 : w1.cell? ⟨w.heap.size, 1, none⟩ = some (.int .i64 0) := O1.cell 1
  have q2 : w1.cell? ⟨w.heap.size, 2, none⟩ = some (.int .i64 0) := O1.cell 2
  have f0 := O1.free 0
  have f1 := O1.free 1
  have f2 := O1.free 2
  have hlt := O1.lt
  have hne : ¬ w.heap.size = w1.heap.size := by omega
  have HO1 := Lib.hid O1; clear O1
  have HB := Lib.hid (show Below w.heap.size w w1 from Below.trans (by (repeat' (first | (with_reducible exact Below.refl _ _) | (with_reducible assumption) | (with_reducible refine below_dn ?_ _) | (with_reducible refine Below.drew ?_) | (with_reducible refine Below.alloc ?_ ?_ _) | (with_reducible refine Below.setCell ?_ ?_ _) | go_size))) (b1.mono (by simp <;> omega)))
  clear b1
  clear q0 q1 q2 f0 f1 f2 hlt hne
  go_wp2_with fail
  refine (spec_l13Chosen_is _ _ _ _ _ cs (by exact H2.out.up HB.out) hn hcn Hi.out HC.out).mono ?_; rintro e2 w2 ⟨rfl, b2⟩
  have O2 := HO1.out.below b2 HO1.out.lt
  have q0 : w2.cell? ⟨w.heap.size, 0, none⟩ = some (.int .i64 0) := O2.cell 0
  have q1 : w2.cell? ⟨w.heap.size, 1, none⟩ = some (.int .i64 0) := O2.cell 1
  have q2 : w2.cell? ⟨w.heap.size, 2, none⟩ = some (.int .i64 0) := O2.cell 2
  have f0 := O2.free 0
  have f1 := O2.free 1
  have f2 := O2.free 2
  have hlt := O2.lt
  have hne : ¬ w.heap.size = w2.heap.size := by omega
  have HO2 := Lib.hid O2; clear O2
  have HB' := Lib.hid (bnext HB.out b2); clear HB; have HB := HB'; clear HB'
  clear b2 HO1
  clear q0 q1 q2 f0 f1 f2 hlt hne
  go_wp2_with fail
  refine (HS.out _ HB.out).mono ?_; rintro e3 w3 ⟨rfl, b3⟩
  have O3 := HO2.out.below b3 HO2.out.lt
  have q0 : w3.cell? ⟨w.heap.size, 0, none⟩ = some (.int .i64 0) := O3.cell 0
  have q1 : w3.cell? ⟨w.heap.size, 1, none⟩ = some (.int .i64 0) := O3.cell 1
  have q2 : w3.cell? ⟨w.heap.size, 2, none⟩ = some (.int .i64 0) := O3.cell 2
  have f0 := O3.free 0
  have f1 := O3.free 1
  have f2 := O3.free 2
  have hlt := O3.lt
  have hne : ¬ w.heap.size = w3.heap.size := by omega
  have HO3 := Lib.hid O3; clear O3
  have HB' := Lib.hid (bnext HB.out b3); clear HB; have HB := HB'; clear HB' HO2 b3 HS
  go_wp2_with fail
  go_region
  go_wp2_with fail
  have hb := HB.out
  exact bodyPost_ret (v := .tuple #[.agg #[.int .i64 (1000000 - t / m - u / m), .int .i64 (t / m), .int .i64 (u / m)], .int .i64 m, .int .i64 0]) (by simp [results, Try.results56, go_sem, q0, q1, q2, hlt, hne]) rfl ⟨rfl, by (repeat' (first | (with_reducible exact Below.refl _ _) | (with_reducible assumption) | (with_reducible refine below_dn ?_ _) | (with_reducible refine Below.drew ?_) | (with_reducible refine Below.alloc ?_ ?_ _) | (with_reducible refine Below.setCell ?_ ?_ _) | go_size))⟩
set_option maxHeartbeats 4000000 in
theorem impl_mix (w : World) (v c : Value) (xs : List Ingot) (cs : List Int) (h1 : Rd w.heap.size w v 5 xs.length (xs.flatMap Ingot.put)) (h2 : Rd w.heap.size w c 1 cs.length (cs.flatMap putI)) (hn : xs.length ≤ 16) (hv : ∀ x ∈ xs, ingotB x = true) (hch : choiceB xs.length cs = true) (h0 : 0 < cs.length) :
    Calls Try.prog 105 #[v, c] w fun e w' => e = .returned (.tuple #[.agg #[.int .i64 (mixA xs cs).copper, .int .i64 (mixA xs cs).tin, .int .i64 (mixA xs cs).other], .int .i64 (sumK massF xs cs)]) ∧ Below w.heap.size w w' := by
  have H1 := Lib.hid h1
  have H2 := Lib.hid h2
  obtain ⟨lo, lc, rfl⟩ := h1.form
  obtain ⟨lo2, lc2, rfl⟩ := h2.form
  clear h1 h2
  have hX := Lib.hid (Own.new w 29 [.int .i64 0, .int .i64 0, .int .i64 0])
  have hpos := mass_pos hv hch h0
  have hcl : cs.length ≤ 16 := Nat.le_trans (choice_len hch) hn
  have hmb := massF_bd hv hcl cs.length
  have htb := tinF_bd hv hcl cs.length
  have hob := otherF_bd hv hcl cs.length
  rw [take_all (Nat.le_refl _)] at hmb htb hob
  obtain ⟨r1, r2⟩ := quot_bd _ _ htb hpos
  obtain ⟨r3, r4⟩ := quot_bd _ _ hob hpos
  have hd0 : (sumK massF xs cs == 0) = false := beq_eq_false_iff_ne.2 (by omega)
  have HS := Lib.hid (fun w' (hb : Below w.heap.size w w') => impl_sums w' (.slice lo xs.length lc) (.slice lo2 cs.length lc2) xs cs (H1.out.up hb) (H2.out.up hb) hn hv hch)
  clear hv hch
  unfold mixA
  generalize sumK massF xs cs = m at *
  generalize sumK tinF xs cs = t at *
  generalize sumK otherF xs cs = u at *
  go_enter Try.func105, Try.ntmps105
  go_wp2_with fail
  refine (HS.out _ (by (repeat' (first | (with_reducible exact Below.refl _ _) | (with_reducible assumption) | (with_reducible refine below_dn ?_ _) | (with_reducible refine Below.drew ?_) | (with_reducible refine Below.alloc ?_ ?_ _) | (with_reducible refine Below.setCell ?_ ?_ _) | go_size)))).mono ?_; rintro e1 w1 ⟨rfl, b1⟩
  have O1 := hX.out.below b1 hX.out.lt
  have q0 : w1.cell? ⟨w.heap.size, 0, none⟩ = some (.int .i64 0) := O1.cell 0
  have q1 : w1.cell? ⟨w.heap.size, 1, none⟩ = some (.int .i64 0) := O1.cell 1
  have q2 : w1.cell? ⟨w.heap.size, 2, none⟩ = some (.int .i64 0) := O1.cell 2
  have f0 := O1.free 0
  have f1 := O1.free 1
  have f2 := O1.free 2
  have hlt := O1.lt
  have hne : ¬ w.heap.size = w1.heap.size := by omega
  have HO1 := Lib.hid O1; clear O1
  have HB := Lib.hid (show Below w.heap.size w w1 from Below.trans (by (repeat' (first | (with_reducible exact Below.refl _ _) | (with_reducible assumption) | (with_reducible refine below_dn ?_ _) | (with_reducible refine Below.drew ?_) | (with_reducible refine Below.alloc ?_ ?_ _) | (with_reducible refine Below.setCell ?_ ?_ _) | go_size))) (b1.mono (by simp <;> omega)))
  clear b1 HS
  go_wp2_with fail
  go_region
  go_wp2_with fail
  have hb := HB.out
  exact bodyPost_ret (v := .tuple #[.agg #[.int .i64 (1000000 - t / m - u / m), .int .i64 (t / m), .int .i64 (u / m)], .int .i64 m]) (by simp [results, Try.results105, go_sem, q0, q1, q2, hlt, hne]) rfl ⟨rfl, by (repeat' (first | (with_reducible exact Below.refl _ _) | (with_reducible assumption) | (with_reducible refine below_dn ?_ _) | (with_reducible refine Below.drew ?_) | (with_reducible refine Below.alloc ?_ ?_ _) | (with_reducible refine Below.setCell ?_ ?_ _) | go_size))⟩
end Go.Proofs.Ytdliabgdgjboiaa
