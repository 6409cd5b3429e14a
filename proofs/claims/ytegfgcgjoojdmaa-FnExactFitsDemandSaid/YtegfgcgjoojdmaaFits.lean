/- What fits a demand: both sides compute the same. -/
import Derived.Test.YtegfgcgjoojdmaaRows
import Derived.Test.YtegfgcgjoojdmaaChoice
import Derived.Test.YtegfgcgjoojdmaaDemand
namespace Go.Proofs.Ytegfgcgjoojdmaa
open Go.ChangeShapes Go.WideShapes Go.ChangeAt Go.RowKit Go.Deep Go.Joins
set_option linter.unusedVariables false
set_option maxRecDepth 100000
set_option linter.unusedSimpArgs false
theorem demandB_nums {d : Demand} (h : demandB d = true) : (1 ≤ d.least ∧ d.least ≤ d.most) ∧ d.most ≤ 320000000 ∧ (0 ≤ d.minTin ∧ d.minTin ≤ 1000000) ∧ (0 ≤ d.maxTin ∧ d.maxTin ≤ 1000000) ∧ (0 ≤ d.other ∧ d.other ≤ 1000000) := by
  simp only [demandB, Bool.and_eq_true, decide_eq_true_eq] at h
  obtain ⟨h1, h2, h3, h4, h5⟩ := h
  have h1 := inB_true h1
  have h3 := inB_true h3
  have h5 := inB_true h5
  omega
theorem prod_bd (a m : Int) (h1 : 0 ≤ a ∧ a ≤ 1000000) (h2 : 0 ≤ m ∧ m ≤ 320000000) : 0 ≤ a * m ∧ a * m ≤ 320000000000000 := by
  refine ⟨Int.mul_nonneg (by omega) (by omega), ?_⟩
  have := Int.mul_le_mul h1.2 h2.2 h2.1 (by omega)
  omega

set_option maxHeartbeats 1000000 in
theorem spec_l13Fits (d : Demand) (a : Nat) (m t o : Int) (w : World) (h0 : w.cell? ⟨a, 0, none⟩ = some (.int .i64 d.least)) (h1 : w.cell? ⟨a, 1, none⟩ = some (.int .i64 d.most)) (h2 : w.cell? ⟨a, 2, none⟩ = some (.int .i64 d.minTin))
    (h3 : w.cell? ⟨a, 3, none⟩ = some (.int .i64 d.maxTin)) (h4 : w.cell? ⟨a, 4, none⟩ = some (.int .i64 d.other)) (ha : a < w.heap.size) (hd : demandB d = true) (hm : 0 ≤ m ∧ m ≤ 320000000) :
    Calls Try.prog 103 #[.pointer (some ⟨a, 0, none⟩), .int .i64 m, .int .i64 t, .int .i64 o] w fun e w' => e = .returned (.bool (fitsB d m t o)) ∧ Below w.heap.size w w' := by
  obtain ⟨d1, d2, d3, d4, d5⟩ := demandB_nums hd
  obtain ⟨p1, p2⟩ := prod_bd _ _ d3 hm
  obtain ⟨p3, p4⟩ := prod_bd _ _ d4 hm
  obtain ⟨p5, p6⟩ := prod_bd _ _ d5 hm
  clear hd d1 d2 d3 d4 d5
  cases hA : inB m d.least d.most
  · have e : Hid (fitsB d m t o = false) := (by unfold fitsB; rw [hA]; rfl : fitsB d m t o = false)
    have HA := Lib.hid hA; clear hA
    go_enter Try.func103, Try.ntmps103
    go_wp2_with fail
    refine wp_region_above (by kernel_rfl) (by kernel_rfl) ?_
    repeat (go_big_quiet_step ((first | (go_at_call 93; exact aboveE (l00In_is _ _ _ _ HA.out)))))
    refine wpQuiet_nil ?_
    intro w1 b1
    go_wp2_with fail
    go_ret
    exact ⟨by rw [e.out]; rfl, b1⟩
  cases hB : inB t (d.minTin * m) (d.maxTin * m)
  · have e : Hid (fitsB d m t o = false) := (by unfold fitsB; rw [hB]; simp : fitsB d m t o = false)
    have HA := Lib.hid hA; clear hA
    have HB := Lib.hid hB; clear hB
    go_enter Try.func103, Try.ntmps103
    go_wp2_with fail
    refine wp_region_above (by kernel_rfl) (by kernel_rfl) ?_
    repeat (go_big_quiet_step ((first | (go_at_call 93; exact aboveE (l00In_is _ _ _ _ HA.out)) | (go_at_call 93; exact aboveE (l00In_is _ _ _ _ HB.out)))))
    refine wpQuiet_nil ?_
    intro w1 b1
    go_wp2_with fail
    go_ret
    exact ⟨by rw [e.out]; rfl, b1⟩
  · have e : Hid (fitsB d m t o = decide (o ≤ d.other * m)) := (by unfold fitsB; rw [hA, hB]; rfl : fitsB d m t o = decide (o ≤ d.other * m))
    have HA := Lib.hid hA; clear hA
    have HB := Lib.hid hB; clear hB
    go_enter Try.func103, Try.ntmps103
    go_wp2_with fail
    refine wp_region_above (by kernel_rfl) (by kernel_rfl) ?_
    repeat (go_big_quiet_step ((first | (go_at_call 93; exact aboveE (l00In_is _ _ _ _ HA.out)) | (go_at_call 93; exact aboveE (l00In_is _ _ _ _ HB.out)))))
    refine wpQuiet_nil ?_
    intro w1 b1
    go_wp2_with fail
    go_ret
    exact ⟨by rw [e.out]; rfl, b1⟩

set_option maxHeartbeats 1000000 in
theorem impl_fits (d : Demand) (w : World) (v c : Value) (xs : List Ingot) (cs : List Int) (h1 : Rd w.heap.size w v 5 xs.length (xs.flatMap Ingot.put)) (h2 : Rd w.heap.size w c 1 cs.length (cs.flatMap putI)) (hn : xs.length ≤ 16) (hv : ∀ x ∈ xs, ingotB x = true) (hch : choiceB xs.length cs = true) (hd : demandB d = true) :
    Calls Try.prog 108 #[v, c, .agg #[.int .i64 d.least, .int .i64 d.most, .int .i64 d.minTin, .int .i64 d.maxTin, .int .i64 d.other]] w fun e w' => e = .returned (.bool (fitsB d (sumK massF xs cs) (sumK tinF xs cs) (sumK otherF xs cs))) ∧ Below w.heap.size w w' := by
  have hcl : cs.length ≤ 16 := Nat.le_trans (choice_len hch) hn
  have hm := massF_bd hv hcl cs.length
  rw [take_all (Nat.le_refl _)] at hm
  obtain ⟨d1, d2, d3, d4, d5⟩ := demandB_nums hd
  obtain ⟨p1, p2⟩ := prod_bd _ _ d3 hm
  obtain ⟨p3, p4⟩ := prod_bd _ _ d4 hm
  obtain ⟨p5, p6⟩ := prod_bd _ _ d5 hm
  have hS := Lib.hid (fun w' (hb : Below w.heap.size w w') => impl_sums w' v c xs cs (h1.up hb) (h2.up hb) hn hv hch)
  obtain ⟨lo, lc, rfl⟩ := h1.form
  obtain ⟨lo2, lc2, rfl⟩ := h2.form
  clear hd d1 d2 d3 d4 d5 h1 h2 hv hch
  have hX := Lib.hid (Own.new w 67 [.int .i64 d.least, .int .i64 d.most, .int .i64 d.minTin, .int .i64 d.maxTin, .int .i64 d.other])
  generalize sumK massF xs cs = m at *
  generalize sumK tinF xs cs = t at *
  generalize sumK otherF xs cs = o at *
  cases hA : inB m d.least d.most
  case false =>
    have e : Hid (fitsB d m t o = false) := (by unfold fitsB; rw [hA]; rfl : fitsB d m t o = false)
    have HA := Lib.hid hA; clear hA
    go_enter Try.func108, Try.ntmps108
    go_wp2_with fail
    refine (hS.out _ (by (repeat' (first | (with_reducible exact Below.refl _ _) | (with_reducible assumption) | (with_reducible refine below_dn ?_ _) | (with_reducible refine Below.drew ?_) | (with_reducible refine Below.alloc ?_ ?_ _) | (with_reducible refine Below.setCell ?_ ?_ _) | go_size)))).mono ?_; rintro e1 w1 ⟨rfl, b1⟩
    obtain ⟨hc, hf⟩ := bcell b1
    go_wp2_with (first | (go_at_call 116; (with_reducible refine (within_is _ _ _ _ HA.out).mono ?_); rintro e w' ⟨rfl, rfl⟩))
    go_ret
    exact ⟨by rw [e.out]; rfl, Below.trans (by (repeat' (first | (with_reducible exact Below.refl _ _) | (with_reducible assumption) | (with_reducible refine below_dn ?_ _) | (with_reducible refine Below.drew ?_) | (with_reducible refine Below.alloc ?_ ?_ _) | (with_reducible refine Below.setCell ?_ ?_ _) | go_size))) (b1.mono (by simp <;> omega))⟩
  cases hB : inB t (d.minTin * m) (d.maxTin * m)
  · have e : Hid (fitsB d m t o = false) := (by unfold fitsB; rw [hB]; simp : fitsB d m t o = false)
    have HA := Lib.hid hA; clear hA
    have HB := Lib.hid hB; clear hB
    go_enter Try.func108, Try.ntmps108
    go_wp2_with fail
    refine (hS.out _ (by (repeat' (first | (with_reducible exact Below.refl _ _) | (with_reducible assumption) | (with_reducible refine below_dn ?_ _) | (with_reducible refine Below.drew ?_) | (with_reducible refine Below.alloc ?_ ?_ _) | (with_reducible refine Below.setCell ?_ ?_ _) | go_size)))).mono ?_; rintro e1 w1 ⟨rfl, b1⟩
    obtain ⟨hc, hf⟩ := bcell b1
    go_wp2_with (first | (go_at_call 116; (with_reducible refine (within_is _ _ _ _ HA.out).mono ?_); rintro e w' ⟨rfl, rfl⟩) | (go_at_call 116; (with_reducible refine (within_is _ _ _ _ HB.out).mono ?_); rintro e w' ⟨rfl, rfl⟩))
    go_ret
    exact ⟨by rw [e.out]; rfl, Below.trans (by (repeat' (first | (with_reducible exact Below.refl _ _) | (with_reducible assumption) | (with_reducible refine below_dn ?_ _) | (with_reducible refine Below.drew ?_) | (with_reducible refine Below.alloc ?_ ?_ _) | (with_reducible refine Below.setCell ?_ ?_ _) | go_size))) (b1.mono (by simp <;> omega))⟩
  · have e : Hid (fitsB d m t o = decide (o ≤ d.other * m)) := (by unfold fitsB; rw [hA, hB]; rfl : fitsB d m t o = decide (o ≤ d.other * m))
    have HA := Lib.hid hA; clear hA
    have HB := Lib.hid hB; clear hB
    go_enter Try.func108, Try.ntmps108
    go_wp2_with fail
    refine (hS.out _ (by (repeat' (first | (with_reducible exact Below.refl _ _) | (with_reducible assumption) | (with_reducible refine below_dn ?_ _) | (with_reducible refine Below.drew ?_) | (with_reducible refine Below.alloc ?_ ?_ _) | (with_reducible refine Below.setCell ?_ ?_ _) | go_size)))).mono ?_; rintro e1 w1 ⟨rfl, b1⟩
    obtain ⟨hc, hf⟩ := bcell b1
    go_wp2_with (first | (go_at_call 116; (with_reducible refine (within_is _ _ _ _ HA.out).mono ?_); rintro e w' ⟨rfl, rfl⟩) | (go_at_call 116; (with_reducible refine (within_is _ _ _ _ HB.out).mono ?_); rintro e w' ⟨rfl, rfl⟩))
    go_ret
    exact ⟨by rw [e.out]; rfl, Below.trans (by (repeat' (first | (with_reducible exact Below.refl _ _) | (with_reducible assumption) | (with_reducible refine below_dn ?_ _) | (with_reducible refine Below.drew ?_) | (with_reducible refine Below.alloc ?_ ?_ _) | (with_reducible refine Below.setCell ?_ ?_ _) | go_size))) (b1.mono (by simp <;> omega))⟩
end Go.Proofs.Ytegfgcgjoojdmaa
