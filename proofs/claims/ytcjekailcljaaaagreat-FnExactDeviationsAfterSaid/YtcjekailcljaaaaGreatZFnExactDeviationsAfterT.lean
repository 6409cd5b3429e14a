/- Contracts and plain facts, joined: OneRing. -/
import Derived.Test.YtcjekailcljaaaaGreatRows
import Derived.Test.YtcjekailcljaaaaGreatZFnExactDeviationsAfterD
import Derived.Test.YtcjekailcljaaaaGreatZFnExactDeviationsAfterF
import Derived.Test.YtcjekailcljaaaaGreatZFnExactDeviationsAfterL
namespace Go.Proofs.YtcjekailcljaaaaGreat
open Go.ChangeShapes Go.WideShapes Go.ChangeAt Go.RowKit Go.Deep Go.Joins
set_option linter.unusedVariables false
set_option maxRecDepth 100000
set_option linter.unusedSimpArgs false
def ringB (r : Ring) : Bool := inB r.outer 500 150000 && (inB r.inner 0 (r.outer - 100) && inB r.height 10 300000)
def joinB (a b : Ring) : Bool := decide (a.inner < b.outer) && decide (b.inner < a.outer)
theorem ringB_nums {r : Ring} (h : ringB r = true) : (500 ≤ r.outer ∧ r.outer ≤ 150000) ∧ (0 ≤ r.inner ∧ r.inner ≤ r.outer - 100) ∧ (10 ≤ r.height ∧ r.height ≤ 300000) := by
  simp only [ringB, Bool.and_eq_true] at h
  exact ⟨inB_true h.1, inB_true h.2.1, inB_true h.2.2⟩

set_option maxHeartbeats 1000000 in
theorem spec_l05Ring_is {b : Bool} (r : Ring) (a o : Nat) (w : World) (h0 : w.cell? ⟨a, o, none⟩ = some (.int .i64 r.outer)) (h1 : w.cell? ⟨a, o + 1, none⟩ = some (.int .i64 r.inner)) (h2 : w.cell? ⟨a, o + 2, none⟩ = some (.int .i64 r.height)) (ha : a < w.heap.size) (hb : ringB r = b) :
    Calls Tryz.prog 125 #[.pointer (some ⟨a, o, none⟩)] w fun e w' => e = .returned (.bool b) ∧ Below w.heap.size w w' := by
  subst hb
  cases hA : inB r.outer 500 150000
  · have e : Hid (ringB r = false) := (by unfold ringB; rw [hA]; rfl : ringB r = false)
    have HA := Lib.hid hA; clear hA
    go_enter Tryz.func125, Tryz.ntmps125
    go_wp2_with fail
    refine wp_region_above (by kernel_rfl) (by kernel_rfl) ?_
    repeat (go_big_quiet_step ((first | (go_at_call 58; exact aboveE (l00In_is _ _ _ _ HA.out)))))
    refine wpQuiet_nil ?_
    intro w1 b1
    go_wp2_with fail
    go_ret
    exact ⟨by rw [e.out]; rfl, b1⟩
  obtain ⟨a1, a2⟩ := inB_true hA
  cases hB : inB r.inner 0 (r.outer - 100)
  · have e : Hid (ringB r = false) := (by unfold ringB; rw [hB]; simp : ringB r = false)
    have HA := Lib.hid hA; clear hA
    have HB := Lib.hid hB; clear hB
    go_enter Tryz.func125, Tryz.ntmps125
    go_wp2_with fail
    refine wp_region_above (by kernel_rfl) (by kernel_rfl) ?_
    repeat (go_big_quiet_step ((first | (go_at_call 58; exact aboveE (l00In_is _ _ _ _ HA.out)) | (go_at_call 58; exact aboveE (l00In_is _ _ _ _ HB.out)))))
    refine wpQuiet_nil ?_
    intro w1 b1
    go_wp2_with fail
    go_ret
    exact ⟨by rw [e.out]; rfl, b1⟩
  have e : Hid (ringB r = inB r.height 10 300000) := (by unfold ringB; rw [hA, hB]; rfl : ringB r = inB r.height 10 300000)
  have HA := Lib.hid hA; clear hA
  have HB := Lib.hid hB; clear hB
  go_enter Tryz.func125, Tryz.ntmps125
  go_wp2_with fail
  refine wp_region_above (by kernel_rfl) (by kernel_rfl) ?_
  repeat (go_big_quiet_step ((first | (go_at_call 58; exact aboveE (l00In_is _ _ _ _ HA.out)) | (go_at_call 58; exact aboveE (l00In_is _ _ _ _ HB.out)) | (go_at_call 58; exact aboveE (l00In r.height 10 300000 _)))))
  refine wpQuiet_nil ?_
  intro w1 b1
  go_wp2_with fail
  go_ret
  exact ⟨by rw [e.out]; rfl, b1⟩

theorem spec_l05Joined_is {b : Bool} (x y : Ring) (a o a2 o2 : Nat) (w : World) (h0 : w.cell? ⟨a, o, none⟩ = some (.int .i64 x.outer)) (h1 : w.cell? ⟨a, o + 1, none⟩ = some (.int .i64 x.inner)) (k0 : w.cell? ⟨a2, o2, none⟩ = some (.int .i64 y.outer)) (k1 : w.cell? ⟨a2, o2 + 1, none⟩ = some (.int .i64 y.inner)) (ha : a < w.heap.size) (ha2 : a2 < w.heap.size) (hb : joinB x y = b) :
    Calls Tryz.prog 126 #[.pointer (some ⟨a, o, none⟩), .pointer (some ⟨a2, o2, none⟩)] w fun e w' => e = .returned (.bool b) ∧ Below w.heap.size w w' := by
  subst hb
  by_cases hA : x.inner < y.outer
  · have e : Hid (joinB x y = decide (y.inner < x.outer)) := (by unfold joinB; rw [decide_eq_true hA]; rfl : joinB x y = decide (y.inner < x.outer))
    have hd : decide (x.inner < y.outer) = true := decide_eq_true hA
    clear hA
    go_enter Tryz.func126, Tryz.ntmps126
    go_wp2_with fail
    refine wp_region_above (by kernel_rfl) (by kernel_rfl) ?_
    repeat (go_big_quiet_step (fail))
    refine wpQuiet_nil ?_
    intro w1 b1
    go_wp2_with fail
    go_ret
    exact ⟨by rw [e.out]; rfl, b1⟩
  · have e : Hid (joinB x y = false) := (by unfold joinB; rw [decide_eq_false hA]; rfl : joinB x y = false)
    have hd : decide (x.inner < y.outer) = false := decide_eq_false hA
    clear hA
    go_enter Tryz.func126, Tryz.ntmps126
    go_wp2_with fail
    refine wp_region_above (by kernel_rfl) (by kernel_rfl) ?_
    repeat (go_big_quiet_step (fail))
    refine wpQuiet_nil ?_
    intro w1 b1
    go_wp2_with fail
    go_ret
    exact ⟨by rw [e.out]; rfl, b1⟩

theorem impl_ValidRing_is {b : Bool} (r : Ring) (w : World) (hb : ringB r = b) :
    Calls Tryz.prog 121 #[.agg #[.int .i64 r.outer, .int .i64 r.inner, .int .i64 r.height]] w fun e w' => e = .returned (.bool b) ∧ Below w.heap.size w w' := by
  subst hb
  cases hA : inB r.outer 500 150000
  · have e : Hid (ringB r = false) := (by unfold ringB; rw [hA]; rfl : ringB r = false)
    have HA := Lib.hid hA; clear hA
    go_enter Tryz.func121, Tryz.ntmps121
    go_wp2_with (first | (go_at_call 74; (with_reducible refine (within_is _ _ _ _ HA.out).mono ?_); rintro e w' ⟨rfl, rfl⟩))
    go_ret
    exact ⟨by rw [e.out]; rfl, by (repeat' (first | (with_reducible exact Below.refl _ _) | (with_reducible assumption) | (with_reducible refine below_dn ?_ _) | (with_reducible refine Below.drew ?_) | (with_reducible refine Below.alloc ?_ ?_ _) | (with_reducible refine Below.setCell ?_ ?_ _) | go_size))⟩
  obtain ⟨a1, a2⟩ := inB_true hA
  cases hB : inB r.inner 0 (r.outer - 100)
  · have e : Hid (ringB r = false) := (by unfold ringB; rw [hB]; simp : ringB r = false)
    have HA := Lib.hid hA; clear hA
    have HB := Lib.hid hB; clear hB
    go_enter Tryz.func121, Tryz.ntmps121
    go_wp2_with (first | (go_at_call 74; (with_reducible refine (within_is _ _ _ _ HA.out).mono ?_); rintro e w' ⟨rfl, rfl⟩) | (go_at_call 74; (with_reducible refine (within_is _ _ _ _ HB.out).mono ?_); rintro e w' ⟨rfl, rfl⟩))
    go_ret
    exact ⟨by rw [e.out]; rfl, by (repeat' (first | (with_reducible exact Below.refl _ _) | (with_reducible assumption) | (with_reducible refine below_dn ?_ _) | (with_reducible refine Below.drew ?_) | (with_reducible refine Below.alloc ?_ ?_ _) | (with_reducible refine Below.setCell ?_ ?_ _) | go_size))⟩
  have e : Hid (ringB r = inB r.height 10 300000) := (by unfold ringB; rw [hA, hB]; rfl : ringB r = inB r.height 10 300000)
  have HA := Lib.hid hA; clear hA
  have HB := Lib.hid hB; clear hB
  go_enter Tryz.func121, Tryz.ntmps121
  go_wp2_with (first | (go_at_call 74; (with_reducible refine (within_is _ _ _ _ HA.out).mono ?_); rintro e w' ⟨rfl, rfl⟩) | (go_at_call 74; (with_reducible refine (within_is _ _ _ _ HB.out).mono ?_); rintro e w' ⟨rfl, rfl⟩) | (go_at_call 74; (with_reducible refine (within r.height 10 300000 _).mono ?_); rintro e w' ⟨rfl, rfl⟩))
  go_ret
  exact ⟨by rw [e.out]; rfl, by (repeat' (first | (with_reducible exact Below.refl _ _) | (with_reducible assumption) | (with_reducible refine below_dn ?_ _) | (with_reducible refine Below.drew ?_) | (with_reducible refine Below.alloc ?_ ?_ _) | (with_reducible refine Below.setCell ?_ ?_ _) | go_size))⟩
end Go.Proofs.YtcjekailcljaaaaGreat
