/- What a ring is: both sides compute the same. -/
import Derived.Test.YtgjcmfacdnngjaaRows
import Derived.Test.YtgjcmfacdnngjaaHRing
import Derived.Test.YtgjcmfacdnngjaaIn
import Derived.Test.YtgjcmfacdnngjaaLaw
namespace Go.Proofs.Ytgjcmfacdnngjaa
open Go.ChangeShapes Go.WideShapes Go.ChangeAt Go.RowKit Go.Deep Go.Joins
set_option linter.unusedVariables false
set_option maxRecDepth 100000
set_option linter.unusedSimpArgs false
def ringB (r : Ring) : Bool := inB r.outer 500 150000 && (inB r.inner 0 (r.outer - 100) && inB r.height 10 300000)
def joinB (a b : Ring) : Bool := decide (a.inner < b.outer) && decide (b.inner < a.outer)
theorem ringB_nums {r : Ring} (h : ringB r = true) : (500 ≤ r.outer ∧ r.outer ≤ 150000) ∧ (0 ≤ r.inner ∧ r.inner ≤ r.outer - 100) ∧ (10 ≤ r.height ∧ r.height ≤ 300000) := by
  simp only [ringB, Bool.and_eq_true] at h
  exact ⟨inB_true h.1, inB_true h.2.1, inB_true h.2.2⟩

theorem impl_ValidRing_is {b : Bool} (r : Ring) (w : World) (hb : ringB r = b) :
    Calls Try.prog 31 #[.agg #[.int .i64 r.outer, .int .i64 r.inner, .int .i64 r.height]] w fun e w' => e = .returned (.bool b) ∧ Below w.heap.size w w' := by
  subst hb
  cases hA : inB r.outer 500 150000
  · have e : Hid (ringB r = false) := (by unfold ringB; rw [hA]; rfl : ringB r = false)
    have HA := Lib.hid hA; clear hA
    go_enter Try.func31, Try.ntmps31
    go_wp2_with (first | (go_at_call 33; (with_reducible refine (within_is _ _ _ _ HA.out).mono ?_); rintro e w' ⟨rfl, rfl⟩))
    go_ret
    exact ⟨by rw [e.out]; rfl, by (repeat' (first | (with_reducible exact Below.refl _ _) | (with_reducible assumption) | (with_reducible refine below_dn ?_ _) | (with_reducible refine Below.drew ?_) | (with_reducible refine Below.alloc ?_ ?_ _) | (with_reducible refine Below.setCell ?_ ?_ _) | go_size))⟩
  obtain ⟨a1, a2⟩ := inB_true hA
  cases hB : inB r.inner 0 (r.outer - 100)
  · have e : Hid (ringB r = false) := (by unfold ringB; rw [hB]; simp : ringB r = false)
    have HA := Lib.hid hA; clear hA
    have HB := Lib.hid hB; clear hB
    go_enter Try.func31, Try.ntmps31
    go_wp2_with (first | (go_at_call 33; (with_reducible refine (within_is _ _ _ _ HA.out).mono ?_); rintro e w' ⟨rfl, rfl⟩) | (go_at_call 33; (with_reducible refine (within_is _ _ _ _ HB.out).mono ?_); rintro e w' ⟨rfl, rfl⟩))
    go_ret
    exact ⟨by rw [e.out]; rfl, by (repeat' (first | (with_reducible exact Below.refl _ _) | (with_reducible assumption) | (with_reducible refine below_dn ?_ _) | (with_reducible refine Below.drew ?_) | (with_reducible refine Below.alloc ?_ ?_ _) | (with_reducible refine Below.setCell ?_ ?_ _) | go_size))⟩
  have e : Hid (ringB r = inB r.height 10 300000) := (by unfold ringB; rw [hA, hB]; rfl : ringB r = inB r.height 10 300000)
  have HA := Lib.hid hA; clear hA
  have HB := Lib.hid hB; clear hB
  go_enter Try.func31, Try.ntmps31
  go_wp2_with (first | (go_at_call 33; (with_reducible refine (within_is _ _ _ _ HA.out).mono ?_); rintro e w' ⟨rfl, rfl⟩) | (go_at_call 33; (with_reducible refine (within_is _ _ _ _ HB.out).mono ?_); rintro e w' ⟨rfl, rfl⟩) | (go_at_call 33; (with_reducible refine (within r.height 10 300000 _).mono ?_); rintro e w' ⟨rfl, rfl⟩))
  go_ret
  exact ⟨by rw [e.out]; rfl, by (repeat' (first | (with_reducible exact Below.refl _ _) | (with_reducible assumption) | (with_reducible refine below_dn ?_ _) | (with_reducible refine Below.drew ?_) | (with_reducible refine Below.alloc ?_ ?_ _) | (with_reducible refine Below.setCell ?_ ?_ _) | go_size))⟩
end Go.Proofs.Ytgjcmfacdnngjaa
