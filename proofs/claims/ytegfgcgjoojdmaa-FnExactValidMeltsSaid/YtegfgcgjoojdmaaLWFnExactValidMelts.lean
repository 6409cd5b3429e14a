/- FnExactValidMelts: the law. -/
import Derived.Test.YtegfgcgjoojdmaaRows
import Derived.Test.YtegfgcgjoojdmaaRdM
import Derived.Test.YtegfgcgjoojdmaaLaw
import Derived.Test.YtegfgcgjoojdmaaValidMelts
namespace Go.Proofs.Ytegfgcgjoojdmaa
open Go.ChangeShapes Go.WideShapes Go.ChangeAt Go.RowKit Go.Deep Go.Joins
set_option linter.unusedVariables false
set_option maxRecDepth 100000
set_option linter.unusedSimpArgs false
theorem spec_ValidMelts (w : World) (v : Value) (xs : List Melt) (h : RdM w.heap.size w v xs) (hn : xs.length ≤ 1048576) (hf : ∀ x ∈ xs, x.fine) :
    Calls Try.prog 26 #[v] w fun e w' => e = .returned (.bool (meltsB xs)) ∧ Below w.heap.size w w' := by
  have H := Lib.hid (spec_l14Ok w v xs h hn hf)
  go_enter Try.func26, Try.ntmps26
  go_wp2_with fail
  refine H.out.mono ?_; rintro e w1 ⟨rfl, b1⟩
  go_wp2_with fail
  go_ret
  exact ⟨rfl, b1⟩
set_option maxHeartbeats 1000000 in
theorem FnExactValidMelts_walk (w : World) (v0 : Value) (x0 : List Melt) (k0 : Rd w.heap.size w v0 3 x0.length (x0.flatMap Melt.put) ∧ x0.length ≤ maxLen ∧ ∀ x ∈ x0, x.ok w) :
    Calls Try.prog 5 #[v0] w fun e w' => e = .returned (.bool true) ∧ Below w.heap.size w w' := by
  obtain ⟨h0, hm0, hok0⟩ := k0
  have H0 := Lib.hid h0; clear h0
  have Hok0 := Lib.hid hok0; clear hok0
  by_cases hq0 : (x0.length + wtMelt x0) ≤ 1048576
  case neg =>
    have e0 : Hid (szR 1048576 (x0.length + wtMelt x0) = -1) := (if_neg (by omega) : szR 1048576 (x0.length + wtMelt x0) = -1)
    go_enter Try.func5, Try.ntmps5
    go_wp2_with fail
    refine (szMeltS _ _ x0 1048576 (by exact H0.out.up (by (repeat' (first | (with_reducible exact Below.refl _ _) | (with_reducible assumption) | (with_reducible refine below_dn ?_ _) | (with_reducible refine Below.drew ?_) | (with_reducible refine Below.alloc ?_ ?_ _) | (with_reducible refine Below.setCell ?_ ?_ _) | go_size)))) hm0 (by exact fun x hx => (Hok0.out x hx).up (by (repeat' (first | (with_reducible exact Below.refl _ _) | (with_reducible assumption) | (with_reducible refine below_dn ?_ _) | (with_reducible refine Below.drew ?_) | (with_reducible refine Below.alloc ?_ ?_ _) | (with_reducible refine Below.setCell ?_ ?_ _) | go_size)))) (by omega) (by omega)).mono ?_; rw [e0.out]; rintro e w1 ⟨rfl, b1⟩
    have B1 : Below w.heap.size w w1 := Below.trans (by (repeat' (first | (with_reducible exact Below.refl _ _) | (with_reducible assumption) | (with_reducible refine below_dn ?_ _) | (with_reducible refine Below.drew ?_) | (with_reducible refine Below.alloc ?_ ?_ _) | (with_reducible refine Below.setCell ?_ ?_ _) | go_size))) (b1.mono (by simp <;> omega))
    clear b1
    go_wp2_with fail
    go_ret
    exact ⟨rfl, B1⟩
  obtain ⟨z0, hz0, hy0, hy0_⟩ : ∃ z : Int, szR 1048576 (x0.length + wtMelt x0) = z ∧ (0 ≤ z ∧ z ≤ 1048576) ∧ z = 1048576 - (((x0.length + wtMelt x0) : Nat) : Int) := ⟨_, rfl, by unfold szR; rw [if_pos (by omega)]; omega, by unfold szR; rw [if_pos (by omega)]⟩
  have Hy0 := Lib.hid hy0_; clear hy0_
  have Hz0 := Lib.hid hz0; clear hz0
  have hn0 : x0.length ≤ 1048576 := by omega
  have Hin0 := Lib.hid (fun x (hx : x ∈ x0) => (show x.ingots.length ≤ 1048576 by have := wtMelt_mem x0 x hx; unfold Melt.wt at this; omega))
  have Hf0 := Lib.hid (fun x hx => (⟨(Hok0.out x hx).1, (Hok0.out x hx).2.1.2.2, (Hok0.out x hx).2.2, Hin0.out x hx⟩ : Melt.fine x))
  go_enter Try.func5, Try.ntmps5
  go_wp2_with fail
  refine (szMeltS _ _ x0 1048576 (by exact H0.out.up (by (repeat' (first | (with_reducible exact Below.refl _ _) | (with_reducible assumption) | (with_reducible refine below_dn ?_ _) | (with_reducible refine Below.drew ?_) | (with_reducible refine Below.alloc ?_ ?_ _) | (with_reducible refine Below.setCell ?_ ?_ _) | go_size)))) hm0 (by exact fun x hx => (Hok0.out x hx).up (by (repeat' (first | (with_reducible exact Below.refl _ _) | (with_reducible assumption) | (with_reducible refine below_dn ?_ _) | (with_reducible refine Below.drew ?_) | (with_reducible refine Below.alloc ?_ ?_ _) | (with_reducible refine Below.setCell ?_ ?_ _) | go_size)))) (by omega) (by omega)).mono ?_; rw [Hz0.out]; rintro e w1 ⟨rfl, b1⟩
  have B1 : Below w.heap.size w w1 := Below.trans (by (repeat' (first | (with_reducible exact Below.refl _ _) | (with_reducible assumption) | (with_reducible refine below_dn ?_ _) | (with_reducible refine Below.drew ?_) | (with_reducible refine Below.alloc ?_ ?_ _) | (with_reducible refine Below.setCell ?_ ?_ _) | go_size))) (b1.mono (by simp <;> omega))
  clear b1
  clear Hz0 hq0 Hy0
  go_wp2_with fail
  refine (toMeltL _ _ x0 (by exact H0.out.up B1) hn0 (by exact fun x hx => ⟨(Hok0.out x hx).up B1, Hin0.out x hx⟩)).mono ?_; rintro e w2 ⟨g2, y2, rfl, hg2, o2, b2⟩
  have B2 := bnext B1 b2
  clear B1
  have O2 := Lib.hid o2; clear o2 hg2
  clear b2
  go_wp2_with fail
  refine (spec_ValidMelts _ _ x0 (O2.out.rdm hn0 Hin0.out) hn0 Hf0.out).mono ?_; rintro e w3 ⟨rfl, b3⟩
  have B3 := bnext B2 b3
  have O2' := Lib.hid (O2.out.below b3 O2.out.lt); clear O2; have O2 := O2'; clear O2'
  clear B2
  clear b3
  clear O2
  go_wp2_with fail
  refine (toMeltL _ _ x0 (by exact H0.out.up B3) hn0 (by exact fun x hx => ⟨(Hok0.out x hx).up B3, Hin0.out x hx⟩)).mono ?_; rintro e w4 ⟨g4, y4, rfl, hg4, o4, b4⟩
  have B4 := bnext B3 b4
  clear B3
  have O4 := Lib.hid o4; clear o4 hg4
  clear b4
  go_wp2_with fail
  refine (impl_ValidMelts _ _ x0 (O4.out.rdm hn0 Hin0.out) hn0 Hf0.out).mono ?_; rintro e w5 ⟨rfl, b5⟩
  have B5 := bnext B4 b5
  have O4' := Lib.hid (O4.out.below b5 O4.out.lt); clear O4; have O4 := O4'; clear O4'
  clear B4
  clear b5
  go_wp2_with fail
  refine (toMeltL _ _ x0 (by exact H0.out.up B5) hn0 (by exact fun x hx => ⟨(Hok0.out x hx).up B5, Hin0.out x hx⟩)).mono ?_; rintro e w6 ⟨g6, y6, rfl, hg6, o6, b6⟩
  have B6 := bnext B5 b6
  have O4' := Lib.hid (O4.out.below b6 O4.out.lt); clear O4; have O4 := O4'; clear O4'
  clear B5
  have O6 := Lib.hid o6; clear o6 hg6
  clear b6
  go_wp2_with fail
  refine (eqMeltL _ _ _ _ _ x0 O4.out O6.out hn0 Hin0.out).mono ?_; rintro e w7 ⟨rfl, b7⟩
  have B7 := bnext B6 b7
  have O4' := Lib.hid (O4.out.below b7 O4.out.lt); clear O4; have O4 := O4'; clear O4'
  have O6' := Lib.hid (O6.out.below b7 O6.out.lt); clear O6; have O6 := O6'; clear O6'
  clear B6
  clear b7
  clear O4
  clear O6
  go_wp2_with fail
  all_goals go_ret
  all_goals exact ⟨rfl, B7⟩
end Go.Proofs.Ytegfgcgjoojdmaa
