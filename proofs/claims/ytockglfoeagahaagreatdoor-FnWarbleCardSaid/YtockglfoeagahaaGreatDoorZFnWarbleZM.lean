/- Contracts and plain facts, joined: DrawS2. -/
import Derived.Test.YtockglfoeagahaaGreatDoorRows
import Derived.Test.YtockglfoeagahaaGreatDoorZFnWarbleS
import Derived.Test.YtockglfoeagahaaGreatDoorZFnWarbleZL
namespace Go.Proofs.YtockglfoeagahaaGreatDoor
open Go.ChangeShapes Go.WideShapes Go.ChangeAt Go.RowKit Go.Deep Go.Joins
set_option linter.unusedVariables false
set_option maxRecDepth 100000
set_option linter.unusedSimpArgs false
set_option maxHeartbeats 4000000 in
theorem draw_spotsOk (w : World) (g n : Nat) (h : Src w g n) (hn : n ≤ 90000) :
    Calls Tryz.prog 43 #[.pointer (some ⟨g, 0, none⟩)] w fun e w' => ∃ (r : Value) (xs : List Spot), e = .returned r ∧ validSpotS xs = true ∧ w'.ownsRow w.heap.size 38 2 r xs.length (xs.flatMap Spot.put) ∧ Src w' g (n + 60) ∧ Turn g (g + 1) w w' := by
  have hg := h.lt
  obtain ⟨W1, hW1⟩ : ∃ W1, w.alloc (.cells #[] 38) = W1 := ⟨_, rfl⟩
  have e1 : W1.heap.size = w.heap.size + 1 := by rw [← hW1]; simp
  have T1 := Lib.hid (show Turn g (g + 1) w W1 from hW1 ▸ (Turn.refl _ _ w).allocR _)
  have O1 := Lib.hid (show W1.ownsRow w.heap.size 38 2 (.slice (some ⟨w.heap.size, 0, none⟩) 0 0) 0 [] from hW1 ▸ own_empty w w.heap.size _ 2 (Nat.le_refl _))
  have S1 : Src W1 g n := hW1 ▸ h.below ((Below.refl _ _).alloc (Nat.le_refl _) _)
  have HP := Lib.hid (src_pick W1 g n 7 S1 (by omega) (by omega))
  clear S1 h
  go_enter Tryz.func43, Tryz.ntmps43
  go_wp2_with fail
  refine HP.out.mono ?_; rintro e w2 ⟨p, rfl, p0, _, p1, s2, t2⟩
  obtain ⟨K, rfl⟩ : ∃ K : Nat, p = (K : Int) := ⟨p.toNat, by omega⟩
  have hK : K < 7 := by have := p1 (by omega); omega
  have O2 := Lib.hid (own_turn O1.out t2 (by omega))
  have T2 := Lib.hid (T1.out.trans t2)
  have S2 := Lib.hid s2
  clear s2 t2 p1 p0 HP O1 T1 hW1
  go_wp2_with fail
  go_loopw [3, 4, 5, 6] (fun r k _ _ wr => ∃ (j : Nat) (xs : List Spot), k = .int .i64 j ∧ j ≤ K ∧ validSpotS xs = true ∧ wr.ownsRow w.heap.size 38 2 r xs.length (xs.flatMap Spot.put) ∧ Src wr g (n + 2 + 8 * (K - j)) ∧ Turn g (g + 1) w wr) (fun _ k _ _ _ => (intOf k).toNat)
  case atStart => exact ⟨K, [], rfl, Nat.le_refl _, by decide, O2.out, S2.out.mono (by omega), T2.out⟩
  case round =>
    clear O2 S2 T2
    obtain ⟨j, xs, rfl, hj, hv, hown, hsr, ht⟩ := hrel
    have HV := Lib.hid hv
    have HO := Lib.hid hown
    have HT := Lib.hid ht
    obtain ⟨h16, hall⟩ := validSpotS_true hv
    have HW := Lib.hid (weights_of hall)
    have HD := Lib.hid (draw_spot wr g (n + 2 + 8 * (K - j)) hsr (by omega))
    have HS := Lib.hid hsr
    obtain ⟨ro, rx, er0⟩ := (own_rd hown).form
    subst er0
    have hwz : w.heap.size ≤ wr.heap.size := ht.size
    clear hv hown ht hall hsr
    by_cases h0 : 0 < j
    · have t0 : decide (0 < j) = true := decide_eq_true h0
      clear HS
      go_wp2_with fail
      refine HD.out.mono ?_; rintro e w4 ⟨x, rfl, hx, s4, t4⟩
      have HX := Lib.hid hx
      have hxn := spotB_nums hx
      have S4 := Lib.hid s4
      have O4 := Lib.hid (own_turn HO.out t4 (by omega))
      have T4 := Lib.hid (HT.out.trans t4)
      have z4 : wr.heap.size ≤ w4.heap.size := t4.size
      have HA := Lib.hid (spec_l12Add w4 _ xs x (own_rd O4.out) h16 HW.out hxn.2)
      clear hx s4 t4 HO HT HD hxn
      go_wp2_with fail
      refine HA.out.mono ?_; rintro e w5 ⟨r5, rfl, o5, b5⟩
      have S5 := Lib.hid (S4.out.below b5)
      have T5 := Lib.hid (T4.out.trans (Turn.of_below b5))
      have O5 := Lib.hid (own_below O4.out b5 (Nat.le_refl _))
      have N5 := Lib.hid (own_baseD o5 (show w.heap.size ≤ w4.heap.size + 1 by omega))
      obtain ⟨qo, qx, er5⟩ := (own_rd o5).form
      subst er5
      clear o5 b5 S4 T4 O4 HA HW
      by_cases hc : (addL x xs).2 = 0
      · have HV2 := Lib.hid (addL_valid HV.out HX.out hc)
        have tc : ((addL x xs).2 == 0) = true := beq_iff_eq.2 hc
        generalize addL x xs = st at *
        clear hc
        go_wp2_with fail
        go_roundw
        case rel => exact ⟨j - 1, st.1, by go_num, by omega, HV2.out, N5.out, S5.out.mono (by omega), T5.out⟩
        case measure => simp [intOf, wrap64]; omega
      · have tc : ((addL x xs).2 == 0) = false := beq_eq_false_iff_ne.2 hc
        generalize addL x xs = st at *
        clear hc N5
        go_wp2_with fail
        go_roundw
        case rel => exact ⟨j - 1, xs, by go_num, by omega, HV.out, O5.out, S5.out.mono (by omega), T5.out⟩
        case measure => simp [intOf, wrap64]; omega
    · obtain rfl : j = 0 := by omega
      have t0 : decide ((0 : Nat) < 0) = false := by decide
      have HS2 := Lib.hid (HS.out.mono (show n + 2 + 8 * (K - 0) ≤ n + 60 by omega))
      clear HS HD
      go_wp2_with fail
      go_ret
      exact ⟨_, xs, rfl, HV.out, HO.out, HS2.out, HT.out⟩
end Go.Proofs.YtockglfoeagahaaGreatDoor
