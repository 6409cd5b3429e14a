/- Negative numbers in decimal. -/
import Derived.Test.YtmkemjfbmnnflaaDoorRows
import Derived.Test.YtmkemjfbmnnflaaDoorDec0
namespace Go.Proofs.YtmkemjfbmnnflaaDoor
open Go.ChangeShapes Go.WideShapes Go.ChangeAt Go.RowKit Go.Deep Go.Joins
set_option linter.unusedVariables false
set_option maxRecDepth 100000
set_option linter.unusedSimpArgs false
theorem tmod_neg (u : Nat) : Int.tmod (-(u : Int)) 10 = -((u : Int) % 10) := by
  rw [Int.neg_tmod, Int.tmod_eq_emod_of_nonneg (by omega)]
theorem tdiv_neg (u : Nat) : Int.tdiv (-(u : Int)) 10 = -((u / 10 : Nat) : Int) := by
  rw [Int.neg_tdiv, Int.tdiv_eq_ediv_of_nonneg (by omega)]; rfl
set_option maxHeartbeats 4000000 in
theorem spec_l01DecM (n : Int) (w : World) (h0 : n < 0) (h1 : -9223372036854775807 ≤ n) :
    Calls Tryd.prog 49 #[.int .i64 n] w fun e w' => e = .returned (.string (decT n)) ∧ Below w.heap.size w w' := by
  obtain ⟨N, rfl⟩ : ∃ N : Nat, n = -(N : Int) := ⟨(-n).toNat, by omega⟩
  obtain ⟨i0, hi, hz0, hz1, hz2⟩ := info_parts info_u8
  have et : Hid (decT (-(N : Int)) = ⟨(45 :: decD N).toArray⟩) := Lib.hid (by
    unfold decT Lib.itoa decD
    rw [if_pos (by omega), if_neg (by omega), show (-(N : Int)).natAbs = N by omega])
  have hdl := decD_len N (by omega)
  have t0 : (-(N : Int) == 0) = false := beq_eq_false_iff_ne.2 (by omega)
  have t1 : decide (-(N : Int) < 0) = true := decide_eq_true (by omega)
  go_enter Tryd.func49, Tryd.ntmps49
  go_wp2
  go_loopw [3, 4, 5] (fun r m _ wr => ∃ (u : Nat) (D : List UInt8), u ≤ N ∧ m = .int .i64 (-(u : Int)) ∧ decD u ++ D.reverse = decD N ∧ wr.ownsRow w.heap.size 5 1 r D.length (D.map u8v) ∧ Below w.heap.size w wr) (fun _ m _ _ => (intOf m).natAbs)
  case atStart => exact ⟨N, [], Nat.le_refl _, rfl, by simp, own_empty w _ _ _ (Nat.le_refl _), by (repeat' (first | (with_reducible exact Below.refl _ _) | (with_reducible assumption) | (with_reducible refine below_dn ?_ _) | (with_reducible refine Below.drew ?_) | (with_reducible refine Below.alloc ?_ ?_ _) | (with_reducible refine Below.setCell ?_ ?_ _) | go_size))⟩
  case round =>
    obtain ⟨u, D, hu, rfl, he, hown, hb⟩ := hrel
    have hDl : D.length ≤ 20 := by
      have := congrArg List.length he
      rw [List.length_append, List.length_reverse] at this
      omega
    have HE := Lib.hid he; clear he
    have HO := Lib.hid hown; clear hown
    have HB := Lib.hid hb
    have hws := hb.size
    clear hb
    by_cases hu0 : 0 < u
    · have t2 : (-(u : Int) != 0) = true := bne_iff_ne.2 (by omega)
      have e2 : Hid (decD (u / 10) ++ (D ++ [UInt8.ofNat (48 + u % 10)]).reverse = decD N) := Lib.hid (by
        rw [← HE.out, decD_step hu0, List.reverse_append, List.append_assoc]; rfl)
      have ec := Lib.hid (digit_u8 u)
      by_cases hd0 : u % 10 = 0
      · have t5 : decide ((0 : Int) < (u : Int) % 10) = false := decide_eq_false (by omega)
        have ed : Hid ((48 : Int) + -((u : Int) % 10) = 48 + (u : Int) % 10) := Lib.hid (by omega)
        clear hd0
        go_wp2_with (at_builtin; refine app_el rfl _ _ 87 5 i0 (.int .u8 0) 1 1 Tryd.underlying87 hi hz0 hz1 hz2 rfl (by decide) rfl wr w.heap.size _ _ (D.map u8v) (by rfl) HO.out [.int .u8 (48 + -((u : Int) % 10))] rfl (by intro u hu; simp at hu; subst hu; rfl) (by rfl) (by omega) (by decide) hws ?_; intro g gc w3 hown3 hB3 hz; have HB3 := Lib.hid (hB3 w HB.out); have HO3 := Lib.hid hown3; clear hown3 hB3)
        go_roundw
        case rel => exact ⟨u / 10, D ++ [UInt8.ofNat (48 + u % 10)], by omega, by go_num, e2.out, by rw [u8_snoc, ec.out, ← ed.out, List.length_append]; exact HO3.out, HB3.out⟩
        case measure => simp [intOf]; omega
      · have t5 : decide ((0 : Int) < (u : Int) % 10) = true := decide_eq_true (by omega)
        clear hd0
        go_wp2_with (at_builtin; refine app_el rfl _ _ 87 5 i0 (.int .u8 0) 1 1 Tryd.underlying87 hi hz0 hz1 hz2 rfl (by decide) rfl wr w.heap.size _ _ (D.map u8v) (by rfl) HO.out [.int .u8 (48 + (u : Int) % 10)] rfl (by intro u hu; simp at hu; subst hu; rfl) (by rfl) (by omega) (by decide) hws ?_; intro g gc w3 hown3 hB3 hz; have HB3 := Lib.hid (hB3 w HB.out); have HO3 := Lib.hid hown3; clear hown3 hB3)
        go_roundw
        case rel => exact ⟨u / 10, D ++ [UInt8.ofNat (48 + u % 10)], by omega, by go_num, e2.out, by rw [u8_snoc, ec.out, List.length_append]; exact HO3.out, HB3.out⟩
        case measure => simp [intOf]; omega
    · have t2 : (-(u : Int) != 0) = false := by
        have : u = 0 := by omega
        subst this; rfl
      have hrev : Hid (D.reverse = decD N) := Lib.hid (by
        have := HE.out
        rw [show u = 0 by omega] at this
        exact this)
      have hD0 : 0 < D.length := by
        have := congrArg List.length hrev.out
        rw [List.length_reverse] at this
        rw [this, decD_step (by omega)]; simp
      clear hu0
      go_wp2_with (at_builtin; refine app_el rfl _ _ 87 5 i0 (.int .u8 0) 1 1 Tryd.underlying87 hi hz0 hz1 hz2 rfl (by decide) rfl wr w.heap.size _ _ (D.map u8v) (by rfl) HO.out [.int .u8 45] rfl (by intro u hu; simp at hu; subst hu; rfl) (by rfl) (by omega) (by decide) hws ?_; intro g gc w3 hown3 hB3 hz; have HB3 := Lib.hid (hB3 w HB.out); have HO3 := Lib.hid hown3; clear hown3 hB3)
      clear HO HB hws
      have HO := HO3
      have HB := HB3
      have hws := HB3.out.size
      clear HO3 HB3
      have hrev2 : Hid ((D ++ [45]).reverse = 45 :: decD N) := Lib.hid (by rw [List.reverse_append, hrev.out]; rfl)
      have hDl2 : (D ++ [45]).length ≤ 21 := by rw [List.length_append]; simp; omega
      have e45 : (D.map u8v ++ [Value.int .u8 45]) = (D ++ [45]).map u8v := by rw [u8_snoc]; rfl
      have el45 : (D ++ [(45 : UInt8)]).length = D.length + 1 := by simp
      rw [e45] at HO
      obtain ⟨wo, rfl⟩ : ∃ wo : World, wo = w3 := ⟨_, rfl⟩
      obtain ⟨hL, ao', cap', e, hcap, hmax, hnil, hsome⟩ := own_rd HO.out
      obtain ⟨b4, off4, e1, hb4, hc4⟩ := hsome (by omega)
      injection e with q1 q2 q3
      subst q1
      injection e1 with e2
      injection e2 with e3 e4 e5
      subst e3; subst e4
      clear e5 hsome hnil q2 q3
      go_loopw [6, 7] (fun r i wr => ∃ (k : Nat), k ≤ D.length + 1 ∧ i = .int .i64 ((k : Int) - 1) ∧ wr.ownsRow wo.heap.size 5 1 r ((D ++ [45]).drop k).reverse.length (((D ++ [45]).drop k).reverse.map u8v) ∧ Below wo.heap.size wo wr) (fun _ i _ => (intOf i + 1).toNat)
      case atStart => exact ⟨D.length + 1, Nat.le_refl _, by go_num, by rw [← el45, List.drop_length]; exact own_empty wo wo.heap.size _ _ (Nat.le_refl _), by (repeat' (first | (with_reducible exact Below.refl _ _) | (with_reducible assumption) | (with_reducible refine below_dn ?_ _) | (with_reducible refine Below.drew ?_) | (with_reducible refine Below.alloc ?_ ?_ _) | (with_reducible refine Below.setCell ?_ ?_ _) | go_size))⟩
      case round =>
        obtain ⟨k, hk, rfl, hown2, hb2⟩ := hrel
        have HO2 := Lib.hid hown2
        have HB2 := Lib.hid hb2
        have hws2 := hb2.size
        by_cases hk0 : 0 < k
        · have hkl : k - 1 < (D ++ [(45 : UInt8)]).length := by omega
          have c0 : wr.cell? ⟨g, k - 1, none⟩ = some (u8v (D ++ [45])[k - 1]) := by
            rw [hb2.cell (p := ⟨g, k - 1, none⟩) hb4]
            have := hc4 (k - 1) (by omega)
            rw [Nat.zero_add] at this
            rw [this, List.getElem?_map, List.getElem?_eq_getElem hkl]; rfl
          have hbr4 : g < wr.heap.size := Nat.lt_of_lt_of_le hb4 hws2
          have e3 : Hid (((D ++ [45]).drop (k - 1)).reverse = ((D ++ [45]).drop k).reverse ++ [(D ++ [45])[k - 1]]) := Lib.hid (by
            rw [List.drop_eq_getElem_cons hkl, List.reverse_cons, show k - 1 + 1 = k by omega])
          have hdr : ((D ++ [45]).drop k).reverse.length ≤ 21 := by rw [List.length_reverse, List.length_drop]; omega
          have t3 : decide ((0 : Int) ≤ (k : Int) - 1) = true := decide_eq_true (by omega)
          generalize ((D ++ [45]).drop k).reverse = R at *
          unfold u8v at c0
          clear hown2 hb2
          go_wp2_with (at_builtin; refine app_el rfl _ _ 87 5 i0 (.int .u8 0) 1 1 Tryd.underlying87 hi hz0 hz1 hz2 rfl (by decide) rfl wr wo.heap.size _ _ (R.map u8v) (by rfl) HO2.out [.int .u8 ((D ++ [45])[k - 1].toNat : Int)] rfl (by intro u hu; simp at hu; subst hu; rfl) (by rfl) (by omega) (by decide) hws2 ?_; intro g7 gc7 w7 hown3 hB3 hz; have HB3 := Lib.hid (hB3 wo HB2.out); have HO3 := Lib.hid hown3; clear hown3 hB3)
          go_roundw
          case rel => exact ⟨k - 1, by omega, by go_num, by rw [e3.out, u8_snoc, List.length_append]; exact HO3.out, HB3.out⟩
          case measure => simp [intOf]; omega
        · obtain rfl : k = 0 := by omega
          have t3 : decide ((0 : Int) ≤ ((0 : Nat) : Int) - 1) = false := by decide
          have er : Hid (((D ++ [45]).drop 0).reverse = 45 :: decD N) := hrev2
          rw [er.out] at HO2
          have kc := conv_own HO2.out
          have HBF := Lib.hid (HB.out.trans (hb2.mono hws))
          clear hown2 hb2
          go_wp2_with fail
          go_ret
          exact ⟨by rw [et.out]; try rfl, HBF.out⟩
end Go.Proofs.YtmkemjfbmnnflaaDoor
