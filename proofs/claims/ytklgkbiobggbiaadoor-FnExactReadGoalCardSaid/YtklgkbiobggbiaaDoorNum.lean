/- Numbers read from their decimal texts: both sides compute the same. -/
import Derived.Test.YtklgkbiobggbiaaDoorRows
import Derived.Test.YtklgkbiobggbiaaDoorNumT
import Derived.Shelf.Strings.Prefix
import Derived.Shelf.Strconv.ParseIntPublic10
import Derived.Shelf.Strconv.ErrVarParseInt
namespace Go.Proofs.YtklgkbiobggbiaaDoor
open Go.ChangeShapes Go.WideShapes Go.ChangeAt Go.RowKit Go.Deep Go.Joins
set_option linter.unusedVariables false
set_option maxRecDepth 100000
set_option linter.unusedSimpArgs false
theorem head_at (s : ByteArray) (k : Nat) (h : k < s.size) : (s.data.toList.drop k).head? = some s[k] := by
  rw [List.head?_drop, List.getElem?_eq_getElem (by simpa using h)]; rfl
theorem drop_at (s : ByteArray) (a k : Nat) (h : a + k < s.size) : (s.data.toList.drop a)[k]? = some s[a + k] := by
  rw [List.getElem?_drop, List.getElem?_eq_getElem (by simpa using h)]; rfl
theorem len_drop (s : ByteArray) (a : Nat) : (s.data.toList.drop a).length = s.size - a := by
  rw [List.length_drop]; simp

set_option maxHeartbeats 4000000 in
theorem spec_l01Number (s : ByteArray) (w : World) (hs : s.size ≤ 2147483647) :
    Calls Tryd.prog 50 #[.string s] w fun e w' => e = .returned (.tuple #[.int .i64 (numV s), .bool (numS s).isSome]) ∧ w = w' := by
  by_cases h0 : s.size = 0
  · have e := num_none (numS_bad (s := s) (.inl (by omega)))
    rw [e.1, e.2]
    clear e
    have t0 : ((s.size : Int) == 0) = true := beq_iff_eq.2 (by omega)
    have t1 : decide ((0 : Int) < (s.size : Int)) = false := decide_eq_false (by omega)
    go_enter Tryd.func50, Tryd.ntmps50
    go_wp2_with fail
    go_ret2
    exact ⟨rfl, rfl⟩
  have hp : 0 < s.size := by omega
  have t1 : decide ((0 : Int) < (s.size : Int)) = true := decide_eq_true (by omega)
  have e45 : (45 : UInt8).toNat = 45 := rfl
  have hh0 := headB s hp
  by_cases hc : s[0] = 45
  · have ha : atN s = 1 := by unfold atN; rw [hh0]; rw [hc]; rfl
    have t2 : (((s[0].toNat : Nat) : Int) == 45) = true := beq_iff_eq.2 (by rw [hc, e45]; rfl)
    by_cases hz : s.size = 1
    · have e := num_none (numS_bad (s := s) (.inl (by omega)))
      rw [e.1, e.2]
      have t3 : ((s.size : Int) == 1) = true := beq_iff_eq.2 (by omega)
      clear e
      go_enter Tryd.func50, Tryd.ntmps50
      go_wp2_with fail
      go_ret2
      exact ⟨rfl, rfl⟩
    have t3 : ((s.size : Int) == 1) = false := beq_eq_false_iff_ne.2 (by omega)
    by_cases hl : 18 < s.size - 1
    · have e := num_none (numS_bad (s := s) (.inr (.inl (by omega))))
      rw [e.1, e.2]
      have t4 : decide ((18 : Int) < (s.size : Int) - 1) = true := decide_eq_true (by omega)
      clear e
      go_enter Tryd.func50, Tryd.ntmps50
      go_wp2_with fail
      go_ret2
      exact ⟨rfl, rfl⟩
    have t4 : decide ((18 : Int) < (s.size : Int) - 1) = false := decide_eq_false (by omega)
    have hl1 : 1 < s.size := by omega
    have e48 : (48 : UInt8).toNat = 48 := rfl
    have hh := head_at s 1 hl1
    by_cases h48 : s[1] = 48 ∧ 1 < s.size
    · have e := num_none (numS_bad (s := s) (.inr (.inr ⟨by rw [ha, hh, h48.1], h48.2⟩)))
      rw [e.1, e.2]
      have t5 : (((s[1].toNat : Nat) : Int) == 48) = true := beq_iff_eq.2 (by rw [h48.1, e48]; rfl)
      have t6 : decide ((1 : Int) < (s.size : Int)) = true := decide_eq_true (by omega)
      clear e
      go_enter Tryd.func50, Tryd.ntmps50
      go_wp2_with fail
      go_ret2
      exact ⟨rfl, rfl⟩
    have hbad : Hid (¬ badN s) := Lib.hid (fun q => by
      rcases q with q | q | q
      · omega
      · omega
      · rw [ha, hh] at q; exact h48 ⟨by simpa using q.1, q.2⟩)
    have HA := Lib.hid ha
    have t5 : (((s[1].toNat : Nat) : Int) == 48) = false := beq_eq_false_iff_ne.2 (fun q => h48 ⟨UInt8.toNat_inj.1 (by rw [e48]; omega), hl1⟩)
    clear h48 hh ha hh0
    go_enter Tryd.func50, Tryd.ntmps50
    go_wp2_with fail
    go_loop [5, 6] (fun n i => ∃ (j m : Nat), 1 ≤ j ∧ j ≤ s.size ∧ i = .int .i64 j ∧ n = .int .i64 m ∧ Lib.decFrom 0 ((s.data.toList.drop 1).take (j - 1)) = some m) (fun _ i => s.size - (intOf i).toNat)
    case atStart => exact ⟨1, 0, Nat.le_refl _, by omega, rfl, rfl, rfl⟩
    case round =>
      obtain ⟨j, m, hja, hjs, rfl, rfl, hm⟩ := hrel
      by_cases hlt : j < s.size
      · have hat : (s.data.toList.drop 1)[j - 1]? = some s[j] := by rw [drop_at s 1 (j - 1) (by omega)]; congr 2; omega
        have hm17 := Lib.decFrom_take_lt hm (by omega)
        cases hD : inB s[j].toNat 48 57
        · have e := Lib.hid (num_none (numS_digit (s := s) (k := j - 1) (by rw [HA.out]; exact hat) hD))
          have HM := Lib.hid hm; clear hm hat
          go_wp2_with (first | (go_at_call 86; refine (spec_l01Digit_is _ _ (by assumption)).mono ?_; rintro e w' ⟨rfl, rfl⟩))
          go_ret2
          exact ⟨by rw [e.out.1, e.out.2]; rfl, rfl⟩
        · have hd := inB_true hD
          have e := Lib.hid (Lib.decFrom_take _ _ _ _ _ _ hm hat (digitVal_of hD))
          have hms : Hid (j + 1 - 1 = j - 1 + 1) := Lib.hid (by omega)
          have hv : Hid (((m * 10 + (s[j].toNat - 48) : Nat) : Int) = 10 * (m : Int) + ((s[j].toNat : Int) - 48)) := Lib.hid (by omega)
          clear hm hat
          go_wp2_with (first | (go_at_call 86; refine (spec_l01Digit_is _ _ (by assumption)).mono ?_; rintro e w' ⟨rfl, rfl⟩))
          go_round
          case rel => exact ⟨j + 1, m * 10 + (s[j].toNat - 48), by omega, by omega, by go_num, by rw [hv.out] <;> go_num, by rw [hms.out]; exact e.out⟩
          case measure => simp [intOf]; omega
      · obtain rfl : j = s.size := by omega
        have hm18 := Lib.hid hm
        rw [List.take_of_length_le (by rw [len_drop]; exact Nat.le_refl _)] at hm
        have hb18 := Lib.decFrom_lt18 hm (by rw [len_drop]; omega)
        have e := Lib.hid (num_some (numS_ok hbad.out (by rw [HA.out]; exact hm)))
        clear hm
        go_wp2_with fail
        go_ret2
        exact ⟨by rw [e.out.1, e.out.2, HA.out]; rfl, rfl⟩
  · have ha : atN s = 0 := by unfold atN; rw [hh0]; rw [if_neg]; intro q; exact hc (by simpa using q)
    have t2 : (((s[0].toNat : Nat) : Int) == 45) = false := beq_eq_false_iff_ne.2 (fun q => hc (UInt8.toNat_inj.1 (by rw [e45]; omega)))
    have t3 : ((s.size : Int) == 0) = false := beq_eq_false_iff_ne.2 (by omega)
    by_cases hl : 18 < s.size - 0
    · have e := num_none (numS_bad (s := s) (.inr (.inl (by omega))))
      rw [e.1, e.2]
      have t4 : decide ((18 : Int) < (s.size : Int)) = true := decide_eq_true (by omega)
      clear e
      go_enter Tryd.func50, Tryd.ntmps50
      go_wp2_with fail
      go_ret2
      exact ⟨rfl, rfl⟩
    have t4 : decide ((18 : Int) < (s.size : Int)) = false := decide_eq_false (by omega)
    have hl1 : 0 < s.size := by omega
    have e48 : (48 : UInt8).toNat = 48 := rfl
    have hh := head_at s 0 hl1
    by_cases h48 : s[0] = 48 ∧ 1 < s.size
    · have e := num_none (numS_bad (s := s) (.inr (.inr ⟨by rw [ha, hh, h48.1], h48.2⟩)))
      rw [e.1, e.2]
      have t5 : (((s[0].toNat : Nat) : Int) == 48) = true := beq_iff_eq.2 (by rw [h48.1, e48]; rfl)
      have t6 : decide ((1 : Int) < (s.size : Int)) = true := decide_eq_true (by omega)
      clear e
      go_enter Tryd.func50, Tryd.ntmps50
      go_wp2_with fail
      go_ret2
      exact ⟨rfl, rfl⟩
    have hbad : Hid (¬ badN s) := Lib.hid (fun q => by
      rcases q with q | q | q
      · omega
      · omega
      · rw [ha, hh] at q; exact h48 ⟨by simpa using q.1, q.2⟩)
    have HA := Lib.hid ha
    obtain ⟨b5, t5⟩ : ∃ b, (((s[0].toNat : Nat) : Int) == 48) = b := ⟨_, rfl⟩
    obtain ⟨b6, t6⟩ : ∃ b, decide ((1 : Int) < (s.size : Int)) = b := ⟨_, rfl⟩
    have hbb : (b5 && b6) = false := by
      cases b5
      · rfl
      · cases b6
        · rfl
        · exact absurd ⟨UInt8.toNat_inj.1 (by rw [e48]; have := beq_iff_eq.1 t5; omega), by have := of_decide_eq_true t6; omega⟩ h48
    clear h48 hh ha hh0
    go_enter Tryd.func50, Tryd.ntmps50
    cases b5 <;> cases b6 <;> (try cases hbb)
    all_goals
      go_wp2_with fail
      go_loop [5, 6] (fun n i => ∃ (j m : Nat), 0 ≤ j ∧ j ≤ s.size ∧ i = .int .i64 j ∧ n = .int .i64 m ∧ Lib.decFrom 0 ((s.data.toList.drop 0).take (j - 0)) = some m) (fun _ i => s.size - (intOf i).toNat)
      case atStart => exact ⟨0, 0, Nat.le_refl _, by omega, rfl, rfl, rfl⟩
      case round =>
        obtain ⟨j, m, hja, hjs, rfl, rfl, hm⟩ := hrel
        by_cases hlt : j < s.size
        · have hat : (s.data.toList.drop 0)[j - 0]? = some s[j] := by rw [drop_at s 0 (j - 0) (by omega)]; congr 2; omega
          have hm17 := Lib.decFrom_take_lt hm (by omega)
          cases hD : inB s[j].toNat 48 57
          · have e := Lib.hid (num_none (numS_digit (s := s) (k := j - 0) (by rw [HA.out]; exact hat) hD))
            have HM := Lib.hid hm; clear hm hat
            go_wp2_with (first | (go_at_call 86; refine (spec_l01Digit_is _ _ (by assumption)).mono ?_; rintro e w' ⟨rfl, rfl⟩))
            go_ret2
            exact ⟨by rw [e.out.1, e.out.2]; rfl, rfl⟩
          · have hd := inB_true hD
            have e := Lib.hid (Lib.decFrom_take _ _ _ _ _ _ hm hat (digitVal_of hD))
            have hms : Hid (j + 1 - 0 = j - 0 + 1) := Lib.hid (by omega)
            have hv : Hid (((m * 10 + (s[j].toNat - 48) : Nat) : Int) = 10 * (m : Int) + ((s[j].toNat : Int) - 48)) := Lib.hid (by omega)
            clear hm hat
            go_wp2_with (first | (go_at_call 86; refine (spec_l01Digit_is _ _ (by assumption)).mono ?_; rintro e w' ⟨rfl, rfl⟩))
            go_round
            case rel => exact ⟨j + 1, m * 10 + (s[j].toNat - 48), by omega, by omega, by go_num, by rw [hv.out] <;> go_num, by rw [hms.out]; exact e.out⟩
            case measure => simp [intOf]; omega
        · obtain rfl : j = s.size := by omega
          have hm18 := Lib.hid hm
          rw [List.take_of_length_le (by rw [len_drop]; exact Nat.le_refl _)] at hm
          have hb18 := Lib.decFrom_lt18 hm (by rw [len_drop]; omega)
          have e := Lib.hid (num_some (numS_ok hbad.out (by rw [HA.out]; exact hm)))
          clear hm
          go_wp2_with fail
          go_ret2
          exact ⟨by rw [e.out.1, e.out.2, HA.out]; rfl, rfl⟩
end Go.Proofs.YtklgkbiobggbiaaDoor
