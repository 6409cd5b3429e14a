/- Contracts and plain facts, joined: Name, NameIs, OneMeasure. -/
import Derived.Test.YtcjekailcljaaaaGreatRows
import Derived.Test.YtcjekailcljaaaaGreatZFnExactGreedyPlanB
import Derived.Test.YtcjekailcljaaaaGreatZFnExactGreedyPlanF
import Derived.WalkLawsBesides
namespace Go.Proofs.YtcjekailcljaaaaGreat
open Go.ChangeShapes Go.WideShapes Go.ChangeAt Go.RowKit Go.Deep Go.Joins
set_option linter.unusedVariables false
set_option maxRecDepth 100000
set_option linter.unusedSimpArgs false
def smallC (c : UInt8) : Bool := inB c.toNat 97 122
def digitC (c : UInt8) : Bool := inB c.toNat 48 57
def restC (c : UInt8) : Bool := smallC c || digitC c
def nameL (l : List UInt8) : Bool := decide (1 ≤ l.length) && (decide (l.length ≤ 10) && (l.head?.any smallC && l.all restC))
def nameB (s : ByteArray) : Bool := nameL s.data.toList

theorem take_snocB (s : ByteArray) (k : Nat) (h : k < s.size) : s.data.toList.take (k + 1) = s.data.toList.take k ++ [s[k]] := by
  rw [List.take_succ_eq_append_getElem (by simpa using h)]; rfl
theorem all_snocB (s : ByteArray) (k : Nat) (h : k < s.size) : (s.data.toList.take (k + 1)).all restC = ((s.data.toList.take k).all restC && restC s[k]) := by
  rw [take_snocB s k h, List.all_append]; simp
theorem all_falseB (s : ByteArray) (k : Nat) (h : k < s.size) (hc : restC s[k] = false) : s.data.toList.all restC = false := by
  rw [List.all_eq_false]
  exact ⟨s[k], by simp [ByteArray.getElem_eq_getElem_data], by simp [hc]⟩
theorem headB (s : ByteArray) (h : 0 < s.size) : s.data.toList.head? = some s[0] := by
  rw [List.head?_eq_getElem?, List.getElem?_eq_getElem (by simpa using h)]; rfl

theorem spec_l01Small (n : Int) (w : World) : Calls Tryz.prog 138 #[.int .u8 n] w fun e w' => e = .returned (.bool (inB n 97 122)) ∧ w = w' := by
  unfold inB
  go_enter Tryz.func138, Tryz.ntmps138
  go_wp2
  all_goals go_ret
  all_goals exact ⟨by first | (simp [*]; done) | (simp [*]; omega), rfl⟩
theorem spec_l01Digit (n : Int) (w : World) : Calls Tryz.prog 139 #[.int .u8 n] w fun e w' => e = .returned (.bool (inB n 48 57)) ∧ w = w' := by
  unfold inB
  go_enter Tryz.func139, Tryz.ntmps139
  go_wp2
  all_goals go_ret
  all_goals exact ⟨by first | (simp [*]; done) | (simp [*]; omega), rfl⟩
theorem spec_l01Small_is {b : Bool} (n : Int) (w : World) (h : inB n 97 122 = b) : Calls Tryz.prog 138 #[.int .u8 n] w fun e w' => e = .returned (.bool b) ∧ w = w' := by
  rw [← h]; exact spec_l01Small n w
theorem spec_l01Digit_is {b : Bool} (n : Int) (w : World) (h : inB n 48 57 = b) : Calls Tryz.prog 139 #[.int .u8 n] w fun e w' => e = .returned (.bool b) ∧ w = w' := by
  rw [← h]; exact spec_l01Digit n w

/-- the world behind '[]byte(s)' -/
def convW (w : World) (e : TypeId) (s : ByteArray) : World := w.drew.alloc (.cells (bytesRow s (grownCap w s.size 0 e)) e ((bytesRow s (grownCap w s.size 0 e)).size, (bytesRow s (grownCap w s.size 0 e)).size + 1))
theorem convW_run {P : Program} (w : World) (src dst e : TypeId) (s : ByteArray) (hs : P.underlying src = some .string) (hd : P.underlying dst = some (.slice e)) (he : P.underlying e = some (.int .u8)) :
    (Go.convert src dst (.string s)).run P w = .ok (.slice (some ⟨w.heap.size, 0, none⟩) s.size (grownCap w s.size 0 e)) (convW w e s) := run_bytes_of_string w src dst e s hs hd he
theorem convW_below (w : World) (e : TypeId) (s : ByteArray) : Below w.heap.size w (convW w e s) := ((Below.refl _ _).drew).alloc (Nat.le_refl _) _
theorem convW_size (w : World) (e : TypeId) (s : ByteArray) : (convW w e s).heap.size = w.heap.size + 1 := by
  unfold convW
  simp
theorem convW_cell (w : World) (e : TypeId) (s : ByteArray) (k : Nat) (h : k < s.size) : (convW w e s).cell? ⟨w.heap.size, k, none⟩ = some (.int .u8 s[k].toNat) := by
  have hk : k < s.data.size := h
  have hb := bytesRow_at s (grownCap w s.size 0 e) k hk
  have hh : (convW w e s).heap[w.heap.size]? = some (.cells (bytesRow s (grownCap w s.size 0 e)) e ((bytesRow s (grownCap w s.size 0 e)).size, (bytesRow s (grownCap w s.size 0 e)).size + 1)) := by
    show (w.heap.push _)[w.heap.size]? = _
    simp
  unfold World.cell?
  simp only [hh]
  have e : s[k] = s.data[k] := rfl
  rw [e]
  simpa using hb

theorem spec_l01Name (s : ByteArray) (w : World) (hs : s.size ≤ maxLen) : Calls Tryz.prog 124 #[.string s] w fun e w' => e = .returned (.bool (nameB s)) ∧ w = w' := by
  unfold maxLen at hs
  by_cases h0 : s.size = 0
  · have hz : s.toList.isEmpty = true := by
      rw [← decide_eq_emptyBytes]
      have : s.data = #[] := Array.eq_empty_of_size_eq_zero h0
      simp [ByteArray.ext_iff, this]
    have e : Hid (nameB s = false) := (by simp [nameB, nameL, h0] : nameB s = false)
    go_enter Tryz.func124, Tryz.ntmps124
    go_wp2
    go_ret
    exact ⟨by rw [e.out]; rfl, rfl⟩
  have hz : s.toList.isEmpty = false := by
    rw [← decide_eq_emptyBytes]
    have : s.data ≠ #[] := fun h => h0 (show s.data.size = 0 by rw [h]; rfl)
    simp [ByteArray.ext_iff, this]
  have h0' : 0 < s.size := by omega
  by_cases h1 : s.size ≤ 10
  case neg =>
    have d2 : 10 < (s.size : Int) := by omega
    have e : Hid (nameB s = false) := (by simp [nameB, nameL, h1] : nameB s = false)
    go_enter Tryz.func124, Tryz.ntmps124
    go_wp2
    go_ret
    exact ⟨by rw [e.out]; rfl, rfl⟩
  have d2 : ¬ 10 < (s.size : Int) := by omega
  cases hA : inB s[0].toNat 97 122
  · have e : Hid (nameB s = false) := (by
      unfold nameB nameL
      rw [headB s h0']
      simp [smallC, hA] : nameB s = false)
    go_enter Tryz.func124, Tryz.ntmps124
    go_wp2_with (go_at_call 138; refine (spec_l01Small_is _ _ (by assumption)).mono ?_; rintro e w' ⟨rfl, rfl⟩)
    go_ret
    exact ⟨by rw [e.out]; rfl, rfl⟩
  have en : Hid (nameB s = s.data.toList.all restC) := (by
    unfold nameB nameL
    rw [headB s h0']
    have e1 : decide (1 ≤ s.data.toList.length) = true := by simpa using (show 1 ≤ s.data.size from h0')
    have e2 : decide (s.data.toList.length ≤ 10) = true := by simpa using (show s.data.size ≤ 10 from h1)
    rw [e1, e2]
    simp [smallC, hA] : nameB s = s.data.toList.all restC)
  go_enter Tryz.func124, Tryz.ntmps124
  go_wp2_with (go_at_call 138; refine (spec_l01Small_is _ _ (by assumption)).mono ?_; rintro e w' ⟨rfl, rfl⟩)
  clear hA
  go_loop [3] (fun i => ∃ k : Nat, k ≤ s.size ∧ i = .int .i64 k ∧ (s.data.toList.take k).all restC = true) (fun i => s.size - (intOf i).toNat)
  case atStart => exact ⟨0, Nat.zero_le _, rfl, rfl⟩
  case round =>
    obtain ⟨k, hk, rfl, hall⟩ := hrel
    have Hall := Lib.hid hall; clear hall
    by_cases hlt : k < s.size
    · have hn := Lib.hid (all_snocB s k hlt)
      have hf := Lib.hid (all_falseB s k hlt)
      cases hS : inB s[k].toNat 97 122
      · cases hD : inB s[k].toNat 48 57
        · have e : Hid (nameB s = false) := (by rw [en.out]; exact hf.out (by simp [restC, smallC, digitC, hS, hD]) : nameB s = false)
          go_wp2_with (first | (go_at_call 138; refine (spec_l01Small_is _ _ (by assumption)).mono ?_; rintro e w' ⟨rfl, rfl⟩) | (go_at_call 139; refine (spec_l01Digit_is _ _ (by assumption)).mono ?_; rintro e w' ⟨rfl, rfl⟩))
          go_ret
          exact ⟨by rw [e.out]; rfl, rfl⟩
        · have e : Hid ((s.data.toList.take (k + 1)).all restC = true) := (by rw [hn.out, Hall.out]; simp [restC, smallC, digitC, hS, hD] : (s.data.toList.take (k + 1)).all restC = true)
          go_wp2_with (first | (go_at_call 138; refine (spec_l01Small_is _ _ (by assumption)).mono ?_; rintro e w' ⟨rfl, rfl⟩) | (go_at_call 139; refine (spec_l01Digit_is _ _ (by assumption)).mono ?_; rintro e w' ⟨rfl, rfl⟩))
          go_round
          case rel => exact ⟨k + 1, by omega, by go_num, e.out⟩
          case measure => simp [intOf]; omega
      · have e : Hid ((s.data.toList.take (k + 1)).all restC = true) := (by rw [hn.out, Hall.out]; simp [restC, smallC, digitC, hS] : (s.data.toList.take (k + 1)).all restC = true)
        go_wp2_with (first | (go_at_call 138; refine (spec_l01Small_is _ _ (by assumption)).mono ?_; rintro e w' ⟨rfl, rfl⟩) | (go_at_call 139; refine (spec_l01Digit_is _ _ (by assumption)).mono ?_; rintro e w' ⟨rfl, rfl⟩))
        go_round
        case rel => exact ⟨k + 1, by omega, by go_num, e.out⟩
        case measure => simp [intOf]; omega
    · have e : Hid (nameB s = true) := (by
        rw [en.out]
        have := Hall.out
        rwa [List.take_of_length_le (by simp; omega)] at this : nameB s = true)
      go_wp2
      go_ret
      exact ⟨by rw [e.out]; rfl, rfl⟩

set_option maxHeartbeats 1000000 in
theorem impl_IsName (s : ByteArray) (w : World) (hs : s.size ≤ maxLen) : Calls Tryz.prog 118 #[.string s] w fun e w' => e = .returned (.bool (nameB s)) ∧ Below w.heap.size w w' := by
  unfold maxLen at hs
  by_cases h0 : s.size = 0
  · have d1 : (s.size : Int) < 1 := by omega
    have e : Hid (nameB s = false) := (by simp [nameB, nameL, h0] : nameB s = false)
    clear h0
    go_enter Tryz.func118, Tryz.ntmps118
    go_wp2
    go_ret
    exact ⟨by rw [e.out]; rfl, by (repeat' (first | (with_reducible exact Below.refl _ _) | (with_reducible assumption) | (with_reducible refine below_dn ?_ _) | (with_reducible refine Below.drew ?_) | (with_reducible refine Below.alloc ?_ ?_ _) | (with_reducible refine Below.setCell ?_ ?_ _) | go_size))⟩
  have d1 : ¬ (s.size : Int) < 1 := by omega
  have h0' : 0 < s.size := by omega
  by_cases h1 : s.size ≤ 10
  case neg =>
    have d2 : 10 < (s.size : Int) := by omega
    have e : Hid (nameB s = false) := (by simp [nameB, nameL, h1] : nameB s = false)
    go_enter Tryz.func118, Tryz.ntmps118
    go_wp2
    go_ret
    exact ⟨by rw [e.out]; rfl, by (repeat' (first | (with_reducible exact Below.refl _ _) | (with_reducible assumption) | (with_reducible refine below_dn ?_ _) | (with_reducible refine Below.drew ?_) | (with_reducible refine Below.alloc ?_ ?_ _) | (with_reducible refine Below.setCell ?_ ?_ _) | go_size))⟩
  have d2 : ¬ 10 < (s.size : Int) := by omega
  have hcv := fun w s => convW_run (P := Tryz.prog) w 9 169 5 s Tryz.underlying9 Tryz.underlying169 Tryz.underlying5
  have en : Hid (nameB s = (smallC s[0] && s.data.toList.all restC)) := (by
    unfold nameB nameL
    rw [headB s h0']
    have e1 : decide (1 ≤ s.data.toList.length) = true := by simpa using (show 1 ≤ s.data.size from h0')
    have e2 : decide (s.data.toList.length ≤ 10) = true := by simpa using (show s.data.size ≤ 10 from h1)
    rw [e1, e2]
    simp : nameB s = (smallC s[0] && s.data.toList.all restC))
  go_enter Tryz.func118, Tryz.ntmps118
  go_wp2
  clear hcv
  have hwb := convW_below w 5 s
  have hcell := Lib.hid (convW_cell w 5 s)
  generalize convW w 5 s = w1 at *
  go_loop [18] (fun i => ∃ k : Nat, k ≤ s.size ∧ i = .int .i64 k ∧ (s.data.toList.take k).all restC = true ∧ (0 < k → smallC s[0] = true)) (fun i => s.size - (intOf i).toNat)
  case atStart => exact ⟨0, Nat.zero_le _, rfl, rfl, fun h => by omega⟩
  case round =>
    obtain ⟨k, hk, rfl, hall, hfst⟩ := hrel
    have Hall := Lib.hid hall; clear hall
    have Hfst := Lib.hid hfst; clear hfst
    by_cases hlt : k < s.size
    · have hn := Lib.hid (all_snocB s k hlt)
      have hf := Lib.hid (all_falseB s k hlt)
      have c1 := hcell.out k hlt
      have hb := s[k].toNat_lt
      by_cases a1 : 97 ≤ s[k].toNat ∧ s[k].toNat ≤ 122
      · have hS : smallC s[k] = true := by simp [smallC, inB]; omega
        have e : Hid ((s.data.toList.take (k + 1)).all restC = true) := (by rw [hn.out, Hall.out]; simp [restC, hS] : (s.data.toList.take (k + 1)).all restC = true)
        have e2 : Hid (smallC s[0] = true) := (by
          by_cases hk0 : k = 0
          · subst hk0; exact hS
          · exact Hfst.out (by omega) : smallC s[0] = true)
        obtain ⟨a1, a2⟩ := a1
        clear hS
        go_wp2
        go_round
        case rel => exact ⟨k + 1, by omega, by go_num, e.out, fun _ => e2.out⟩
        case measure => simp [intOf]; omega
      have hS : smallC s[k] = false := by
        cases h : smallC s[k] with
        | false => rfl
        | true => have := inB_true h; omega
      by_cases hk0 : k = 0
      · subst hk0
        have e : Hid (nameB s = false) := (by rw [en.out, hS]; rfl : nameB s = false)
        clear hS
        have t1 : (s[0].toNat : Int) < 48 ∨ (48 ≤ (s[0].toNat : Int) ∧ (s[0].toNat : Int) ≤ 57) ∨ (57 < (s[0].toNat : Int) ∧ (s[0].toNat : Int) < 97) ∨ (122 < (s[0].toNat : Int) ∧ (!decide ((s[0].toNat : Int) ≤ 122)) = true) := by
          simp only [Bool.not_eq_true', decide_eq_false_iff_not]
          omega
        clear a1
        rcases t1 with t1 | ⟨t1, t2⟩ | ⟨t1, t2⟩ | ⟨t1, t2⟩
        all_goals
          go_wp2
          all_goals go_ret
          all_goals exact ⟨by rw [e.out]; rfl, hwb⟩
      · have hz : ((k : Int) == 0) = false := beq_eq_false_iff_ne.2 (by omega)
        have e2 : Hid (smallC s[0] = true) := (Hfst.out (by omega) : smallC s[0] = true)
        by_cases a4 : 48 ≤ s[k].toNat ∧ s[k].toNat ≤ 57
        · have hD : digitC s[k] = true := by simp [digitC, inB]; omega
          have e : Hid ((s.data.toList.take (k + 1)).all restC = true) := (by rw [hn.out, Hall.out]; simp [restC, hD] : (s.data.toList.take (k + 1)).all restC = true)
          have t1 : 48 ≤ (s[k].toNat : Int) := by omega
          have t2 : (s[k].toNat : Int) ≤ 57 := by omega
          clear hS hD a1 a4
          go_wp2
          go_round
          case rel => exact ⟨k + 1, by omega, by go_num, e.out, fun _ => e2.out⟩
          case measure => simp [intOf]; omega
        · have hD : digitC s[k] = false := by
            cases h : digitC s[k] with
            | false => rfl
            | true => have := inB_true h; omega
          have e : Hid (nameB s = false) := (by rw [en.out, hf.out (by simp [restC, hS, hD])]; simp : nameB s = false)
          clear hS hD
          have t1 : (s[k].toNat : Int) < 48 ∨ (57 < (s[k].toNat : Int) ∧ (s[k].toNat : Int) < 97 ∧ (!decide ((s[k].toNat : Int) ≤ 57)) = true) ∨ (122 < (s[k].toNat : Int) ∧ (!decide ((s[k].toNat : Int) ≤ 122)) = true ∧ (!decide ((s[k].toNat : Int) ≤ 57)) = true) := by
            simp only [Bool.not_eq_true', decide_eq_false_iff_not]
            omega
          clear a1 a4
          rcases t1 with t1 | ⟨t1, t2, t3⟩ | ⟨t1, t2, t3⟩
          all_goals
            go_wp2
            all_goals go_ret
            all_goals exact ⟨by rw [e.out]; rfl, hwb⟩
    · have e : Hid (nameB s = true) := (by
        rw [en.out, Hfst.out (by omega)]
        have := Hall.out
        rw [List.take_of_length_le (by simp; omega)] at this
        simpa using this : nameB s = true)
      go_wp2
      go_ret
      exact ⟨by rw [e.out]; rfl, hwb⟩
end Go.Proofs.YtcjekailcljaaaaGreat
namespace Go.Proofs.YtcjekailcljaaaaGreat
open Go.ChangeShapes Go.WideShapes Go.ChangeAt Go.RowKit Go.Deep Go.Joins
set_option linter.unusedVariables false
set_option maxRecDepth 100000
set_option linter.unusedSimpArgs false
theorem spec_l01Name_is {b : Bool} (s : ByteArray) (w : World) (hs : s.size ≤ maxLen) (h : nameB s = b) : Calls Tryz.prog 124 #[.string s] w fun e w' => e = .returned (.bool b) ∧ w = w' := by
  rw [← h]; exact spec_l01Name s w hs
theorem impl_IsName_is {b : Bool} (s : ByteArray) (w : World) (hs : s.size ≤ maxLen) (h : nameB s = b) : Calls Tryz.prog 118 #[.string s] w fun e w' => e = .returned (.bool b) ∧ Below w.heap.size w w' := by
  rw [← h]; exact impl_IsName s w hs
end Go.Proofs.YtcjekailcljaaaaGreat
namespace Go.Proofs.YtcjekailcljaaaaGreat
open Go.ChangeShapes Go.WideShapes Go.ChangeAt Go.RowKit Go.Deep Go.Joins
set_option linter.unusedVariables false
set_option maxRecDepth 100000
set_option linter.unusedSimpArgs false
def measureB (x : Measure) : Bool := nameB x.bell && (inB x.part 1 5 && inB x.value 10000 20000000)

theorem impl_IsFrequency_is {b : Bool} (n : Int) (w : World) (h : inB n 10000 20000000 = b) : Calls Tryz.prog 134 #[.int .i64 n] w fun e w' => e = .returned (.bool b) ∧ w = w' := by
  go_enter Tryz.func134, Tryz.ntmps134
  go_wp2_with (go_at_call 74; refine (within_is _ _ _ _ (by assumption)).mono ?_; rintro e w' ⟨rfl, rfl⟩)
  go_ret
  exact ⟨rfl, rfl⟩
end Go.Proofs.YtcjekailcljaaaaGreat
