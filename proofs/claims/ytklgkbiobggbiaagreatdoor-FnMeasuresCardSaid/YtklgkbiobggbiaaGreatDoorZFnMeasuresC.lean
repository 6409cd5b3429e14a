/- Contracts and plain facts, joined: Name, NameIs, OneMeasure, VMeasure, Round, Ask, Cents. -/
import Derived.Test.YtklgkbiobggbiaaGreatDoorRows
import Derived.Test.YtklgkbiobggbiaaGreatDoorZFnMeasuresB
import Derived.WalkLawsBesides
import Derived.Shelf.Lay
import Derived.Shelf.Strconv.Itoa0
import Derived.Ground.NamesProg
import Derived.Lib.ItoaNum
namespace Go.Proofs.YtklgkbiobggbiaaGreatDoor
open Go.ChangeShapes Go.WideShapes Go.ChangeAt Go.RowKit Go.Deep Go.Joins
set_option linter.unusedVariables false
set_option maxRecDepth 100000
set_option linter.unusedSimpArgs false
def smallC (c : UInt8) : Bool := inB c.toNat 97 122
def digitC (c : UInt8) : Bool := inB c.toNat 48 57
def restC (c : UInt8) : Bool := smallC c || digitC c
def nameL (l : List UInt8) : Bool := decide (1 ≤ l.length) && (decide (l.length ≤ 10) && (l.head?.any smallC && l.all restC))
def nameB (s : ByteArray) : Bool := nameL s.data.toList

theorem take_snocB (s : ByteArray) (k : Nat) (h : k < s.size) : s.data.toList.take (k + 1) = s.data.toList.take k ++ [s[k]] := by
  rw [List.take_succ_eq_append_getElem (by simpa using h)]; rfl
theorem all_snocB (s : ByteArray) (k : Nat) (h : k < s.size) : (s.data.toList.take (k + 1)).all restC = ((s.data.toList.take k).all restC && restC s[k]) := by
  rw [take_snocB s k h, List.all_append]; simp
theorem all_falseB (s : ByteArray) (k : Nat) (h : k < s.size) (hc : restC s[k] = false) : s.data.toList.all restC = false := by
  rw [List.all_eq_false]
  exact ⟨s[k], by simp [ByteArray.getElem_eq_getElem_data], by simp [hc]⟩
theorem headB (s : ByteArray) (h : 0 < s.size) : s.data.toList.head? = some s[0] := by
  rw [List.head?_eq_getElem?, List.getElem?_eq_getElem (by simpa using h)]; rfl

theorem spec_l01Small (n : Int) (w : World) : Calls Tryz.prog 183 #[.int .u8 n] w fun e w' => e = .returned (.bool (inB n 97 122)) ∧ w = w' := by
  unfold inB
  go_enter Tryz.func183, Tryz.ntmps183
  go_wp2
  all_goals go_ret
  all_goals exact ⟨by first | (simp [*]; done) | (simp [*]; omega), rfl⟩
theorem spec_l01Digit (n : Int) (w : World) : Calls Tryz.prog 184 #[.int .u8 n] w fun e w' => e = .returned (.bool (inB n 48 57)) ∧ w = w' := by
  unfold inB
  go_enter Tryz.func184, Tryz.ntmps184
  go_wp2
  all_goals go_ret
  all_goals exact ⟨by first | (simp [*]; done) | (simp [*]; omega), rfl⟩
theorem spec_l01Small_is {b : Bool} (n : Int) (w : World) (h : inB n 97 122 = b) : Calls Tryz.prog 183 #[.int .u8 n] w fun e w' => e = .returned (.bool b) ∧ w = w' := by
  rw [← h]; exact spec_l01Small n w
theorem spec_l01Digit_is {b : Bool} (n : Int) (w : World) (h : inB n 48 57 = b) : Calls Tryz.prog 184 #[.int .u8 n] w fun e w' => e = .returned (.bool b) ∧ w = w' := by
  rw [← h]; exact spec_l01Digit n w

/-- the world behind '[]byte(s)' -/
def convW (w : World) (e : TypeId) (s : ByteArray) : World := w.drew.alloc (.cells (bytesRow s (grownCap w s.size 0 e)) e ((bytesRow s (grownCap w s.size 0 e)).size, (bytesRow s (grownCap w s.size 0 e)).size + 1))
theorem convW_run {P : Program} (w : World) (src dst e : TypeId) (s : ByteArray) (hs : P.underlying src = some .string) (hd : P.underlying dst = some (.slice e)) (he : P.underlying e = some (.int .u8)) :
    (Go.convert src dst (.string s)).run P w = .ok (.slice (some ⟨w.heap.size, 0, none⟩) s.size (grownCap w s.size 0 e)) (convW w e s) := run_bytes_of_string w src dst e s hs hd he
theorem convW_below (w : World) (e : TypeId) (s : ByteArray) : Below w.heap.size w (convW w e s) := ((Below.refl _ _).drew).alloc (Nat.le_refl _) _
theorem convW_size (w : World) (e : TypeId) (s : ByteArray) : (convW w e s).heap.size = w.heap.size + 1 := by
  unfold convW
  simp
theorem convW_cell (w : World) (e : TypeId) (s : ByteArray) (k : Nat) (h : k < s.size) : (convW w e s).cell? ⟨w.heap.size, k, none⟩ = some (.int .u8 s[k].toNat) := by
  have hk : k < s.data.size := h
  have hb := bytesRow_at s (grownCap w s.size 0 e) k hk
  have hh : (convW w e s).heap[w.heap.size]? = some (.cells (bytesRow s (grownCap w s.size 0 e)) e ((bytesRow s (grownCap w s.size 0 e)).size, (bytesRow s (grownCap w s.size 0 e)).size + 1)) := by
    show (w.heap.push _)[w.heap.size]? = _
    simp
  unfold World.cell?
  simp only [hh]
  have e : s[k] = s.data[k] := rfl
  rw [e]
  simpa using hb

theorem spec_l01Name (s : ByteArray) (w : World) (hs : s.size ≤ maxLen) : Calls Tryz.prog 143 #[.string s] w fun e w' => e = .returned (.bool (nameB s)) ∧ w = w' := by
  unfold maxLen at hs
  by_cases h0 : s.size = 0
  · have hz : s.toList.isEmpty = true := by
      rw [← decide_eq_emptyBytes]
      have : s.data = #[] := Array.eq_empty_of_size_eq_zero h0
      simp [ByteArray.ext_iff, this]
    have e : Hid (nameB s = false) := (by simp [nameB, nameL, h0] : nameB s = false)
    go_enter Tryz.func143, Tryz.ntmps143
    go_wp2
    go_ret
    exact ⟨by rw [e.out]; rfl, rfl⟩
  have hz : s.toList.isEmpty = false := by
    rw [← decide_eq_emptyBytes]
    have : s.data ≠ #[] := fun h => h0 (show s.data.size = 0 by rw [h]; rfl)
    simp [ByteArray.ext_iff, this]
  have h0' : 0 < s.size := by omega
  by_cases h1 : s.size ≤ 10
  case neg =>
    have d2 : 10 < (s.size : Int) := by omega
    have e : Hid (nameB s = false) := (by simp [nameB, nameL, h1] : nameB s = false)
    go_enter Tryz.func143, Tryz.ntmps143
    go_wp2
    go_ret
    exact ⟨by rw [e.out]; rfl, rfl⟩
  have d2 : ¬ 10 < (s.size : Int) := by omega
  cases hA : inB s[0].toNat 97 122
  · have e : Hid (nameB s = false) := (by
      unfold nameB nameL
      rw [headB s h0']
      simp [smallC, hA] : nameB s = false)
    go_enter Tryz.func143, Tryz.ntmps143
    go_wp2_with (go_at_call 183; refine (spec_l01Small_is _ _ (by assumption)).mono ?_; rintro e w' ⟨rfl, rfl⟩)
    go_ret
    exact ⟨by rw [e.out]; rfl, rfl⟩
  have en : Hid (nameB s = s.data.toList.all restC) := (by
    unfold nameB nameL
    rw [headB s h0']
    have e1 : decide (1 ≤ s.data.toList.length) = true := by simpa using (show 1 ≤ s.data.size from h0')
    have e2 : decide (s.data.toList.length ≤ 10) = true := by simpa using (show s.data.size ≤ 10 from h1)
    rw [e1, e2]
    simp [smallC, hA] : nameB s = s.data.toList.all restC)
  go_enter Tryz.func143, Tryz.ntmps143
  go_wp2_with (go_at_call 183; refine (spec_l01Small_is _ _ (by assumption)).mono ?_; rintro e w' ⟨rfl, rfl⟩)
  clear hA
  go_loop [3] (fun i => ∃ k : Nat, k ≤ s.size ∧ i = .int .i64 k ∧ (s.data.toList.take k).all restC = true) (fun i => s.size - (intOf i).toNat)
  case atStart => exact ⟨0, Nat.zero_le _, rfl, rfl⟩
  case round =>
    obtain ⟨k, hk, rfl, hall⟩ := hrel
    have Hall := Lib.hid hall; clear hall
    by_cases hlt : k < s.size
    · have hn := Lib.hid (all_snocB s k hlt)
      have hf := Lib.hid (all_falseB s k hlt)
      cases hS : inB s[k].toNat 97 122
      · cases hD : inB s[k].toNat 48 57
        · have e : Hid (nameB s = false) := (by rw [en.out]; exact hf.out (by simp [restC, smallC, digitC, hS, hD]) : nameB s = false)
          go_wp2_with (first | (go_at_call 183; refine (spec_l01Small_is _ _ (by assumption)).mono ?_; rintro e w' ⟨rfl, rfl⟩) | (go_at_call 184; refine (spec_l01Digit_is _ _ (by assumption)).mono ?_; rintro e w' ⟨rfl, rfl⟩))
          go_ret
          exact ⟨by rw [e.out]; rfl, rfl⟩
        · have e : Hid ((s.data.toList.take (k + 1)).all restC = true) := (by rw [hn.out, Hall.out]; simp [restC, smallC, digitC, hS, hD] : (s.data.toList.take (k + 1)).all restC = true)
          go_wp2_with (first | (go_at_call 183; refine (spec_l01Small_is _ _ (by assumption)).mono ?_; rintro e w' ⟨rfl, rfl⟩) | (go_at_call 184; refine (spec_l01Digit_is _ _ (by assumption)).mono ?_; rintro e w' ⟨rfl, rfl⟩))
          go_round
          case rel => exact ⟨k + 1, by omega, by go_num, e.out⟩
          case measure => simp [intOf]; omega
      · have e : Hid ((s.data.toList.take (k + 1)).all restC = true) := (by rw [hn.out, Hall.out]; simp [restC, smallC, digitC, hS] : (s.data.toList.take (k + 1)).all restC = true)
        go_wp2_with (first | (go_at_call 183; refine (spec_l01Small_is _ _ (by assumption)).mono ?_; rintro e w' ⟨rfl, rfl⟩) | (go_at_call 184; refine (spec_l01Digit_is _ _ (by assumption)).mono ?_; rintro e w' ⟨rfl, rfl⟩))
        go_round
        case rel => exact ⟨k + 1, by omega, by go_num, e.out⟩
        case measure => simp [intOf]; omega
    · have e : Hid (nameB s = true) := (by
        rw [en.out]
        have := Hall.out
        rwa [List.take_of_length_le (by simp; omega)] at this : nameB s = true)
      go_wp2
      go_ret
      exact ⟨by rw [e.out]; rfl, rfl⟩

set_option maxHeartbeats 1000000 in
theorem impl_IsName (s : ByteArray) (w : World) (hs : s.size ≤ maxLen) : Calls Tryz.prog 89 #[.string s] w fun e w' => e = .returned (.bool (nameB s)) ∧ Below w.heap.size w w' := by
  unfold maxLen at hs
  by_cases h0 : s.size = 0
  · have d1 : (s.size : Int) < 1 := by omega
    have e : Hid (nameB s = false) := (by simp [nameB, nameL, h0] : nameB s = false)
    clear h0
    go_enter Tryz.func89, Tryz.ntmps89
    go_wp2
    go_ret
    exact ⟨by rw [e.out]; rfl, by (repeat' (first | (with_reducible exact Below.refl _ _) | (with_reducible assumption) | (with_reducible refine below_dn ?_ _) | (with_reducible refine Below.drew ?_) | (with_reducible refine Below.alloc ?_ ?_ _) | (with_reducible refine Below.setCell ?_ ?_ _) | go_size))⟩
  have d1 : ¬ (s.size : Int) < 1 := by omega
  have h0' : 0 < s.size := by omega
  by_cases h1 : s.size ≤ 10
  case neg =>
    have d2 : 10 < (s.size : Int) := by omega
    have e : Hid (nameB s = false) := (by simp [nameB, nameL, h1] : nameB s = false)
    go_enter Tryz.func89, Tryz.ntmps89
    go_wp2
    go_ret
    exact ⟨by rw [e.out]; rfl, by (repeat' (first | (with_reducible exact Below.refl _ _) | (with_reducible assumption) | (with_reducible refine below_dn ?_ _) | (with_reducible refine Below.drew ?_) | (with_reducible refine Below.alloc ?_ ?_ _) | (with_reducible refine Below.setCell ?_ ?_ _) | go_size))⟩
  have d2 : ¬ 10 < (s.size : Int) := by omega
  have hcv := fun w s => convW_run (P := Tryz.prog) w 9 22 5 s Tryz.underlying9 Tryz.underlying22 Tryz.underlying5
  have en : Hid (nameB s = (smallC s[0] && s.data.toList.all restC)) := (by
    unfold nameB nameL
    rw [headB s h0']
    have e1 : decide (1 ≤ s.data.toList.length) = true := by simpa using (show 1 ≤ s.data.size from h0')
    have e2 : decide (s.data.toList.length ≤ 10) = true := by simpa using (show s.data.size ≤ 10 from h1)
    rw [e1, e2]
    simp : nameB s = (smallC s[0] && s.data.toList.all restC))
  go_enter Tryz.func89, Tryz.ntmps89
  go_wp2
  clear hcv
  have hwb := convW_below w 5 s
  have hcell := Lib.hid (convW_cell w 5 s)
  generalize convW w 5 s = w1 at *
  go_loop [18] (fun i => ∃ k : Nat, k ≤ s.size ∧ i = .int .i64 k ∧ (s.data.toList.take k).all restC = true ∧ (0 < k → smallC s[0] = true)) (fun i => s.size - (intOf i).toNat)
  case atStart => exact ⟨0, Nat.zero_le _, rfl, rfl, fun h => by omega⟩
  case round =>
    obtain ⟨k, hk, rfl, hall, hfst⟩ := hrel
    have Hall := Lib.hid hall; clear hall
    have Hfst := Lib.hid hfst; clear hfst
    by_cases hlt : k < s.size
    · have hn := Lib.hid (all_snocB s k hlt)
      have hf := Lib.hid (all_falseB s k hlt)
      have c1 := hcell.out k hlt
      have hb := s[k].toNat_lt
      by_cases a1 : 97 ≤ s[k].toNat ∧ s[k].toNat ≤ 122
      · have hS : smallC s[k] = true := by simp [smallC, inB]; omega
        have e : Hid ((s.data.toList.take (k + 1)).all restC = true) := (by rw [hn.out, Hall.out]; simp [restC, hS] : (s.data.toList.take (k + 1)).all restC = true)
        have e2 : Hid (smallC s[0] = true) := (by
          by_cases hk0 : k = 0
          · subst hk0; exact hS
          · exact Hfst.out (by omega) : smallC s[0] = true)
        obtain ⟨a1, a2⟩ := a1
        clear hS
        go_wp2
        go_round
        case rel => exact ⟨k + 1, by omega, by go_num, e.out, fun _ => e2.out⟩
        case measure => simp [intOf]; omega
      have hS : smallC s[k] = false := by
        cases h : smallC s[k] with
        | false => rfl
        | true => have := inB_true h; omega
      by_cases hk0 : k = 0
      · subst hk0
        have e : Hid (nameB s = false) := (by rw [en.out, hS]; rfl : nameB s = false)
        clear hS
        have t1 : (s[0].toNat : Int) < 48 ∨ (48 ≤ (s[0].toNat : Int) ∧ (s[0].toNat : Int) ≤ 57) ∨ (57 < (s[0].toNat : Int) ∧ (s[0].toNat : Int) < 97) ∨ (122 < (s[0].toNat : Int) ∧ (!decide ((s[0].toNat : Int) ≤ 122)) = true) := by
          simp only [Bool.not_eq_true', decide_eq_false_iff_not]
          omega
        clear a1
        rcases t1 with t1 | ⟨t1, t2⟩ | ⟨t1, t2⟩ | ⟨t1, t2⟩
        all_goals
          go_wp2
          all_goals go_ret
          all_goals exact ⟨by rw [e.out]; rfl, hwb⟩
      · have hz : ((k : Int) == 0) = false := beq_eq_false_iff_ne.2 (by omega)
        have e2 : Hid (smallC s[0] = true) := (Hfst.out (by omega) : smallC s[0] = true)
        by_cases a4 : 48 ≤ s[k].toNat ∧ s[k].toNat ≤ 57
        · have hD : digitC s[k] = true := by simp [digitC, inB]; omega
          have e : Hid ((s.data.toList.take (k + 1)).all restC = true) := (by rw [hn.out, Hall.out]; simp [restC, hD] : (s.data.toList.take (k + 1)).all restC = true)
          have t1 : 48 ≤ (s[k].toNat : Int) := by omega
          have t2 : (s[k].toNat : Int) ≤ 57 := by omega
          clear hS hD a1 a4
          go_wp2
          go_round
          case rel => exact ⟨k + 1, by omega, by go_num, e.out, fun _ => e2.out⟩
          case measure => simp [intOf]; omega
        · have hD : digitC s[k] = false := by
            cases h : digitC s[k] with
            | false => rfl
            | true => have := inB_true h; omega
          have e : Hid (nameB s = false) := (by rw [en.out, hf.out (by simp [restC, hS, hD])]; simp : nameB s = false)
          clear hS hD
          have t1 : (s[k].toNat : Int) < 48 ∨ (57 < (s[k].toNat : Int) ∧ (s[k].toNat : Int) < 97 ∧ (!decide ((s[k].toNat : Int) ≤ 57)) = true) ∨ (122 < (s[k].toNat : Int) ∧ (!decide ((s[k].toNat : Int) ≤ 122)) = true ∧ (!decide ((s[k].toNat : Int) ≤ 57)) = true) := by
            simp only [Bool.not_eq_true', decide_eq_false_iff_not]
            omega
          clear a1 a4
          rcases t1 with t1 | ⟨t1, t2, t3⟩ | ⟨t1, t2, t3⟩
          all_goals
            go_wp2
            all_goals go_ret
            all_goals exact ⟨by rw [e.out]; rfl, hwb⟩
    · have e : Hid (nameB s = true) := (by
        rw [en.out, Hfst.out (by omega)]
        have := Hall.out
        rw [List.take_of_length_le (by simp; omega)] at this
        simpa using this : nameB s = true)
      go_wp2
      go_ret
      exact ⟨by rw [e.out]; rfl, hwb⟩
end Go.Proofs.YtklgkbiobggbiaaGreatDoor
namespace Go.Proofs.YtklgkbiobggbiaaGreatDoor
open Go.ChangeShapes Go.WideShapes Go.ChangeAt Go.RowKit Go.Deep Go.Joins
set_option linter.unusedVariables false
set_option maxRecDepth 100000
set_option linter.unusedSimpArgs false
theorem spec_l01Name_is {b : Bool} (s : ByteArray) (w : World) (hs : s.size ≤ maxLen) (h : nameB s = b) : Calls Tryz.prog 143 #[.string s] w fun e w' => e = .returned (.bool b) ∧ w = w' := by
  rw [← h]; exact spec_l01Name s w hs
theorem impl_IsName_is {b : Bool} (s : ByteArray) (w : World) (hs : s.size ≤ maxLen) (h : nameB s = b) : Calls Tryz.prog 89 #[.string s] w fun e w' => e = .returned (.bool b) ∧ Below w.heap.size w w' := by
  rw [← h]; exact impl_IsName s w hs
end Go.Proofs.YtklgkbiobggbiaaGreatDoor
namespace Go.Proofs.YtklgkbiobggbiaaGreatDoor
open Go.ChangeShapes Go.WideShapes Go.ChangeAt Go.RowKit Go.Deep Go.Joins
set_option linter.unusedVariables false
set_option maxRecDepth 100000
set_option linter.unusedSimpArgs false
def measureB (x : Measure) : Bool := nameB x.bell && (inB x.part 1 5 && inB x.value 10000 20000000)

theorem spec_l04Partial_is {b : Bool} (n : Int) (w : World) (h : inB n 1 5 = b) : Calls Tryz.prog 144 #[.int .i64 n] w fun e w' => e = .returned (.bool b) ∧ w = w' := by
  go_enter Tryz.func144, Tryz.ntmps144
  go_wp2_with (go_at_call 161; refine (l00In_is _ _ _ _ (by assumption)).mono ?_; rintro e w' ⟨rfl, rfl⟩)
  go_ret
  exact ⟨rfl, rfl⟩
theorem spec_l02Ok_is {b : Bool} (n : Int) (w : World) (h : inB n 10000 20000000 = b) : Calls Tryz.prog 145 #[.int .i64 n] w fun e w' => e = .returned (.bool b) ∧ w = w' := by
  go_enter Tryz.func145, Tryz.ntmps145
  go_wp2_with (go_at_call 161; refine (l00In_is _ _ _ _ (by assumption)).mono ?_; rintro e w' ⟨rfl, rfl⟩)
  go_ret
  exact ⟨rfl, rfl⟩
theorem impl_isPartial_is {b : Bool} (n : Int) (w : World) (h : inB n 1 5 = b) : Calls Tryz.prog 34 #[.int .i64 n] w fun e w' => e = .returned (.bool b) ∧ w = w' := by
  go_enter Tryz.func34, Tryz.ntmps34
  go_wp2_with (go_at_call 78; refine (within_is _ _ _ _ (by assumption)).mono ?_; rintro e w' ⟨rfl, rfl⟩)
  go_ret
  exact ⟨rfl, rfl⟩
theorem impl_IsFrequency_is {b : Bool} (n : Int) (w : World) (h : inB n 10000 20000000 = b) : Calls Tryz.prog 90 #[.int .i64 n] w fun e w' => e = .returned (.bool b) ∧ w = w' := by
  go_enter Tryz.func90, Tryz.ntmps90
  go_wp2_with (go_at_call 78; refine (within_is _ _ _ _ (by assumption)).mono ?_; rintro e w' ⟨rfl, rfl⟩)
  go_ret
  exact ⟨rfl, rfl⟩

theorem spec_l11One_is {b : Bool} (x : Measure) (a o : Nat) (w : World) (h : measureB x = b) (h0 : w.cell? ⟨a, o, none⟩ = some (.string x.bell)) (h1 : w.cell? ⟨a, o + 1, none⟩ = some (.int .i64 x.part)) (h2 : w.cell? ⟨a, o + 2, none⟩ = some (.int .i64 x.value)) (hx : x.ok) :
    Calls Tryz.prog 92 #[.pointer (some ⟨a, o, none⟩)] w fun e w' => e = .returned (.bool b) ∧ Below w.heap.size w w' := by
  subst h
  have hn := Lib.hid hx.1
  clear hx
  unfold measureB
  cases hN : nameB x.bell
  case false =>
    go_enter Tryz.func92, Tryz.ntmps92
    go_wp2_with (first | (go_at_call 143; refine (spec_l01Name_is _ _ hn.out (by assumption)).mono ?_; rintro e w' ⟨rfl, rfl⟩))
    go_ret
    exact ⟨rfl, by (repeat' (first | (with_reducible exact Below.refl _ _) | (with_reducible assumption) | (with_reducible refine below_dn ?_ _) | (with_reducible refine Below.drew ?_) | (with_reducible refine Below.alloc ?_ ?_ _) | (with_reducible refine Below.setCell ?_ ?_ _) | go_size))⟩
  cases hA : inB x.part 1 5
  case false =>
    go_enter Tryz.func92, Tryz.ntmps92
    go_wp2_with (first | (go_at_call 143; refine (spec_l01Name_is _ _ hn.out (by assumption)).mono ?_; rintro e w' ⟨rfl, rfl⟩) | (go_at_call 144; refine (spec_l04Partial_is _ _ (by assumption)).mono ?_; rintro e w' ⟨rfl, rfl⟩))
    go_ret
    exact ⟨rfl, by (repeat' (first | (with_reducible exact Below.refl _ _) | (with_reducible assumption) | (with_reducible refine below_dn ?_ _) | (with_reducible refine Below.drew ?_) | (with_reducible refine Below.alloc ?_ ?_ _) | (with_reducible refine Below.setCell ?_ ?_ _) | go_size))⟩
  cases hV : inB x.value 10000 20000000
  all_goals
    go_enter Tryz.func92, Tryz.ntmps92
    go_wp2_with (first | (go_at_call 143; refine (spec_l01Name_is _ _ hn.out (by assumption)).mono ?_; rintro e w' ⟨rfl, rfl⟩) | (go_at_call 144; refine (spec_l04Partial_is _ _ (by assumption)).mono ?_; rintro e w' ⟨rfl, rfl⟩) | (go_at_call 145; refine (spec_l02Ok_is _ _ (by assumption)).mono ?_; rintro e w' ⟨rfl, rfl⟩))
    go_ret
    exact ⟨rfl, by (repeat' (first | (with_reducible exact Below.refl _ _) | (with_reducible assumption) | (with_reducible refine below_dn ?_ _) | (with_reducible refine Below.drew ?_) | (with_reducible refine Below.alloc ?_ ?_ _) | (with_reducible refine Below.setCell ?_ ?_ _) | go_size))⟩

theorem impl_validMeasure_is {b : Bool} (x : Measure) (w : World) (h : measureB x = b) (hx : x.ok) :
    Calls Tryz.prog 46 #[.agg #[.string x.bell, .int .i64 x.part, .int .i64 x.value]] w fun e w' => e = .returned (.bool b) ∧ Below w.heap.size w w' := by
  subst h
  have hn := Lib.hid hx.1
  clear hx
  unfold measureB
  cases hN : nameB x.bell
  case false =>
    go_enter Tryz.func46, Tryz.ntmps46
    go_wp2_with fail
    refine (impl_IsName_is _ _ hn.out (by assumption)).mono ?_; rintro e w1 ⟨rfl, b1⟩
    go_wp2_with fail
    go_ret
    exact ⟨rfl, Below.trans (by (repeat' (first | (with_reducible exact Below.refl _ _) | (with_reducible assumption) | (with_reducible refine below_dn ?_ _) | (with_reducible refine Below.drew ?_) | (with_reducible refine Below.alloc ?_ ?_ _) | (with_reducible refine Below.setCell ?_ ?_ _) | go_size))) (b1.mono (by simp))⟩
  cases hA : inB x.part 1 5
  case false =>
    go_enter Tryz.func46, Tryz.ntmps46
    go_wp2_with fail
    refine (impl_IsName_is _ _ hn.out (by assumption)).mono ?_; rintro e w1 ⟨rfl, b1⟩
    obtain ⟨hc, hf⟩ := bcell b1
    go_wp2_with (go_at_call 34; refine (impl_isPartial_is _ _ (by assumption)).mono ?_; rintro e w' ⟨rfl, rfl⟩)
    go_ret
    exact ⟨rfl, Below.trans (by (repeat' (first | (with_reducible exact Below.refl _ _) | (with_reducible assumption) | (with_reducible refine below_dn ?_ _) | (with_reducible refine Below.drew ?_) | (with_reducible refine Below.alloc ?_ ?_ _) | (with_reducible refine Below.setCell ?_ ?_ _) | go_size))) (b1.mono (by simp))⟩
  cases hV : inB x.value 10000 20000000
  all_goals
    go_enter Tryz.func46, Tryz.ntmps46
    go_wp2_with fail
    refine (impl_IsName_is _ _ hn.out (by assumption)).mono ?_; rintro e w1 ⟨rfl, b1⟩
    obtain ⟨hc, hf⟩ := bcell b1
    go_wp2_with (first | (go_at_call 34; refine (impl_isPartial_is _ _ (by assumption)).mono ?_; rintro e w' ⟨rfl, rfl⟩) | (go_at_call 90; refine (impl_IsFrequency_is _ _ (by assumption)).mono ?_; rintro e w' ⟨rfl, rfl⟩))
    go_ret
    exact ⟨rfl, Below.trans (by (repeat' (first | (with_reducible exact Below.refl _ _) | (with_reducible assumption) | (with_reducible refine below_dn ?_ _) | (with_reducible refine Below.drew ?_) | (with_reducible refine Below.alloc ?_ ?_ _) | (with_reducible refine Below.setCell ?_ ?_ _) | go_size))) (b1.mono (by simp))⟩

theorem impl_ValidMeasures1_is {b : Bool} (x : Measure) (w : World) (h : measureB x = b) (hx : x.ok) :
    Calls Tryz.prog 77 #[.agg #[.string x.bell, .int .i64 x.part, .int .i64 x.value]] w fun e w' => e = .returned (.bool (!b)) ∧ Below w.heap.size w w' := by
  go_enter Tryz.func77, Tryz.ntmps77
  go_wp2_with fail
  refine (impl_validMeasure_is x _ h hx).mono ?_; rintro e w1 ⟨rfl, b1⟩
  go_wp2_with fail
  go_ret
  exact ⟨rfl, Below.trans (by (repeat' (first | (with_reducible exact Below.refl _ _) | (with_reducible assumption) | (with_reducible refine below_dn ?_ _) | (with_reducible refine Below.drew ?_) | (with_reducible refine Below.alloc ?_ ?_ _) | (with_reducible refine Below.setCell ?_ ?_ _) | go_size))) (b1.mono (by simp))⟩
end Go.Proofs.YtklgkbiobggbiaaGreatDoor
namespace Go.Proofs.YtklgkbiobggbiaaGreatDoor
open Go.ChangeShapes Go.WideShapes Go.ChangeAt Go.RowKit Go.Deep Go.Joins
set_option linter.unusedVariables false
set_option maxRecDepth 100000
set_option linter.unusedSimpArgs false
def oneB {α : Type} (ok : α → Bool) (xs : List α) (k : Nat) : Bool := match xs[k]? with | some x => ok x | none => true
theorem oneB_eq {α : Type} {ok : α → Bool} {xs : List α} {k : Nat} {b : Bool} (h : k < xs.length) (hO : ok xs[k] = b) : oneB ok xs k = b := by
  unfold oneB; rw [List.getElem?_eq_getElem h]; exact hO
def validMeasureS (xs : List Measure) : Bool := allK (oneB measureB xs) xs.length && decide (xs.length ≤ 64)

set_option maxHeartbeats 1000000 in
theorem spec_validMeasure (w : World) (v : Value) (xs : List Measure) (h : Rd w.heap.size w v 3 xs.length (xs.flatMap Measure.put)) (hn : xs.length ≤ 1048576) (hok : ∀ x ∈ xs, x.ok) :
    Calls Tryz.prog 48 #[v] w fun e w' => e = .returned (.bool (validMeasureS xs)) ∧ Below w.heap.size w w' := by
  obtain ⟨hL, ao, cap, rfl, hcap, hmax, hnil, hsome⟩ := h
  have Hok := Lib.hid hok; clear hok
  go_enter Tryz.func48, Tryz.ntmps48
  go_wp2
  go_loopw [3] (fun i wr => ∃ (k : Nat), k ≤ xs.length ∧ i = .int .i64 k ∧ allK (oneB measureB xs) k = true ∧ Below w.heap.size w wr) (fun i _ => xs.length - (intOf i).toNat)
  case atStart => exact ⟨0, Nat.zero_le _, rfl, rfl, Below.refl _ _⟩
  case round =>
    obtain ⟨k, hk, rfl, hall, hb⟩ := hrel
    have Hall := Lib.hid hall; clear hall
    by_cases hlt : k < xs.length
    · obtain ⟨b, off, rfl, hbB, hc⟩ := hsome (by omega)
      have c0 : wr.cell? ⟨b, off + k * 3, none⟩ = some (.string xs[k].bell) := by
        rw [show off + k * 3 = off + (k * 3 + 0) from by omega, hb.cell (p := ⟨b, off + (k * 3 + 0), none⟩) hbB, hc (k * 3 + 0) (by omega), Measure_get0 xs k hlt]
      have c1 : wr.cell? ⟨b, off + k * 3 + 1, none⟩ = some (.int .i64 xs[k].part) := by
        rw [show off + k * 3 + 1 = off + (k * 3 + 1) from by omega, hb.cell (p := ⟨b, off + (k * 3 + 1), none⟩) hbB, hc (k * 3 + 1) (by omega), Measure_get1 xs k hlt]
      have c2 : wr.cell? ⟨b, off + k * 3 + 2, none⟩ = some (.int .i64 xs[k].value) := by
        rw [show off + k * 3 + 2 = off + (k * 3 + 2) from by omega, hb.cell (p := ⟨b, off + (k * 3 + 2), none⟩) hbB, hc (k * 3 + 2) (by omega), Measure_get2 xs k hlt]
      have hbr : b < wr.heap.size := Nat.lt_of_lt_of_le hbB hb.size
      have hokk := Hok.out _ (List.getElem_mem hlt)
      have HS := Lib.hid (allK_succ (oneB measureB xs) k)
      have HF := Lib.hid (allK_false (oneB measureB xs) xs.length k hlt)
      have HB := Lib.hid hb
      have HK := Lib.hid hokk
      clear hc hsome hnil hb hokk
      cases hO : measureB xs[k]
      · have e : Hid (validMeasureS xs = false) := (by unfold validMeasureS; rw [HF.out (oneB_eq hlt hO)]; rfl : validMeasureS xs = false)
        go_wp2_with fail
        refine (spec_l11One_is xs[k] _ _ _ (by assumption) (by assumption) (by assumption) (by assumption) HK.out).mono ?_; rintro e1 w1 ⟨rfl, b1⟩
        have HB1 := Lib.hid (HB.out.trans (b1.mono HB.out.size)); clear b1 HB
        go_wp2_with fail
        go_ret
        exact ⟨by rw [e.out]; rfl, HB1.out⟩
      · have e : Hid (allK (oneB measureB xs) (k + 1) = true) := (by rw [HS.out, Hall.out, oneB_eq hlt hO]; rfl : allK (oneB measureB xs) (k + 1) = true)
        go_wp2_with fail
        refine (spec_l11One_is xs[k] _ _ _ (by assumption) (by assumption) (by assumption) (by assumption) HK.out).mono ?_; rintro e1 w1 ⟨rfl, b1⟩
        have HB1 := Lib.hid (HB.out.trans (b1.mono HB.out.size)); clear b1 HB
        go_wp2_with fail
        go_roundw
        case rel => exact ⟨k + 1, by omega, by go_num, e.out, HB1.out⟩
        case measure => simp [intOf]; omega
    · have e : Hid (validMeasureS xs = decide (xs.length ≤ 64)) := (by
        unfold validMeasureS
        obtain rfl : k = xs.length := by omega
        rw [Hall.out]; rfl : validMeasureS xs = decide (xs.length ≤ 64))
      go_wp2
      go_ret
      exact ⟨by rw [e.out]; congr 2; simp; try omega, hb⟩

set_option maxHeartbeats 1000000 in
theorem slices_IndexFunc_Measure (w : World) (v : Value) (xs : List Measure) (h : Rd w.heap.size w v 3 xs.length (xs.flatMap Measure.put)) (hn : xs.length ≤ 1048576) (hok : ∀ x ∈ xs, x.ok) :
    Calls Tryz.prog 124 #[v, .func (.func 77) #[] #[]] w fun e w' => (∃ r : Int, e = .returned (.int .i64 r) ∧ decide (0 ≤ r) = !(allK (oneB measureB xs) xs.length)) ∧ Below w.heap.size w w' := by
  obtain ⟨hL, ao, cap, rfl, hcap, hmax, hnil, hsome⟩ := h
  have Hok := Lib.hid hok; clear hok
  go_enter Tryz.func124, Tryz.ntmps124
  go_wp2
  go_loopw [8] (fun i wr => ∃ (k : Nat), k ≤ xs.length ∧ i = .int .i64 k ∧ allK (oneB measureB xs) k = true ∧ Below w.heap.size w wr) (fun i _ => xs.length - (intOf i).toNat)
  case atStart => exact ⟨0, Nat.zero_le _, rfl, rfl, Below.refl _ _⟩
  case round =>
    obtain ⟨k, hk, rfl, hall, hb⟩ := hrel
    have Hall := Lib.hid hall; clear hall
    by_cases hlt : k < xs.length
    · obtain ⟨b, off, rfl, hbB, hc⟩ := hsome (by omega)
      have c0 : wr.cell? ⟨b, off + k * 3, none⟩ = some (.string xs[k].bell) := by
        rw [show off + k * 3 = off + (k * 3 + 0) from by omega, hb.cell (p := ⟨b, off + (k * 3 + 0), none⟩) hbB, hc (k * 3 + 0) (by omega), Measure_get0 xs k hlt]
      have c1 : wr.cell? ⟨b, off + k * 3 + 1, none⟩ = some (.int .i64 xs[k].part) := by
        rw [show off + k * 3 + 1 = off + (k * 3 + 1) from by omega, hb.cell (p := ⟨b, off + (k * 3 + 1), none⟩) hbB, hc (k * 3 + 1) (by omega), Measure_get1 xs k hlt]
      have c2 : wr.cell? ⟨b, off + k * 3 + 2, none⟩ = some (.int .i64 xs[k].value) := by
        rw [show off + k * 3 + 2 = off + (k * 3 + 2) from by omega, hb.cell (p := ⟨b, off + (k * 3 + 2), none⟩) hbB, hc (k * 3 + 2) (by omega), Measure_get2 xs k hlt]
      have hbr : b < wr.heap.size := Nat.lt_of_lt_of_le hbB hb.size
      have hokk := Hok.out _ (List.getElem_mem hlt)
      have HS := Lib.hid (allK_succ (oneB measureB xs) k)
      have HF := Lib.hid (allK_false (oneB measureB xs) xs.length k hlt)
      have HB := Lib.hid hb
      have HK := Lib.hid hokk
      clear hc hsome hnil hb hokk
      cases hO : measureB xs[k]
      · have e : Hid (allK (oneB measureB xs) xs.length = false) := (HF.out (oneB_eq hlt hO) : allK (oneB measureB xs) xs.length = false)
        go_wp2_with fail
        go_at_call 77
        refine (impl_ValidMeasures1_is xs[k] _ (by assumption) HK.out).mono ?_; rintro e1 w1 ⟨rfl, b1⟩
        have HB1 := Lib.hid (HB.out.trans (b1.mono HB.out.size)); clear b1 HB
        go_wp2_with fail
        go_ret
        exact ⟨⟨_, rfl, by rw [e.out]; simp⟩, HB1.out⟩
      · have e : Hid (allK (oneB measureB xs) (k + 1) = true) := (by rw [HS.out, Hall.out, oneB_eq hlt hO]; rfl : allK (oneB measureB xs) (k + 1) = true)
        go_wp2_with fail
        go_at_call 77
        refine (impl_ValidMeasures1_is xs[k] _ (by assumption) HK.out).mono ?_; rintro e1 w1 ⟨rfl, b1⟩
        have HB1 := Lib.hid (HB.out.trans (b1.mono HB.out.size)); clear b1 HB
        go_wp2_with fail
        go_roundw
        case rel => exact ⟨k + 1, by omega, by go_num, e.out, HB1.out⟩
        case measure => simp [intOf]; omega
    · have e : Hid (allK (oneB measureB xs) xs.length = true) := (by
        obtain rfl : k = xs.length := by omega
        exact Hall.out : allK (oneB measureB xs) xs.length = true)
      go_wp2
      go_ret
      exact ⟨⟨_, rfl, by rw [e.out]; rfl⟩, hb⟩

theorem slices_ContainsFunc_Measure (w : World) (v : Value) (xs : List Measure) (h : Rd w.heap.size w v 3 xs.length (xs.flatMap Measure.put)) (hn : xs.length ≤ 1048576) (hok : ∀ x ∈ xs, x.ok) :
    Calls Tryz.prog 76 #[v, .func (.func 77) #[] #[]] w fun e w' => e = .returned (.bool (!(allK (oneB measureB xs) xs.length))) ∧ Below w.heap.size w w' := by
  have H := Lib.hid (slices_IndexFunc_Measure w v xs h hn hok)
  clear h hok
  go_enter Tryz.func76, Tryz.ntmps76
  go_wp2_with fail
  refine H.out.mono ?_; rintro e w1 ⟨⟨r, rfl, hr⟩, b1⟩
  have Hr := Lib.hid hr; clear hr
  go_wp2_with fail
  go_ret
  exact ⟨by rw [← Hr.out]; rfl, b1⟩

theorem impl_validMeasure (w : World) (v : Value) (xs : List Measure) (h : Rd w.heap.size w v 3 xs.length (xs.flatMap Measure.put)) (hn : xs.length ≤ 1048576) (hok : ∀ x ∈ xs, x.ok) :
    Calls Tryz.prog 33 #[v] w fun e w' => e = .returned (.bool (validMeasureS xs)) ∧ Below w.heap.size w w' := by
  have H := Lib.hid (slices_ContainsFunc_Measure w v xs h hn hok)
  obtain ⟨hL, ao, cap, rfl, hcap, hmax, hnil, hsome⟩ := h
  clear hsome hnil hok
  by_cases h64 : xs.length ≤ 64
  case neg =>
    have e : Hid (validMeasureS xs = false) := (by unfold validMeasureS; rw [decide_eq_false h64, Bool.and_false] : validMeasureS xs = false)
    have hz : decide ((xs.length : Int) ≤ 64) = false := decide_eq_false (by omega)
    have h64' := Lib.hid h64; clear h64
    go_enter Tryz.func33, Tryz.ntmps33
    go_wp2
    go_ret
    exact ⟨by rw [e.out]; rfl, Below.refl _ _⟩
  have e : Hid (validMeasureS xs = allK (oneB measureB xs) xs.length) := (by unfold validMeasureS; rw [decide_eq_true h64, Bool.and_true] : validMeasureS xs = allK (oneB measureB xs) xs.length)
  have hz : decide ((xs.length : Int) ≤ 64) = true := decide_eq_true (by omega)
  have h64' := Lib.hid h64; clear h64
  go_enter Tryz.func33, Tryz.ntmps33
  go_wp2_with fail
  refine H.out.mono ?_; rintro e1 w1 ⟨rfl, b1⟩
  go_wp2_with fail
  go_ret
  exact ⟨by rw [e.out]; simp, b1⟩
end Go.Proofs.YtklgkbiobggbiaaGreatDoor
namespace Go.Proofs.YtklgkbiobggbiaaGreatDoor
open Go.ChangeShapes Go.WideShapes Go.ChangeAt Go.RowKit Go.Deep Go.Joins
set_option linter.unusedVariables false
set_option maxRecDepth 100000
set_option linter.unusedSimpArgs false
/-- the nearest integer to a / b, halves away from 0; b is positive -/
def divR (a b : Int) : Int := if a < 0 then -((b - 2 * a) / (2 * b)) else (2 * a + b) / (2 * b)

theorem half (q r b : Int) (hb : 0 < b) (h0 : 0 ≤ r) (h1 : r < b) : (2 * (b * q + r) + b) / (2 * b) = if b - r ≤ r then q + 1 else q := by
  have e : 2 * (b * q + r) + b = (2 * r + b) + q * (2 * b) := by
    have h1 : 2 * (b * q + r) = 2 * (b * q) + 2 * r := by omega
    have h2 : q * (2 * b) = 2 * (b * q) := by rw [Int.mul_comm q, Int.mul_assoc]
    omega
  rw [e, Int.add_mul_ediv_right _ _ (by omega)]
  split
  · rename_i h
    have : (2 * r + b) / (2 * b) = 1 := by
      have h2 : 2 * r + b = (2 * r - b) + 1 * (2 * b) := by omega
      rw [h2, Int.add_mul_ediv_right _ _ (by omega), Int.ediv_eq_zero_of_lt (by omega) (by omega)]
      omega
    omega
  · rename_i h
    have : (2 * r + b) / (2 * b) = 0 := Int.ediv_eq_zero_of_lt (by omega) (by omega)
    omega

/-- for a that is not negative -/
theorem divR_pos (a b : Int) (hb : 0 < b) (ha : 0 ≤ a) : divR a b = if b - a % b ≤ a % b then a / b + 1 else a / b := by
  unfold divR
  rw [if_neg (by omega)]
  have h := half (a / b) (a % b) b hb (Int.emod_nonneg _ (by omega)) (Int.emod_lt_of_pos _ hb)
  rw [Int.mul_ediv_add_emod] at h
  exact h
theorem divR_neg (a b : Int) (hb : 0 < b) (ha : a < 0) : divR a b = -(if b - (-a) % b ≤ (-a) % b then (-a) / b + 1 else (-a) / b) := by
  unfold divR
  rw [if_pos ha]
  have h := half ((-a) / b) ((-a) % b) b hb (Int.emod_nonneg _ (by omega)) (Int.emod_lt_of_pos _ hb)
  rw [Int.mul_ediv_add_emod] at h
  rw [← h]
  congr 2
  omega

theorem spec_l01Div (a b : Int) (w : World) (hb : 0 < b) (hb2 : b ≤ 1000000000000000000) (ha : -1000000000000000000 ≤ a) (ha2 : a ≤ 1000000000000000000) :
    Calls Tryz.prog 219 #[.int .i64 a, .int .i64 b] w fun e w' => e = .returned (.int .i64 (divR a b)) ∧ w = w' := by
  unfold divR
  by_cases h : a < 0
  · rw [if_pos h]
    have h1 : 0 ≤ (b - 2 * a) / (2 * b) := Int.ediv_nonneg (by omega) (by omega)
    have h2 : (b - 2 * a) / (2 * b) ≤ 4000000000000000000 := by
      apply Int.ediv_le_of_le_mul (by omega)
      have : b - 2 * a ≤ 4000000000000000000 := by omega
      have h3 : (4000000000000000000 : Int) * 1 ≤ 4000000000000000000 * (2 * b) := Int.mul_le_mul_of_nonneg_left (by omega) (by omega)
      omega
    go_enter Tryz.func219, Tryz.ntmps219
    go_wp2
    go_ret
    exact ⟨rfl, rfl⟩
  · rw [if_neg h]
    go_enter Tryz.func219, Tryz.ntmps219
    go_wp2
    go_ret
    exact ⟨rfl, rfl⟩

theorem impl_abs_pos (a : Int) (w : World) (h : 0 ≤ a) : Calls Tryz.prog 84 #[.int .i64 a] w fun e w' => e = .returned (.int .i64 a) ∧ w = w' := by
  go_enter Tryz.func84, Tryz.ntmps84
  go_wp2
  all_goals go_ret
  all_goals exact ⟨rfl, rfl⟩
theorem impl_abs_neg (a : Int) (w : World) (h : 0 ≤ a) (h2 : a ≤ 1000000000000000000) : Calls Tryz.prog 84 #[.int .i64 (-a)] w fun e w' => e = .returned (.int .i64 a) ∧ w = w' := by
  by_cases h0 : a = 0
  · subst h0
    go_enter Tryz.func84, Tryz.ntmps84
    go_wp2
    all_goals go_ret
    all_goals exact ⟨rfl, rfl⟩
  · have h1 : -a < 0 := by omega
    go_enter Tryz.func84, Tryz.ntmps84
    go_wp2
    all_goals go_ret
    all_goals exact ⟨by simp, rfl⟩

theorem impl_nearest (a b : Int) (w : World) (hb : 0 < b) (hb2 : b ≤ 1000000000000000000) (ha : -1000000000000000000 ≤ a) (ha2 : a ≤ 1000000000000000000) :
    Calls Tryz.prog 80 #[.int .i64 a, .int .i64 b] w fun e w' => e = .returned (.int .i64 (divR a b)) ∧ Drew w w' := by
  by_cases h : a < 0
  · rw [divR_neg a b hb h]
    obtain ⟨m, rfl⟩ : ∃ m, a = -m := ⟨-a, by omega⟩
    rw [Int.neg_neg]
    have h0 : 0 < m := by omega
    have h1 : 0 ≤ m / b := Int.ediv_nonneg (by omega) (by omega)
    have h2 : 0 ≤ m % b := Int.emod_nonneg _ (by omega)
    have h3 : m % b < b := Int.emod_lt_of_pos _ hb
    have h4 : m / b ≤ m := by
      apply Int.ediv_le_self _ (by omega)
    have e1 : (-m).tdiv b = -(m / b) := by rw [Int.neg_tdiv, Int.tdiv_eq_ediv_of_nonneg (by omega)]
    have e2 : (-m).tmod b = -(m % b) := by rw [Int.neg_tmod, Int.tmod_eq_emod_of_nonneg (by omega)]
    have d1 : decide (-m < 0) = true := by simpa using h
    have d2 : decide (b < 0) = false := by simp; omega
    clear h
    by_cases h5 : b - m % b ≤ m % b
    all_goals
      simp only [h5, if_true, if_false]
      go_enter Tryz.func80, Tryz.ntmps80
      go_wp2
      go_quiet ((first | (go_at_call 84; exact quietE (impl_abs_neg _ _ (by assumption) (by omega))) | (go_at_call 84; exact quietE (impl_abs_pos _ _ (by omega)))))
      go_wp2
      all_goals go_ret
      all_goals exact ⟨congrArg (fun x => Ending.returned (Value.int .i64 x)) (by omega), _, rfl⟩
  · rw [divR_pos a b hb (by omega)]
    have h1 : 0 ≤ a / b := Int.ediv_nonneg (by omega) (by omega)
    have h2 : 0 ≤ a % b := Int.emod_nonneg _ (by omega)
    have h3 : a % b < b := Int.emod_lt_of_pos _ hb
    have h4 : a / b ≤ a := Int.ediv_le_self _ (by omega)
    have d1 : decide (a < 0) = false := by simpa using h
    have d2 : decide (b < 0) = false := by simp; omega
    clear h
    by_cases h5 : b - a % b ≤ a % b
    all_goals
      simp only [h5, if_true, if_false]
      go_enter Tryz.func80, Tryz.ntmps80
      go_wp2
      go_quiet ((go_at_call 84; exact quietE (impl_abs_pos _ _ (by omega))))
      go_wp2
      all_goals go_ret
      all_goals exact ⟨rfl, _, rfl⟩
end Go.Proofs.YtklgkbiobggbiaaGreatDoor
namespace Go.Proofs.YtklgkbiobggbiaaGreatDoor
open Go.ChangeShapes Go.WideShapes Go.ChangeAt Go.RowKit Go.Deep Go.Joins
set_option linter.unusedVariables false
set_option maxRecDepth 100000
set_option linter.unusedSimpArgs false
def askM (xs : List Measure) (bell : ByteArray) (p : Int) : Int := if validMeasureS xs = true then if inB p 1 5 = true then if (valF xs bell p).length = 0 then 3 else 0 else 2 else 1
def valsS (xs : List Measure) (bell : ByteArray) (p : Int) : List Int := if askM xs bell p = 0 then sortI (valF xs bell p) else []
theorem validMeasureS_parts {xs : List Measure} (h : validMeasureS xs = true) : xs.length ≤ 64 ∧ ∀ x ∈ xs, measureB x = true := by
  simp only [validMeasureS, Bool.and_eq_true, decide_eq_true_eq] at h
  refine ⟨h.2, fun x hx => ?_⟩
  obtain ⟨i, hi, rfl⟩ := List.mem_iff_getElem.1 hx
  have := allK_true h.1 i hi
  unfold oneB at this
  rw [List.getElem?_eq_getElem hi] at this
  exact this
theorem valF_all {xs : List Measure} (h : validMeasureS xs = true) (bell : ByteArray) (p : Int) : (valF xs bell p).length ≤ 64 ∧ ∀ z ∈ valF xs bell p, 10000 ≤ z ∧ z ≤ 20000000 := by
  obtain ⟨h1, h2⟩ := validMeasureS_parts h
  refine ⟨?_, fun z hz => ?_⟩
  · have := valF_len xs bell p xs.length
    rw [List.take_length] at this
    omega
  · unfold valF at hz
    obtain ⟨x, hx, rfl⟩ := List.mem_map.1 hz
    have := h2 x (List.mem_filter.1 hx).1
    simp only [measureB, Bool.and_eq_true] at this
    exact inB_true this.2.2
theorem askM_bad {xs : List Measure} (h : validMeasureS xs = false) (bell : ByteArray) (p : Int) : askM xs bell p = 1 := by unfold askM; rw [h]; rfl
theorem askM_part {xs : List Measure} (h : validMeasureS xs = true) (bell : ByteArray) {p : Int} (hp : inB p 1 5 = false) : askM xs bell p = 2 := by unfold askM; rw [h, hp]; rfl
theorem askM_none {xs : List Measure} (h : validMeasureS xs = true) {bell : ByteArray} {p : Int} (hp : inB p 1 5 = true) (hz : (valF xs bell p).length = 0) : askM xs bell p = 3 := by unfold askM; rw [h, hp, hz]; rfl
theorem askM_some {xs : List Measure} (h : validMeasureS xs = true) {bell : ByteArray} {p : Int} (hp : inB p 1 5 = true) (hz : ¬ (valF xs bell p).length = 0) : askM xs bell p = 0 := by unfold askM; rw [h, hp, if_pos rfl, if_pos rfl, if_neg hz]
theorem askM_ok {xs : List Measure} {bell : ByteArray} {p : Int} (h : askM xs bell p = 0) : validMeasureS xs = true ∧ inB p 1 5 = true ∧ 0 < (valF xs bell p).length := by
  unfold askM at h
  split at h
  · split at h
    · split at h
      · omega
      · exact ⟨by assumption, by assumption, by omega⟩
    · omega
  · omega
theorem valsS_no {xs : List Measure} {bell : ByteArray} {p : Int} (h : ¬ askM xs bell p = 0) : valsS xs bell p = [] := if_neg h
theorem valsS_yes {xs : List Measure} {bell : ByteArray} {p : Int} (h : askM xs bell p = 0) : valsS xs bell p = sortI (valF xs bell p) := if_pos h
theorem valsS_all (xs : List Measure) (bell : ByteArray) (p : Int) : (valsS xs bell p).length ≤ 64 ∧ ∀ z ∈ valsS xs bell p, 10000 ≤ z ∧ z ≤ 20000000 := by
  by_cases h : askM xs bell p = 0
  · rw [valsS_yes h]
    obtain ⟨h1, h2⟩ := valF_all (askM_ok h).1 bell p
    exact ⟨by rw [sortI_len]; exact h1, fun z hz => h2 z ((sortI_perm _).mem_iff.1 hz)⟩
  · rw [valsS_no h]; simp
theorem spec_l11Ok_is {b : Bool} (w : World) (v : Value) (xs : List Measure) (h : Rd w.heap.size w v 3 xs.length (xs.flatMap Measure.put)) (hn : xs.length ≤ 1048576) (hok : ∀ x ∈ xs, x.ok) (hb : validMeasureS xs = b) :
    Calls Tryz.prog 48 #[v] w fun e w' => e = .returned (.bool b) ∧ Below w.heap.size w w' := by rw [← hb]; exact spec_validMeasure w v xs h hn hok
theorem impl_ValidMeasures_is {b : Bool} (w : World) (v : Value) (xs : List Measure) (h : Rd w.heap.size w v 3 xs.length (xs.flatMap Measure.put)) (hn : xs.length ≤ 1048576) (hok : ∀ x ∈ xs, x.ok) (hb : validMeasureS xs = b) :
    Calls Tryz.prog 33 #[v] w fun e w' => e = .returned (.bool b) ∧ Below w.heap.size w w' := by rw [← hb]; exact impl_validMeasure w v xs h hn hok

set_option maxHeartbeats 2000000 in
theorem impl_ValuesOf (w : World) (v : Value) (xs : List Measure) (bell : ByteArray) (p : Int) (h : Rd w.heap.size w v 3 xs.length (xs.flatMap Measure.put)) (hn : xs.length ≤ 1048576) (hok : ∀ x ∈ xs, x.ok) :
    Calls Tryz.prog 8 #[v, .string bell, .int .i64 p] w fun e w' => ∃ r : Value, e = .returned (.tuple #[r, .int .i64 (askM xs bell p)]) ∧ w'.ownsRow w.heap.size 2 1 r (valsS xs bell p).length ((valsS xs bell p).flatMap putI) ∧ Below w.heap.size w w' := by
  cases hV : validMeasureS xs
  · have ea := Lib.hid (askM_bad hV bell p)
    have e := Lib.hid (valsS_no (xs := xs) (bell := bell) (p := p) (by rw [ea.out]; decide))
    have H := Lib.hid (impl_ValidMeasures_is w v xs h hn hok hV)
    clear h hok hV
    go_enter Tryz.func8, Tryz.ntmps8
    go_wp2_with fail
    refine H.out.mono ?_; rintro e1 w1 ⟨rfl, b1⟩
    go_wp2_with fail
    go_ret2
    exact ⟨_, by rw [ea.out]; try rfl, by rw [e.out]; exact own_nil _ _ _ _, b1⟩
  have h64 := (validMeasureS_parts hV).1
  have H := Lib.hid (impl_ValidMeasures_is w v xs h hn hok hV)
  cases hp : inB p 1 5
  · have ea := Lib.hid (askM_part hV bell hp)
    have e := Lib.hid (valsS_no (xs := xs) (bell := bell) (p := p) (by rw [ea.out]; decide))
    have HP := Lib.hid hp
    clear h hok hV hp
    go_enter Tryz.func8, Tryz.ntmps8
    go_wp2_with fail
    refine H.out.mono ?_; rintro e1 w1 ⟨rfl, b1⟩
    go_wp2_with (go_at_call 34; refine (impl_isPartial_is _ _ HP.out).mono ?_; rintro e w' ⟨rfl, rfl⟩)
    go_ret2
    exact ⟨_, by rw [ea.out]; try rfl, by rw [e.out]; exact own_nil _ _ _ _, b1⟩
  have HX := Lib.hid (fun w' (hb : Below w.heap.size w w') => impl_values w' v xs bell p (h.up hb) h64)
  have HP := Lib.hid hp
  have hl := valF_all hV bell p
  by_cases hz : (valF xs bell p).length = 0
  · have ea := Lib.hid (askM_none hV hp hz)
    have e := Lib.hid (valsS_no (xs := xs) (bell := bell) (p := p) (by rw [ea.out]; decide))
    have HZ := Lib.hid hz
    clear h hok hV hp hz hl
    go_enter Tryz.func8, Tryz.ntmps8
    go_wp2_with fail
    refine H.out.mono ?_; rintro e1 w1 ⟨rfl, b1⟩
    go_wp2_with (go_at_call 34; refine (impl_isPartial_is _ _ HP.out).mono ?_; rintro e w' ⟨rfl, rfl⟩)
    refine (HX.out w1 b1).mono ?_; rintro e2 w2 ⟨r, rfl, hown, b2⟩
    obtain ⟨ao, cap, rfl⟩ := (own_rd hown).form
    have B := Lib.hid (bnext b1 b2)
    clear hown b1 b2 HX
    rw [HZ.out]
    go_wp2_with fail
    go_ret2
    exact ⟨_, by rw [ea.out]; try rfl, by rw [e.out]; exact own_nil _ _ _ _, B.out⟩
  · have ea := Lib.hid (askM_some hV hp hz)
    have e := Lib.hid ((valsS_yes ea.out).symm)
    have hl1 := hl.1
    clear h hok hV hp hl
    go_enter Tryz.func8, Tryz.ntmps8
    go_wp2_with fail
    refine H.out.mono ?_; rintro e1 w1 ⟨rfl, b1⟩
    go_wp2_with (go_at_call 34; refine (impl_isPartial_is _ _ HP.out).mono ?_; rintro e w' ⟨rfl, rfl⟩)
    refine (HX.out w1 b1).mono ?_; rintro e2 w2 ⟨r, rfl, hown, b2⟩
    obtain ⟨ao, cap, rfl⟩ := (own_rd hown).form
    have B := Lib.hid (bnext b1 b2)
    have HO : Hid (w2.ownsRow w.heap.size 2 1 _ (valsS xs bell p).length ((valsS xs bell p).flatMap putI)) := Lib.hid (by have := ownsRow_le hown b1.size; rw [← e.out, sortI_len]; exact this)
    clear hown b1 b2 HX
    generalize (valF xs bell p).length = n at *
    have t1 : ((n : Int) == 0) = false := beq_eq_false_iff_ne.2 (by omega)
    have t2 : decide (n = 0) = false := decide_eq_false hz
    clear hz
    go_wp2_with fail
    go_ret2
    exact ⟨_, by rw [ea.out]; try rfl, HO.out, B.out⟩

/-- the middle one -/
def medI (zs : List Int) : Int := zs[(zs.length - 1) / 2]?.getD 0

theorem impl_median (w : World) (v : Value) (zs : List Int) (h : Rd w.heap.size w v 1 zs.length (zs.flatMap putI)) (h0 : 0 < zs.length) (hn : zs.length ≤ 1048576) :
    Calls Tryz.prog 37 #[v] w fun e w' => e = .returned (.int .i64 (medI zs)) ∧ Below w.heap.size w w' := by
  obtain ⟨hL, vo, vc, rfl, hcap1, hmax1, hnil1, hsome1⟩ := h
  obtain ⟨b, off, rfl, hb, hc⟩ := hsome1 h0
  have hlt : (zs.length - 1) / 2 < zs.length := by omega
  have c : w.cell? ⟨b, off + (zs.length - 1) / 2, none⟩ = some (.int .i64 (medI zs)) := by
    rw [hc _ (by omega), putI_get zs _ hlt]
    unfold medI
    rw [List.getElem?_eq_getElem hlt]; rfl
  clear hc hsome1 hnil1
  generalize medI zs = m at *
  have q : ((zs.length : Int) - 1) / 2 = (((zs.length - 1) / 2 : Nat) : Int) := by omega
  go_enter Tryz.func37, Tryz.ntmps37
  go_wp2_with fail
  go_ret
  exact ⟨rfl, Below.refl _ _⟩
end Go.Proofs.YtklgkbiobggbiaaGreatDoor
namespace Go.Proofs.YtklgkbiobggbiaaGreatDoor
open Go.ChangeShapes Go.WideShapes Go.ChangeAt Go.RowKit Go.Deep Go.Joins
set_option linter.unusedVariables false
set_option maxRecDepth 100000
set_option linter.unusedSimpArgs false
def fineStep (q : Int × Int) : Int × Int := if 2147483648 ≤ q.1 * q.1 / 1073741824 then (q.1 * q.1 / 1073741824 / 2, q.2 * 2 + 1) else (q.1 * q.1 / 1073741824, q.2 * 2)
def fineIt (x : Int) : Nat → Int × Int
  | 0 => (x, 0)
  | k + 1 => fineStep (fineIt x k)
/-- a number's highest bit -/
def hiBit (n : Int) : Nat := Lib.bitLen n.toNat - 1
def fineI (n : Int) : Int := (hiBit n : Int) * 16777216 + (fineIt (n * 2 ^ (30 - hiBit n)) 24).2
def logI (n : Int) : Int := 12000 * fineI n / 16777216
def centI (f g : Int) : Int := logI g - logI f
theorem hiBit_spec {n : Int} (h1 : 10000 ≤ n) (h2 : n ≤ 20000000) : Lib.bitLen n.toNat = hiBit n + 1 ∧ 2 ^ hiBit n ≤ n.toNat ∧ n.toNat < 2 ^ (hiBit n + 1) ∧ 13 ≤ hiBit n ∧ hiBit n ≤ 24 := by
  have hb := Lib.bitLenAux_bounds 64 n.toNat (by omega) (by omega)
  change 1 ≤ Lib.bitLen n.toNat ∧ 2 ^ (Lib.bitLen n.toNat - 1) ≤ n.toNat ∧ n.toNat < 2 ^ Lib.bitLen n.toNat at hb
  obtain ⟨h3, h4, h5⟩ := hb
  have e : Lib.bitLen n.toNat = hiBit n + 1 := by unfold hiBit; omega
  rw [e] at h5
  refine ⟨e, h4, h5, ?_, ?_⟩
  · rcases Nat.lt_or_ge (hiBit n) 13 with h | h
    · have : 2 ^ (hiBit n + 1) ≤ 2 ^ 13 := Nat.pow_le_pow_right (by omega) (by omega)
      omega
    · exact h
  · rcases Nat.lt_or_ge 24 (hiBit n) with h | h
    · have h4' : 2 ^ hiBit n ≤ n.toNat := h4
      have : 2 ^ 25 ≤ 2 ^ hiBit n := Nat.pow_le_pow_right (by omega) (by omega)
      omega
    · exact h
theorem sq_bd {x : Int} (h0 : 0 ≤ x) (h1 : x < 2147483648) : 0 ≤ x * x ∧ x * x ≤ 4611686014132420609 := by
  refine ⟨Int.mul_nonneg h0 h0, ?_⟩
  have := Int.mul_le_mul (show x ≤ 2147483647 by omega) (show x ≤ 2147483647 by omega) h0 (by omega)
  omega
theorem fine_start {n : Int} (h1 : 10000 ≤ n) (h2 : n ≤ 20000000) : 1073741824 ≤ n * 2 ^ (30 - hiBit n) ∧ n * 2 ^ (30 - hiBit n) < 2147483648 := by
  obtain ⟨_, h3, h4, h5, h6⟩ := hiBit_spec h1 h2
  generalize hiBit n = e at *
  have p1 : (2 : Nat) ^ e * 2 ^ (30 - e) = 2 ^ 30 := by rw [← Nat.pow_add]; congr 1; omega
  have p2 : (2 : Nat) ^ (e + 1) * 2 ^ (30 - e) = 2 ^ 31 := by rw [← Nat.pow_add]; congr 1; omega
  have q1 := Nat.mul_le_mul_right (2 ^ (30 - e)) h3
  have q2 := Nat.mul_lt_mul_of_pos_right h4 (Nat.two_pow_pos (30 - e))
  rw [p1] at q1
  rw [p2] at q2
  have e1 : n * 2 ^ (30 - e) = ((n.toNat * 2 ^ (30 - e) : Nat) : Int) := by push_cast; rw [Int.toNat_of_nonneg (by omega)]
  rw [e1]
  omega
theorem fineIt_bd {x : Int} (h0 : 0 ≤ x) (h1 : x < 2147483648) : ∀ k, 0 ≤ (fineIt x k).1 ∧ (fineIt x k).1 < 2147483648 ∧ 0 ≤ (fineIt x k).2 ∧ (fineIt x k).2 < 2 ^ k
  | 0 => ⟨h0, h1, Int.le_refl _, by simp [fineIt]⟩
  | k + 1 => by
    obtain ⟨a, b, c, d⟩ := fineIt_bd h0 h1 k
    have hs := sq_bd a b
    have e : fineIt x (k + 1) = fineStep (fineIt x k) := rfl
    rw [e, Int.pow_succ]
    unfold fineStep
    generalize (fineIt x k).1 * (fineIt x k).1 = y at *
    generalize (2 : Int) ^ k = z at *
    split
    · exact ⟨by simp only; omega, by simp only; omega, by simp only; omega, by simp only; omega⟩
    · exact ⟨by simp only; omega, by simp only; omega, by simp only; omega, by simp only; omega⟩
theorem fine_yes {x y r : Int} {k : Nat} (h : fineIt x k = (y, r)) (hy : 2147483648 ≤ y * y / 1073741824) : fineIt x (k + 1) = (y * y / 1073741824 / 2, r * 2 + 1) := by
  show fineStep (fineIt x k) = _
  rw [h]; unfold fineStep; rw [if_pos hy]
theorem fine_no {x y r : Int} {k : Nat} (h : fineIt x k = (y, r)) (hy : ¬ 2147483648 ≤ y * y / 1073741824) : fineIt x (k + 1) = (y * y / 1073741824, r * 2) := by
  show fineStep (fineIt x k) = _
  rw [h]; unfold fineStep; rw [if_neg hy]
theorem fine_r {x y r : Int} {k : Nat} (h0 : 0 ≤ x) (h1 : x < 2147483648) (h : fineIt x k = (y, r)) (hk : k ≤ 24) : (0 ≤ y ∧ y < 2147483648) ∧ 0 ≤ r ∧ r < 16777216 := by
  obtain ⟨a, b, c, d⟩ := fineIt_bd h0 h1 k
  rw [h] at a b c d
  have : (2 : Int) ^ k ≤ 2 ^ 24 := by
    have := Nat.pow_le_pow_right (show 0 < 2 by omega) hk
    exact_mod_cast this
  exact ⟨⟨a, b⟩, c, by have e : (2 : Int) ^ 24 = 16777216 := by decide
                       simp only at d; omega⟩
theorem hi_pos {n : Int} {E k : Nat} (h1 : 0 < n) (h3 : 2 ^ E ≤ n.toNat) (hk : k < E) : 0 < n / 2 ^ (k + 1) := by
  have h : 2 ^ (k + 1) ≤ 2 ^ E := Nat.pow_le_pow_right (by omega) (by omega)
  have h2 : ((2 ^ (k + 1) : Nat) : Int) ≤ n := by omega
  have h4 : ((2 ^ (k + 1) : Nat) : Int) = (2 : Int) ^ (k + 1) := by push_cast; rfl
  rw [h4] at h2
  have h5 : (0 : Int) < 2 ^ (k + 1) := Int.pow_pos (by omega)
  exact Int.le_ediv_of_mul_le h5 (by omega)
theorem hi_zero {n : Int} {E : Nat} (h1 : 0 < n) (h3 : n.toNat < 2 ^ (E + 1)) : n / 2 ^ (E + 1) = 0 := by
  have h2 : n < ((2 ^ (E + 1) : Nat) : Int) := by omega
  have h4 : ((2 ^ (E + 1) : Nat) : Int) = (2 : Int) ^ (E + 1) := by push_cast; rfl
  rw [h4] at h2
  exact Int.ediv_eq_zero_of_lt (by omega) h2
def Tryz.len64_ren : Go.Shelf.Ren := ⟨fun | 129 => 137 | n => n, fun | 53 => 96 | 3 => 3 | 4 => 4 | 46 => 106 | 5 => 5 | 9 => 9 | n => n, fun | n => n⟩
theorem Tryz.len64 : Go.Proofs.Lays.n129 Tryz.prog Tryz.len64_ren := {
  mixed := by kernel_rfl
  f129 := Tryz.func137.trans (congrArg some (by kernel_rfl))
  t3 := Tryz.underlying3
  a3 := Tryz.isAgg3
  z3 := Tryz.sizeOf3
  v3 := Tryz.zeroValue3
  t4 := Tryz.underlying4
  a4 := Tryz.isAgg4
  z4 := Tryz.sizeOf4
  v4 := Tryz.zeroValue4
  t5 := Tryz.underlying5
  a5 := Tryz.isAgg5
  z5 := Tryz.sizeOf5
  v5 := Tryz.zeroValue5
  t9 := Tryz.underlying9
  a9 := Tryz.isAgg9
  z9 := Tryz.sizeOf9
  v9 := Tryz.zeroValue9
  t46 := Tryz.underlying106
  a46 := Tryz.isAgg106
  z46 := Tryz.sizeOf106
  v46 := Tryz.zeroValue106
  t53 := Tryz.underlying96
  a53 := Tryz.isAgg96
  z53 := Tryz.sizeOf96
  v53 := Tryz.zeroValue96 }
theorem bits_Len64 (x : Int) (w : World) (h0 : 0 ≤ x) (h1 : x ≤ 18446744073709551615) :
    Calls Tryz.prog 137 #[.int .u64 x] w fun e w' => e = .returned (.int .i64 (Lib.bitLen x.toNat)) ∧ w' = w := Any.bits_Len64 Tryz.len64 x w h0 h1

set_option maxHeartbeats 2000000 in
theorem impl_fineLog (n : Int) (w : World) (h1 : 10000 ≤ n) (h2 : n ≤ 20000000) : Calls Tryz.prog 126 #[.int .i64 n] w fun e w' => e = .returned (.int .i64 (fineI n)) ∧ w = w' := by
  obtain ⟨hl, h3, h4, h5, h6⟩ := hiBit_spec h1 h2
  have hs := fine_start h1 h2
  have HEF := Lib.hid (show ∀ y z k, k = 24 → fineIt (n * 2 ^ (30 - hiBit n)) k = (y, z) → fineI n = (hiBit n : Int) * 16777216 + z from fun y z k hk h => by unfold fineI; rw [← hk, h])
  generalize hiBit n = E at *
  have hE : decide (E ≤ 30) = true := decide_eq_true (by omega)
  go_enter Tryz.func126, Tryz.ntmps126
  go_wp2_with (go_at_call 137; refine (bits_Len64 _ _ (by omega) (by omega)).mono ?_; rw [hl]; rintro e1 w1 ⟨rfl, rfl⟩)
  go_loop [4, 5, 21] (fun x r i => ∃ (k : Nat) (y z : Int), k ≤ 24 ∧ i = .int .i64 k ∧ x = .int .i64 y ∧ r = .int .i64 z ∧ fineIt (n * 2 ^ (30 - E)) k = (y, z)) (fun _ _ i => 24 - (intOf i).toNat)
  case atStart => exact ⟨0, _, _, Nat.zero_le _, rfl, rfl, rfl, rfl⟩
  case round =>
    obtain ⟨k, y, z, hk, rfl, rfl, rfl, he⟩ := hrel
    have HE := Lib.hid he; clear he
    have hbd := fine_r (by omega) (by omega) HE.out hk
    by_cases hlt : k < 24
    · have hz : decide (k < 24) = true := decide_eq_true hlt
      have hsq := sq_bd hbd.1.1 hbd.1.2
      by_cases hy : 2147483648 ≤ y * y / 1073741824
      · have e : Hid (fineIt (n * 2 ^ (30 - E)) (k + 1) = (y * y / 1073741824 / 2, z * 2 + 1)) := fine_yes HE.out hy
        go_wp2_with fail
        go_round
        case rel => exact ⟨k + 1, _, _, by omega, by go_num, rfl, rfl, by rw [e.out]⟩
        case measure => simp [intOf]; omega
      · have e : Hid (fineIt (n * 2 ^ (30 - E)) (k + 1) = (y * y / 1073741824, z * 2)) := fine_no HE.out hy
        go_wp2_with fail
        go_round
        case rel => exact ⟨k + 1, _, _, by omega, by go_num, rfl, rfl, by rw [e.out]⟩
        case measure => simp [intOf]; omega
    · have hz : decide (k < 24) = false := decide_eq_false hlt
      have ef : Hid (fineI n = (E : Int) * 16777216 + z) := HEF.out y z k (by omega) HE.out
      go_wp2_with fail
      go_ret
      exact ⟨by rw [ef.out]; try rfl, rfl⟩
  

theorem fineI_bd (n : Int) (h1 : 10000 ≤ n) (h2 : n ≤ 20000000) : 0 ≤ fineI n ∧ fineI n ≤ 436207616 := by
  obtain ⟨hl, h3, h4, h5, h6⟩ := hiBit_spec h1 h2
  have hs := fine_start h1 h2
  have hr := fineIt_bd (by omega) hs.2 24
  have e : (2 : Int) ^ 24 = 16777216 := by decide
  unfold fineI
  generalize fineIt (n * 2 ^ (30 - hiBit n)) 24 = q at *
  omega
theorem logI_bd (n : Int) (h1 : 10000 ≤ n) (h2 : n ≤ 20000000) : 0 ≤ logI n ∧ logI n ≤ 312000 := by
  have := fineI_bd n h1 h2
  unfold logI
  omega
theorem centI_bd (f g : Int) (h1 : 10000 ≤ f ∧ f ≤ 20000000) (h2 : 10000 ≤ g ∧ g ≤ 20000000) : -312000 ≤ centI f g ∧ centI f g ≤ 312000 := by
  have := logI_bd f h1.1 h1.2
  have := logI_bd g h2.1 h2.2
  unfold centI
  omega

theorem impl_log (n : Int) (w : World) (h1 : 10000 ≤ n) (h2 : n ≤ 20000000) : Calls Tryz.prog 83 #[.int .i64 n] w fun e w' => e = .returned (.int .i64 (logI n)) ∧ w = w' := by
  have hb := fineI_bd n h1 h2
  have H := Lib.hid (impl_fineLog n w h1 h2)
  have e : Hid (logI n = 12000 * fineI n / 16777216) := (rfl : logI n = 12000 * fineI n / 16777216)
  generalize fineI n = F at *
  go_enter Tryz.func83, Tryz.ntmps83
  go_wp2_with (go_at_call 126; refine H.out.mono ?_; rintro e1 w1 ⟨rfl, rfl⟩)
  go_ret
  exact ⟨by rw [e.out]; try rfl, rfl⟩
theorem impl_cents (f g : Int) (w : World) (h1 : 10000 ≤ f ∧ f ≤ 20000000) (h2 : 10000 ≤ g ∧ g ≤ 20000000) : Calls Tryz.prog 38 #[.int .i64 f, .int .i64 g] w fun e w' => e = .returned (.int .i64 (centI f g)) ∧ Below w.heap.size w w' := by
  have hb1 := logI_bd f h1.1 h1.2
  have hb2 := logI_bd g h2.1 h2.2
  have HF := Lib.hid (fun x => impl_log f x h1.1 h1.2)
  have HG := Lib.hid (fun x => impl_log g x h2.1 h2.2)
  have e : Hid (centI f g = logI g - logI f) := (rfl : centI f g = logI g - logI f)
  generalize logI f = F at *
  generalize logI g = G at *
  go_enter Tryz.func38, Tryz.ntmps38
  go_wp2_with (go_at_call 83; first | (refine (HG.out _).mono ?_; rintro e1 w1 ⟨rfl, rfl⟩) | (refine (HF.out _).mono ?_; rintro e1 w1 ⟨rfl, rfl⟩))
  go_ret
  exact ⟨by rw [e.out]; try rfl, Below.refl _ _⟩
end Go.Proofs.YtklgkbiobggbiaaGreatDoor
