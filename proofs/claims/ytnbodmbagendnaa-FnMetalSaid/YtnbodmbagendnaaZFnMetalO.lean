/- Contracts and plain facts, joined: CmpStr, Search, SearchIngot, ChosenS. -/
import Derived.Test.YtnbodmbagendnaaRows
import Derived.Test.YtnbodmbagendnaaZFnMetalA
import Derived.Test.YtnbodmbagendnaaZFnMetalB
import Derived.Test.YtnbodmbagendnaaZFnMetalI
import Derived.Test.YtnbodmbagendnaaZFnMetalK
import Derived.Test.YtnbodmbagendnaaZFnMetalN
import Derived.WalkLawsBesides
namespace Go.Proofs.Ytnbodmbagendnaa
open Go.ChangeShapes Go.WideShapes Go.ChangeAt Go.RowKit Go.Deep Go.Joins
set_option linter.unusedVariables false
set_option maxRecDepth 100000
set_option linter.unusedSimpArgs false
/-- what a comparison of two texts gives -/
def cmpS (x y : ByteArray) : Int := if ltName x y then -1 else if strEq x y then 0 else 1
theorem cmpS_lt {x y : ByteArray} : cmpS x y < 0 ↔ ltName x y = true := by
  unfold cmpS
  cases h : ltName x y <;> simp
  cases strEq x y <;> simp
theorem ltName_irrefl (x : ByteArray) : ltName x x = false := less_irrefl _
theorem ltName_trans {x y z : ByteArray} (h1 : ltName x y = true) (h2 : ltName y z = true) : ltName x z = true := less_trans _ _ _ h1 h2
theorem strEq_iff {x y : ByteArray} : strEq x y = true ↔ x = y := by
  unfold strEq
  rw [beq_iff_eq]
  constructor
  · intro h
    have h2 : x.data.toList = y.data.toList := by
      rw [ByteArray.toList_eq, ByteArray.toList_eq] at h; exact h
    cases x; cases y
    simp only [ByteArray.mk.injEq]
    exact Array.toList_inj.1 h2
  · rintro rfl; rfl
theorem cmpS_zero {x y : ByteArray} : cmpS x y = 0 ↔ x = y := by
  unfold cmpS
  cases h : ltName x y
  · simp only [Bool.false_eq_true, if_false]
    cases h2 : strEq x y
    · simp only [Bool.false_eq_true, if_false]
      constructor
      · intro h; omega
      · rintro rfl; rw [strEq_iff.2 rfl] at h2; cases h2
    · simp [strEq_iff.1 h2]
  · simp only [if_true]
    constructor
    · intro h; omega
    · rintro rfl; rw [ltName_irrefl] at h; cases h
/-- not before it, not equal: behind it -/
theorem ltName_total {x y : ByteArray} (h1 : ltName x y = false) (h2 : x ≠ y) : ltName y x = true := by
  have h := not_less y.toList x.toList
  unfold ltName at *
  have h3 : strEq y x = false := by
    cases h4 : strEq y x with
    | false => rfl
    | true => exact absurd (strEq_iff.1 h4).symm h2
  unfold strEq at h3
  rw [h1, h3] at h
  simpa using h.symm
theorem cmp_isNaN_str (x : ByteArray) (w : World) : Calls Try.prog 150 #[.string x] w fun e w' => e = .returned (.bool false) ∧ w = w' := by
  have t1 : (x.toList == x.toList) = true := by simp
  go_enter Try.func150, Try.ntmps150
  go_wp2
  go_ret
  exact ⟨by first | rfl | simp, rfl⟩
theorem cmp_Compare_str (x y : ByteArray) (w : World) : Calls Try.prog 125 #[.string x, .string y] w fun e w' => e = .returned (.int .i64 (cmpS x y)) ∧ w = w' := by
  cases h1 : ltName x y
  · cases h2 : strEq x y
    · have e : Hid (cmpS x y = 1) := (by unfold cmpS; rw [h1, h2]; rfl : cmpS x y = 1)
      have t1 : Op.bytesLess x.toList y.toList = false := h1
      have t2 : (x.toList == y.toList) = false := h2
      clear h1 h2
      go_enter Try.func125, Try.ntmps125
      go_wp2_with (first | (go_at_call 150; refine (cmp_isNaN_str _ _).mono ?_; rintro e w' ⟨rfl, rfl⟩))
      go_ret
      exact ⟨by rw [e.out]; rfl, rfl⟩
    · have e : Hid (cmpS x y = 0) := (by unfold cmpS; rw [h1, h2]; rfl : cmpS x y = 0)
      have t1 : Op.bytesLess x.toList y.toList = false := h1
      have t2 : (x.toList == y.toList) = true := h2
      clear h1 h2
      go_enter Try.func125, Try.ntmps125
      go_wp2_with (first | (go_at_call 150; refine (cmp_isNaN_str _ _).mono ?_; rintro e w' ⟨rfl, rfl⟩))
      go_ret
      exact ⟨by rw [e.out]; rfl, rfl⟩
  · have e : Hid (cmpS x y = -1) := (by unfold cmpS; rw [h1]; rfl : cmpS x y = -1)
    have t1 : Op.bytesLess x.toList y.toList = true := h1
    clear h1
    go_enter Try.func125, Try.ntmps125
    go_wp2_with (first | (go_at_call 150; refine (cmp_isNaN_str _ _).mono ?_; rintro e w' ⟨rfl, rfl⟩))
    go_ret
    exact ⟨by rw [e.out]; rfl, rfl⟩
end Go.Proofs.Ytnbodmbagendnaa
namespace Go.Proofs.Ytnbodmbagendnaa
open Go.ChangeShapes Go.WideShapes Go.ChangeAt Go.RowKit Go.Deep Go.Joins
set_option linter.unusedVariables false
set_option maxRecDepth 100000
set_option linter.unusedSimpArgs false
/-- the comparisons fall: less, then not less -/
def Falls (c : Nat → Int) (n : Nat) : Prop := ∀ a b, a ≤ b → b < n → c b < 0 → c a < 0
/-- what is known of the part that is left -/
def Part (c : Nat → Int) (n a b : Nat) : Prop := Falls c n → (∀ k, k < a → c k < 0) ∧ (∀ k, b ≤ k → k < n → 0 ≤ c k)
/-- what is found: all before it are less, all from it on are not -/
def Found (c : Nat → Int) (n i : Nat) : Prop := i ≤ n ∧ Part c n i i
theorem part_start (c : Nat → Int) (n : Nat) : Part c n 0 n := fun _ => ⟨fun k h => by omega, fun k h1 h2 => by omega⟩
theorem part_up {c : Nat → Int} {n a b m : Nat} (h : Part c n a b) (hm : m < n) (hc : c m < 0) : Part c n (m + 1) b := fun hf => ⟨fun k hk => hf k m (by omega) hm hc, (h hf).2⟩
theorem part_down {c : Nat → Int} {n a b m : Nat} (h : Part c n a b) (hc : 0 ≤ c m) : Part c n a m := fun hf => ⟨(h hf).1, fun k h1 h2 => by
  rcases Int.lt_or_le (c k) 0 with h3 | h3
  · have := hf m k h1 h2 h3; omega
  · exact h3⟩
theorem part_end {c : Nat → Int} {n a : Nat} (h : Part c n a a) (ha : a ≤ n) : Found c n a := ⟨ha, h⟩
end Go.Proofs.Ytnbodmbagendnaa
namespace Go.Proofs.Ytnbodmbagendnaa
open Go.ChangeShapes Go.WideShapes Go.ChangeAt Go.RowKit Go.Deep Go.Joins
set_option linter.unusedVariables false
set_option maxRecDepth 100000
set_option linter.unusedSimpArgs false
theorem impl_ingotAt1 (x : Ingot) (a : ByteArray) (w : World) : Calls Try.prog 159 #[.agg #[.string x.id, .int .i64 x.mass, .int .i64 x.alloy.copper, .int .i64 x.alloy.tin, .int .i64 x.alloy.other], .string a] w fun e w' => e = .returned (.int .i64 (cmpS x.id a)) ∧ Below w.heap.size w w' := by
  go_enter Try.func159, Try.ntmps159
  go_wp2_with (first | (go_at_call 125; refine (cmp_Compare_str _ _ _).mono ?_; rintro e w' ⟨rfl, rfl⟩))
  go_ret
  exact ⟨rfl, by (repeat' (first | (with_reducible exact Below.refl _ _) | (with_reducible assumption) | (with_reducible refine below_dn ?_ _) | (with_reducible refine Below.drew ?_) | (with_reducible refine Below.alloc ?_ ?_ _) | (with_reducible refine Below.setCell ?_ ?_ _) | go_size))⟩

def cmpIngot (xs : List Ingot) (t : ByteArray) (k : Nat) : Int := (xs[k]?).elim 1 fun x => cmpS x.id t
theorem cmpIngot_at {xs : List Ingot} {t : ByteArray} {k : Nat} (h : k < xs.length) : cmpIngot xs t k = (fun x : Ingot => cmpS x.id t) xs[k] := by
  unfold cmpIngot
  rw [List.getElem?_eq_getElem h]
  rfl

set_option maxHeartbeats 2000000 in
theorem BinarySearch_Ingot (w : World) (v : Value) (xs : List Ingot) (t : ByteArray) (h : Rd w.heap.size w v 5 xs.length (xs.flatMap Ingot.put)) (hn : xs.length ≤ 1048576) :
    Calls Try.prog 158 #[v, .string t, .func (.func 159) #[] #[]] w fun e w' => (∃ i : Nat, e = .returned (.tuple #[.int .i64 i, .bool (decide (i < xs.length) && decide (cmpIngot xs t i = 0))]) ∧ Found (cmpIngot xs t) xs.length i) ∧ Below w.heap.size w w' := by
  obtain ⟨hL, ao, cap, rfl, hcap, hmax, hnil, hsome⟩ := h
  go_enter Try.func158, Try.ntmps158
  go_wp2
  go_loopw [9, 10] (fun i j wr => ∃ (a b : Nat), a ≤ b ∧ b ≤ xs.length ∧ i = .int .i64 a ∧ j = .int .i64 b ∧ Part (cmpIngot xs t) xs.length a b ∧ Below w.heap.size w wr) (fun i j _ => (intOf j).toNat - (intOf i).toNat)
  case atStart => exact ⟨0, xs.length, Nat.zero_le _, Nat.le_refl _, rfl, rfl, part_start _ _, Below.refl _ _⟩
  case round =>
    obtain ⟨a, b, hab, hbn, rfl, rfl, hpart, hb⟩ := hrel
    have HP := Lib.hid hpart; clear hpart
    by_cases hlt : a < b
    · obtain ⟨b0, off, rfl, hbB, hc⟩ := hsome (by omega)
      obtain ⟨m, hm, ham, hmb⟩ : ∃ m : Nat, ((a : Int) + (b : Int)) / 2 = ((m : Nat) : Int) ∧ a ≤ m ∧ m < b := ⟨(a + b) / 2, by omega, by omega, by omega⟩
      have hml : m < xs.length := by omega
      have c0 : wr.cell? ⟨b0, off + m * 5, none⟩ = some (.string xs[m].id) := by rw [show off + m * 5 = off + (m * 5 + 0) from by omega, hb.cell (p := ⟨b0, off + (m * 5 + 0), none⟩) hbB, hc (m * 5 + 0) (by omega), Ingot_get0 xs m hml]
      have c1 : wr.cell? ⟨b0, off + m * 5 + 1, none⟩ = some (.int .i64 xs[m].mass) := by rw [show off + m * 5 + 1 = off + (m * 5 + 1) from by omega, hb.cell (p := ⟨b0, off + (m * 5 + 1), none⟩) hbB, hc (m * 5 + 1) (by omega), Ingot_get1 xs m hml]
      have c2 : wr.cell? ⟨b0, off + m * 5 + 2, none⟩ = some (.int .i64 xs[m].alloy.copper) := by rw [show off + m * 5 + 2 = off + (m * 5 + 2) from by omega, hb.cell (p := ⟨b0, off + (m * 5 + 2), none⟩) hbB, hc (m * 5 + 2) (by omega), Ingot_get2 xs m hml]
      have c3 : wr.cell? ⟨b0, off + m * 5 + 3, none⟩ = some (.int .i64 xs[m].alloy.tin) := by rw [show off + m * 5 + 3 = off + (m * 5 + 3) from by omega, hb.cell (p := ⟨b0, off + (m * 5 + 3), none⟩) hbB, hc (m * 5 + 3) (by omega), Ingot_get3 xs m hml]
      have c4 : wr.cell? ⟨b0, off + m * 5 + 4, none⟩ = some (.int .i64 xs[m].alloy.other) := by rw [show off + m * 5 + 4 = off + (m * 5 + 4) from by omega, hb.cell (p := ⟨b0, off + (m * 5 + 4), none⟩) hbB, hc (m * 5 + 4) (by omega), Ingot_get4 xs m hml]
      have HC := Lib.hid (cmpIngot_at (t := t) hml)
      have HB := Lib.hid hb
      have hws := hb.size
      have hbr : b0 < wr.heap.size := Nat.lt_of_lt_of_le hbB hws
      clear hc hsome hb hnil
      by_cases hneg : cmpIngot xs t m < 0
      · have HN := Lib.hid hneg
        rw [HC.out] at hneg
        go_wp2_with fail
        go_at_call 159
        refine (impl_ingotAt1 xs[m] t _).mono ?_; rintro e1 w1 ⟨rfl, b1⟩
        have HB1 := Lib.hid (HB.out.trans (b1.mono HB.out.size)); clear b1 HB
        go_wp2_with fail
        go_roundw
        case rel => exact ⟨m + 1, b, by omega, by omega, by go_num, rfl, part_up HP.out hml HN.out, HB1.out⟩
        case measure => simp [intOf]; omega
      · have HN := Lib.hid hneg
        rw [HC.out] at hneg
        go_wp2_with fail
        go_at_call 159
        refine (impl_ingotAt1 xs[m] t _).mono ?_; rintro e1 w1 ⟨rfl, b1⟩
        have HB1 := Lib.hid (HB.out.trans (b1.mono HB.out.size)); clear b1 HB
        go_wp2_with fail
        go_roundw
        case rel => exact ⟨a, m, by omega, by omega, rfl, by go_num, part_down HP.out (by have := HN.out; omega), HB1.out⟩
        case measure => simp [intOf]; omega
    · obtain rfl : a = b := by omega
      by_cases hml : a < xs.length
      · obtain ⟨b0, off, rfl, hbB, hc⟩ := hsome (by omega)
        have c0 : wr.cell? ⟨b0, off + a * 5, none⟩ = some (.string xs[a].id) := by rw [show off + a * 5 = off + (a * 5 + 0) from by omega, hb.cell (p := ⟨b0, off + (a * 5 + 0), none⟩) hbB, hc (a * 5 + 0) (by omega), Ingot_get0 xs a hml]
        have c1 : wr.cell? ⟨b0, off + a * 5 + 1, none⟩ = some (.int .i64 xs[a].mass) := by rw [show off + a * 5 + 1 = off + (a * 5 + 1) from by omega, hb.cell (p := ⟨b0, off + (a * 5 + 1), none⟩) hbB, hc (a * 5 + 1) (by omega), Ingot_get1 xs a hml]
        have c2 : wr.cell? ⟨b0, off + a * 5 + 2, none⟩ = some (.int .i64 xs[a].alloy.copper) := by rw [show off + a * 5 + 2 = off + (a * 5 + 2) from by omega, hb.cell (p := ⟨b0, off + (a * 5 + 2), none⟩) hbB, hc (a * 5 + 2) (by omega), Ingot_get2 xs a hml]
        have c3 : wr.cell? ⟨b0, off + a * 5 + 3, none⟩ = some (.int .i64 xs[a].alloy.tin) := by rw [show off + a * 5 + 3 = off + (a * 5 + 3) from by omega, hb.cell (p := ⟨b0, off + (a * 5 + 3), none⟩) hbB, hc (a * 5 + 3) (by omega), Ingot_get3 xs a hml]
        have c4 : wr.cell? ⟨b0, off + a * 5 + 4, none⟩ = some (.int .i64 xs[a].alloy.other) := by rw [show off + a * 5 + 4 = off + (a * 5 + 4) from by omega, hb.cell (p := ⟨b0, off + (a * 5 + 4), none⟩) hbB, hc (a * 5 + 4) (by omega), Ingot_get4 xs a hml]
        have HC := Lib.hid (cmpIngot_at (t := t) hml)
        have HB := Lib.hid hb
        have hws := hb.size
        have hbr : b0 < wr.heap.size := Nat.lt_of_lt_of_le hbB hws
        clear hc hsome hb hnil
        by_cases hz : cmpIngot xs t a = 0
        · have E : Hid ((decide (a < xs.length) && decide (cmpIngot xs t a = 0)) = true) := (by simp [hml, hz] : (decide (a < xs.length) && decide (cmpIngot xs t a = 0)) = true)
          rw [HC.out] at hz
          have hz2 := (beq_iff_eq (α := Int)).2 hz
          have HZ := Lib.hid hz; clear hz
          simp only at hz2
          go_wp2_with fail
          go_at_call 159
          refine (impl_ingotAt1 xs[a] t _).mono ?_; rintro e1 w1 ⟨rfl, b1⟩
          have HB1 := Lib.hid (HB.out.trans (b1.mono HB.out.size)); clear b1 HB
          go_wp2_with fail
          go_ret2
          exact ⟨⟨a, by rw [E.out]; rfl, part_end HP.out hbn⟩, HB1.out⟩
        · have E : Hid ((decide (a < xs.length) && decide (cmpIngot xs t a = 0)) = false) := (by simp [hz] : (decide (a < xs.length) && decide (cmpIngot xs t a = 0)) = false)
          rw [HC.out] at hz
          have hz2 := (beq_eq_false_iff_ne (α := Int)).2 hz
          have HZ := Lib.hid hz; clear hz
          simp only at hz2
          go_wp2_with fail
          go_at_call 159
          refine (impl_ingotAt1 xs[a] t _).mono ?_; rintro e1 w1 ⟨rfl, b1⟩
          have HB1 := Lib.hid (HB.out.trans (b1.mono HB.out.size)); clear b1 HB
          go_wp2_with fail
          go_ret2
          exact ⟨⟨a, by rw [E.out]; rfl, part_end HP.out hbn⟩, HB1.out⟩
      · have E : Hid ((decide (a < xs.length) && decide (cmpIngot xs t a = 0)) = false) := (by simp [hml] : (decide (a < xs.length) && decide (cmpIngot xs t a = 0)) = false)
        have HB := Lib.hid hb; clear hb
        go_wp2_with fail
        go_ret2
        exact ⟨⟨a, by rw [E.out]; rfl, part_end HP.out hbn⟩, HB.out⟩
end Go.Proofs.Ytnbodmbagendnaa
namespace Go.Proofs.Ytnbodmbagendnaa
open Go.ChangeShapes Go.WideShapes Go.ChangeAt Go.RowKit Go.Deep Go.Joins
set_option linter.unusedVariables false
set_option maxRecDepth 100000
set_option linter.unusedSimpArgs false
def idK (xs : List Ingot) (a : ByteArray) : Option Nat := xs.findIdx? fun x => strEq x.id a
theorem idK_some {xs : List Ingot} {a : ByteArray} {k : Nat} (h : idK xs a = some k) : ∃ hk : k < xs.length, xs[k].id = a := by
  obtain ⟨hk, h1, _⟩ := List.findIdx?_eq_some_iff_getElem.1 h
  exact ⟨hk, strEq_iff.1 h1⟩
theorem idK_none {xs : List Ingot} {a : ByteArray} (h : idK xs a = none) (k : Nat) (hk : k < xs.length) : xs[k].id ≠ a := by
  intro e
  have := List.findIdx?_eq_none_iff.1 h xs[k] (List.getElem_mem hk)
  rw [e, strEq_iff.2 rfl] at this
  cases this
/-- the ids rise -/
def Rises (xs : List Ingot) : Prop := ∀ i j (hij : i < j) (hj : j < xs.length), ltName xs[i].id xs[j].id = true
theorem rises_of {xs : List Ingot} (h : validIngotS xs = true) : Rises xs := by
  simp only [validIngotS, Bool.and_eq_true] at h
  have step : ∀ k (hk : k + 1 < xs.length), ltName xs[k].id xs[k + 1].id = true := fun k hk => by
    have h1 := allK_true h.1 (k + 1) hk
    have h2 := (validIngotS_true (xs := xs) (by simp only [validIngotS, Bool.and_eq_true]; exact h)).2 xs[k + 1] (List.getElem_mem hk)
    rw [stepB_pos hk (by omega) h2] at h1
    exact h1
  intro i j hij hj
  induction j with
  | zero => omega
  | succ j ih =>
    rcases Nat.lt_or_ge i j with h1 | h1
    · exact ltName_trans (ih h1 (by omega)) (step j hj)
    · obtain rfl : i = j := by omega
      exact step i hj
theorem rises_inj {xs : List Ingot} (h : Rises xs) {i j : Nat} (hi : i < xs.length) (hj : j < xs.length) (e : xs[i].id = xs[j].id) : i = j := by
  rcases Nat.lt_trichotomy i j with h1 | h1 | h1
  · have := h i j h1 hj; rw [e, ltName_irrefl] at this; cases this
  · exact h1
  · have := h j i h1 hi; rw [e, ltName_irrefl] at this; cases this
theorem idK_at {xs : List Ingot} (h : Rises xs) {k : Nat} (hk : k < xs.length) : idK xs xs[k].id = some k := by
  cases e : idK xs xs[k].id with
  | none => exact absurd rfl (idK_none e k hk)
  | some j =>
    obtain ⟨hj, e2⟩ := idK_some e
    rw [rises_inj h hj hk e2]
theorem falls_of {xs : List Ingot} (h : Rises xs) (t : ByteArray) : Falls (cmpIngot xs t) xs.length := by
  intro a b hab hb hc
  rw [cmpIngot_at hb] at hc
  rw [cmpIngot_at (by omega)]
  rw [cmpS_lt] at *
  rcases Nat.lt_or_ge a b with h1 | h1
  · exact ltName_trans (h a b h1 hb) hc
  · obtain rfl : a = b := by omega
    exact hc
theorem found_idK {xs : List Ingot} (h : Rises xs) {t : ByteArray} {i : Nat} (hf : Found (cmpIngot xs t) xs.length i) :
    (decide (i < xs.length) && decide (cmpIngot xs t i = 0)) = (idK xs t).isSome ∧ ∀ k, idK xs t = some k → i = k := by
  obtain ⟨hi, hp⟩ := hf
  obtain ⟨h1, h2⟩ := hp (falls_of h t)
  have key : ∀ k, idK xs t = some k → i = k := by
    intro k hk
    obtain ⟨hkl, e⟩ := idK_some hk
    have e0 : cmpIngot xs t k = 0 := by rw [cmpIngot_at hkl]; exact cmpS_zero.2 e
    have hik : i ≤ k := by
      rcases Nat.lt_or_ge k i with h3 | h3
      · have := h1 k h3; omega
      · exact h3
    rcases Nat.lt_or_ge i k with h3 | h3
    · have h4 := h2 i (Nat.le_refl _) (by omega)
      rw [cmpIngot_at (by omega)] at h4
      have h5 : cmpS xs[i].id t < 0 := cmpS_lt.2 (by rw [← e]; exact h i k h3 hkl)
      simp only at h4; omega
    · omega
  refine ⟨?_, key⟩
  cases e : idK xs t with
  | none =>
    by_cases hl : i < xs.length
    · have : cmpIngot xs t i ≠ 0 := by
        rw [cmpIngot_at hl]
        exact fun h0 => idK_none e i hl (cmpS_zero.1 h0)
      simp [this]
    · simp [hl]
  | some k =>
    obtain rfl := key k e
    obtain ⟨hl, e2⟩ := idK_some e
    have : cmpIngot xs t i = 0 := by rw [cmpIngot_at hl]; exact cmpS_zero.2 e2
    simp [hl, this]

def chosenL (xs : List Ingot) (ids : List ByteArray) : Option (List Int) := ids.foldl (fun acc a => acc.bind fun l => (idK xs a).map fun k => l ++ [(k : Int)]) (some [])
theorem chosen_succ (xs : List Ingot) (ids : List ByteArray) (k : Nat) (hk : k < ids.length) : chosenL xs (ids.take (k + 1)) = (chosenL xs (ids.take k)).bind fun l => (idK xs ids[k]).map fun j => l ++ [(j : Int)] := by
  unfold chosenL
  rw [List.take_succ_eq_append_getElem hk, List.foldl_append]
  rfl
theorem chosen_dead (xs : List Ingot) (l : List ByteArray) : l.foldl (fun acc a => acc.bind fun l => (idK xs a).map fun k => l ++ [(k : Int)]) (none : Option (List Int)) = none := by
  induction l with
  | nil => rfl
  | cons a l ih => exact ih
theorem chosen_none {xs : List Ingot} {ids : List ByteArray} {k : Nat} (h : chosenL xs (ids.take k) = none) : chosenL xs ids = none := by
  have e : ids = ids.take k ++ ids.drop k := (List.take_append_drop k ids).symm
  unfold chosenL at *
  rw [e, List.foldl_append, h]
  exact chosen_dead xs _
theorem chosen_no {xs : List Ingot} {ids : List ByteArray} {k : Nat} (hk : k < ids.length) (h : idK xs ids[k] = none) : chosenL xs ids = none := by
  refine chosen_none (k := k + 1) ?_
  rw [chosen_succ xs ids k hk, h]
  cases chosenL xs (ids.take k) <;> rfl
theorem chosen_yes {xs : List Ingot} {ids : List ByteArray} {k : Nat} {cs : List Int} (hk : k < ids.length) (h0 : chosenL xs (ids.take k) = some cs) {j : Nat} (h : idK xs ids[k] = some j) : chosenL xs (ids.take (k + 1)) = some (cs ++ [(j : Int)]) := by
  rw [chosen_succ xs ids k hk, h0, h]; rfl
theorem chosen_len {xs : List Ingot} {ids : List ByteArray} : ∀ {k : Nat} {cs : List Int}, k ≤ ids.length → chosenL xs (ids.take k) = some cs → cs.length = k
  | 0, cs, _, h => by
    have : chosenL xs (ids.take 0) = some [] := rfl
    rw [this] at h; cases h; rfl
  | k + 1, cs, hk, h => by
    rw [chosen_succ xs ids k hk] at h
    cases e : chosenL xs (ids.take k) with
    | none => rw [e] at h; cases h
    | some l =>
      rw [e] at h
      cases e2 : idK xs ids[k] with
      | none => rw [e2] at h; cases h
      | some j =>
        rw [e2] at h
        cases h
        rw [List.length_append, chosen_len (by omega) e]; rfl
theorem putI_snoc (cs : List Int) (j : Int) : (cs ++ [j]).flatMap putI = cs.flatMap putI ++ [.int .i64 j] := by
  rw [List.flatMap_append]; rfl
end Go.Proofs.Ytnbodmbagendnaa
