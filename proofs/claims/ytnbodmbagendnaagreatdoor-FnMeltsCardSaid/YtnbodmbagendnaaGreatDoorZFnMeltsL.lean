/- Contracts and plain facts, joined: SearchIngot, ChosenS, Chosen. -/
import Derived.Test.YtnbodmbagendnaaGreatDoorRows
import Derived.Test.YtnbodmbagendnaaGreatDoorZFnMeltsB
import Derived.Test.YtnbodmbagendnaaGreatDoorZFnMeltsG
import Derived.Test.YtnbodmbagendnaaGreatDoorZFnMeltsH
import Derived.Test.YtnbodmbagendnaaGreatDoorZFnMeltsK
namespace Go.Proofs.YtnbodmbagendnaaGreatDoor
open Go.ChangeShapes Go.WideShapes Go.ChangeAt Go.RowKit Go.Deep Go.Joins
set_option linter.unusedVariables false
set_option maxRecDepth 100000
set_option linter.unusedSimpArgs false
theorem impl_ingotAt1 (x : Ingot) (a : ByteArray) (w : World) : Calls Tryz.prog 108 #[.agg #[.string x.id, .int .i64 x.mass, .int .i64 x.alloy.copper, .int .i64 x.alloy.tin, .int .i64 x.alloy.other], .string a] w fun e w' => e = .returned (.int .i64 (cmpS x.id a)) ∧ Below w.heap.size w w' := by
  go_enter Tryz.func108, Tryz.ntmps108
  go_wp2_with (first | (go_at_call 52; refine (cmp_Compare_str _ _ _).mono ?_; rintro e w' ⟨rfl, rfl⟩))
  go_ret
  exact ⟨rfl, by (repeat' (first | (with_reducible exact Below.refl _ _) | (with_reducible assumption) | (with_reducible refine below_dn ?_ _) | (with_reducible refine Below.drew ?_) | (with_reducible refine Below.alloc ?_ ?_ _) | (with_reducible refine Below.setCell ?_ ?_ _) | go_size))⟩

def cmpIngot (xs : List Ingot) (t : ByteArray) (k : Nat) : Int := (xs[k]?).elim 1 fun x => cmpS x.id t
theorem cmpIngot_at {xs : List Ingot} {t : ByteArray} {k : Nat} (h : k < xs.length) : cmpIngot xs t k = (fun x : Ingot => cmpS x.id t) xs[k] := by
  unfold cmpIngot
  rw [List.getElem?_eq_getElem h]
  rfl

set_option maxHeartbeats 2000000 in
theorem BinarySearch_Ingot (w : World) (v : Value) (xs : List Ingot) (t : ByteArray) (h : Rd w.heap.size w v 5 xs.length (xs.flatMap Ingot.put)) (hn : xs.length ≤ 1048576) :
    Calls Tryz.prog 107 #[v, .string t, .func (.func 108) #[] #[]] w fun e w' => (∃ i : Nat, e = .returned (.tuple #[.int .i64 i, .bool (decide (i < xs.length) && decide (cmpIngot xs t i = 0))]) ∧ Found (cmpIngot xs t) xs.length i) ∧ Below w.heap.size w w' := by
  obtain ⟨hL, ao, cap, rfl, hcap, hmax, hnil, hsome⟩ := h
  go_enter Tryz.func107, Tryz.ntmps107
  go_wp2
  go_loopw [9, 10] (fun i j wr => ∃ (a b : Nat), a ≤ b ∧ b ≤ xs.length ∧ i = .int .i64 a ∧ j = .int .i64 b ∧ Part (cmpIngot xs t) xs.length a b ∧ Below w.heap.size w wr) (fun i j _ => (intOf j).toNat - (intOf i).toNat)
  case atStart => exact ⟨0, xs.length, Nat.zero_le _, Nat.le_refl _, rfl, rfl, part_start _ _, Below.refl _ _⟩
  case round =>
    obtain ⟨a, b, hab, hbn, rfl, rfl, hpart, hb⟩ := hrel
    have HP := Lib.hid hpart; clear hpart
    by_cases hlt : a < b
    · obtain ⟨b0, off, rfl, hbB, hc⟩ := hsome (by omega)
      obtain ⟨m, hm, ham, hmb⟩ : ∃ m : Nat, ((a : Int) + (b : Int)) / 2 = ((m : Nat) : Int) ∧ a ≤ m ∧ m < b := ⟨(a + b) / 2, by omega, by omega, by omega⟩
      have hml : m < xs.length := by omega
      have c0 : wr.cell? ⟨b0, off + m * 5, none⟩ = some (.string xs[m].id) := by rw [show off + m * 5 = off + (m * 5 + 0) from by omega, hb.cell (p := ⟨b0, off + (m * 5 + 0), none⟩) hbB, hc (m * 5 + 0) (by omega), Ingot_get0 xs m hml]
      have c1 : wr.cell? ⟨b0, off + m * 5 + 1, none⟩ = some (.int .i64 xs[m].mass) := by rw [show off + m * 5 + 1 = off + (m * 5 + 1) from by omega, hb.cell (p := ⟨b0, off + (m * 5 + 1), none⟩) hbB, hc (m * 5 + 1) (by omega), Ingot_get1 xs m hml]
      have c2 : wr.cell? ⟨b0, off + m * 5 + 2, none⟩ = some (.int .i64 xs[m].alloy.copper) := by rw [show off + m * 5 + 2 = off + (m * 5 + 2) from by omega, hb.cell (p := ⟨b0, off + (m * 5 + 2), none⟩) hbB, hc (m * 5 + 2) (by omega), Ingot_get2 xs m hml]
      have c3 : wr.cell? ⟨b0, off + m * 5 + 3, none⟩ = some (.int .i64 xs[m].alloy.tin) := by rw [show off + m * 5 + 3 = off + (m * 5 + 3) from by omega, hb.cell (p := ⟨b0, off + (m * 5 + 3), none⟩) hbB, hc (m * 5 + 3) (by omega), Ingot_get3 xs m hml]
      have c4 : wr.cell? ⟨b0, off + m * 5 + 4, none⟩ = some (.int .i64 xs[m].alloy.other) := by rw [show off + m * 5 + 4 = off + (m * 5 + 4) from by omega, hb.cell (p := ⟨b0, off + (m * 5 + 4), none⟩) hbB, hc (m * 5 + 4) (by omega), Ingot_get4 xs m hml]
      have HC := Lib.hid (cmpIngot_at (t := t) hml)
      have HB := Lib.hid hb
      have hws := hb.size
      have hbr : b0 < wr.heap.size := Nat.lt_of_lt_of_le hbB hws
      clear hc hsome hb hnil
      by_cases hneg : cmpIngot xs t m < 0
      · have HN := Lib.hid hneg
        rw [HC.out] at hneg
        go_wp2_with fail
        go_at_call 108
        refine (impl_ingotAt1 xs[m] t _).mono ?_; rintro e1 w1 ⟨rfl, b1⟩
        have HB1 := Lib.hid (HB.out.trans (b1.mono HB.out.size)); clear b1 HB
        go_wp2_with fail
        go_roundw
        case rel => exact ⟨m + 1, b, by omega, by omega, by go_num, rfl, part_up HP.out hml HN.out, HB1.out⟩
        case measure => simp [intOf]; omega
      · have HN := Lib.hid hneg
        rw [HC.out] at hneg
        go_wp2_with fail
        go_at_call 108
        refine (impl_ingotAt1 xs[m] t _).mono ?_; rintro e1 w1 ⟨rfl, b1⟩
        have HB1 := Lib.hid (HB.out.trans (b1.mono HB.out.size)); clear b1 HB
        go_wp2_with fail
        go_roundw
        case rel => exact ⟨a, m, by omega, by omega, rfl, by go_num, part_down HP.out (by have := HN.out; omega), HB1.out⟩
        case measure => simp [intOf]; omega
    · obtain rfl : a = b := by omega
      by_cases hml : a < xs.length
      · obtain ⟨b0, off, rfl, hbB, hc⟩ := hsome (by omega)
        have c0 : wr.cell? ⟨b0, off + a * 5, none⟩ = some (.string xs[a].id) := by rw [show off + a * 5 = off + (a * 5 + 0) from by omega, hb.cell (p := ⟨b0, off + (a * 5 + 0), none⟩) hbB, hc (a * 5 + 0) (by omega), Ingot_get0 xs a hml]
        have c1 : wr.cell? ⟨b0, off + a * 5 + 1, none⟩ = some (.int .i64 xs[a].mass) := by rw [show off + a * 5 + 1 = off + (a * 5 + 1) from by omega, hb.cell (p := ⟨b0, off + (a * 5 + 1), none⟩) hbB, hc (a * 5 + 1) (by omega), Ingot_get1 xs a hml]
        have c2 : wr.cell? ⟨b0, off + a * 5 + 2, none⟩ = some (.int .i64 xs[a].alloy.copper) := by rw [show off + a * 5 + 2 = off + (a * 5 + 2) from by omega, hb.cell (p := ⟨b0, off + (a * 5 + 2), none⟩) hbB, hc (a * 5 + 2) (by omega), Ingot_get2 xs a hml]
        have c3 : wr.cell? ⟨b0, off + a * 5 + 3, none⟩ = some (.int .i64 xs[a].alloy.tin) := by rw [show off + a * 5 + 3 = off + (a * 5 + 3) from by omega, hb.cell (p := ⟨b0, off + (a * 5 + 3), none⟩) hbB, hc (a * 5 + 3) (by omega), Ingot_get3 xs a hml]
        have c4 : wr.cell? ⟨b0, off + a * 5 + 4, none⟩ = some (.int .i64 xs[a].alloy.other) := by rw [show off + a * 5 + 4 = off + (a * 5 + 4) from by omega, hb.cell (p := ⟨b0, off + (a * 5 + 4), none⟩) hbB, hc (a * 5 + 4) (by omega), Ingot_get4 xs a hml]
        have HC := Lib.hid (cmpIngot_at (t := t) hml)
        have HB := Lib.hid hb
        have hws := hb.size
        have hbr : b0 < wr.heap.size := Nat.lt_of_lt_of_le hbB hws
        clear hc hsome hb hnil
        by_cases hz : cmpIngot xs t a = 0
        · have E : Hid ((decide (a < xs.length) && decide (cmpIngot xs t a = 0)) = true) := (by simp [hml, hz] : (decide (a < xs.length) && decide (cmpIngot xs t a = 0)) = true)
          rw [HC.out] at hz
          have hz2 := (beq_iff_eq (α := Int)).2 hz
          have HZ := Lib.hid hz; clear hz
          simp only at hz2
          go_wp2_with fail
          go_at_call 108
          refine (impl_ingotAt1 xs[a] t _).mono ?_; rintro e1 w1 ⟨rfl, b1⟩
          have HB1 := Lib.hid (HB.out.trans (b1.mono HB.out.size)); clear b1 HB
          go_wp2_with fail
          go_ret2
          exact ⟨⟨a, by rw [E.out]; rfl, part_end HP.out hbn⟩, HB1.out⟩
        · have E : Hid ((decide (a < xs.length) && decide (cmpIngot xs t a = 0)) = false) := (by simp [hz] : (decide (a < xs.length) && decide (cmpIngot xs t a = 0)) = false)
          rw [HC.out] at hz
          have hz2 := (beq_eq_false_iff_ne (α := Int)).2 hz
          have HZ := Lib.hid hz; clear hz
          simp only at hz2
          go_wp2_with fail
          go_at_call 108
          refine (impl_ingotAt1 xs[a] t _).mono ?_; rintro e1 w1 ⟨rfl, b1⟩
          have HB1 := Lib.hid (HB.out.trans (b1.mono HB.out.size)); clear b1 HB
          go_wp2_with fail
          go_ret2
          exact ⟨⟨a, by rw [E.out]; rfl, part_end HP.out hbn⟩, HB1.out⟩
      · have E : Hid ((decide (a < xs.length) && decide (cmpIngot xs t a = 0)) = false) := (by simp [hml] : (decide (a < xs.length) && decide (cmpIngot xs t a = 0)) = false)
        have HB := Lib.hid hb; clear hb
        go_wp2_with fail
        go_ret2
        exact ⟨⟨a, by rw [E.out]; rfl, part_end HP.out hbn⟩, HB.out⟩
end Go.Proofs.YtnbodmbagendnaaGreatDoor
namespace Go.Proofs.YtnbodmbagendnaaGreatDoor
open Go.ChangeShapes Go.WideShapes Go.ChangeAt Go.RowKit Go.Deep Go.Joins
set_option linter.unusedVariables false
set_option maxRecDepth 100000
set_option linter.unusedSimpArgs false
def idK (xs : List Ingot) (a : ByteArray) : Option Nat := xs.findIdx? fun x => strEq x.id a
theorem idK_some {xs : List Ingot} {a : ByteArray} {k : Nat} (h : idK xs a = some k) : ∃ hk : k < xs.length, xs[k].id = a := by
  obtain ⟨hk, h1, _⟩ := List.findIdx?_eq_some_iff_getElem.1 h
  exact ⟨hk, strEq_iff.1 h1⟩
theorem idK_none {xs : List Ingot} {a : ByteArray} (h : idK xs a = none) (k : Nat) (hk : k < xs.length) : xs[k].id ≠ a := by
  intro e
  have := List.findIdx?_eq_none_iff.1 h xs[k] (List.getElem_mem hk)
  rw [e, strEq_iff.2 rfl] at this
  cases this
/-- the ids rise -/
def Rises (xs : List Ingot) : Prop := ∀ i j (hij : i < j) (hj : j < xs.length), ltName xs[i].id xs[j].id = true
theorem rises_of {xs : List Ingot} (h : validIngotS xs = true) : Rises xs := by
  simp only [validIngotS, Bool.and_eq_true] at h
  have step : ∀ k (hk : k + 1 < xs.length), ltName xs[k].id xs[k + 1].id = true := fun k hk => by
    have h1 := allK_true h.1 (k + 1) hk
    have h2 := (validIngotS_true (xs := xs) (by simp only [validIngotS, Bool.and_eq_true]; exact h)).2 xs[k + 1] (List.getElem_mem hk)
    rw [stepB_pos hk (by omega) h2] at h1
    exact h1
  intro i j hij hj
  induction j with
  | zero => omega
  | succ j ih =>
    rcases Nat.lt_or_ge i j with h1 | h1
    · exact ltName_trans (ih h1 (by omega)) (step j hj)
    · obtain rfl : i = j := by omega
      exact step i hj
theorem rises_inj {xs : List Ingot} (h : Rises xs) {i j : Nat} (hi : i < xs.length) (hj : j < xs.length) (e : xs[i].id = xs[j].id) : i = j := by
  rcases Nat.lt_trichotomy i j with h1 | h1 | h1
  · have := h i j h1 hj; rw [e, ltName_irrefl] at this; cases this
  · exact h1
  · have := h j i h1 hi; rw [e, ltName_irrefl] at this; cases this
theorem idK_at {xs : List Ingot} (h : Rises xs) {k : Nat} (hk : k < xs.length) : idK xs xs[k].id = some k := by
  cases e : idK xs xs[k].id with
  | none => exact absurd rfl (idK_none e k hk)
  | some j =>
    obtain ⟨hj, e2⟩ := idK_some e
    rw [rises_inj h hj hk e2]
theorem falls_of {xs : List Ingot} (h : Rises xs) (t : ByteArray) : Falls (cmpIngot xs t) xs.length := by
  intro a b hab hb hc
  rw [cmpIngot_at hb] at hc
  rw [cmpIngot_at (by omega)]
  rw [cmpS_lt] at *
  rcases Nat.lt_or_ge a b with h1 | h1
  · exact ltName_trans (h a b h1 hb) hc
  · obtain rfl : a = b := by omega
    exact hc
theorem found_idK {xs : List Ingot} (h : Rises xs) {t : ByteArray} {i : Nat} (hf : Found (cmpIngot xs t) xs.length i) :
    (decide (i < xs.length) && decide (cmpIngot xs t i = 0)) = (idK xs t).isSome ∧ ∀ k, idK xs t = some k → i = k := by
  obtain ⟨hi, hp⟩ := hf
  obtain ⟨h1, h2⟩ := hp (falls_of h t)
  have key : ∀ k, idK xs t = some k → i = k := by
    intro k hk
    obtain ⟨hkl, e⟩ := idK_some hk
    have e0 : cmpIngot xs t k = 0 := by rw [cmpIngot_at hkl]; exact cmpS_zero.2 e
    have hik : i ≤ k := by
      rcases Nat.lt_or_ge k i with h3 | h3
      · have := h1 k h3; omega
      · exact h3
    rcases Nat.lt_or_ge i k with h3 | h3
    · have h4 := h2 i (Nat.le_refl _) (by omega)
      rw [cmpIngot_at (by omega)] at h4
      have h5 : cmpS xs[i].id t < 0 := cmpS_lt.2 (by rw [← e]; exact h i k h3 hkl)
      simp only at h4; omega
    · omega
  refine ⟨?_, key⟩
  cases e : idK xs t with
  | none =>
    by_cases hl : i < xs.length
    · have : cmpIngot xs t i ≠ 0 := by
        rw [cmpIngot_at hl]
        exact fun h0 => idK_none e i hl (cmpS_zero.1 h0)
      simp [this]
    · simp [hl]
  | some k =>
    obtain rfl := key k e
    obtain ⟨hl, e2⟩ := idK_some e
    have : cmpIngot xs t i = 0 := by rw [cmpIngot_at hl]; exact cmpS_zero.2 e2
    simp [hl, this]

def chosenL (xs : List Ingot) (ids : List ByteArray) : Option (List Int) := ids.foldl (fun acc a => acc.bind fun l => (idK xs a).map fun k => l ++ [(k : Int)]) (some [])
theorem chosen_succ (xs : List Ingot) (ids : List ByteArray) (k : Nat) (hk : k < ids.length) : chosenL xs (ids.take (k + 1)) = (chosenL xs (ids.take k)).bind fun l => (idK xs ids[k]).map fun j => l ++ [(j : Int)] := by
  unfold chosenL
  rw [List.take_succ_eq_append_getElem hk, List.foldl_append]
  rfl
theorem chosen_dead (xs : List Ingot) (l : List ByteArray) : l.foldl (fun acc a => acc.bind fun l => (idK xs a).map fun k => l ++ [(k : Int)]) (none : Option (List Int)) = none := by
  induction l with
  | nil => rfl
  | cons a l ih => exact ih
theorem chosen_none {xs : List Ingot} {ids : List ByteArray} {k : Nat} (h : chosenL xs (ids.take k) = none) : chosenL xs ids = none := by
  have e : ids = ids.take k ++ ids.drop k := (List.take_append_drop k ids).symm
  unfold chosenL at *
  rw [e, List.foldl_append, h]
  exact chosen_dead xs _
theorem chosen_no {xs : List Ingot} {ids : List ByteArray} {k : Nat} (hk : k < ids.length) (h : idK xs ids[k] = none) : chosenL xs ids = none := by
  refine chosen_none (k := k + 1) ?_
  rw [chosen_succ xs ids k hk, h]
  cases chosenL xs (ids.take k) <;> rfl
theorem chosen_yes {xs : List Ingot} {ids : List ByteArray} {k : Nat} {cs : List Int} (hk : k < ids.length) (h0 : chosenL xs (ids.take k) = some cs) {j : Nat} (h : idK xs ids[k] = some j) : chosenL xs (ids.take (k + 1)) = some (cs ++ [(j : Int)]) := by
  rw [chosen_succ xs ids k hk, h0, h]; rfl
theorem chosen_len {xs : List Ingot} {ids : List ByteArray} : ∀ {k : Nat} {cs : List Int}, k ≤ ids.length → chosenL xs (ids.take k) = some cs → cs.length = k
  | 0, cs, _, h => by
    have : chosenL xs (ids.take 0) = some [] := rfl
    rw [this] at h; cases h; rfl
  | k + 1, cs, hk, h => by
    rw [chosen_succ xs ids k hk] at h
    cases e : chosenL xs (ids.take k) with
    | none => rw [e] at h; cases h
    | some l =>
      rw [e] at h
      cases e2 : idK xs ids[k] with
      | none => rw [e2] at h; cases h
      | some j =>
        rw [e2] at h
        cases h
        rw [List.length_append, chosen_len (by omega) e]; rfl
theorem putI_snoc (cs : List Int) (j : Int) : (cs ++ [j]).flatMap putI = cs.flatMap putI ++ [.int .i64 j] := by
  rw [List.flatMap_append]; rfl
end Go.Proofs.YtnbodmbagendnaaGreatDoor
namespace Go.Proofs.YtnbodmbagendnaaGreatDoor
open Go.ChangeShapes Go.WideShapes Go.ChangeAt Go.RowKit Go.Deep Go.Joins
set_option linter.unusedVariables false
set_option maxRecDepth 100000
set_option linter.unusedSimpArgs false
theorem impl_ingotAt (w : World) (v : Value) (xs : List Ingot) (t : ByteArray) (h : Rd w.heap.size w v 5 xs.length (xs.flatMap Ingot.put)) (hn : xs.length ≤ 1048576) (hr : Rises xs) :
    Calls Tryz.prog 85 #[v, .string t] w fun e w' => (∃ i : Nat, e = .returned (.tuple #[.int .i64 i, .bool (idK xs t).isSome]) ∧ i ≤ xs.length ∧ ∀ k, idK xs t = some k → i = k) ∧ Below w.heap.size w w' := by
  have H := Lib.hid (BinarySearch_Ingot w v xs t h hn)
  have HR := Lib.hid hr
  clear h hr
  go_enter Tryz.func85, Tryz.ntmps85
  go_wp2_with fail
  refine H.out.mono ?_; rintro e w1 ⟨⟨i, rfl, hf⟩, b1⟩
  have HF := Lib.hid (found_idK HR.out hf)
  have hi := hf.1
  have HF0 := Lib.hid hf
  clear hf
  go_wp2_with fail
  go_ret2
  exact ⟨⟨i, by rw [← HF.out.1]; rfl, hi, HF.out.2⟩, b1⟩

set_option maxHeartbeats 2000000 in
theorem impl_choiceOf (w : World) (v : Value) (xs : List Ingot) (x : Melt) (lo : Option Addr) (lc : Nat) (h : Rd w.heap.size w v 5 xs.length (xs.flatMap Ingot.put)) (hn : xs.length ≤ 1048576) (hr : Rises xs)
    (h2 : Rd w.heap.size w (.slice lo x.ingots.length lc) 1 x.ingots.length (x.ingots.flatMap putStr)) (hn2 : x.ingots.length ≤ 1048576) :
    Calls Tryz.prog 59 #[v, .agg #[.string x.id, .slice lo x.ingots.length lc, .int .i64 x.mass]] w fun e w' => (∃ u : Value, e = .returned (.tuple #[u, .bool (chosenL xs x.ingots).isSome]) ∧ ∀ cs, chosenL xs x.ingots = some cs → Rd w'.heap.size w' u 1 cs.length (cs.flatMap putI)) ∧ Below w.heap.size w w' := by
  have H1 := Lib.hid h; clear h
  have HR := Lib.hid hr; clear hr
  obtain ⟨hL, ao, cap, he, hcap, hmax, hnil, hsome⟩ := h2
  cases he
  obtain ⟨i0, hi, hz0, hz1, hz2⟩ := info_parts info_i64
  go_enter Tryz.func59, Tryz.ntmps59
  go_wp2
  go_loopw [6, 14] (fun u i wr => ∃ (k : Nat) (cs : List Int), k ≤ x.ingots.length ∧ i = .int .i64 k ∧ chosenL xs (x.ingots.take k) = some cs ∧ wr.ownsRow w.heap.size 2 1 u k (cs.flatMap putI) ∧ Below w.heap.size w wr) (fun _ i _ => x.ingots.length - (intOf i).toNat)
  case atStart => exact ⟨0, [], Nat.zero_le _, rfl, rfl, own_nil _ _ _ _, by (repeat' (first | (with_reducible exact Below.refl _ _) | (with_reducible assumption) | (with_reducible refine below_dn ?_ _) | (with_reducible refine Below.drew ?_) | (with_reducible refine Below.alloc ?_ ?_ _) | (with_reducible refine Below.setCell ?_ ?_ _) | go_size))⟩
  case round =>
    obtain ⟨k, cs, hk, rfl, hch, hown, hb⟩ := hrel
    have HCH := Lib.hid hch; clear hch
    have HO := Lib.hid hown; clear hown
    by_cases hlt : k < x.ingots.length
    · obtain ⟨b, off, rfl, hbB, hc⟩ := hsome (by omega)
      have c0 : wr.cell? ⟨b, off + k, none⟩ = some (.string x.ingots[k]) := by
        rw [hb.cell (p := ⟨b, off + k, none⟩) hbB, hc k (by omega), putStr_get x.ingots k hlt]
      have HC := Lib.hid (impl_ingotAt wr v xs x.ingots[k] (H1.out.up hb) hn HR.out)
      have hws := hb.size
      have HB := Lib.hid hb
      clear hc hsome hnil hb
      cases hf : idK xs x.ingots[k] with
      | none =>
        have e : Hid (chosenL xs x.ingots = none) := (chosen_no hlt hf : chosenL xs x.ingots = none)
        rw [hf] at HC
        clear hf hi hz0 hz1 hz2
        go_wp2_with fail
        refine HC.out.mono ?_; rintro e1 w1 ⟨⟨i, rfl, _, _⟩, b1⟩
        have HB1 := Lib.hid (HB.out.trans (b1.mono hws)); clear b1 HC
        go_wp2_with fail
        go_ret2
        exact ⟨⟨.slice none 0 0, by rw [e.out]; rfl, fun cs hcs => by rw [e.out] at hcs; cases hcs⟩, HB1.out⟩
      | some j =>
        have e : Hid (chosenL xs (x.ingots.take (k + 1)) = some (cs ++ [(j : Int)])) := (chosen_yes hlt HCH.out hf : chosenL xs (x.ingots.take (k + 1)) = some (cs ++ [(j : Int)]))
        have hjl : j < xs.length := (idK_some hf).1
        rw [hf] at HC
        clear hf
        go_wp2_with fail
        refine HC.out.mono ?_; rintro e1 w1 ⟨⟨i, rfl, _, hij⟩, b1⟩
        obtain rfl := hij j rfl
        have HB1 := Lib.hid (HB.out.trans (b1.mono hws))
        have HO1 := Lib.hid (own_below HO.out b1 (Nat.le_refl _))
        have hws1 : w.heap.size ≤ w1.heap.size := HB1.out.size
        clear b1 HC hij HO c0
        go_wp2_with (at_builtin; refine app_el rfl _ _ 71 2 i0 (.int .i64 0) 1 8 Tryz.underlying71 hi hz0 hz1 hz2 rfl (by decide) rfl w1 w.heap.size _ k (cs.flatMap putI) (by rfl) HO1.out [.int .i64 i] rfl (by intro u hu; simp at hu; subst hu; rfl) (by rfl) (by omega) (by decide) hws1 ?_; intro g gc w2 hown2 hB2 hz)
        have HB2 := Lib.hid (hB2 w HB1.out)
        have HO2 := Lib.hid hown2
        clear hown2 hB2
        go_roundw
        case rel => exact ⟨k + 1, _, by omega, by go_num, e.out, by rw [putI_snoc]; exact HO2.out, HB2.out⟩
        case measure => simp [intOf]; omega
    · have e : Hid (chosenL xs x.ingots = some cs) := (by
        have := HCH.out
        rwa [take_all (by omega)] at this : chosenL xs x.ingots = some cs)
      obtain rfl : k = x.ingots.length := by omega
      have HL := Lib.hid (chosen_len (Nat.le_refl _) HCH.out)
      have HB := Lib.hid hb; clear hb hi hz0 hz1 hz2 hsome
      go_wp2
      go_ret2
      refine ⟨⟨_, by rw [e.out]; rfl, fun cs' hcs => ?_⟩, HB.out⟩
      rw [e.out] at hcs
      cases hcs
      have := own_rd HO.out
      rwa [← HL.out] at this
end Go.Proofs.YtnbodmbagendnaaGreatDoor
