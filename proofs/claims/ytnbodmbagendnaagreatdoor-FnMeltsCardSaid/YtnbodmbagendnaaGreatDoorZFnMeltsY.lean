/- Contracts and plain facts, joined: SearchMelt, DropL. -/
import Derived.Test.YtnbodmbagendnaaGreatDoorRows
import Derived.Test.YtnbodmbagendnaaGreatDoorZFnMeltsB
import Derived.Test.YtnbodmbagendnaaGreatDoorZFnMeltsK
import Derived.Test.YtnbodmbagendnaaGreatDoorZFnMeltsL
import Derived.Test.YtnbodmbagendnaaGreatDoorZFnMeltsM
import Derived.Test.YtnbodmbagendnaaGreatDoorZFnMeltsO
import Derived.Test.YtnbodmbagendnaaGreatDoorZFnMeltsX
namespace Go.Proofs.YtnbodmbagendnaaGreatDoor
open Go.ChangeShapes Go.WideShapes Go.ChangeAt Go.RowKit Go.Deep Go.Joins
set_option linter.unusedVariables false
set_option maxRecDepth 100000
set_option linter.unusedSimpArgs false
theorem impl_meltAt1 (x : Melt) (lo : Option Addr) (lc : Nat) (a : ByteArray) (w : World) : Calls Tryz.prog 51 #[.agg #[.string x.id, .slice lo x.ingots.length lc, .int .i64 x.mass], .string a] w fun e w' => e = .returned (.int .i64 (cmpS x.id a)) ∧ Below w.heap.size w w' := by
  go_enter Tryz.func51, Tryz.ntmps51
  go_wp2_with (first | (go_at_call 52; refine (cmp_Compare_str _ _ _).mono ?_; rintro e w' ⟨rfl, rfl⟩))
  go_ret
  exact ⟨rfl, by (repeat' (first | (with_reducible exact Below.refl _ _) | (with_reducible assumption) | (with_reducible refine below_dn ?_ _) | (with_reducible refine Below.drew ?_) | (with_reducible refine Below.alloc ?_ ?_ _) | (with_reducible refine Below.setCell ?_ ?_ _) | go_size))⟩

def cmpMelt (xs : List Melt) (t : ByteArray) (k : Nat) : Int := (xs[k]?).elim 1 fun x => cmpS x.id t
theorem cmpMelt_at {xs : List Melt} {t : ByteArray} {k : Nat} (h : k < xs.length) : cmpMelt xs t k = (fun x : Melt => cmpS x.id t) xs[k] := by
  unfold cmpMelt
  rw [List.getElem?_eq_getElem h]
  rfl

set_option maxHeartbeats 2000000 in
theorem BinarySearch_Melt (w : World) (v : Value) (xs : List Melt) (t : ByteArray) (h : RdM w.heap.size w v xs) (hn : xs.length ≤ 1048576) :
    Calls Tryz.prog 50 #[v, .string t, .func (.func 51) #[] #[]] w fun e w' => (∃ i : Nat, e = .returned (.tuple #[.int .i64 i, .bool (decide (i < xs.length) && decide (cmpMelt xs t i = 0))]) ∧ Found (cmpMelt xs t) xs.length i) ∧ Below w.heap.size w w' := by
  obtain ⟨ao, cap, rfl, hcap, hmax, hsome⟩ := h
  go_enter Tryz.func50, Tryz.ntmps50
  go_wp2
  go_loopw [9, 10] (fun i j wr => ∃ (a b : Nat), a ≤ b ∧ b ≤ xs.length ∧ i = .int .i64 a ∧ j = .int .i64 b ∧ Part (cmpMelt xs t) xs.length a b ∧ Below w.heap.size w wr) (fun i j _ => (intOf j).toNat - (intOf i).toNat)
  case atStart => exact ⟨0, xs.length, Nat.zero_le _, Nat.le_refl _, rfl, rfl, part_start _ _, Below.refl _ _⟩
  case round =>
    obtain ⟨a, b, hab, hbn, rfl, rfl, hpart, hb⟩ := hrel
    have HP := Lib.hid hpart; clear hpart
    by_cases hlt : a < b
    · obtain ⟨b0, off, rfl, hbB, hc⟩ := hsome (by omega)
      obtain ⟨m, hm, ham, hmb⟩ : ∃ m : Nat, ((a : Int) + (b : Int)) / 2 = ((m : Nat) : Int) ∧ a ≤ m ∧ m < b := ⟨(a + b) / 2, by omega, by omega, by omega⟩
      have hml : m < xs.length := by omega
      obtain ⟨l, p0, p1, p2, hr⟩ := hc m hml
      obtain ⟨lo, lc, rfl⟩ := hr.form
      have c0 := (hb.cell (p := ⟨b0, off + m * 3, none⟩) hbB).trans p0
      have c1 := (hb.cell (p := ⟨b0, off + m * 3 + 1, none⟩) hbB).trans p1
      have c2 := (hb.cell (p := ⟨b0, off + m * 3 + 2, none⟩) hbB).trans p2
      clear p0 p1 p2 hr
      have HC := Lib.hid (cmpMelt_at (t := t) hml)
      have HB := Lib.hid hb
      have hws := hb.size
      have hbr : b0 < wr.heap.size := Nat.lt_of_lt_of_le hbB hws
      clear hc hsome hb
      by_cases hneg : cmpMelt xs t m < 0
      · have HN := Lib.hid hneg
        rw [HC.out] at hneg
        go_wp2_with fail
        go_at_call 51
        refine (impl_meltAt1 xs[m] _ _ t _).mono ?_; rintro e1 w1 ⟨rfl, b1⟩
        have HB1 := Lib.hid (HB.out.trans (b1.mono HB.out.size)); clear b1 HB
        go_wp2_with fail
        go_roundw
        case rel => exact ⟨m + 1, b, by omega, by omega, by go_num, rfl, part_up HP.out hml HN.out, HB1.out⟩
        case measure => simp [intOf]; omega
      · have HN := Lib.hid hneg
        rw [HC.out] at hneg
        go_wp2_with fail
        go_at_call 51
        refine (impl_meltAt1 xs[m] _ _ t _).mono ?_; rintro e1 w1 ⟨rfl, b1⟩
        have HB1 := Lib.hid (HB.out.trans (b1.mono HB.out.size)); clear b1 HB
        go_wp2_with fail
        go_roundw
        case rel => exact ⟨a, m, by omega, by omega, rfl, by go_num, part_down HP.out (by have := HN.out; omega), HB1.out⟩
        case measure => simp [intOf]; omega
    · obtain rfl : a = b := by omega
      by_cases hml : a < xs.length
      · obtain ⟨b0, off, rfl, hbB, hc⟩ := hsome (by omega)
        obtain ⟨l, p0, p1, p2, hr⟩ := hc a hml
        obtain ⟨lo, lc, rfl⟩ := hr.form
        have c0 := (hb.cell (p := ⟨b0, off + a * 3, none⟩) hbB).trans p0
        have c1 := (hb.cell (p := ⟨b0, off + a * 3 + 1, none⟩) hbB).trans p1
        have c2 := (hb.cell (p := ⟨b0, off + a * 3 + 2, none⟩) hbB).trans p2
        clear p0 p1 p2 hr
        have HC := Lib.hid (cmpMelt_at (t := t) hml)
        have HB := Lib.hid hb
        have hws := hb.size
        have hbr : b0 < wr.heap.size := Nat.lt_of_lt_of_le hbB hws
        clear hc hsome hb
        by_cases hz : cmpMelt xs t a = 0
        · have E : Hid ((decide (a < xs.length) && decide (cmpMelt xs t a = 0)) = true) := (by simp [hml, hz] : (decide (a < xs.length) && decide (cmpMelt xs t a = 0)) = true)
          rw [HC.out] at hz
          have hz2 := (beq_iff_eq (α := Int)).2 hz
          have HZ := Lib.hid hz; clear hz
          simp only at hz2
          go_wp2_with fail
          go_at_call 51
          refine (impl_meltAt1 xs[a] _ _ t _).mono ?_; rintro e1 w1 ⟨rfl, b1⟩
          have HB1 := Lib.hid (HB.out.trans (b1.mono HB.out.size)); clear b1 HB
          go_wp2_with fail
          go_ret2
          exact ⟨⟨a, by rw [E.out]; rfl, part_end HP.out hbn⟩, HB1.out⟩
        · have E : Hid ((decide (a < xs.length) && decide (cmpMelt xs t a = 0)) = false) := (by simp [hz] : (decide (a < xs.length) && decide (cmpMelt xs t a = 0)) = false)
          rw [HC.out] at hz
          have hz2 := (beq_eq_false_iff_ne (α := Int)).2 hz
          have HZ := Lib.hid hz; clear hz
          simp only at hz2
          go_wp2_with fail
          go_at_call 51
          refine (impl_meltAt1 xs[a] _ _ t _).mono ?_; rintro e1 w1 ⟨rfl, b1⟩
          have HB1 := Lib.hid (HB.out.trans (b1.mono HB.out.size)); clear b1 HB
          go_wp2_with fail
          go_ret2
          exact ⟨⟨a, by rw [E.out]; rfl, part_end HP.out hbn⟩, HB1.out⟩
      · have E : Hid ((decide (a < xs.length) && decide (cmpMelt xs t a = 0)) = false) := (by simp [hml] : (decide (a < xs.length) && decide (cmpMelt xs t a = 0)) = false)
        have HB := Lib.hid hb; clear hb
        go_wp2_with fail
        go_ret2
        exact ⟨⟨a, by rw [E.out]; rfl, part_end HP.out hbn⟩, HB.out⟩
end Go.Proofs.YtnbodmbagendnaaGreatDoor
namespace Go.Proofs.YtnbodmbagendnaaGreatDoor
open Go.ChangeShapes Go.WideShapes Go.ChangeAt Go.RowKit Go.Deep Go.Joins
set_option linter.unusedVariables false
set_option maxRecDepth 100000
set_option linter.unusedSimpArgs false
def RisesM (xs : List Melt) : Prop := ∀ i j (_ : i < j) (hj : j < xs.length), ltName xs[i].id xs[j].id = true
theorem risesM_of {xs : List Melt} (h : meltsB xs = true) : RisesM xs := by
  have hA : allK (meltsAt xs) xs.length = true := by
    unfold meltsB at h
    rw [Bool.and_eq_true] at h
    exact h.1
  have step : ∀ k (hk : k + 1 < xs.length), ltName xs[k].id xs[k + 1].id = true := fun k hk => by
    have h1 := allK_true hA (k + 1) hk
    rw [meltsAt_eq hk, Bool.and_eq_true, Bool.and_eq_true] at h1
    have h2 := h1.2.1
    rw [ltPrev_pos hk (by omega)] at h2
    exact h2
  intro i j hij hj
  induction j with
  | zero => omega
  | succ j ih =>
    rcases Nat.lt_or_ge i j with h1 | h1
    · exact ltName_trans (ih h1 (by omega)) (step j hj)
    · obtain rfl : i = j := by omega
      exact step i hj
def idM (xs : List Melt) (a : ByteArray) : Option Nat := xs.findIdx? fun x => strEq x.id a
theorem idM_some {xs : List Melt} {a : ByteArray} {k : Nat} (h : idM xs a = some k) : ∃ hk : k < xs.length, xs[k].id = a := by
  obtain ⟨hk, h1, _⟩ := List.findIdx?_eq_some_iff_getElem.1 h
  exact ⟨hk, strEq_iff.1 h1⟩
theorem idM_none {xs : List Melt} {a : ByteArray} (h : idM xs a = none) (k : Nat) (hk : k < xs.length) : xs[k].id ≠ a := by
  intro e
  have := List.findIdx?_eq_none_iff.1 h xs[k] (List.getElem_mem hk)
  rw [e, strEq_iff.2 rfl] at this
  cases this
theorem risesM_inj {xs : List Melt} (h : RisesM xs) {i j : Nat} (hi : i < xs.length) (hj : j < xs.length) (e : xs[i].id = xs[j].id) : i = j := by
  rcases Nat.lt_trichotomy i j with h1 | h1 | h1
  · have := h i j h1 hj; rw [e, ltName_irrefl] at this; cases this
  · exact h1
  · have := h j i h1 hi; rw [e, ltName_irrefl] at this; cases this
theorem fallsM_of {xs : List Melt} (h : RisesM xs) (t : ByteArray) : Falls (cmpMelt xs t) xs.length := by
  intro a b hab hb hc
  rw [cmpMelt_at hb] at hc
  rw [cmpMelt_at (by omega)]
  rw [cmpS_lt] at *
  rcases Nat.lt_or_ge a b with h1 | h1
  · exact ltName_trans (h a b h1 hb) hc
  · obtain rfl : a = b := by omega
    exact hc
theorem cmpS_gt {a b : ByteArray} (h1 : ¬ cmpS a b < 0) (h2 : cmpS a b ≠ 0) : ltName b a = true :=
  ltName_total (by rw [← Bool.not_eq_true]; exact fun q => h1 (cmpS_lt.2 q)) (fun q => h2 (cmpS_zero.2 q))
theorem meltsB_all {ms : List Melt} (h : meltsB ms = true) : ms.length ≤ 12 ∧ ∀ m ∈ ms, meltB m = true := by
  simp only [meltsB, Bool.and_eq_true, decide_eq_true_eq] at h
  refine ⟨h.2, fun m hm => ?_⟩
  obtain ⟨i, hi, rfl⟩ := List.mem_iff_getElem.1 hm
  have := allK_true h.1 i hi
  rw [meltsAt_eq hi, Bool.and_eq_true] at this
  exact this.1
/-- where the search ends -/
theorem found_idM {xs : List Melt} (h : RisesM xs) {t : ByteArray} {i : Nat} (hf : Found (cmpMelt xs t) xs.length i) :
    (decide (i < xs.length) && decide (cmpMelt xs t i = 0)) = (idM xs t).isSome ∧ (∀ k, idM xs t = some k → i = k) ∧ i ≤ xs.length ∧ (∀ j (hj : j < xs.length), j < i → ltName xs[j].id t = true) ∧ (idM xs t = none → ∀ j (hj : j < xs.length), i ≤ j → ltName t xs[j].id = true) := by
  obtain ⟨hi, hp⟩ := hf
  obtain ⟨h1, h2⟩ := hp (fallsM_of h t)
  have key : ∀ k, idM xs t = some k → i = k := by
    intro k hk
    obtain ⟨hkl, e⟩ := idM_some hk
    have e0 : cmpMelt xs t k = 0 := by rw [cmpMelt_at hkl]; exact cmpS_zero.2 e
    have hik : i ≤ k := by
      rcases Nat.lt_or_ge k i with h3 | h3
      · have := h1 k h3; omega
      · exact h3
    rcases Nat.lt_or_ge i k with h3 | h3
    · have h4 := h2 i (Nat.le_refl _) (by omega)
      rw [cmpMelt_at (by omega)] at h4
      have h5 : cmpS xs[i].id t < 0 := cmpS_lt.2 (by rw [← e]; exact h i k h3 hkl)
      simp only at h4; omega
    · omega
  refine ⟨?_, key, hi, fun j hj hji => ?_, fun hn j hj hij => ?_⟩
  · cases e : idM xs t with
    | none =>
      by_cases hl : i < xs.length
      · have : cmpMelt xs t i ≠ 0 := by
          rw [cmpMelt_at hl]
          exact fun h0 => idM_none e i hl (cmpS_zero.1 h0)
        simp [this]
      · simp [hl]
    | some k =>
      obtain rfl := key k e
      obtain ⟨hl, e2⟩ := idM_some e
      have : cmpMelt xs t i = 0 := by rw [cmpMelt_at hl]; exact cmpS_zero.2 e2
      simp [hl, this]
  · have := h1 j hji
    rw [cmpMelt_at hj] at this
    exact cmpS_lt.1 this
  · have h4 := h2 j hij hj
    rw [cmpMelt_at hj] at h4
    exact cmpS_gt (by simp only at h4 ⊢; omega) (fun h0 => idM_none hn j hj (cmpS_zero.1 h0))
/-- the melts whose id is another -/
def dropF (a : ByteArray) (xs : List Melt) : List Melt := xs.filter fun x => !(strEq x.id a)
def dropS (xs : List Melt) (a : ByteArray) : List Melt × Int := if meltsB xs = true then (if (idM xs a).isSome = true then (dropF a xs, 0) else ([], 3)) else ([], 1)
theorem dropF_no {xs : List Melt} {a : ByteArray} {k : Nat} (hk : k < xs.length) (h : strEq xs[k].id a = true) : dropF a (xs.take (k + 1)) = dropF a (xs.take k) := by
  unfold dropF
  rw [List.take_succ_eq_append_getElem hk, List.filter_append]
  simp [h]
theorem dropF_yes {xs : List Melt} {a : ByteArray} {k : Nat} (hk : k < xs.length) (h : strEq xs[k].id a = false) : dropF a (xs.take (k + 1)) = dropF a (xs.take k) ++ [xs[k]] := by
  unfold dropF
  rw [List.take_succ_eq_append_getElem hk, List.filter_append]
  simp [h]
theorem dropF_len (a : ByteArray) (xs : List Melt) (k : Nat) : (dropF a (xs.take k)).length ≤ k := by
  have h1 := List.length_filter_le (fun x : Melt => !(strEq x.id a)) (xs.take k)
  rw [List.length_take] at h1
  unfold dropF
  omega
theorem dropF_all {xs : List Melt} {a : ByteArray} (h : ∀ x ∈ xs, strEq x.id a = false) : dropF a xs = xs := by
  unfold dropF
  rw [List.filter_eq_self]
  exact fun x hx => by rw [h x hx]; rfl
theorem dropF_none {xs : List Melt} {a : ByteArray} (h : idM xs a = none) : dropF a xs = xs := dropF_all fun x hx => by
  obtain ⟨i, hi, rfl⟩ := List.mem_iff_getElem.1 hx
  rw [← Bool.not_eq_true]
  exact fun q => idM_none h i hi (strEq_iff.1 q)
theorem dropF_some {xs : List Melt} (hr : RisesM xs) {a : ByteArray} {k : Nat} (h : idM xs a = some k) : dropF a xs = xs.eraseIdx k ∧ k < xs.length := by
  obtain ⟨hk, he⟩ := idM_some h
  refine ⟨?_, hk⟩
  have e : xs = xs.take k ++ xs[k] :: xs.drop (k + 1) := by rw [← List.drop_eq_getElem_cons hk, List.take_append_drop]
  have z1 : dropF a (xs.take k) = xs.take k := dropF_all fun x hx => by
    obtain ⟨i, hi, rfl⟩ := List.mem_take_iff_getElem.1 hx
    rw [← Bool.not_eq_true]
    intro q
    have := risesM_inj hr (i := i) (j := k) (by omega) hk (by rw [strEq_iff.1 q, he])
    omega
  have z2 : dropF a (xs.drop (k + 1)) = xs.drop (k + 1) := dropF_all fun x hx => by
    obtain ⟨i, hi, rfl⟩ := List.mem_drop_iff_getElem.1 hx
    rw [← Bool.not_eq_true]
    intro q
    have := risesM_inj hr (i := k + 1 + i) (j := k) (by omega) hk (by rw [strEq_iff.1 q, he])
    omega
  have e2 : dropF a (xs.take k ++ xs[k] :: xs.drop (k + 1)) = dropF a (xs.take k) ++ dropF a (xs.drop (k + 1)) := by
    unfold dropF
    rw [List.filter_append, List.filter_cons, if_neg (by rw [strEq_iff.2 he]; simp)]
  rw [List.eraseIdx_eq_take_drop_succ]
  conv => lhs; rw [e]
  rw [e2, z1, z2]
theorem dropF_size {xs : List Melt} (hr : RisesM xs) (a : ByteArray) : ((dropF a xs).length == xs.length) = !(idM xs a).isSome := by
  cases h : idM xs a with
  | none => rw [dropF_none h]; simp
  | some k =>
    obtain ⟨e, hk⟩ := dropF_some hr h
    rw [e, List.length_eraseIdx_of_lt hk]
    simp; omega
theorem drop_bad {xs : List Melt} {a : ByteArray} (h : meltsB xs = false) : dropS xs a = ([], 1) := by unfold dropS; rw [h]; rfl
theorem drop_no {xs : List Melt} {a : ByteArray} (h : meltsB xs = true) (h2 : (idM xs a).isSome = false) : dropS xs a = ([], 3) := by unfold dropS; rw [h, h2]; rfl
theorem drop_yes {xs : List Melt} {a : ByteArray} (h : meltsB xs = true) (h2 : (idM xs a).isSome = true) : dropS xs a = (dropF a xs, 0) := by unfold dropS; rw [h, h2]; rfl
/-- what a result says is short, and each melt of it names an ingot -/
theorem dropS_fine (xs : List Melt) (a : ByteArray) : (dropS xs a).1.length ≤ 12 ∧ ∀ x ∈ (dropS xs a).1, 1 ≤ x.ingots.length ∧ x.ingots.length ≤ 16 := by
  unfold dropS
  cases hM : meltsB xs with
  | false => exact ⟨by simp, fun x hx => by simp at hx⟩
  | true =>
    obtain ⟨h12, hall⟩ := meltsB_all hM
    cases hs : (idM xs a).isSome with
    | false => exact ⟨by simp, fun x hx => by simp at hx⟩
    | true =>
      simp only [if_true]
      have := List.length_filter_le (fun x : Melt => !(strEq x.id a)) xs
      refine ⟨by unfold dropF; omega, fun x hx => ?_⟩
      have hb := meltB_parts (hall x (List.mem_filter.1 hx).1)
      exact ⟨hb.2.1, hb.2.2.1⟩
theorem said_lens {ys xs : List Melt} (h : ys.map Melt.said = xs.map Melt.said) (p : Nat → Prop) (hp : ∀ x ∈ xs, p x.ingots.length) : ∀ y ∈ ys, p y.ingots.length := fun y hy => by
  obtain ⟨x, hx, e⟩ := said_mem h hy
  rw [← e]; exact hp x hx
end Go.Proofs.YtnbodmbagendnaaGreatDoor
