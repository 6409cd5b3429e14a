/- Contracts and plain facts, joined: ChosenR, ValidMeltsS, MetalS, MarkT, Turn, MarkString, AppSl, HSpot, OneSpot, VSpot, AddL. -/
import Derived.Test.YtnbodmbagendnaaRows
import Derived.Test.YtnbodmbagendnaaZFnExactAddMeltE
import Derived.Laws.IdiomStrings
import Derived.Laws.AppendOwnNone
namespace Go.Proofs.Ytnbodmbagendnaa
open Go.ChangeShapes Go.WideShapes Go.ChangeAt Go.RowKit Go.Deep Go.Joins
set_option linter.unusedVariables false
set_option maxRecDepth 100000
set_option linter.unusedSimpArgs false
def optL : Option Nat → List Int
  | none => []
  | some j => [(j : Int)]
theorem idK_take_no {xs : List Ingot} {a : ByteArray} {m : Nat} (hm : m < xs.length) (h : strEq xs[m].id a = false) : idK (xs.take (m + 1)) a = idK (xs.take m) a := by
  unfold idK
  rw [List.take_succ_eq_append_getElem hm, List.findIdx?_append]
  cases List.findIdx? (fun x => strEq x.id a) (xs.take m) with
  | some j => rfl
  | none => simp [List.findIdx?_cons, h]
theorem idK_take_none {xs : List Ingot} (hr : Rises xs) {a : ByteArray} {m : Nat} (hm : m < xs.length) (h : strEq xs[m].id a = true) : idK (xs.take m) a = none := by
  cases e : idK (xs.take m) a with
  | none => rfl
  | some j =>
    obtain ⟨hj, e2⟩ := idK_some e
    have hj2 : j < m := by rw [List.length_take] at hj; omega
    rw [List.getElem_take] at e2
    have := rises_inj hr (by omega) hm (e2.trans (strEq_iff.1 h).symm)
    omega
theorem idK_take_yes {xs : List Ingot} (hr : Rises xs) {a : ByteArray} {m : Nat} (hm : m < xs.length) (h : strEq xs[m].id a = true) : idK (xs.take (m + 1)) a = some m := by
  have h0 := idK_take_none hr hm h
  unfold idK at *
  rw [List.take_succ_eq_append_getElem hm, List.findIdx?_append, h0]
  simp [List.findIdx?_cons, h]
  omega

theorem own_none {w : World} {B k : Nat} {E : TypeId} {v : Value} {cs : List Int} (h : w.ownsRow B E 1 v (k + (optL none).length) ((cs ++ optL none).flatMap putI)) : w.ownsRow B E 1 v k (cs.flatMap putI) := by
  simpa [optL] using h

set_option maxHeartbeats 4000000 in
theorem spec_l14Chosen (w : World) (v : Value) (xs : List Ingot) (ids : List ByteArray) (a1 o1 : Nat) (v1 : Value) (h : Rd w.heap.size w v 5 xs.length (xs.flatMap Ingot.put)) (hn : xs.length ≤ 1048576) (hr : Rises xs)
    (g1 : w.cell? ⟨a1, o1 + 1, none⟩ = some v1) (ha1 : a1 < w.heap.size) (h2 : Rd w.heap.size w v1 1 ids.length (ids.flatMap putStr)) (hn2 : ids.length ≤ 1048576) :
    Calls Try.prog 118 #[v, .pointer (some ⟨a1, o1, none⟩)] w fun e w' => (∃ u : Value, e = .returned (.tuple #[u, .bool (chosenL xs ids).isSome]) ∧ ∀ cs, chosenL xs ids = some cs → Rd w'.heap.size w' u 1 cs.length (cs.flatMap putI)) ∧ Below w.heap.size w w' := by
  obtain ⟨hL, ao, cap, rfl, hcap, hmax, hnil, hsome⟩ := h
  obtain ⟨hL2, ao2, cap2, rfl, hcap2, hmax2, hnil2, hsome2⟩ := h2
  have HR := Lib.hid hr; clear hr
  obtain ⟨i0, hi, hz0, hz1, hz2⟩ := info_parts info_i64
  go_enter Try.func118, Try.ntmps118
  go_wp2
  go_loopw [6, 7, 8, 9] (fun u i _ _ wr => ∃ (k : Nat) (cs : List Int), k ≤ ids.length ∧ i = .int .i64 k ∧ chosenL xs (ids.take k) = some cs ∧ wr.ownsRow w.heap.size 2 1 u k (cs.flatMap putI) ∧ Below w.heap.size w wr) (fun _ i _ _ _ => ids.length - (intOf i).toNat)
  case atStart => exact ⟨0, [], Nat.zero_le _, rfl, rfl, own_empty w _ _ _ (Nat.le_refl _), by (repeat' (first | (with_reducible exact Below.refl _ _) | (with_reducible assumption) | (with_reducible refine below_dn ?_ _) | (with_reducible refine Below.drew ?_) | (with_reducible refine Below.alloc ?_ ?_ _) | (with_reducible refine Below.setCell ?_ ?_ _) | go_size))⟩
  case round =>
    obtain ⟨k, cs, hk, rfl, hch, hown, hb⟩ := hrel
    have HCH := Lib.hid hch; clear hch
    have HO := Lib.hid hown; clear hown
    have e1 : wr.cell? ⟨a1, o1 + 1, none⟩ = some (.slice ao2 ids.length cap2) := (hb.cell (p := ⟨a1, o1 + 1, none⟩) ha1).trans g1
    have HB := Lib.hid hb; clear hb
    by_cases hlt : k < ids.length
    · go_wp2
      obtain ⟨wo, rfl⟩ : ∃ wo : World, wo = wr := ⟨_, rfl⟩
      clear e1
      go_loopw [6, 8, 9] (fun u f j wr => ∃ (m : Nat), m ≤ xs.length ∧ j = .int .i64 m ∧ f = .bool (idK (xs.take m) ids[k]).isSome ∧ wr.ownsRow w.heap.size 2 1 u (k + (optL (idK (xs.take m) ids[k])).length) ((cs ++ optL (idK (xs.take m) ids[k])).flatMap putI) ∧ Below w.heap.size w wr) (fun _ _ j _ => xs.length - (intOf j).toNat)
      case atStart => exact ⟨0, Nat.zero_le _, rfl, rfl, by simpa [idK, optL] using HO.out, HB.out⟩
      case round =>
        clear HO HB
        obtain ⟨m, hm, rfl, rfl, hown, hb⟩ := hrel
        have HO := Lib.hid hown; clear hown
        have e1 : wr.cell? ⟨a1, o1 + 1, none⟩ = some (.slice ao2 ids.length cap2) := (hb.cell (p := ⟨a1, o1 + 1, none⟩) ha1).trans g1
        have hw1 : a1 < wr.heap.size := Nat.lt_of_lt_of_le ha1 hb.size
        by_cases hlt2 : m < xs.length
        · obtain ⟨b, off, rfl, hbB, hc⟩ := hsome (by omega)
          obtain ⟨b2, off2, rfl, hbB2, hc2⟩ := hsome2 (by omega)
          have c0 : wr.cell? ⟨b, off + m * 5, none⟩ = some (.string xs[m].id) := by
            rw [show off + m * 5 = off + (m * 5 + 0) from by omega, hb.cell (p := ⟨b, off + (m * 5 + 0), none⟩) hbB, hc (m * 5 + 0) (by omega), Ingot_get0 xs m hlt2]
          have d0 : wr.cell? ⟨b2, off2 + k, none⟩ = some (.string ids[k]) := by
            rw [hb.cell (p := ⟨b2, off2 + k, none⟩) hbB2, hc2 k (by omega), putStr_get ids k hlt]
          have hbr : b < wr.heap.size := Nat.lt_of_lt_of_le hbB hb.size
          have hbr2 : b2 < wr.heap.size := Nat.lt_of_lt_of_le hbB2 hb.size
          have hws := hb.size
          have HB := Lib.hid hb
          clear hc hc2 hsome hsome2 hnil hnil2 hb g1
          cases hE : strEq xs[m].id ids[k]
          · have e : Hid (idK (xs.take (m + 1)) ids[k] = idK (xs.take m) ids[k]) := idK_take_no hlt2 hE
            have t1 := strEq_f hE
            clear hE hi hz0 hz1 hz2
            generalize idK (xs.take m) ids[k] = oo at *
            go_wp2_with fail
            refine wp_region_above (by kernel_rfl) (by kernel_rfl) ?_
            repeat (go_big_quiet_step (fail))
            refine wpQuiet_nil ?_
            intro w1 b1
            have HB1 := Lib.hid (HB.out.trans (b1.mono HB.out.size))
            have HO1 := Lib.hid (own_below HO.out b1 (Nat.le_refl _)); clear b1 HB HO
            go_wp2_with fail
            go_roundw
            case rel => exact ⟨m + 1, by omega, by go_num, by rw [e.out], by rw [e.out]; exact HO1.out, HB1.out⟩
            case measure => simp [intOf]; omega
          · have e : Hid (idK (xs.take (m + 1)) ids[k] = some m) := idK_take_yes HR.out hlt2 hE
            rw [idK_take_none HR.out hlt2 hE] at HO ⊢
            have t1 := strEq_t hE
            clear hE
            go_wp2_with fail
            refine wp_region_above (by kernel_rfl) (by kernel_rfl) ?_
            repeat (go_big_quiet_step (fail))
            refine wpQuiet_nil ?_
            intro w1 b1
            have HB1 := Lib.hid (HB.out.trans (b1.mono HB.out.size))
            have HO1 := Lib.hid (own_none (own_below HO.out b1 (Nat.le_refl _)))
            have hws1 : w.heap.size ≤ w1.heap.size := HB1.out.size
            clear b1 HB HO c0 d0 e1
            go_wp2_with (at_builtin; refine app_el rfl _ _ 40 2 i0 (.int .i64 0) 1 8 Try.underlying40 hi hz0 hz1 hz2 rfl (by decide) rfl w1 w.heap.size _ k (cs.flatMap putI) (by rfl) HO1.out [.int .i64 m] rfl (by intro u hu; simp at hu; subst hu; rfl) (by rfl) (by omega) (by decide) hws1 ?_; intro g gc w2 hown2 hB2 hz)
            have HB2 := Lib.hid (hB2 w HB1.out)
            have HO2 := Lib.hid hown2
            clear hown2 hB2
            go_roundw
            case rel => exact ⟨m + 1, by omega, by go_num, by rw [e.out]; rfl, by rw [e.out]; show World.ownsRow _ _ _ _ _ (k + 1) ((cs ++ [(m : Int)]).flatMap putI); rw [putI_snoc]; exact HO2.out, HB2.out⟩
            case measure => simp [intOf]; omega
        · have em : Hid (xs.take m = xs) := (take_all (by omega) : xs.take m = xs)
          rw [em.out] at HO ⊢
          have HB := Lib.hid hb
          clear hb hi hz0 hz1 hz2 hsome hsome2
          cases hf : idK xs ids[k] with
          | none =>
            have e : Hid (chosenL xs ids = none) := (chosen_no hlt hf : chosenL xs ids = none)
            clear hf HO
            go_wp2
            go_ret2
            exact ⟨⟨.slice none 0 0, by rw [e.out]; rfl, fun cs hcs => by rw [e.out] at hcs; cases hcs⟩, HB.out⟩
          | some j =>
            have e : Hid (chosenL xs (ids.take (k + 1)) = some (cs ++ [(j : Int)])) := chosen_yes hlt HCH.out hf
            rw [hf] at HO
            clear hf
            go_wp2
            go_roundw
            case rel => exact ⟨k + 1, _, by omega, by go_num, e.out, HO.out, HB.out⟩
            case measure => simp [intOf]; omega
    · have e : Hid (chosenL xs ids = some cs) := (by
        have := HCH.out
        rwa [take_all (by omega)] at this : chosenL xs ids = some cs)
      obtain rfl : k = ids.length := by omega
      have HL := Lib.hid (chosen_len (Nat.le_refl _) HCH.out)
      clear hi hz0 hz1 hz2 hsome hsome2
      go_wp2
      go_ret2
      refine ⟨⟨_, by rw [e.out]; rfl, fun cs' hcs => ?_⟩, HB.out⟩
      rw [e.out] at hcs
      cases hcs
      have := own_rd HO.out
      rwa [← HL.out] at this
end Go.Proofs.Ytnbodmbagendnaa
namespace Go.Proofs.Ytnbodmbagendnaa
open Go.ChangeShapes Go.WideShapes Go.ChangeAt Go.RowKit Go.Deep Go.Joins
set_option linter.unusedVariables false
set_option maxRecDepth 100000
set_option linter.unusedSimpArgs false
/-- what the program may ask of a melt's parts -/
def Melt.fine (x : Melt) : Prop := x.id.size ≤ maxLen ∧ (∀ s ∈ x.ingots, s.size ≤ maxLen) ∧ I64 x.mass ∧ x.ingots.length ≤ 1048576
/-- the id before it is less -/
def ltPrev (xs : List Melt) (k : Nat) : Bool :=
  match k with
  | 0 => true
  | j + 1 => match xs[j]?, xs[j + 1]? with
    | some y, some x => ltName y.id x.id
    | _, _ => true
def meltsAt (xs : List Melt) (k : Nat) : Bool :=
  match xs[k]? with
  | none => true
  | some x => meltB x && (ltPrev xs k && !((xs.take k).any fun y => commonB y.ingots x.ingots))
def meltsB (xs : List Melt) : Bool := allK (meltsAt xs) xs.length && decide (xs.length ≤ 12)
section
variable {xs : List Melt} {k : Nat}
theorem ltPrev_zero (h : k = 0) : ltPrev xs k = true := by subst h; rfl
theorem ltPrev_pos (hk : k < xs.length) (h : 0 < k) : ltPrev xs k = ltName xs[k - 1].id xs[k].id := by
  match k, h with
  | j + 1, _ =>
    unfold ltPrev
    simp [List.getElem?_eq_getElem hk, List.getElem?_eq_getElem (show j < xs.length by omega)]
theorem ltPrev_no (hk : k < xs.length) (h : 0 < k) (hT : ltName xs[k - 1].id xs[k].id = false) : ltPrev xs k = false := by rw [ltPrev_pos hk h, hT]
theorem ltPrev_yes (hk : k < xs.length) (h : 0 < k) (hT : ltName xs[k - 1].id xs[k].id = true) : ltPrev xs k = true := by rw [ltPrev_pos hk h, hT]
theorem meltsAt_eq (hk : k < xs.length) : meltsAt xs k = (meltB xs[k] && (ltPrev xs k && !((xs.take k).any fun y => commonB y.ingots xs[k].ingots))) := by
  unfold meltsAt
  rw [List.getElem?_eq_getElem hk]
theorem meltsAt_no (hk : k < xs.length) (h : meltB xs[k] = false) : meltsAt xs k = false := by rw [meltsAt_eq hk, h]; rfl
theorem meltsAt_lt (hk : k < xs.length) (h : ltPrev xs k = false) : meltsAt xs k = false := by rw [meltsAt_eq hk, h]; simp
theorem meltsAt_com (hk : k < xs.length) (h : ((xs.take k).any fun y => commonB y.ingots xs[k].ingots) = true) : meltsAt xs k = false := by rw [meltsAt_eq hk, h]; simp
theorem meltsAt_yes (hk : k < xs.length) (h1 : meltB xs[k] = true) (h2 : ltPrev xs k = true) (h3 : ((xs.take k).any fun y => commonB y.ingots xs[k].ingots) = false) : meltsAt xs k = true := by rw [meltsAt_eq hk, h1, h2, h3]; rfl
theorem meltsB_no (h : allK (meltsAt xs) xs.length = false) : meltsB xs = false := by unfold meltsB; rw [h]; rfl
theorem any_upto {α : Type} {p : α → Bool} {xs : List α} {m k : Nat} (hm : m < xs.length) (hk : m < k) (h : p xs[m] = true) : (xs.take k).any p = true := by
  rw [List.any_eq_true]
  exact ⟨xs[m], by rw [List.mem_take_iff_getElem]; exact ⟨m, by omega, rfl⟩, h⟩
end
theorem RdM.take {B : Nat} {w : World} {b off cap k n : Nat} {xs : List Melt} (h : RdM B w (.slice (some ⟨b, off, none⟩) n cap) xs) (hk : k ≤ xs.length) : RdM B w (.slice (some ⟨b, off, none⟩) k cap) (xs.take k) := by
  obtain ⟨ao, cap', e, hcap, hmax, hsome⟩ := h
  obtain ⟨rfl, rfl, rfl⟩ : ao = some ⟨b, off, none⟩ ∧ n = xs.length ∧ cap' = cap := by cases e; exact ⟨rfl, rfl, rfl⟩
  have hl : (xs.take k).length = k := by rw [List.length_take]; omega
  refine ⟨_, _, by rw [hl], by omega, hmax, fun hp => ?_⟩
  obtain ⟨b', off', e2, hB, hc⟩ := hsome (by omega)
  refine ⟨b', off', e2, hB, fun m hm => ?_⟩
  have hm2 : m < xs.length := by omega
  have ht : (xs.take k)[m] = xs[m] := List.getElem_take
  obtain ⟨l, c0, c1, c2, hr⟩ := hc m hm2
  exact ⟨l, by rw [ht]; exact c0, c1, by rw [ht]; exact c2, by rw [ht]; exact hr⟩
end Go.Proofs.Ytnbodmbagendnaa
namespace Go.Proofs.Ytnbodmbagendnaa
open Go.ChangeShapes Go.WideShapes Go.ChangeAt Go.RowKit Go.Deep Go.Joins
set_option linter.unusedVariables false
set_option maxRecDepth 100000
set_option linter.unusedSimpArgs false
theorem chosen_get {xs : List Ingot} {ids : List ByteArray} : ∀ {m : Nat} {cs : List Int}, m ≤ ids.length → chosenL xs (ids.take m) = some cs → ∀ (k : Nat) (hk : k < ids.length), k < m → ∃ j : Nat, cs[k]? = some (j : Int) ∧ idK xs ids[k] = some j
  | 0, _, _, _ => fun k _ hk => by omega
  | m + 1, cs, hm, h => by
    intro k hkl hk
    rw [chosen_succ xs ids m (by omega)] at h
    cases e : chosenL xs (ids.take m) with
    | none => rw [e] at h; cases h
    | some l =>
      rw [e] at h
      cases e2 : idK xs ids[m] with
      | none => rw [e2] at h; cases h
      | some j =>
        rw [e2] at h
        cases h
        have hl := chosen_len (by omega) e
        rcases Nat.lt_or_ge k m with h1 | h1
        · obtain ⟨j', e3, e4⟩ := chosen_get (by omega) e k hkl h1
          exact ⟨j', by rw [List.getElem?_append_left (by omega)]; exact e3, e4⟩
        · obtain rfl : k = m := by omega
          exact ⟨j, by rw [List.getElem?_append_right (by omega), hl, Nat.sub_self]; rfl, e2⟩
/-- texts that rise -/
def RisesT (ids : List ByteArray) : Prop := ∀ i j (_ : i < j) (hj : j < ids.length), ltName ids[i] ids[j] = true
theorem risesT_of {ids : List ByteArray} (h : allK (stepB nameB ltName ids) ids.length = true) : RisesT ids := by
  have hok : ∀ k (hk : k < ids.length), nameB ids[k] = true := fun k hk => by
    have := allK_true h k hk
    unfold stepB at this
    rw [List.getElem?_eq_getElem hk] at this
    simp only [Bool.and_eq_true] at this
    exact this.1
  have step : ∀ k (hk : k + 1 < ids.length), ltName ids[k] ids[k + 1] = true := fun k hk => by
    have h1 := allK_true h (k + 1) hk
    rw [stepB_pos hk (by omega) (hok (k + 1) hk)] at h1
    exact h1
  intro i j hij hj
  induction j with
  | zero => omega
  | succ j ih =>
    rcases Nat.lt_or_ge i j with h1 | h1
    · exact ltName_trans (ih h1 (by omega)) (step j hj)
    · obtain rfl : i = j := by omega
      exact step i hj
theorem meltB_parts {x : Melt} (h : meltB x = true) : nameB x.id = true ∧ 1 ≤ x.ingots.length ∧ x.ingots.length ≤ 16 ∧ allK (stepB nameB ltName x.ingots) x.ingots.length = true ∧ 1 ≤ x.mass ∧ x.mass ≤ 320000000 := by
  simp only [meltB, Bool.and_eq_true, decide_eq_true_eq] at h
  exact ⟨h.1, h.2.1, h.2.2.1, h.2.2.2.1, inB_true h.2.2.2.2⟩
theorem choice_of {xs : List Ingot} (hr : Rises xs) {ids : List ByteArray} (hi : RisesT ids) {cs : List Int} (h : chosenL xs ids = some cs) : choiceB xs.length cs = true := by
  have h0 : chosenL xs (ids.take ids.length) = some cs := by rw [take_all (Nat.le_refl _)]; exact h
  have hl := chosen_len (Nat.le_refl _) h0
  have hget : ∀ k (hk : k < cs.length), ∃ j : Nat, cs[k] = (j : Int) ∧ idK xs (ids[k]'(by omega)) = some j := fun k hk => by
    obtain ⟨j, e1, e2⟩ := chosen_get (Nat.le_refl _) h0 k (by omega) (by omega)
    rw [List.getElem?_eq_getElem hk] at e1
    exact ⟨j, by simpa using e1, e2⟩
  have hok : ∀ k (hk : k < cs.length), okC xs.length cs[k] = true := fun k hk => by
    obtain ⟨j, e1, e2⟩ := hget k hk
    obtain ⟨hj, _⟩ := idK_some e2
    rw [e1]
    exact inB_mk ⟨by omega, by omega⟩
  refine allK_intro fun k hk => ?_
  by_cases h1 : k = 0
  · exact stepB_k0 hk h1 (hok k hk)
  · refine stepB_yes hk (by omega) (hok k hk) ?_
    obtain ⟨j1, e1, e2⟩ := hget (k - 1) (by omega)
    obtain ⟨j2, e3, e4⟩ := hget k hk
    rw [e1, e3]
    obtain ⟨l1, a1⟩ := idK_some e2
    obtain ⟨l2, a2⟩ := idK_some e4
    have hlt := hi (k - 1) k (by omega) (by omega)
    have : j1 < j2 := by
      rcases Nat.lt_trichotomy j1 j2 with h | h | h
      · exact h
      · subst h
        rw [a1] at a2
        rw [a2, ltName_irrefl] at hlt; cases hlt
      · have h3 := hr j2 j1 h l1
        rw [a1, a2] at h3
        have := ltName_trans hlt h3
        rw [ltName_irrefl] at this; cases this
    simp only [ltC, decide_eq_true_eq]; omega
/-- the metal of a melt whose ingots exist -/
def metalS (xs : List Ingot) (ids : List ByteArray) : Int := (chosenL xs ids).elim 0 (sumK massF xs)
def mostS (xs : List Ingot) (ids : List ByteArray) : Int := metalS xs ids - divR (metalS xs ids * 20000) 1000000
def askS (xs : List Ingot) (x : Melt) : Int := if validIngotS xs && meltB x then (if (chosenL xs x.ingots).isSome then 0 else 3) else 1
theorem metalS_some {xs : List Ingot} {ids : List ByteArray} {cs : List Int} (h : chosenL xs ids = some cs) : metalS xs ids = sumK massF xs cs := by unfold metalS; rw [h]; rfl
end Go.Proofs.Ytnbodmbagendnaa
namespace Go.Proofs.Ytnbodmbagendnaa
open Go.ChangeShapes Go.WideShapes Go.ChangeAt Go.RowKit Go.Deep Go.Joins
set_option linter.unusedVariables false
set_option maxRecDepth 100000
set_option linter.unusedSimpArgs false
def digB (k : Nat) : ByteArray := ⟨#[UInt8.ofNat (48 + k % 10)]⟩
theorem digB_size (k : Nat) : (digB k).size = 1 := rfl
/-- the digits of k ahead of out -/
def mkT : Nat → Nat → ByteArray → ByteArray
  | 0, _, out => out
  | f + 1, k, out => if k = 0 then out else mkT f (k / 10) (digB k ++ out)
def markT (k : Nat) : ByteArray := ⟨#[109]⟩ ++ mkT k k ⟨#[]⟩
theorem byte_str (W : World) (x : Nat) (hx : x < 256) : (convert 22 9 (.slice (some ⟨W.heap.size, 0, none⟩) 1 1)).run Try.prog (W.alloc (.cells #[.int .u8 (x : Int)] 5)) = .ok (.string ⟨#[UInt8.ofNat x]⟩) (W.alloc (.cells #[.int .u8 (x : Int)] 5)) := by
  have h := run_convert_bytes_back (P := Try.prog) (W.alloc (.cells #[.int .u8 (x : Int)] 5)) 22 9 5 ⟨W.heap.size, 0, none⟩ 1 [UInt8.ofNat x] Try.underlying22 Try.underlying5 Try.underlying9 (fun j hj => by
    have : j = 0 := by simpa using hj
    subst this
    rw [show (Addr.add ⟨W.heap.size, 0, none⟩ 0) = (⟨W.heap.size, 0, none⟩ : Addr) from rfl]
    have hc := (Own.new W 5 [.int .u8 (x : Int)]).cell 0
    rw [show ([Value.int .u8 (x : Int)] : List Value).toArray = #[.int .u8 (x : Int)] from rfl] at hc
    rw [hc]
    have : (UInt8.ofNat x).toNat = x := by rw [UInt8.toNat_ofNat']; omega
    simp [this])
  simpa using h

theorem byte_str' (W : World) (x : Int) (j : Nat) (h : x = ((48 + j % 10 : Nat) : Int)) : (convert 22 9 (.slice (some ⟨W.heap.size, 0, none⟩) 1 1)).run Try.prog (W.alloc (.cells #[.int .u8 x] 5)) = .ok (.string (digB j)) (W.alloc (.cells #[.int .u8 x] 5)) := by
  subst h; exact byte_str W _ (by omega)

set_option maxHeartbeats 1000000 in
theorem markText (k : Nat) (w : World) (h1 : 1 ≤ k) (hk : k ≤ 1073741824) :
    Calls Try.prog 89 #[.int .i64 (k : Int)] w fun e w' => e = .returned (.string (markT k)) ∧ Below w.heap.size w w' := by
  go_enter Try.func89, Try.ntmps89
  go_wp2
  go_loopw [0, 3] (fun i s wr => ∃ (f j : Nat) (out : ByteArray), i = .int .i64 (j : Int) ∧ s = .string out ∧ j ≤ f ∧ out.size + f ≤ k ∧ mkT f j out = mkT k k ⟨#[]⟩ ∧ Below w.heap.size w wr) (fun i _ _ => (intOf i).toNat)
  case atStart => exact ⟨k, k, ⟨#[]⟩, rfl, rfl, Nat.le_refl _, by simp [ByteArray.size], rfl, Below.refl _ _⟩
  case round =>
    obtain ⟨f, j, out, rfl, rfl, hj, hs, he, hb⟩ := hrel
    have HE := Lib.hid he; clear he
    by_cases hlt : 0 < j
    · obtain ⟨f, rfl⟩ : ∃ f', f = f' + 1 := ⟨f - 1, by omega⟩
      have E : Hid (mkT f (j / 10) (digB j ++ out) = mkT k k ⟨#[]⟩) := (by
        have := HE.out
        rw [mkT, if_neg (by omega)] at this
        exact this : mkT f (j / 10) (digB j ++ out) = mkT k k ⟨#[]⟩)
      have kc := byte_str' wr (48 + (j : Int) % 10) j (by omega)
      have hd := digB_size j
      have t0 : decide ((0 : Int) < (j : Int)) = true := decide_eq_true (by omega)
      have HB := Lib.hid hb; clear hb HE
      go_wp2
      go_roundw
      case rel => exact ⟨f, j / 10, digB j ++ out, by go_num, rfl, by omega, by rw [ByteArray.size_append]; omega, E.out, Below.trans HB.out ((Below.refl _ _).alloc (by exact HB.out.size) _)⟩
      case measure => simp [intOf]; omega
    · have e : Hid (mkT k k ⟨#[]⟩ = out) := (by
        have := HE.out
        have h0 : j = 0 := by omega
        rw [← this, h0]
        cases f <;> rfl : mkT k k ⟨#[]⟩ = out)
      have t0 : decide ((0 : Int) < (j : Int)) = false := decide_eq_false (by omega)
      clear HE
      have HB := Lib.hid hb; clear hb
      go_wp2
      go_ret
      exact ⟨by unfold markT; rw [e.out]; rfl, HB.out⟩
end Go.Proofs.Ytnbodmbagendnaa
namespace Go.Proofs.Ytnbodmbagendnaa
open Go.ChangeShapes Go.WideShapes Go.ChangeAt Go.RowKit Go.Deep Go.Joins
set_option linter.unusedVariables false
set_option maxRecDepth 100000
set_option linter.unusedSimpArgs false
/-- blocks of lo .. hi may have been written; all others are as they were -/
def Turn (lo hi : Nat) (w w' : World) : Prop := w'.os = w.os ∧ w'.tape = w.tape ∧ w'.output = w.output ∧ w.heap.size ≤ w'.heap.size ∧ (∀ b, b < w.heap.size → (b < lo ∨ hi ≤ b) → w'.heap[b]? = w.heap[b]?) ∧ ∀ b E L, Own w b E L → ∃ L', L'.length = L.length ∧ Own w' b E L'
section
variable {lo hi : Nat} {w w' a b c : World}
theorem Turn.size (h : Turn lo hi w w') : w.heap.size ≤ w'.heap.size := h.2.2.2.1
theorem Turn.kept (h : Turn lo hi w w') {g : Nat} (hg : g < w.heap.size) (ho : g < lo ∨ hi ≤ g) : w'.heap[g]? = w.heap[g]? := h.2.2.2.2.1 g hg ho
theorem Turn.shape (h : Turn lo hi w w') {g : Nat} {E : TypeId} {L : List Value} (ho : Own w g E L) : ∃ L', L'.length = L.length ∧ Own w' g E L' := h.2.2.2.2.2 g E L ho
theorem Turn.refl (lo hi : Nat) (w : World) : Turn lo hi w w := ⟨rfl, rfl, rfl, Nat.le_refl _, fun _ _ _ => rfl, fun _ _ L h => ⟨L, rfl, h⟩⟩
theorem Turn.of_below (h : Below w.heap.size w w') : Turn lo hi w w' := ⟨h.os, h.tape, h.output, h.size, fun b hb _ => h.block b hb, fun _ _ L ho => ⟨L, rfl, ho.below h ho.lt⟩⟩
theorem Turn.trans (h : Turn lo hi a b) (k : Turn lo hi b c) : Turn lo hi a c :=
  ⟨k.1.trans h.1, k.2.1.trans h.2.1, k.2.2.1.trans h.2.2.1, Nat.le_trans h.size k.size, fun i hi' ho => (k.kept (Nat.lt_of_lt_of_le hi' h.size) ho).trans (h.kept hi' ho), fun _ _ _ ho => by
    obtain ⟨L1, e1, o1⟩ := h.shape ho
    obtain ⟨L2, e2, o2⟩ := k.shape o1
    exact ⟨L2, e2.trans e1, o2⟩⟩
theorem Turn.set (h : Turn lo hi a w) {g : Nat} (h1 : lo ≤ g) (h2 : g < hi) (o : Nat) (v : Value) : Turn lo hi a (w.setCell ⟨g, o, none⟩ v) :=
  h.trans ⟨rfl, rfl, rfl, by simp [World.setCell], fun k _ ho => Below.heap_setCell _ _ _ _ (by intro e; have e2 : k = g := e; omega), fun b E L ho => by
    by_cases hb : b = g
    · subst hb; exact ⟨L.set o v, by simp, ho.set o v⟩
    · exact ⟨L, rfl, ho.other (by show g ≠ b; omega) v⟩⟩
theorem Turn.wide (h : Turn lo hi w w') {lo' hi' : Nat} (h1 : lo' ≤ lo) (h2 : hi ≤ hi') : Turn lo' hi' w w' :=
  ⟨h.1, h.2.1, h.2.2.1, h.size, fun b hb ho => h.kept hb (by omega), h.2.2.2.2.2⟩
theorem Turn.below {B : Nat} (h : Turn lo hi w w') (hB : B ≤ lo) (hs : B ≤ w.heap.size) : Below B w w' :=
  ⟨h.1, h.2.1, h.2.2.1, h.size, fun b hb => h.kept (by omega) (by omega)⟩
theorem Own.turn {g : Nat} {E : TypeId} {L : List Value} (h : Own w g E L) (t : Turn lo hi w w') (hg : g < lo ∨ hi ≤ g) : Own w' g E L := (t.kept h.lt hg).trans h
end

/-- a slice, or nil, whose block lies in lo .. hi, known whole up to its length -/
def Held (lo hi : Nat) (w : World) (E : TypeId) (s : Nat) (v : Value) (n : Nat) (L : List Value) : Prop :=
  L.length = n * s ∧ ∃ ao cap, v = .slice ao n cap ∧ n ≤ cap ∧ cap ≤ maxLen ∧ (ao = none → n = 0 ∧ cap = 0) ∧ (0 < n → ∃ g U, ao = some ⟨g, 0, none⟩ ∧ lo ≤ g ∧ g < hi ∧ Own w g E (L ++ U))
section
variable {lo hi s n : Nat} {w w' : World} {E : TypeId} {v : Value} {L : List Value}
theorem Held.turn {lo' hi' : Nat} (h : Held lo hi w E s v n L) (t : Turn lo' hi' w w') (hd : hi ≤ lo' ∨ hi' ≤ lo) : Held lo hi w' E s v n L := by
  obtain ⟨h1, ao, cap, e, h2, h3, h4, h5⟩ := h
  refine ⟨h1, ao, cap, e, h2, h3, h4, fun hn => ?_⟩
  obtain ⟨g, U, e1, h6, h7, h8⟩ := h5 hn
  exact ⟨g, U, e1, h6, h7, h8.turn t (by omega)⟩
theorem Held.below (h : Held lo hi w E s v n L) (b : Below w.heap.size w w') : Held lo hi w' E s v n L := h.turn (Turn.of_below (lo := hi) (hi := hi) b) (.inl (Nat.le_refl _))
theorem Held.rd (h : Held lo hi w E s v n L) : Rd w.heap.size w v s n L := by
  obtain ⟨h1, ao, cap, e, h2, h3, h4, h5⟩ := h
  refine ⟨h1, ao, cap, e, h2, h3, h4, fun hn => ?_⟩
  obtain ⟨g, U, e1, h6, h7, h8⟩ := h5 hn
  refine ⟨g, 0, e1, h8.lt, fun i hi => ?_⟩
  rw [Nat.zero_add, h8.cell, List.getElem?_append_left (by omega)]
theorem Held.form (h : Held lo hi w E s v n L) : ∃ ao cap, v = .slice ao n cap := h.rd.form
theorem Held.wide (h : Held lo hi w E s v n L) {lo' hi' : Nat} (h1 : lo' ≤ lo) (h2 : hi ≤ hi') : Held lo' hi' w E s v n L := by
  obtain ⟨q1, ao, cap, e, q2, q3, q4, q5⟩ := h
  refine ⟨q1, ao, cap, e, q2, q3, q4, fun hn => ?_⟩
  obtain ⟨g, U, e1, h6, h7, h8⟩ := q5 hn
  exact ⟨g, U, e1, by omega, by omega, h8⟩
theorem Held.of_own {g : Nat} (h : Own w g E L) (hl : L.length = n * s) (hn : n ≤ maxLen) : Held g (g + 1) w E s (.slice (some ⟨g, 0, none⟩) n n) n L :=
  ⟨hl, _, _, rfl, Nat.le_refl _, hn, (fun h => by cases h), fun _ => ⟨g, [], rfl, Nat.le_refl _, Nat.lt_succ_self _, by simpa using h⟩⟩
theorem Held.of_row {B : Nat} (h : w.ownsRow B E s v n L) : Held B w.heap.size w E s v n L := by
  obtain ⟨h1, h2⟩ := h
  rcases h2 with ⟨rfl, rfl⟩ | ⟨g, cap, cur, rfl, hb, hg, hn, hm, hs, ht⟩
  · exact ⟨h1, none, 0, rfl, Nat.le_refl _, Nat.zero_le _, fun _ => ⟨rfl, rfl⟩, fun h => by omega⟩
  · refine ⟨h1, _, cap, rfl, hn, hm, (fun h => by cases h), fun _ => ⟨g, cur.toList.drop (n * s), rfl, hb, (Array.getElem?_eq_some_iff.1 hg).1, ?_⟩⟩
    rw [← ht, List.take_append_drop]
    simpa [Own] using hg
end
theorem markTextI (q : Int) (w : World) (h1 : 1 ≤ q) (hk : q ≤ 1073741824) :
    Calls Try.prog 89 #[.int .i64 q] w fun e w' => e = .returned (.string (markT q.toNat)) ∧ Below w.heap.size w w' := by
  have h := markText q.toNat w (by omega) (by omega)
  rwa [Int.toNat_of_nonneg (by omega)] at h
theorem marks_succ {s : Nat} (f : Nat → List Value) (hf : ∀ i, (f i).length = s) (j : Nat) : (List.range (j + 1)).flatMap f = (List.range j).flatMap f ++ f j ∧ ((List.range j).flatMap f).length = j * s := by
  refine ⟨by rw [List.range_succ, List.flatMap_append]; simp, ?_⟩
  have := flat_len (f := f) (s := s) (List.range j) (fun x _ => hf x)
  rwa [List.length_range] at this
theorem mset1 (A U : List Value) (t0 v0 : Value) (i : Nat) (hA : A.length = i) : ((A ++ t0 :: U).set (i) v0) = (A ++ [v0]) ++ U := by
  subst hA
  simp [List.set_append]
theorem mcons1 {U : List Value} {n : Nat} (h : U.length = n) (hn : 1 ≤ n) : ∃ t0 U', U = t0 :: U' ∧ U'.length = n - 1 := by
  match U, h with
  | t0 :: U', h => exact ⟨t0, U', rfl, by simp at h; omega⟩
  | [], h => simp at h; omega
theorem mA {P : Program} {f : FuncId} {args : Array Value} {w : World} {lo hi : Nat} {q c : Int} (h : Calls P f args w fun e w' => e = .returned (.int .i64 q) ∧ Turn lo hi w w') (h1 : 1 ≤ q) (h2 : q ≤ c) :
    Calls P f args w fun e w' => ∃ q' : Int, e = .returned (.int .i64 q') ∧ 1 ≤ q' ∧ q' ≤ c ∧ Turn lo hi w w' := h.mono fun _ _ ⟨a, b⟩ => ⟨q, a, h1, h2, b⟩
theorem mA3 {P : Program} {f : FuncId} {args : Array Value} {w : World} {lo hi : Nat} {q c : Int} {R : World → Prop} (h : Calls P f args w fun e w' => e = .returned (.int .i64 q) ∧ Turn lo hi w w' ∧ R w') (h1 : 1 ≤ q) (h2 : q ≤ c) :
    Calls P f args w fun e w' => ∃ q' : Int, e = .returned (.int .i64 q') ∧ 1 ≤ q' ∧ q' ≤ c ∧ Turn lo hi w w' := h.mono fun _ _ ⟨a, b, _⟩ => ⟨q, a, h1, h2, b⟩
theorem toM {P : Program} {f : FuncId} {args : Array Value} {w : World} {q m : Int} {T : World → Prop} (h : Calls P f args w fun e w' => e = .returned (.int .i64 q) ∧ T w') (hq : q = m) :
    Calls P f args w fun e w' => e = .returned (.int .i64 m) ∧ T w' := by subst hq; exact h
end Go.Proofs.Ytnbodmbagendnaa
namespace Go.Proofs.Ytnbodmbagendnaa
open Go.ChangeShapes Go.WideShapes Go.ChangeAt Go.RowKit Go.Deep Go.Joins
set_option linter.unusedVariables false
set_option maxRecDepth 100000
set_option linter.unusedSimpArgs false
def marksString (k : Int) (n : Nat) : List Value := (List.range n).flatMap fun i => [.string (markT (k + 1 * (i : Nat)).toNat)]
theorem marksString_succ (k : Int) (j : Nat) : marksString k (j + 1) = marksString k j ++ [.string (markT (k + 1 * (j : Nat)).toNat)] ∧ (marksString k j).length = j * 1 := marks_succ (s := 1) _ (fun _ => rfl) j
set_option maxHeartbeats 2000000 in
theorem markStringS (k : Int) (w : World) (lo hi : Nat) (v : Value) (n : Nat) (L : List Value) (h : Held lo hi w 9 1 v n L) (hn : n ≤ 1048576) (h1 : 1 ≤ k) (hk : k ≤ 536870912) :
    Calls Try.prog 90 #[v, .int .i64 k] w fun e w' => e = .returned (.int .i64 (k + 1 * (n : Int))) ∧ Turn lo hi w w' ∧ Held lo hi w' 9 1 v n (marksString k n) := by
  obtain ⟨hL, ao, cap, rfl, hcap, hmax, hnil, hsome⟩ := h
  obtain ⟨g, U, hg⟩ : ∃ g U, 0 < n → ao = some ⟨g, 0, none⟩ ∧ lo ≤ g ∧ g < hi ∧ Own w g 9 (L ++ U) := by
    by_cases h0 : 0 < n
    · obtain ⟨g, U, h⟩ := hsome h0; exact ⟨g, U, fun _ => h⟩
    · exact ⟨0, [], fun h => absurd h h0⟩
  have HG := Lib.hid hg; clear hg hsome
  have HN := Lib.hid hnil; clear hnil
  go_enter Try.func90, Try.ntmps90
  go_wp2
  go_loopw [1, 5] (fun q i wr => ∃ (j : Nat), j ≤ n ∧ i = .int .i64 j ∧ q = .int .i64 (k + 1 * (j : Int)) ∧ Turn lo hi w wr ∧ (0 < n → ∃ V, V.length = n * 1 + U.length - j * 1 ∧ Own wr g 9 (marksString k j ++ V))) (fun _ i _ => n - (intOf i).toNat)
  case atStart => exact ⟨0, Nat.zero_le _, rfl, by simp, Turn.refl _ _ _, fun h0 => ⟨L ++ U, by simp [hL], (HG.out h0).2.2.2⟩⟩
  case round =>
    obtain ⟨j, hj, rfl, rfl, ht, hO⟩ := hrel
    by_cases hlt : j < n
    · obtain ⟨rfl, hlo, hhi, _⟩ := HG.out (by omega)
      obtain ⟨V, hV, ho⟩ := hO (by omega)
      obtain ⟨t0, V, rfl, hV2⟩ := mcons1 hV (by omega)
      obtain ⟨es, hA⟩ := marksString_succ k j
      obtain ⟨q, hq, hq1, hq2⟩ : ∃ q : Int, k + 1 * (j : Int) = q ∧ 1 ≤ q ∧ q ≤ 1073741000 := ⟨_, rfl, by omega, by omega⟩
      rw [hq] at es ⊢
      have e2 : Hid (k + 1 * ((j + 1 : Nat) : Int) = q + 1) := (by omega : k + 1 * ((j + 1 : Nat) : Int) = q + 1)
      have ES := Lib.hid es; clear es hq hV HG
      have HV2 := Lib.hid hV2; clear hV2
      have HT := Lib.hid ht; clear ht
      have HO := Lib.hid ho
      clear hO

      have HA := Lib.hid hA; clear ho hA
      go_wp2_with fail
      refine (markTextI q _ (by omega) (by omega)).mono ?_; rintro e w1 ⟨rfl, b1⟩
      have ho := HO.out.below b1 HO.out.lt
      have hA := HA.out
      have d0 : w1.cell? ⟨g, j, none⟩ = some t0 := by rw [ho.cell, List.getElem?_append_right (by omega), hA]; simp
      have f0 := ho.free (j)
      have HB1 := Lib.hid b1; clear b1
      have HO1 := Lib.hid ho; clear ho hA
      have hOo : Hid (Own _ g 9 _) := Lib.hid ((HO1.out.set (j) (.string (markT (q).toNat))))
      have hTt : Hid (Turn lo hi w _) := Lib.hid ((Turn.set (HT.out.trans (Turn.of_below HB1.out)) hlo hhi (j) (.string (markT (q).toNat))))
      rw [mset1 _ _ t0 (.string (markT (q).toNat)) _ (HA.out.trans (Nat.mul_one _)), ← ES.out] at hOo
      clear HO HT
      go_wp2_with fail
      go_roundw
      case rel => exact ⟨j + 1, by omega, by go_num, by rw [e2.out] <;> go_num, hTt.out, fun _ => ⟨V, by have := HV2.out; omega, hOo.out⟩⟩
      case measure => simp [intOf]; omega
    · have hjn : j = n := by omega
      subst hjn
      have hlen := (marksString_succ k j).2
      have HT := Lib.hid ht; clear ht
      have HO := Lib.hid hO; clear hO
      go_wp2
      go_ret
      refine ⟨rfl, HT.out, hlen, ao, cap, rfl, hcap, hmax, HN.out, fun h0 => ?_⟩
      obtain ⟨e, hlo, hhi, _⟩ := HG.out h0
      obtain ⟨V, _, h⟩ := HO.out h0
      exact ⟨g, V, e, hlo, hhi, h⟩

theorem marksString_get (k : Int) (n j : Nat) (h : j < n) (x : Nat) (hx : x < 1) : (marksString k n)[j * 1 + x]? = ([.string (markT (k + 1 * (j : Nat)).toNat)] : List Value)[x]? := by
  unfold marksString
  rw [flat_get (s := 1) (List.range n) (fun _ _ => rfl) hx j]
  simp [List.getElem?_range h]

set_option maxHeartbeats 2000000 in
theorem heldStringS (k : Int) (w : World) (v : Value) (n : Nat) (h : Rd w.heap.size w v 1 n (marksString k n)) (hn : n ≤ 1048576) (h1 : 1 ≤ k) (hk : k ≤ 536870912) :
    Calls Try.prog 91 #[v, .int .i64 k] w fun e w' => e = .returned (.int .i64 (k + 1 * (n : Int))) ∧ Below w.heap.size w w' := by
  obtain ⟨hL, ao, cap, rfl, hcap, hmax, hnil, hsome⟩ := h
  clear hnil
  go_enter Try.func91, Try.ntmps91
  go_wp2
  go_loopw [1, 5] (fun q i wr => ∃ (j : Nat), j ≤ n ∧ i = .int .i64 j ∧ q = .int .i64 (k + 1 * (j : Int)) ∧ Below w.heap.size w wr) (fun _ i _ => n - (intOf i).toNat)
  case atStart => exact ⟨0, Nat.zero_le _, rfl, by simp, Below.refl _ _⟩
  case round =>
    obtain ⟨j, hj, rfl, rfl, hb⟩ := hrel
    by_cases hlt : j < n
    · obtain ⟨b, off, rfl, hbB, hc⟩ := hsome (by omega)
      obtain ⟨q, hq, hq1, hq2⟩ : ∃ q : Int, k + 1 * (j : Int) = q ∧ 1 ≤ q ∧ q ≤ 1073741000 := ⟨_, rfl, by omega, by omega⟩
      have c0 : wr.cell? ⟨b, off + j, none⟩ = some (.string (markT (q).toNat)) := by
        rw [show off + j = off + (j * 1 + 0) from by omega, hb.cell (p := ⟨b, off + (j * 1 + 0), none⟩) hbB, hc (j * 1 + 0) (by omega), marksString_get k n j hlt 0 (by omega), hq]; try rfl
      rw [hq]
      have e2 : Hid (k + 1 * ((j + 1 : Nat) : Int) = q + 1) := (by omega : k + 1 * ((j + 1 : Nat) : Int) = q + 1)
      have hbr : b < wr.heap.size := Nat.lt_of_lt_of_le hbB hb.size
      have HB := Lib.hid hb
      clear hc hsome hb hq hL

      go_wp2_with fail
      refine wp_region_above (by kernel_rfl) (by kernel_rfl) ?_
      repeat (go_big_quiet_step (((go_at_call 89; exact aboveC (markTextI q _ (by omega) (by omega))))))
      refine wpQuiet_nil ?_
      intro w1 b1
      have HB1 := Lib.hid (HB.out.trans (b1.mono HB.out.size))
      clear b1
      go_wp2_with fail
      go_roundw
      case rel => exact ⟨j + 1, by omega, by go_num, by rw [e2.out] <;> go_num, HB1.out⟩
      case measure => simp [intOf]; omega
    · have hjn : j = n := by omega
      subst hjn
      have HB := Lib.hid hb; clear hb hsome
      go_wp2
      go_ret
      exact ⟨rfl, HB.out⟩
end Go.Proofs.Ytnbodmbagendnaa
namespace Go.Proofs.Ytnbodmbagendnaa
open Go.ChangeShapes Go.WideShapes Go.ChangeAt Go.RowKit Go.Deep Go.Joins
set_option linter.unusedVariables false
set_option maxRecDepth 100000
set_option linter.unusedSimpArgs false
/-- 'append(s, x...)' of a slice that can be read -/
theorem app_sl {P : Program} {ops : Array Oper} {rest : List Oper} {o : Oper} {a : Act} {Q : Exit → Act → World → Prop} (hgd : o.guard = none) (s x : Operand) (T E : TypeId) (i : TypeInfo) (z : Value) (sz bytes : Nat)
    (hT : P.underlying T = some (.slice E)) (hi : P.info? E = some i) (hz : i.zero = some z) (h1 : i.size = sz) (h2 : i.bytes = bytes) (hzs : z.cells.size = sz) (hsz : 0 < sz)
    (ho : o.op = .call { callee := .builtin .append, args := #[s, x], argTypes := #[T, T] }) (w : World) (base : Nat) (v : Value) (n : Nat) (L : List Value) (hs : a.eval s = v) (hown : w.ownsRow base E sz v n L)
    (xv : Value) (m : Nat) (cs : List Value) (hx : a.eval x = xv) (hr : Rd w.heap.size w xv sz m cs) (hone : ∀ u ∈ cs, u.oneCell' = true) (hn : n + m ≤ 2097152) (hby : bytes ≤ 64) (hbase : base ≤ w.heap.size)
    (h : ∀ ao cap w', w'.ownsRow base E sz (.slice ao (n + m) cap) (n + m) (L ++ cs) → w.grownBy w' v.ownBlock → (∀ W, Below base W w → Below base W w') → wpList P ops Q rest (a.put o.dst (.slice ao (n + m) cap)) w') :
    wpList P ops Q (o :: rest) a w := by
  have hb : (n + m) * bytes ≤ 140737488355328 := by
    have := Nat.mul_le_mul hn hby
    omega
  have fin : ∀ v' w', w'.ownsRow base E sz v' (n + m) (L ++ cs) → w.grownBy w' v.ownBlock → wpList P ops Q rest (a.put o.dst v') w' := fun v' w' hown' hg => by
    obtain ⟨ao, cap, rfl⟩ := (own_rd hown').form
    exact h ao cap w' hown' hg fun W hW => grown_below hW hown hbase hg
  obtain ⟨hl, ao, cap, rfl, hc, hmx, hnil, hsome⟩ := hr
  cases ao with
  | none =>
    obtain ⟨rfl, rfl⟩ := hnil rfl
    have e : cs = [] := List.eq_nil_of_length_eq_zero (by simpa using hl)
    subst e
    refine wpList_append_own_none hgd s x T ho base E i sz hT hi v n L hs hown hx ?_
    exact fin v w (by simpa using hown) (World.grownBy.refl w _)
  | some p =>
    refine wpList_append_own w hgd s x T ho base E i z sz bytes hT hi hz h1 h2 hzs hsz v n L hs hown p m cap cs hx hl ?_ hone (by unfold maxLen; omega) hb hbase (fun v' w' a b _ => fin v' w' a b)
    intro j u hj
    have hj' := (List.getElem?_eq_some_iff.1 hj).1
    have hm : 0 < m := by
      rcases Nat.eq_zero_or_pos m with h0 | h0
      · have h00 : cs.length = 0 := by rw [hl, h0, Nat.zero_mul]
        omega
      · exact h0
    obtain ⟨b, off, e, _, hcell⟩ := hsome hm
    cases e
    have hadd : (⟨b, off, none⟩ : Addr).add j = ⟨b, off + j, none⟩ := by unfold Addr.add; split <;> simp_all
    rw [hadd, hcell j (by rw [← hl]; exact hj'), hj]
/-- what is owned and lies apart from the slice that an append may have written -/
theorem own_apart {w w' : World} {base base' : Nat} {E E' : TypeId} {s s' n n' : Nat} {v v' : Value} {L L' : List Value} (h : w.ownsRow base E s v n L) (k : w.ownsRow base' E' s' v' n' L') (hlt : ∀ g, v.ownBlock = some g → g < base') (hg : w.grownBy w' v'.ownBlock) : w'.ownsRow base E s v n L := by
  refine h.kept hg ?_
  cases e : v.ownBlock with
  | none => exact .inl rfl
  | some g =>
    right
    intro e2
    have h1 := hlt g e
    have h2 := (k.lt g e2.symm).1
    omega
/-- a slice's first j elements -/
theorem Rd.takeS {B : Nat} {w : World} {ao : Option Addr} {n cap s j : Nat} {L : List Value} (h : Rd B w (.slice ao n cap) s n L) (hj : j ≤ n) : Rd B w (.slice ao j cap) s j (L.take (j * s)) := by
  obtain ⟨hL, ao', cap', e, hcap, hmax, hnil, hsome⟩ := h
  obtain ⟨rfl, rfl⟩ : ao = ao' ∧ cap = cap' := by cases e; exact ⟨rfl, rfl⟩
  have hm : j * s ≤ n * s := Nat.mul_le_mul_right s hj
  refine ⟨by rw [List.length_take]; omega, ao, cap, rfl, by omega, hmax, fun h0 => ⟨by have := (hnil h0).1; omega, (hnil h0).2⟩, fun h0 => ?_⟩
  obtain ⟨b, off, e1, hb, hc⟩ := hsome (by omega)
  exact ⟨b, off, e1, hb, fun i hi => by rw [hc i (by omega), List.getElem?_take_of_lt hi]⟩
/-- a slice's elements from the jth on -/
theorem Rd.dropS {B : Nat} {w : World} {b off n cap s j : Nat} {L : List Value} (h : Rd B w (.slice (some ⟨b, off, none⟩) n cap) s n L) (hj : j ≤ n) : Rd B w (.slice (some ⟨b, off + j * s, none⟩) (n - j) (cap - j)) s (n - j) (L.drop (j * s)) := by
  obtain ⟨hL, ao', cap', e, hcap, hmax, hnil, hsome⟩ := h
  obtain ⟨rfl, rfl⟩ : some ⟨b, off, none⟩ = ao' ∧ cap = cap' := by cases e; exact ⟨rfl, rfl⟩
  have hm : j * s ≤ n * s := Nat.mul_le_mul_right s hj
  refine ⟨by rw [List.length_drop, hL, Nat.sub_mul], _, _, rfl, by omega, by omega, (fun h0 => by cases h0), fun h0 => ?_⟩
  obtain ⟨b', off', e1, hb, hc⟩ := hsome (by omega)
  cases e1
  refine ⟨b, off + j * s, rfl, hb, fun i hi => ?_⟩
  rw [Nat.sub_mul] at hi
  rw [Nat.add_assoc, hc (j * s + i) (by omega), List.getElem?_drop]
theorem own_form {w : World} {base : Nat} {E : TypeId} {s n : Nat} {v : Value} {L : List Value} (h : w.ownsRow base E s v n L) : (v = .slice none 0 0 ∧ n = 0) ∨ ∃ g cap, v = .slice (some ⟨g, 0, none⟩) n cap := by
  obtain ⟨h1, h2⟩ := h
  rcases h2 with ⟨rfl, rfl⟩ | ⟨g, cap, cur, rfl, rest⟩
  · exact .inl ⟨rfl, rfl⟩
  · exact .inr ⟨g, cap, rfl⟩
/-- 'append([]T{}, x...)' -/
theorem app_slE {P : Program} {ops : Array Oper} {rest : List Oper} {o : Oper} {a : Act} {Q : Exit → Act → World → Prop} (hgd : o.guard = none) (s x : Operand) (T E : TypeId) (i : TypeInfo) (z : Value) (sz bytes : Nat)
    (hT : P.underlying T = some (.slice E)) (hi : P.info? E = some i) (hz : i.zero = some z) (h1 : i.size = sz) (h2 : i.bytes = bytes) (hzs : z.cells.size = sz) (hsz : 0 < sz)
    (ho : o.op = .call { callee := .builtin .append, args := #[s, x], argTypes := #[T, T] }) (w : World) (hs : a.eval s = .slice (some ⟨w.heap.size, 0, none⟩) 0 0)
    (xv : Value) (m : Nat) (cs : List Value) (hx : a.eval x = xv) (hr : Rd w.heap.size w xv sz m cs) (hone : ∀ u ∈ cs, u.oneCell' = true) (hn : m ≤ 2097152) (hby : bytes ≤ 64)
    (h : ∀ ao cap w', w'.ownsRow w.heap.size E sz (.slice ao m cap) m cs → Below w.heap.size w w' → wpList P ops Q rest (a.put o.dst (.slice ao m cap)) w') :
    wpList P ops Q (o :: rest) a (w.alloc (.cells #[] E)) := by
  have b0 : Below w.heap.size w (w.alloc (.cells #[] E)) := (Below.refl _ w).alloc (Nat.le_refl _) _
  refine app_sl hgd s x T E i z sz bytes hT hi hz h1 h2 hzs hsz ho _ w.heap.size _ 0 [] hs (own_empty w w.heap.size E sz (Nat.le_refl _)) xv m cs hx (hr.up b0) hone (by omega) hby b0.size ?_
  intro ao cap w' hown _ hB
  rw [Nat.zero_add, List.nil_append] at hown
  rw [Nat.zero_add]
  exact h ao cap w' hown (hB w b0)
theorem Rd.takeX {B : Nat} {w : World} {ao : Option Addr} {n cap s j n' : Nat} {L : List Value} (h : Rd B w (.slice ao n cap) s n L) (hj : j ≤ n) (e : n' = j) : Rd B w (.slice ao n' cap) s j (L.take (j * s)) := by
  subst e; exact h.takeS hj
theorem Rd.dropX {B : Nat} {w : World} {b off o' n' c' n cap s j : Nat} {L : List Value} (h : Rd B w (.slice (some ⟨b, off, none⟩) n cap) s n L) (hj : j ≤ n) (e1 : o' = off + j * s) (e2 : n' = n - j) (e3 : c' = cap - j) :
    Rd B w (.slice (some ⟨b, o', none⟩) n' c') s (n - j) (L.drop (j * s)) := by
  subst e1; subst e2; subst e3; exact h.dropS hj
/-- .. if none are left -/
theorem Rd.dropZ {B : Nat} {w : World} {v : Value} {b o' n' c' n s j : Nat} {L : List Value} (h : Rd B w v s n L) (hj : j = n) (e2 : n' = 0) (e3 : c' ≤ maxLen) :
    Rd B w (.slice (some ⟨b, o', none⟩) n' c') s (n - j) (L.drop (j * s)) := by
  subst hj; subst e2
  have e : L.drop (j * s) = [] := List.drop_eq_nil_of_le (by rw [h.1]; exact Nat.le_refl _)
  rw [e, Nat.sub_self]
  exact ⟨by simp, _, _, rfl, Nat.zero_le _, e3, (fun h0 => by cases h0), fun h0 => by omega⟩
theorem Rd.dropN {B : Nat} {w : World} {v : Value} {n' c' n s j : Nat} {L : List Value} (h : Rd B w v s n L) (hn : n = 0) (e2 : n' = 0) (e3 : c' = 0) :
    Rd B w (.slice none n' c') s (n - j) (L.drop (j * s)) := by
  subst hn; subst e2; subst e3
  have e : L = [] := List.eq_nil_of_length_eq_zero (by rw [h.1]; simp)
  rw [e, Nat.zero_sub, List.drop_nil]
  exact ⟨by simp, none, 0, rfl, Nat.le_refl _, Nat.zero_le _, fun _ => ⟨rfl, rfl⟩, fun h0 => by omega⟩
/-- .. as the walk spells it -/
theorem Rd.dropI {B : Nat} {w : World} {b off o' o'' n' c' n cap s j : Nat} {L : List Value} [Decidable (cap = j)] (h : Rd B w (.slice (some ⟨b, off, none⟩) n cap) s n L) (hj : j ≤ n) (e1 : o' = off + j * s) (e2 : n' = n - j) (e3 : c' = cap - j) :
    Rd B w (.slice (if cap = j then some ⟨b, o'', none⟩ else some ⟨b, o', none⟩) n' c') s (n - j) (L.drop (j * s)) := by
  split
  · rename_i hc
    have h4 : n ≤ cap ∧ cap ≤ maxLen := by
      obtain ⟨_, ao', cap', e, h1, h2, _⟩ := h
      injection e with q1 q2 q3
      subst q3
      exact ⟨h1, h2⟩
    exact h.dropZ (by omega) (by omega) (by omega)
  · exact h.dropX hj e1 e2 e3
end Go.Proofs.Ytnbodmbagendnaa
namespace Go.Proofs.Ytnbodmbagendnaa
open Go.ChangeShapes Go.WideShapes Go.ChangeAt Go.RowKit Go.Deep Go.Joins
set_option linter.unusedVariables false
set_option maxRecDepth 100000
set_option linter.unusedSimpArgs false
theorem Spot_len (xs : List Spot) : (xs.flatMap Spot.put).length = xs.length * 2 := flat_len xs (fun _ _ => rfl)
theorem Spot_get0 (xs : List Spot) (k : Nat) (h : k < xs.length) : (xs.flatMap Spot.put)[k * 2 + 0]? = some (.int .i64 xs[k].angle) := by
  rw [flat_get (f := Spot.put) (s := 2) xs (fun _ _ => rfl) (j := 0) (by omega) k, List.getElem?_eq_getElem h]
  rfl
theorem Spot_get1 (xs : List Spot) (k : Nat) (h : k < xs.length) : (xs.flatMap Spot.put)[k * 2 + 1]? = some (.int .i64 xs[k].weight) := by
  rw [flat_get (f := Spot.put) (s := 2) xs (fun _ _ => rfl) (j := 1) (by omega) k, List.getElem?_eq_getElem h]
  rfl
end Go.Proofs.Ytnbodmbagendnaa
namespace Go.Proofs.Ytnbodmbagendnaa
open Go.ChangeShapes Go.WideShapes Go.ChangeAt Go.RowKit Go.Deep Go.Joins
set_option linter.unusedVariables false
set_option maxRecDepth 100000
set_option linter.unusedSimpArgs false
def weightB (n : Int) : Bool := (n != 0) && inB n (-1000) 1000
def spotB (x : Spot) : Bool := inB x.angle 0 359 && weightB x.weight
end Go.Proofs.Ytnbodmbagendnaa
namespace Go.Proofs.Ytnbodmbagendnaa
open Go.ChangeShapes Go.WideShapes Go.ChangeAt Go.RowKit Go.Deep Go.Joins
set_option linter.unusedVariables false
set_option maxRecDepth 100000
set_option linter.unusedSimpArgs false
def ltKSpot (y x : Spot) : Bool := decide (y.angle < x.angle)
def validSpotS (xs : List Spot) : Bool := allK (stepB spotB ltKSpot xs) xs.length && decide (xs.length ≤ 16)

theorem ltKSpot_spec_f {y x : Spot} (h : ltKSpot y x = false) : decide (x.angle ≤ y.angle) = true := by
  simp [ltKSpot] at h ⊢; omega
theorem ltKSpot_spec_t {y x : Spot} (h : ltKSpot y x = true) : decide (x.angle ≤ y.angle) = false := by
  simp [ltKSpot] at h ⊢; omega
end Go.Proofs.Ytnbodmbagendnaa
namespace Go.Proofs.Ytnbodmbagendnaa
open Go.ChangeShapes Go.WideShapes Go.ChangeAt Go.RowKit Go.Deep Go.Joins
set_option linter.unusedVariables false
set_option maxRecDepth 100000
set_option linter.unusedSimpArgs false
/-- one element, the new spot s, what is out so far and whether s is in -/
def stepA (s : Spot) (o : List Spot) (d : Bool) (x : Spot) : Option (List Spot × Bool) :=
  let o1 := if !d && decide (s.angle < x.angle) then o ++ [s] else o
  let d1 := d || decide (s.angle < x.angle)
  if x.angle = s.angle then
    if x.weight + s.weight = 0 then some (o1, true)
    else if weightB (x.weight + s.weight) = true then some (o1 ++ [⟨x.angle, x.weight + s.weight⟩], true) else none
  else some (o1 ++ [x], d1)
def runA (s : Spot) (xs : List Spot) : Nat → Option (List Spot × Bool)
  | 0 => some ([], false)
  | k + 1 => match runA s xs k, xs[k]? with
    | some st, some x => stepA s st.1 st.2 x
    | r, _ => r
def endA (s : Spot) (r : Option (List Spot × Bool)) : List Spot × Int := match r with
  | none => ([], 6)
  | some (o, d) => if 16 < (if d then o else o ++ [s]).length then ([], 5) else (if d then o else o ++ [s], 0)
def addL (s : Spot) (xs : List Spot) : List Spot × Int := endA s (runA s xs xs.length)
theorem runA_succ {s : Spot} {xs : List Spot} {k : Nat} (h : k < xs.length) {st : List Spot × Bool} (hr : runA s xs k = some st) : runA s xs (k + 1) = stepA s st.1 st.2 xs[k] := by
  show (match runA s xs k, xs[k]? with
    | some st, some x => stepA s st.1 st.2 x
    | r, _ => r) = _
  rw [hr, List.getElem?_eq_getElem h]
theorem runA_none {s : Spot} {xs : List Spot} {k : Nat} (hr : runA s xs k = none) : ∀ m, runA s xs (k + m) = none
  | 0 => hr
  | m + 1 => by
    show (match runA s xs (k + m), xs[k + m]? with
      | some st, some x => stepA s st.1 st.2 x
      | r, _ => r) = none
    rw [runA_none hr m]
theorem addL_bad {s : Spot} {xs : List Spot} {k : Nat} (h : k < xs.length) (hr : runA s xs (k + 1) = none) : addL s xs = ([], 6) := by
  unfold addL
  obtain ⟨m, hm⟩ : ∃ m, xs.length = k + 1 + m := ⟨xs.length - (k + 1), by omega⟩
  rw [hm, runA_none hr m]; rfl
theorem stepA_len {s : Spot} {o : List Spot} {d : Bool} {x : Spot} {st : List Spot × Bool} (h : stepA s o d x = some st) : st.1.length ≤ o.length + 2 := by
  unfold stepA at h
  simp only at h
  have h1 : (if (!d && decide (s.angle < x.angle)) = true then o ++ [s] else o).length ≤ o.length + 1 := by split <;> simp
  generalize (if (!d && decide (s.angle < x.angle)) = true then o ++ [s] else o) = o1 at *
  split at h
  · split at h
    · cases h; show o1.length ≤ _; omega
    · split at h
      · cases h; show (o1 ++ [_]).length ≤ _; rw [List.length_append]; simp; omega
      · cases h
  · cases h; show (o1 ++ [_]).length ≤ _; rw [List.length_append]; simp; omega
theorem runA_len {s : Spot} {xs : List Spot} : ∀ {k : Nat} {st : List Spot × Bool}, k ≤ xs.length → runA s xs k = some st → st.1.length ≤ 2 * k
  | 0, st, _, h => by cases h; simp
  | k + 1, st, hk, h => by
    cases hr : runA s xs k with
    | none => have := runA_none hr 1; rw [h] at this; cases this
    | some st0 =>
      rw [runA_succ (by omega) hr] at h
      have h1 := runA_len (by omega) hr
      have h2 := stepA_len h
      omega
theorem spot_snoc (xs : List Spot) (a : Spot) : (xs ++ [a]).flatMap Spot.put = xs.flatMap Spot.put ++ [.int .i64 a.angle, .int .i64 a.weight] := by rw [List.flatMap_append]; rfl

/-- 'append(out, x)', x in a block of its own; what is owned beside stays -/
theorem app_elK {P : Program} {ops : Array Oper} {rest : List Oper} {o : Oper} {a : Act} {Q : Exit → Act → World → Prop} {w1 : World} (hgd : o.guard = none) (s x : Operand) (T E : TypeId) (i : TypeInfo) (z : Value) (sz bytes : Nat)
    (hT : P.underlying T = some (.slice E)) (hi : P.info? E = some i) (hz : i.zero = some z) (h1 : i.size = sz) (h2 : i.bytes = bytes) (hzs : z.cells.size = sz) (hsz : 0 < sz)
    (ho : o.op = .call { callee := .builtin .append, args := #[s, x], argTypes := #[T, T] }) (w0 : World) (base : Nat) (v : Value) (n : Nat) (L : List Value) (hs : a.eval s = v) (hown : w0.ownsRow base E sz v n L)
    (cs : List Value) (hcs : cs.length = sz) (hone : ∀ u ∈ cs, u.oneCell' = true) (hx : a.eval x = .slice (some ⟨w0.heap.size, 0, none⟩) 1 1) (hn : n + 1 ≤ 2097152) (hby : bytes ≤ 64) (hbase : base ≤ w0.heap.size) (hw : w1 = w0.alloc (.cells cs.toArray E))
    (h : ∀ g cap w', w'.ownsRow base E sz (.slice (some ⟨g, 0, none⟩) (n + 1) cap) (n + 1) (L ++ cs) → (∀ W, Below base W w0 → Below base W w') → (∀ b E' L', Own w0 b E' L' → (∀ g', v.ownBlock = some g' → g' ≠ b) → Own w' b E' L') → w0.heap.size < w'.heap.size → wpList P ops Q rest (a.put o.dst (.slice (some ⟨g, 0, none⟩) (n + 1) cap)) w') :
    wpList P ops Q (o :: rest) a w1 := by
  subst hw
  have hb : (n + 1) * bytes ≤ 140737488355328 := by
    have := Nat.mul_le_mul hn hby
    omega
  refine wpList_append_lies _ hgd s x T ho base E i z sz bytes hT hi hz h1 h2 hzs hsz v n L hs (hown.alloc _) ⟨w0.heap.size, 0, none⟩ 1 1 cs hx (by omega) (World.news_of_block (Own.new w0 E cs)) hone (by omega) (by unfold maxLen; omega) hb (by simp; omega) _ rfl ?_
  intro g cap w' hown' hgrow _ _
  refine h g cap w' hown' (fun W hW => ?_) (fun b E' L' hO hne => ?_) ?_
  · exact grown_below (hW.alloc hbase _) (hown.alloc _) (by simp; omega) hgrow
  · have hO2 : Own (w0.alloc (.cells cs.toArray E)) b E' L' := hO.alloc _
    exact (hgrow.block b hO2.lt (fun e => hne b e.symm rfl)).trans hO2
  · have := hgrow.size
    simp at this; omega
end Go.Proofs.Ytnbodmbagendnaa
