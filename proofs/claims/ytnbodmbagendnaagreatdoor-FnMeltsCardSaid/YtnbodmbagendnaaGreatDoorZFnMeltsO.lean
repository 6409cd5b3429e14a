/- Contracts and plain facts, joined: ChosenR, ValidMeltsS, MetalS. -/
import Derived.Test.YtnbodmbagendnaaGreatDoorRows
import Derived.Test.YtnbodmbagendnaaGreatDoorZFnMeltsF
import Derived.Test.YtnbodmbagendnaaGreatDoorZFnMeltsK
import Derived.Test.YtnbodmbagendnaaGreatDoorZFnMeltsL
import Derived.Test.YtnbodmbagendnaaGreatDoorZFnMeltsN
namespace Go.Proofs.YtnbodmbagendnaaGreatDoor
open Go.ChangeShapes Go.WideShapes Go.ChangeAt Go.RowKit Go.Deep Go.Joins
set_option linter.unusedVariables false
set_option maxRecDepth 100000
set_option linter.unusedSimpArgs false
def optL : Option Nat → List Int
  | none => []
  | some j => [(j : Int)]
theorem idK_take_no {xs : List Ingot} {a : ByteArray} {m : Nat} (hm : m < xs.length) (h : strEq xs[m].id a = false) : idK (xs.take (m + 1)) a = idK (xs.take m) a := by
  unfold idK
  rw [List.take_succ_eq_append_getElem hm, List.findIdx?_append]
  cases List.findIdx? (fun x => strEq x.id a) (xs.take m) with
  | some j => rfl
  | none => simp [List.findIdx?_cons, h]
theorem idK_take_none {xs : List Ingot} (hr : Rises xs) {a : ByteArray} {m : Nat} (hm : m < xs.length) (h : strEq xs[m].id a = true) : idK (xs.take m) a = none := by
  cases e : idK (xs.take m) a with
  | none => rfl
  | some j =>
    obtain ⟨hj, e2⟩ := idK_some e
    have hj2 : j < m := by rw [List.length_take] at hj; omega
    rw [List.getElem_take] at e2
    have := rises_inj hr (by omega) hm (e2.trans (strEq_iff.1 h).symm)
    omega
theorem idK_take_yes {xs : List Ingot} (hr : Rises xs) {a : ByteArray} {m : Nat} (hm : m < xs.length) (h : strEq xs[m].id a = true) : idK (xs.take (m + 1)) a = some m := by
  have h0 := idK_take_none hr hm h
  unfold idK at *
  rw [List.take_succ_eq_append_getElem hm, List.findIdx?_append, h0]
  simp [List.findIdx?_cons, h]
  omega

theorem own_none {w : World} {B k : Nat} {E : TypeId} {v : Value} {cs : List Int} (h : w.ownsRow B E 1 v (k + (optL none).length) ((cs ++ optL none).flatMap putI)) : w.ownsRow B E 1 v k (cs.flatMap putI) := by
  simpa [optL] using h

set_option maxHeartbeats 4000000 in
theorem spec_l14Chosen (w : World) (v : Value) (xs : List Ingot) (ids : List ByteArray) (a1 o1 : Nat) (v1 : Value) (h : Rd w.heap.size w v 5 xs.length (xs.flatMap Ingot.put)) (hn : xs.length ≤ 1048576) (hr : Rises xs)
    (g1 : w.cell? ⟨a1, o1 + 1, none⟩ = some v1) (ha1 : a1 < w.heap.size) (h2 : Rd w.heap.size w v1 1 ids.length (ids.flatMap putStr)) (hn2 : ids.length ≤ 1048576) :
    Calls Tryz.prog 82 #[v, .pointer (some ⟨a1, o1, none⟩)] w fun e w' => (∃ u : Value, e = .returned (.tuple #[u, .bool (chosenL xs ids).isSome]) ∧ ∀ cs, chosenL xs ids = some cs → Rd w'.heap.size w' u 1 cs.length (cs.flatMap putI)) ∧ Below w.heap.size w w' := by
  obtain ⟨hL, ao, cap, rfl, hcap, hmax, hnil, hsome⟩ := h
  obtain ⟨hL2, ao2, cap2, rfl, hcap2, hmax2, hnil2, hsome2⟩ := h2
  have HR := Lib.hid hr; clear hr
  obtain ⟨i0, hi, hz0, hz1, hz2⟩ := info_parts info_i64
  go_enter Tryz.func82, Tryz.ntmps82
  go_wp2
  go_loopw [6, 7, 8, 9] (fun u i _ _ wr => ∃ (k : Nat) (cs : List Int), k ≤ ids.length ∧ i = .int .i64 k ∧ chosenL xs (ids.take k) = some cs ∧ wr.ownsRow w.heap.size 2 1 u k (cs.flatMap putI) ∧ Below w.heap.size w wr) (fun _ i _ _ _ => ids.length - (intOf i).toNat)
  case atStart => exact ⟨0, [], Nat.zero_le _, rfl, rfl, own_empty w _ _ _ (Nat.le_refl _), by (repeat' (first | (with_reducible exact Below.refl _ _) | (with_reducible assumption) | (with_reducible refine below_dn ?_ _) | (with_reducible refine Below.drew ?_) | (with_reducible refine Below.alloc ?_ ?_ _) | (with_reducible refine Below.setCell ?_ ?_ _) | go_size))⟩
  case round =>
    obtain ⟨k, cs, hk, rfl, hch, hown, hb⟩ := hrel
    have HCH := Lib.hid hch; clear hch
    have HO := Lib.hid hown; clear hown
    have e1 : wr.cell? ⟨a1, o1 + 1, none⟩ = some (.slice ao2 ids.length cap2) := (hb.cell (p := ⟨a1, o1 + 1, none⟩) ha1).trans g1
    have HB := Lib.hid hb; clear hb
    by_cases hlt : k < ids.length
    · go_wp2
      obtain ⟨wo, rfl⟩ : ∃ wo : World, wo = wr := ⟨_, rfl⟩
      clear e1
      go_loopw [6, 8, 9] (fun u f j wr => ∃ (m : Nat), m ≤ xs.length ∧ j = .int .i64 m ∧ f = .bool (idK (xs.take m) ids[k]).isSome ∧ wr.ownsRow w.heap.size 2 1 u (k + (optL (idK (xs.take m) ids[k])).length) ((cs ++ optL (idK (xs.take m) ids[k])).flatMap putI) ∧ Below w.heap.size w wr) (fun _ _ j _ => xs.length - (intOf j).toNat)
      case atStart => exact ⟨0, Nat.zero_le _, rfl, rfl, by simpa [idK, optL] using HO.out, HB.out⟩
      case round =>
        clear HO HB
        obtain ⟨m, hm, rfl, rfl, hown, hb⟩ := hrel
        have HO := Lib.hid hown; clear hown
        have e1 : wr.cell? ⟨a1, o1 + 1, none⟩ = some (.slice ao2 ids.length cap2) := (hb.cell (p := ⟨a1, o1 + 1, none⟩) ha1).trans g1
        have hw1 : a1 < wr.heap.size := Nat.lt_of_lt_of_le ha1 hb.size
        by_cases hlt2 : m < xs.length
        · obtain ⟨b, off, rfl, hbB, hc⟩ := hsome (by omega)
          obtain ⟨b2, off2, rfl, hbB2, hc2⟩ := hsome2 (by omega)
          have c0 : wr.cell? ⟨b, off + m * 5, none⟩ = some (.string xs[m].id) := by
            rw [show off + m * 5 = off + (m * 5 + 0) from by omega, hb.cell (p := ⟨b, off + (m * 5 + 0), none⟩) hbB, hc (m * 5 + 0) (by omega), Ingot_get0 xs m hlt2]
          have d0 : wr.cell? ⟨b2, off2 + k, none⟩ = some (.string ids[k]) := by
            rw [hb.cell (p := ⟨b2, off2 + k, none⟩) hbB2, hc2 k (by omega), putStr_get ids k hlt]
          have hbr : b < wr.heap.size := Nat.lt_of_lt_of_le hbB hb.size
          have hbr2 : b2 < wr.heap.size := Nat.lt_of_lt_of_le hbB2 hb.size
          have hws := hb.size
          have HB := Lib.hid hb
          clear hc hc2 hsome hsome2 hnil hnil2 hb g1
          cases hE : strEq xs[m].id ids[k]
          · have e : Hid (idK (xs.take (m + 1)) ids[k] = idK (xs.take m) ids[k]) := idK_take_no hlt2 hE
            have t1 := strEq_f hE
            clear hE hi hz0 hz1 hz2
            generalize idK (xs.take m) ids[k] = oo at *
            go_wp2_with fail
            refine wp_region_above (by kernel_rfl) (by kernel_rfl) ?_
            repeat (go_big_quiet_step (fail))
            refine wpQuiet_nil ?_
            intro w1 b1
            have HB1 := Lib.hid (HB.out.trans (b1.mono HB.out.size))
            have HO1 := Lib.hid (own_below HO.out b1 (Nat.le_refl _)); clear b1 HB HO
            go_wp2_with fail
            go_roundw
            case rel => exact ⟨m + 1, by omega, by go_num, by rw [e.out], by rw [e.out]; exact HO1.out, HB1.out⟩
            case measure => simp [intOf]; omega
          · have e : Hid (idK (xs.take (m + 1)) ids[k] = some m) := idK_take_yes HR.out hlt2 hE
            rw [idK_take_none HR.out hlt2 hE] at HO ⊢
            have t1 := strEq_t hE
            clear hE
            go_wp2_with fail
            refine wp_region_above (by kernel_rfl) (by kernel_rfl) ?_
            repeat (go_big_quiet_step (fail))
            refine wpQuiet_nil ?_
            intro w1 b1
            have HB1 := Lib.hid (HB.out.trans (b1.mono HB.out.size))
            have HO1 := Lib.hid (own_none (own_below HO.out b1 (Nat.le_refl _)))
            have hws1 : w.heap.size ≤ w1.heap.size := HB1.out.size
            clear b1 HB HO c0 d0 e1
            go_wp2_with (at_builtin; refine app_el rfl _ _ 71 2 i0 (.int .i64 0) 1 8 Tryz.underlying71 hi hz0 hz1 hz2 rfl (by decide) rfl w1 w.heap.size _ k (cs.flatMap putI) (by rfl) HO1.out [.int .i64 m] rfl (by intro u hu; simp at hu; subst hu; rfl) (by rfl) (by omega) (by decide) hws1 ?_; intro g gc w2 hown2 hB2 hz)
            have HB2 := Lib.hid (hB2 w HB1.out)
            have HO2 := Lib.hid hown2
            clear hown2 hB2
            go_roundw
            case rel => exact ⟨m + 1, by omega, by go_num, by rw [e.out]; rfl, by rw [e.out]; show World.ownsRow _ _ _ _ _ (k + 1) ((cs ++ [(m : Int)]).flatMap putI); rw [putI_snoc]; exact HO2.out, HB2.out⟩
            case measure => simp [intOf]; omega
        · have em : Hid (xs.take m = xs) := (take_all (by omega) : xs.take m = xs)
          rw [em.out] at HO ⊢
          have HB := Lib.hid hb
          clear hb hi hz0 hz1 hz2 hsome hsome2
          cases hf : idK xs ids[k] with
          | none =>
            have e : Hid (chosenL xs ids = none) := (chosen_no hlt hf : chosenL xs ids = none)
            clear hf HO
            go_wp2
            go_ret2
            exact ⟨⟨.slice none 0 0, by rw [e.out]; rfl, fun cs hcs => by rw [e.out] at hcs; cases hcs⟩, HB.out⟩
          | some j =>
            have e : Hid (chosenL xs (ids.take (k + 1)) = some (cs ++ [(j : Int)])) := chosen_yes hlt HCH.out hf
            rw [hf] at HO
            clear hf
            go_wp2
            go_roundw
            case rel => exact ⟨k + 1, _, by omega, by go_num, e.out, HO.out, HB.out⟩
            case measure => simp [intOf]; omega
    · have e : Hid (chosenL xs ids = some cs) := (by
        have := HCH.out
        rwa [take_all (by omega)] at this : chosenL xs ids = some cs)
      obtain rfl : k = ids.length := by omega
      have HL := Lib.hid (chosen_len (Nat.le_refl _) HCH.out)
      clear hi hz0 hz1 hz2 hsome hsome2
      go_wp2
      go_ret2
      refine ⟨⟨_, by rw [e.out]; rfl, fun cs' hcs => ?_⟩, HB.out⟩
      rw [e.out] at hcs
      cases hcs
      have := own_rd HO.out
      rwa [← HL.out] at this
end Go.Proofs.YtnbodmbagendnaaGreatDoor
namespace Go.Proofs.YtnbodmbagendnaaGreatDoor
open Go.ChangeShapes Go.WideShapes Go.ChangeAt Go.RowKit Go.Deep Go.Joins
set_option linter.unusedVariables false
set_option maxRecDepth 100000
set_option linter.unusedSimpArgs false
/-- what the program may ask of a melt's parts -/
def Melt.fine (x : Melt) : Prop := x.id.size ≤ maxLen ∧ (∀ s ∈ x.ingots, s.size ≤ maxLen) ∧ I64 x.mass ∧ x.ingots.length ≤ 1048576
/-- the id before it is less -/
def ltPrev (xs : List Melt) (k : Nat) : Bool :=
  match k with
  | 0 => true
  | j + 1 => match xs[j]?, xs[j + 1]? with
    | some y, some x => ltName y.id x.id
    | _, _ => true
def meltsAt (xs : List Melt) (k : Nat) : Bool :=
  match xs[k]? with
  | none => true
  | some x => meltB x && (ltPrev xs k && !((xs.take k).any fun y => commonB y.ingots x.ingots))
def meltsB (xs : List Melt) : Bool := allK (meltsAt xs) xs.length && decide (xs.length ≤ 12)
section
variable {xs : List Melt} {k : Nat}
theorem ltPrev_zero (h : k = 0) : ltPrev xs k = true := by subst h; rfl
theorem ltPrev_pos (hk : k < xs.length) (h : 0 < k) : ltPrev xs k = ltName xs[k - 1].id xs[k].id := by
  match k, h with
  | j + 1, _ =>
    unfold ltPrev
    simp [List.getElem?_eq_getElem hk, List.getElem?_eq_getElem (show j < xs.length by omega)]
theorem ltPrev_no (hk : k < xs.length) (h : 0 < k) (hT : ltName xs[k - 1].id xs[k].id = false) : ltPrev xs k = false := by rw [ltPrev_pos hk h, hT]
theorem ltPrev_yes (hk : k < xs.length) (h : 0 < k) (hT : ltName xs[k - 1].id xs[k].id = true) : ltPrev xs k = true := by rw [ltPrev_pos hk h, hT]
theorem meltsAt_eq (hk : k < xs.length) : meltsAt xs k = (meltB xs[k] && (ltPrev xs k && !((xs.take k).any fun y => commonB y.ingots xs[k].ingots))) := by
  unfold meltsAt
  rw [List.getElem?_eq_getElem hk]
theorem meltsAt_no (hk : k < xs.length) (h : meltB xs[k] = false) : meltsAt xs k = false := by rw [meltsAt_eq hk, h]; rfl
theorem meltsAt_lt (hk : k < xs.length) (h : ltPrev xs k = false) : meltsAt xs k = false := by rw [meltsAt_eq hk, h]; simp
theorem meltsAt_com (hk : k < xs.length) (h : ((xs.take k).any fun y => commonB y.ingots xs[k].ingots) = true) : meltsAt xs k = false := by rw [meltsAt_eq hk, h]; simp
theorem meltsAt_yes (hk : k < xs.length) (h1 : meltB xs[k] = true) (h2 : ltPrev xs k = true) (h3 : ((xs.take k).any fun y => commonB y.ingots xs[k].ingots) = false) : meltsAt xs k = true := by rw [meltsAt_eq hk, h1, h2, h3]; rfl
theorem meltsB_no (h : allK (meltsAt xs) xs.length = false) : meltsB xs = false := by unfold meltsB; rw [h]; rfl
theorem any_upto {α : Type} {p : α → Bool} {xs : List α} {m k : Nat} (hm : m < xs.length) (hk : m < k) (h : p xs[m] = true) : (xs.take k).any p = true := by
  rw [List.any_eq_true]
  exact ⟨xs[m], by rw [List.mem_take_iff_getElem]; exact ⟨m, by omega, rfl⟩, h⟩
end
theorem RdM.take {B : Nat} {w : World} {b off cap k n : Nat} {xs : List Melt} (h : RdM B w (.slice (some ⟨b, off, none⟩) n cap) xs) (hk : k ≤ xs.length) : RdM B w (.slice (some ⟨b, off, none⟩) k cap) (xs.take k) := by
  obtain ⟨ao, cap', e, hcap, hmax, hsome⟩ := h
  obtain ⟨rfl, rfl, rfl⟩ : ao = some ⟨b, off, none⟩ ∧ n = xs.length ∧ cap' = cap := by cases e; exact ⟨rfl, rfl, rfl⟩
  have hl : (xs.take k).length = k := by rw [List.length_take]; omega
  refine ⟨_, _, by rw [hl], by omega, hmax, fun hp => ?_⟩
  obtain ⟨b', off', e2, hB, hc⟩ := hsome (by omega)
  refine ⟨b', off', e2, hB, fun m hm => ?_⟩
  have hm2 : m < xs.length := by omega
  have ht : (xs.take k)[m] = xs[m] := List.getElem_take
  obtain ⟨l, c0, c1, c2, hr⟩ := hc m hm2
  exact ⟨l, by rw [ht]; exact c0, c1, by rw [ht]; exact c2, by rw [ht]; exact hr⟩
end Go.Proofs.YtnbodmbagendnaaGreatDoor
namespace Go.Proofs.YtnbodmbagendnaaGreatDoor
open Go.ChangeShapes Go.WideShapes Go.ChangeAt Go.RowKit Go.Deep Go.Joins
set_option linter.unusedVariables false
set_option maxRecDepth 100000
set_option linter.unusedSimpArgs false
theorem chosen_get {xs : List Ingot} {ids : List ByteArray} : ∀ {m : Nat} {cs : List Int}, m ≤ ids.length → chosenL xs (ids.take m) = some cs → ∀ (k : Nat) (hk : k < ids.length), k < m → ∃ j : Nat, cs[k]? = some (j : Int) ∧ idK xs ids[k] = some j
  | 0, _, _, _ => fun k _ hk => by omega
  | m + 1, cs, hm, h => by
    intro k hkl hk
    rw [chosen_succ xs ids m (by omega)] at h
    cases e : chosenL xs (ids.take m) with
    | none => rw [e] at h; cases h
    | some l =>
      rw [e] at h
      cases e2 : idK xs ids[m] with
      | none => rw [e2] at h; cases h
      | some j =>
        rw [e2] at h
        cases h
        have hl := chosen_len (by omega) e
        rcases Nat.lt_or_ge k m with h1 | h1
        · obtain ⟨j', e3, e4⟩ := chosen_get (by omega) e k hkl h1
          exact ⟨j', by rw [List.getElem?_append_left (by omega)]; exact e3, e4⟩
        · obtain rfl : k = m := by omega
          exact ⟨j, by rw [List.getElem?_append_right (by omega), hl, Nat.sub_self]; rfl, e2⟩
/-- texts that rise -/
def RisesT (ids : List ByteArray) : Prop := ∀ i j (_ : i < j) (hj : j < ids.length), ltName ids[i] ids[j] = true
theorem risesT_of {ids : List ByteArray} (h : allK (stepB nameB ltName ids) ids.length = true) : RisesT ids := by
  have hok : ∀ k (hk : k < ids.length), nameB ids[k] = true := fun k hk => by
    have := allK_true h k hk
    unfold stepB at this
    rw [List.getElem?_eq_getElem hk] at this
    simp only [Bool.and_eq_true] at this
    exact this.1
  have step : ∀ k (hk : k + 1 < ids.length), ltName ids[k] ids[k + 1] = true := fun k hk => by
    have h1 := allK_true h (k + 1) hk
    rw [stepB_pos hk (by omega) (hok (k + 1) hk)] at h1
    exact h1
  intro i j hij hj
  induction j with
  | zero => omega
  | succ j ih =>
    rcases Nat.lt_or_ge i j with h1 | h1
    · exact ltName_trans (ih h1 (by omega)) (step j hj)
    · obtain rfl : i = j := by omega
      exact step i hj
theorem meltB_parts {x : Melt} (h : meltB x = true) : nameB x.id = true ∧ 1 ≤ x.ingots.length ∧ x.ingots.length ≤ 16 ∧ allK (stepB nameB ltName x.ingots) x.ingots.length = true ∧ 1 ≤ x.mass ∧ x.mass ≤ 320000000 := by
  simp only [meltB, Bool.and_eq_true, decide_eq_true_eq] at h
  exact ⟨h.1, h.2.1, h.2.2.1, h.2.2.2.1, inB_true h.2.2.2.2⟩
theorem choice_of {xs : List Ingot} (hr : Rises xs) {ids : List ByteArray} (hi : RisesT ids) {cs : List Int} (h : chosenL xs ids = some cs) : choiceB xs.length cs = true := by
  have h0 : chosenL xs (ids.take ids.length) = some cs := by rw [take_all (Nat.le_refl _)]; exact h
  have hl := chosen_len (Nat.le_refl _) h0
  have hget : ∀ k (hk : k < cs.length), ∃ j : Nat, cs[k] = (j : Int) ∧ idK xs (ids[k]'(by omega)) = some j := fun k hk => by
    obtain ⟨j, e1, e2⟩ := chosen_get (Nat.le_refl _) h0 k (by omega) (by omega)
    rw [List.getElem?_eq_getElem hk] at e1
    exact ⟨j, by simpa using e1, e2⟩
  have hok : ∀ k (hk : k < cs.length), okC xs.length cs[k] = true := fun k hk => by
    obtain ⟨j, e1, e2⟩ := hget k hk
    obtain ⟨hj, _⟩ := idK_some e2
    rw [e1]
    exact inB_mk ⟨by omega, by omega⟩
  refine allK_intro fun k hk => ?_
  by_cases h1 : k = 0
  · exact stepB_k0 hk h1 (hok k hk)
  · refine stepB_yes hk (by omega) (hok k hk) ?_
    obtain ⟨j1, e1, e2⟩ := hget (k - 1) (by omega)
    obtain ⟨j2, e3, e4⟩ := hget k hk
    rw [e1, e3]
    obtain ⟨l1, a1⟩ := idK_some e2
    obtain ⟨l2, a2⟩ := idK_some e4
    have hlt := hi (k - 1) k (by omega) (by omega)
    have : j1 < j2 := by
      rcases Nat.lt_trichotomy j1 j2 with h | h | h
      · exact h
      · subst h
        rw [a1] at a2
        rw [a2, ltName_irrefl] at hlt; cases hlt
      · have h3 := hr j2 j1 h l1
        rw [a1, a2] at h3
        have := ltName_trans hlt h3
        rw [ltName_irrefl] at this; cases this
    simp only [ltC, decide_eq_true_eq]; omega
/-- the metal of a melt whose ingots exist -/
def metalS (xs : List Ingot) (ids : List ByteArray) : Int := (chosenL xs ids).elim 0 (sumK massF xs)
def mostS (xs : List Ingot) (ids : List ByteArray) : Int := metalS xs ids - divR (metalS xs ids * 20000) 1000000
def askS (xs : List Ingot) (x : Melt) : Int := if validIngotS xs && meltB x then (if (chosenL xs x.ingots).isSome then 0 else 3) else 1
theorem metalS_some {xs : List Ingot} {ids : List ByteArray} {cs : List Int} (h : chosenL xs ids = some cs) : metalS xs ids = sumK massF xs cs := by unfold metalS; rw [h]; rfl
end Go.Proofs.YtnbodmbagendnaaGreatDoor
