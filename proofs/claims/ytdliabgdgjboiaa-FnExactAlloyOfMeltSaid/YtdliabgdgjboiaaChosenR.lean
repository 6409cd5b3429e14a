/- The ingots of a melt by their indices: the reference. -/
import Derived.Test.YtdliabgdgjboiaaRows
import Derived.Test.YtdliabgdgjboiaaChosen
import Derived.Test.YtdliabgdgjboiaaCommon
namespace Go.Proofs.Ytdliabgdgjboiaa
open Go.ChangeShapes Go.WideShapes Go.ChangeAt Go.RowKit Go.Deep Go.Joins
set_option linter.unusedVariables false
set_option maxRecDepth 100000
set_option linter.unusedSimpArgs false
def optL : Option Nat → List Int
  | none => []
  | some j => [(j : Int)]
theorem idK_take_no {xs : List Ingot} {a : ByteArray} {m : Nat} (hm : m < xs.length) (h : strEq xs[m].id a = false) : idK (xs.take (m + 1)) a = idK (xs.take m) a := by
  unfold idK
  rw [List.take_succ_eq_append_getElem hm, List.findIdx?_append]
  cases List.findIdx? (fun x => strEq x.id a) (xs.take m) with
  | some j => rfl
  | none => simp [List.findIdx?_cons, h]
theorem idK_take_none {xs : List Ingot} (hr : Rises xs) {a : ByteArray} {m : Nat} (hm : m < xs.length) (h : strEq xs[m].id a = true) : idK (xs.take m) a = none := by
  cases e : idK (xs.take m) a with
  | none => rfl
  | some j =>
    obtain ⟨hj, e2⟩ := idK_some e
    have hj2 : j < m := by rw [List.length_take] at hj; omega
    rw [List.getElem_take] at e2
    have := rises_inj hr (by omega) hm (e2.trans (strEq_iff.1 h).symm)
    omega
theorem idK_take_yes {xs : List Ingot} (hr : Rises xs) {a : ByteArray} {m : Nat} (hm : m < xs.length) (h : strEq xs[m].id a = true) : idK (xs.take (m + 1)) a = some m := by
  have h0 := idK_take_none hr hm h
  unfold idK at *
  rw [List.take_succ_eq_append_getElem hm, List.findIdx?_append, h0]
  simp [List.findIdx?_cons, h]
  omega

theorem own_none {w : World} {B k : Nat} {E : TypeId} {v : Value} {cs : List Int} (h : w.ownsRow B E 1 v (k + (optL none).length) ((cs ++ optL none).flatMap putI)) : w.ownsRow B E 1 v k (cs.flatMap putI) := by
  simpa [optL] using h

set_option maxHeartbeats 4000000 in
theorem spec_l14Chosen (w : World) (v : Value) (xs : List Ingot) (ids : List ByteArray) (a1 o1 : Nat) (v1 : Value) (h : Rd w.heap.size w v 5 xs.length (xs.flatMap Ingot.put)) (hn : xs.length ≤ 1048576) (hr : Rises xs)
    (g1 : w.cell? ⟨a1, o1 + 1, none⟩ = some v1) (ha1 : a1 < w.heap.size) (h2 : Rd w.heap.size w v1 1 ids.length (ids.flatMap putStr)) (hn2 : ids.length ≤ 1048576) :
    Calls Try.prog 55 #[v, .pointer (some ⟨a1, o1, none⟩)] w fun e w' => (∃ u : Value, e = .returned (.tuple #[u, .bool (chosenL xs ids).isSome]) ∧ ∀ cs, chosenL xs ids = some cs → Rd w'.heap.size w' u 1 cs.length (cs.flatMap putI)) ∧ Below w.heap.size w w' := by
  obtain ⟨hL, ao, cap, rfl, hcap, hmax, hnil, hsome⟩ := h
  obtain ⟨hL2, ao2, cap2, rfl, hcap2, hmax2, hnil2, hsome2⟩ := h2
  have HR := Lib.hid hr; clear hr
  obtain ⟨i0, hi, hz0, hz1, hz2⟩ := info_parts info_i64
  go_enter Try.func55, Try.ntmps55
  go_wp2
  go_loopw [6, 7, 8, 9] (fun u i _ _ wr => ∃ (k : Nat) (cs : List Int), k ≤ ids.length ∧ i = .int .i64 k ∧ chosenL xs (ids.take k) = some cs ∧ wr.ownsRow w.heap.size 2 1 u k (cs.flatMap putI) ∧ Below w.heap.size w wr) (fun _ i _ _ _ => ids.length - (intOf i).toNat)
  case atStart => exact ⟨0, [], Nat.zero_le _, rfl, rfl, own_empty w _ _ _ (Nat.le_refl _), by (repeat' (first | (with_reducible exact Below.refl _ _) | (with_reducible assumption) | (with_reducible refine below_dn ?_ _) | (with_reducible refine Below.drew ?_) | (with_reducible refine Below.alloc ?_ ?_ _) | (with_reducible refine Below.setCell ?_ ?_ _) | go_size))⟩
  case round =>
    obtain ⟨k, cs, hk, rfl, hch, hown, hb⟩ := hrel
    have HCH := Lib.hid hch; clear hch
    have HO := Lib.hid hown; clear hown
    have e1 : wr.cell? ⟨a1, o1 + 1, none⟩ = some (.slice ao2 ids.length cap2) := (hb.cell (p := ⟨a1, o1 + 1, none⟩) ha1).trans g1
    have HB := Lib.hid hb; clear hb
    by_cases hlt : k < ids.length
    · go_wp2
      obtain ⟨wo, rfl⟩ : ∃ wo : World, wo = wr := ⟨_, rfl⟩
      clear e1
      go_loopw [6, 8, 9] (fun u f j wr => ∃ (m : Nat), m ≤ xs.length ∧ j = .int .i64 m ∧ f = .bool (idK (xs.take m) ids[k]).isSome ∧ wr.ownsRow w.heap.size 2 1 u (k + (optL (idK (xs.take m) ids[k])).length) ((cs ++ optL (idK (xs.take m) ids[k])).flatMap putI) ∧ Below w.heap.size w wr) (fun _ _ j _ => xs.length - (intOf j).toNat)
      case atStart => exact ⟨0, Nat.zero_le _, rfl, rfl, by simpa [idK, optL] using HO.out, HB.out⟩
      case round =>
        clear HO HB
        obtain ⟨m, hm, rfl, rfl, hown, hb⟩ := hrel
        have HO := Lib.hid hown; clear hown
        have e1 : wr.cell? ⟨a1, o1 + 1, none⟩ = some (.slice ao2 ids.length cap2) := (hb.cell (p := ⟨a1, o1 + 1, none⟩) ha1).trans g1
        have hw1 : a1 < wr.heap.size := Nat.lt_of_lt_of_le ha1 hb.size
        by_cases hlt2 : m < xs.length
        · obtain ⟨b, off, rfl, hbB, hc⟩ := hsome (by omega)
          obtain ⟨b2, off2, rfl, hbB2, hc2⟩ := hsome2 (by omega)
          have c0 : wr.cell? ⟨b, off + m * 5, none⟩ = some (.string xs[m].id) := by
            rw [show off + m * 5 = off + (m * 5 + 0) from by omega, hb.cell (p := ⟨b, off + (m * 5 + 0), none⟩) hbB, hc (m * 5 + 0) (by omega), Ingot_get0 xs m hlt2]
          have d0 : wr.cell? ⟨b2, off2 + k, none⟩ = some (.string ids[k]) := by
            rw [hb.cell (p := ⟨b2, off2 + k, none⟩) hbB2, hc2 k (by omega), putStr_get ids k hlt]
          have hbr : b < wr.heap.size := Nat.lt_of_lt_of_le hbB hb.size
          have hbr2 : b2 < wr.heap.size := Nat.lt_of_lt_of_le hbB2 hb.size
          have hws := hb.size
          have HB := Lib.hid hb
          clear hc hc2 hsome hsome2 hnil hnil2 hb g1
          cases hE : strEq xs[m].id ids[k]
          · have e : Hid (idK (xs.take (m + 1)) ids[k] = idK (xs.take m) ids[k]) := idK_take_no hlt2 hE
            have t1 := strEq_f hE
            clear hE hi hz0 hz1 hz2
            generalize idK (xs.take m) ids[k] = oo at *
            go_wp2_with fail
            refine wp_region_above (by kernel_rfl) (by kernel_rfl) ?_
            repeat (go_big_quiet_step (fail))
            refine wpQuiet_nil ?_
            intro w1 b1
            have HB1 := Lib.hid (HB.out.trans (b1.mono HB.out.size))
            have HO1 := Lib.hid (own_below HO.out b1 (Nat.le_refl _)); clear b1 HB HO
            go_wp2_with fail
            go_roundw
            case rel => exact ⟨m + 1, by omega, by go_num, by rw [e.out], by rw [e.out]; exact HO1.out, HB1.out⟩
            case measure => simp [intOf]; omega
          · have e : Hid (idK (xs.take (m + 1)) ids[k] = some m) := idK_take_yes HR.out hlt2 hE
            rw [idK_take_none HR.out hlt2 hE] at HO ⊢
            have t1 := strEq_t hE
            clear hE
            go_wp2_with fail
            refine wp_region_above (by kernel_rfl) (by kernel_rfl) ?_
            repeat (go_big_quiet_step (fail))
            refine wpQuiet_nil ?_
            intro w1 b1
            have HB1 := Lib.hid (HB.out.trans (b1.mono HB.out.size))
            have HO1 := Lib.hid (own_none (own_below HO.out b1 (Nat.le_refl _)))
            have hws1 : w.heap.size ≤ w1.heap.size := HB1.out.size
            clear b1 HB HO c0 d0 e1
            go_wp2_with (at_builtin; refine app_el rfl _ _ 83 2 i0 (.int .i64 0) 1 8 Try.underlying83 hi hz0 hz1 hz2 rfl (by decide) rfl w1 w.heap.size _ k (cs.flatMap putI) (by rfl) HO1.out [.int .i64 m] rfl (by intro u hu; simp at hu; subst hu; rfl) (by rfl) (by omega) (by decide) hws1 ?_; intro g gc w2 hown2 hB2 hz)
            have HB2 := Lib.hid (hB2 w HB1.out)
            have HO2 := Lib.hid hown2
            clear hown2 hB2
            go_roundw
            case rel => exact ⟨m + 1, by omega, by go_num, by rw [e.out]; rfl, by rw [e.out]; show World.ownsRow _ _ _ _ _ (k + 1) ((cs ++ [(m : Int)]).flatMap putI); rw [putI_snoc]; exact HO2.out, HB2.out⟩
            case measure => simp [intOf]; omega
        · have em : Hid (xs.take m = xs) := (take_all (by omega) : xs.take m = xs)
          rw [em.out] at HO ⊢
          have HB := Lib.hid hb
          clear hb hi hz0 hz1 hz2 hsome hsome2
          cases hf : idK xs ids[k] with
          | none =>
            have e : Hid (chosenL xs ids = none) := (chosen_no hlt hf : chosenL xs ids = none)
            clear hf HO
            go_wp2
            go_ret2
            exact ⟨⟨.slice none 0 0, by rw [e.out]; rfl, fun cs hcs => by rw [e.out] at hcs; cases hcs⟩, HB.out⟩
          | some j =>
            have e : Hid (chosenL xs (ids.take (k + 1)) = some (cs ++ [(j : Int)])) := chosen_yes hlt HCH.out hf
            rw [hf] at HO
            clear hf
            go_wp2
            go_roundw
            case rel => exact ⟨k + 1, _, by omega, by go_num, e.out, HO.out, HB.out⟩
            case measure => simp [intOf]; omega
    · have e : Hid (chosenL xs ids = some cs) := (by
        have := HCH.out
        rwa [take_all (by omega)] at this : chosenL xs ids = some cs)
      obtain rfl : k = ids.length := by omega
      have HL := Lib.hid (chosen_len (Nat.le_refl _) HCH.out)
      clear hi hz0 hz1 hz2 hsome hsome2
      go_wp2
      go_ret2
      refine ⟨⟨_, by rw [e.out]; rfl, fun cs' hcs => ?_⟩, HB.out⟩
      rw [e.out] at hcs
      cases hcs
      have := own_rd HO.out
      rwa [← HL.out] at this
end Go.Proofs.Ytdliabgdgjboiaa
