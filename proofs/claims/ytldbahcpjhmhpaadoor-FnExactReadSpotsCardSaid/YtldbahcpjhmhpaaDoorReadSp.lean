/- ReadSpots: both sides compute the same. -/
import Derived.Test.YtldbahcpjhmhpaaDoorRows
import Derived.Test.YtldbahcpjhmhpaaDoorReadSpL
import Derived.Test.YtldbahcpjhmhpaaDoorNumI
import Derived.Test.YtldbahcpjhmhpaaDoorParts
import Derived.Test.YtldbahcpjhmhpaaDoorVSpotX
import Derived.Test.YtldbahcpjhmhpaaDoorAddS
import Derived.Test.YtldbahcpjhmhpaaDoorClonS
namespace Go.Proofs.YtldbahcpjhmhpaaDoor
open Go.ChangeShapes Go.WideShapes Go.ChangeAt Go.RowKit Go.Deep Go.Joins
set_option linter.unusedVariables false
set_option maxRecDepth 100000
set_option linter.unusedSimpArgs false
theorem own_block {w : World} {base g cap n s : Nat} {E : TypeId} {L : List Value} (h : w.ownsRow base E s (.slice (some ⟨g, 0, none⟩) n cap) n L) : ∃ U, Own w g E (L ++ U) := by
  obtain ⟨h1, h2⟩ := h
  rcases h2 with ⟨e, _⟩ | ⟨g', cap', cur, e, hb, hg, hn, hm, hs, ht⟩
  · cases e
  · injection e with q1 q2 q3
    injection q1 with q4
    injection q4 with q5
    subst q5
    refine ⟨cur.toList.drop (n * s), ?_⟩
    rw [← ht, List.take_append_drop]
    unfold Own
    simpa using hg
/-- blocks of two types are two blocks -/
theorem own_apart_type {w : World} {base s n g : Nat} {E E' : TypeId} {v : Value} {L L' : List Value} (h : w.ownsRow base E s v n L) (o : Own w g E' L') (hne : E ≠ E') : ∀ g', v.ownBlock = some g' → g' ≠ g := by
  rintro g' hg rfl
  obtain ⟨h1, h2⟩ := h
  rcases h2 with ⟨rfl, _⟩ | ⟨g2, cap, cur, rfl, hb, hg2, rest⟩
  · cases hg
  · obtain rfl : g2 = g' := by injection hg
    unfold Own at o
    rw [hg2] at o
    injection o with o
    injection o with _ q _
    exact hne q
theorem own_rdU {w : World} {g n : Nat} {E : TypeId} {L U : List Value} (h : Own w g E (L ++ U)) (hl : L.length = n * 1) (k : Nat) (hk : k < n) : w.cell? ⟨g, k, none⟩ = L[k]? := by
  rw [h.cell, List.getElem?_append_left (by omega)]
theorem readR_dash : readR ⟨#[45]⟩ = some [] := if_pos rfl
theorem readR_word {s : ByteArray} (h : s ≠ ⟨#[45]⟩) : readR s = (readW (partsS 32 s)).bind fun xs => if validSpotS xs = true then some xs else none := if_neg h
theorem readL_none {s : ByteArray} (h : readR s = none) : readL s = [] ∧ (readR s).isSome = false := by unfold readL; rw [h]; exact ⟨rfl, rfl⟩
theorem readL_some {s : ByteArray} {xs : List Spot} (h : readR s = some xs) : readL s = xs ∧ (readR s).isSome = true := by unfold readL; rw [h]; exact ⟨rfl, rfl⟩
theorem specW_not2 {w : ByteArray} (h : (partsS 58 w).length ≠ 2) : specW w = none := by
  unfold specW
  split
  · rename_i a b hp; rw [hp] at h; exact absurd rfl h
  · rfl
theorem dash_list : (⟨#[45]⟩ : ByteArray).toList = [45] := by rw [ByteArray.toList_eq]
theorem specW_two {w a b : ByteArray} (h : partsS 58 w = [a, b]) : specW w = match numS a, numS b with
    | some x, some y => some ⟨x, y⟩
    | _, _ => none := by
  unfold specW
  rw [h]
  rfl
theorem two_of {α : Type} {l : List α} (h : l.length = 2) : ∃ a b, l = [a, b] := by
  match l, h with
  | [a, b], _ => exact ⟨a, b, rfl⟩
theorem spot_ok_of {xs : List Spot} {ws : List ByteArray} (h : readW ws = some xs) : ∀ x ∈ xs, x.ok := by
  obtain ⟨h1, h2⟩ := readW_some h
  intro x hx
  rw [← h2] at hx
  obtain ⟨w, _, rfl⟩ := List.mem_map.1 hx
  have a := numV_bd (cutA 58 w)
  have b := numV_bd (cutB 58 w)
  exact ⟨⟨by show _ ≤ numV _; omega, by show numV _ ≤ _; omega⟩, ⟨by show _ ≤ numV _; omega, by show numV _ ≤ _; omega⟩⟩
theorem readW_len {xs : List Spot} {ws : List ByteArray} (h : readW ws = some xs) : xs.length = ws.length := by
  obtain ⟨h1, h2⟩ := readW_some h
  rw [h1, List.length_map]

set_option maxHeartbeats 1000000 in
theorem spec_ReadSpots (s : ByteArray) (w : World) (hs : s.size ≤ 1048576) :
    Calls Tryd.prog 8 #[.string s] w fun e w' => ∃ r : Value, e = .returned (.tuple #[r, .bool (readR s).isSome]) ∧ w'.ownsRow w.heap.size 58 2 r (readL s).length ((readL s).flatMap Spot.put) ∧ Below w.heap.size w w' := by
  by_cases hd : s = ⟨#[45]⟩
  · have t0 := text_eq hd
    rw [dash_list] at t0
    have e := Lib.hid (readL_some (s := s) (by rw [hd]; exact readR_dash))
    clear hd
    go_enter Tryd.func8, Tryd.ntmps8
    go_wp2_with fail
    go_ret2
    exact ⟨_, by rw [e.out.2]; try rfl, by rw [e.out.1]; exact own_empty w w.heap.size _ 2 (Nat.le_refl _), (Below.refl _ _).alloc (Nat.le_refl _) _⟩
  have t0 := text_ne hd
  rw [dash_list] at t0
  have hR := Lib.hid (readR_word hd)
  obtain ⟨i0, hi, hz0, hz1, hz2⟩ := info_parts Spot_info
  have HO0 := Lib.hid (own_empty w w.heap.size 58 2 (Nat.le_refl _))
  have HB0 := Lib.hid ((Below.refl _ w).alloc (Nat.le_refl w.heap.size) (.cells #[] 58))
  have hwl := partsS_len 32 s
  have hwz := Lib.hid (fun x (hx : x ∈ partsS 32 s) => partsS_size x hx)
  generalize hW : partsS 32 s = ws at hwl hwz
  have H32 := Lib.hid (fun w' => spec_l01Split 32 s w' hs)
  rw [hW] at H32 hR
  clear hd hW
  go_enter Tryd.func8, Tryd.ntmps8
  go_wp2_with fail
  refine (H32.out _).mono ?_; rintro e w1 ⟨rv, rfl, o1, b1⟩
  rcases own_form o1 with ⟨_, q⟩ | ⟨gw, cw, rfl⟩
  · omega
  obtain ⟨U, ou⟩ := own_block o1
  have HWd := Lib.hid ou
  have HO1 := Lib.hid (own_below HO0.out b1 (Nat.le_refl _))
  have HB1 := Lib.hid (HB0.out.trans (b1.mono (by simp)))
  have hpl := putStr_len ws
  clear o1 b1 ou HO0 HB0 H32
  go_wp2_with fail
  go_loopw [4, 6, 7, 8, 9, 10, 11] (fun r i _ _ _ _ _ wr => ∃ (k : Nat) (o : List Spot), k ≤ ws.length ∧ i = .int .i64 k ∧ readW (ws.take k) = some o ∧ wr.ownsRow w.heap.size 58 2 r o.length (o.flatMap Spot.put) ∧ Own wr gw 9 (ws.flatMap putStr ++ U) ∧ Below w.heap.size w wr) (fun _ i _ _ _ _ _ _ => ws.length - (intOf i).toNat)
  case atStart => exact ⟨0, [], Nat.zero_le _, rfl, rfl, HO1.out, HWd.out, HB1.out⟩
  case round =>
    clear HO1 HWd HB1
    obtain ⟨k, o, hk, rfl, hrd, hown, howd, hb⟩ := hrel
    have hol := readW_len hrd
    rw [List.length_take] at hol
    have HOL : Hid (o.length ≤ k) := Lib.hid (by omega)
    clear hol
    have HO := Lib.hid hown
    obtain ⟨ro, rc, er0⟩ := (own_rd hown).form
    subst er0
    clear hown
    have HWd := Lib.hid howd
    have HB := Lib.hid hb
    have hws := hb.size
    have hgw := howd.lt
    by_cases hlt : k < ws.length
    · have c0 := own_rdU howd hpl k hlt
      rw [putStr_get ws k hlt] at c0
      have hsz : ws[k].size ≤ 1048576 := Nat.le_trans (hwz.out _ (List.getElem_mem hlt)) hs
      have H58 := Lib.hid (fun w' => spec_l01Split 58 ws[k] w' hsz)
      have hsn := Lib.hid (readW_snoc (ws.take k) ws[k])
      have HRD := Lib.hid hrd
      have htk := Lib.hid (List.take_append_getElem hlt)
      clear howd hb hrd
      go_wp2_with fail
      refine (H58.out _).mono ?_; rintro e w2 ⟨r2, rfl, o2, b2⟩
      have HO2 := Lib.hid (own_below HO.out b2 (Nat.le_refl _))
      have HWd2 := Lib.hid (HWd.out.below b2 HWd.out.lt)
      have HB2 := Lib.hid (bnext HB.out b2)
      obtain ⟨rx, rxc, rfl⟩ := (own_rd o2).form
      have hp2 := (partsS_len 58 ws[k])
      by_cases h2 : (partsS 58 ws[k]).length = 2
      case neg =>
        have t2 : (((partsS 58 ws[k]).length : Int) != 2) = true := bne_iff_ne.2 (by omega)
        have e := Lib.hid (readL_none (s := s) (by rw [hR.out, readW_bad hlt (specW_not2 h2)]; rfl))
        clear c0 b2 o2 h2
        go_wp2_with fail
        go_ret2
        exact ⟨_, by rw [e.out.2]; try rfl, by rw [e.out.1]; exact own_nil _ _ _ _, HB2.out⟩
      obtain ⟨a, b, hab⟩ := two_of h2
      have hsab : a.size ≤ 2147483647 ∧ b.size ≤ 2147483647 := by
        have h1 := partsS_size (c := 58) (s := ws[k]) a (by rw [hab]; simp)
        have h2 := partsS_size (c := 58) (s := ws[k]) b (by rw [hab]; simp)
        exact ⟨by omega, by omega⟩
      have hsp := Lib.hid (specW_two hab)
      rw [hab] at o2
      have e2 : ([a, b] : List ByteArray).length = 2 := rfl
      rw [h2]
      rw [e2] at o2
      rcases own_form o2 with ⟨_, q⟩ | ⟨gx, cx, ex⟩
      · omega
      cases ex
      obtain ⟨d0, _, hgx, _⟩ := own_cellI o2 0 (by omega)
      obtain ⟨d1, _, _, _⟩ := own_cellI o2 1 (by omega)
      have d0' : w2.cell? ⟨gx, 0, none⟩ = some (.string a) := d0
      have d1' : w2.cell? ⟨gx, 1, none⟩ = some (.string b) := d1
      have t2 : (((2 : Nat) : Int) != 2) = false := rfl
      have hws2 := HB2.out.size
      have NA := Lib.hid (fun w' => spec_l01Number a w' hsab.1)
      have NB := Lib.hid (fun w' => spec_l01Number b w' hsab.2)
      clear c0 b2 o2 d0 d1
      cases hna : numS a with
      | none =>
        have e := Lib.hid (readL_none (s := s) (by rw [hR.out, readW_bad hlt (by rw [hsp.out, hna])]; rfl))
        rw [(num_none hna).1, (num_none hna).2] at NA
        clear hna
        go_wp2_with fail
        refine (NA.out _).mono ?_; rintro e w' ⟨rfl, rfl⟩
        go_wp2_with fail
        refine (NB.out _).mono ?_; rintro e w' ⟨rfl, rfl⟩
        go_wp2_with fail
        go_ret2
        exact ⟨_, by rw [e.out.2]; try rfl, by rw [e.out.1]; exact own_nil _ _ _ _, HB2.out⟩
      | some x =>
        rw [(num_some hna).1, (num_some hna).2] at NA
        cases hnb : numS b with
        | none =>
          have e := Lib.hid (readL_none (s := s) (by rw [hR.out, readW_bad hlt (by rw [hsp.out, hna, hnb])]; rfl))
          rw [(num_none hnb).1, (num_none hnb).2] at NB
          clear hna hnb
          go_wp2_with fail
          refine (NA.out _).mono ?_; rintro e w' ⟨rfl, rfl⟩
          go_wp2_with fail
          refine (NB.out _).mono ?_; rintro e w' ⟨rfl, rfl⟩
          go_wp2_with fail
          go_ret2
          exact ⟨_, by rw [e.out.2]; try rfl, by rw [e.out.1]; exact own_nil _ _ _ _, HB2.out⟩
        | some y =>
          rw [(num_some hnb).1, (num_some hnb).2] at NB
          have hnext : Hid (readW (ws.take (k + 1)) = some (o ++ [⟨x, y⟩])) := Lib.hid (by rw [← htk.out, hsn.out, HRD.out, hsp.out, hna, hnb]; rfl)
          clear hna hnb
          go_wp2_with fail
          refine (NA.out _).mono ?_; rintro e w' ⟨rfl, rfl⟩
          go_wp2_with fail
          refine (NB.out _).mono ?_; rintro e w' ⟨rfl, rfl⟩
          go_wp2_with (at_builtin; go_loud (refine app_elK rfl _ _ 22 58 i0 (.agg #[.int .i64 0, .int .i64 0]) 2 16 Tryd.underlying22 hi hz0 hz1 hz2 (by rfl) (by decide) rfl w2 w.heap.size _ o.length (o.flatMap Spot.put) (by rfl) HO2.out [.int .i64 x, .int .i64 y] rfl (spot_one _ _) (by first | rfl | (rw [World.size_alloc]; rfl)) (by have := HOL.out; omega) (by decide) hws2 (by rfl) ?_; intro g3 gc3 w3 hown3 hB3 hK3 hy3; have HO3 := Lib.hid hown3; have HB3 := Lib.hid (HB2.out.trans (hB3 _ (Below.refl _ _))); have HWd3 := Lib.hid (hK3 _ _ _ HWd2.out (own_apart_type HO2.out HWd2.out (by decide))); clear hown3 hB3 hK3 hy3))
          go_roundw
          case rel => exact ⟨k + 1, o ++ [⟨x, y⟩], by omega, by go_num, hnext.out, by rw [spot_snoc, List.length_append]; exact HO3.out, HWd3.out, HB3.out⟩
          case measure => simp [intOf]; omega
    · obtain rfl : k = ws.length := by omega
      rw [List.take_length] at hrd
      have HX := Lib.hid (fun (w' : World) (hr : Rd w'.heap.size w' (.slice ro o.length rc) 2 o.length (o.flatMap Spot.put)) => spec_validSpotX w' _ o hr (by have := HOL.out; omega) (spot_ok_of hrd))
      have hRR : Hid (readR s = if validSpotS o = true then some o else none) := Lib.hid (by rw [hR.out, hrd]; rfl)
      clear hrd howd hb
      cases hv : validSpotS o
      all_goals rw [hv] at HX hRR
      · have e := Lib.hid (readL_none (s := s) (by rw [hRR.out]; rfl))
        clear hRR hv
        go_wp2_with fail
        refine (HX.out _ (own_rd HO.out)).mono ?_; rintro e w2 ⟨rfl, b2⟩
        have HB2 := Lib.hid (bnext HB.out b2); clear b2
        go_wp2_with fail
        go_ret2
        exact ⟨_, by rw [e.out.2]; try rfl, by rw [e.out.1]; exact own_nil _ _ _ _, HB2.out⟩
      · have e := Lib.hid (readL_some (s := s) (by rw [hRR.out]; rfl))
        clear hRR hv
        go_wp2_with fail
        refine (HX.out _ (own_rd HO.out)).mono ?_; rintro e w2 ⟨rfl, b2⟩
        have HB2 := Lib.hid (bnext HB.out b2)
        have HO2 := Lib.hid (own_below HO.out b2 (Nat.le_refl _)); clear b2
        go_wp2_with fail
        go_ret2
        exact ⟨_, by rw [e.out.2]; try rfl, by rw [e.out.1]; exact HO2.out, HB2.out⟩
end Go.Proofs.YtldbahcpjhmhpaaDoor
