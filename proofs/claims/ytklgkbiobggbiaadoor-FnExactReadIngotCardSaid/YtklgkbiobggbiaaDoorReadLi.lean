/- ReadList: both sides compute the same. -/
import Derived.Test.YtklgkbiobggbiaaDoorRows
import Derived.Test.YtklgkbiobggbiaaDoorListXTx
import Derived.Test.YtklgkbiobggbiaaDoorNumI
import Derived.Test.YtklgkbiobggbiaaDoorParts
import Derived.Test.YtklgkbiobggbiaaDoorOwnK
namespace Go.Proofs.YtklgkbiobggbiaaDoor
open Go.ChangeShapes Go.WideShapes Go.ChangeAt Go.RowKit Go.Deep Go.Joins
set_option linter.unusedVariables false
set_option maxRecDepth 100000
set_option linter.unusedSimpArgs false
theorem infoRL : (Tryd.prog.info? 2).map (fun i => (i.zero, i.size, i.bytes)) = some (some (.int .i64 0), 1, 8) := by kernel_rfl
theorem intI_one (a : Int) : ∀ u ∈ [Value.int .i64 a], u.oneCell' = true := by
  intro u hu
  obtain rfl : u = .int .i64 a := by simpa using hu
  rfl
theorem intI_snoc (cs : List Int) (j : Int) : (cs ++ [j]).flatMap putI = cs.flatMap putI ++ [.int .i64 j] := by
  rw [List.flatMap_append]; rfl
theorem numB_none {w : ByteArray} (h : numS w = none) : numB w = none := by unfold numB; rw [h]; rfl
theorem numB_out {w : ByteArray} {x : Int} (h : numS w = some x) (hv : valB x = false) : numB w = none := by unfold numB; rw [h, Option.bind_some, if_neg (by rw [hv]; simp)]
theorem numB_in {w : ByteArray} {x : Int} (h : numS w = some x) (hv : valB x = true) : numB w = some x := by unfold numB; rw [h, Option.bind_some, if_pos hv]

set_option maxHeartbeats 2000000 in
theorem spec_ReadList (s : ByteArray) (w : World) (hs : s.size ≤ 1048576) :
    Calls Tryd.prog 66 #[.string s] w fun e w' => ∃ r : Value, e = .returned (.tuple #[r, .bool (listR s).isSome]) ∧ w'.ownsRow w.heap.size 2 1 r (listL s).length ((listL s).flatMap putI) ∧ Below w.heap.size w w' := by
  by_cases hd : s = ⟨#[45]⟩
  · have t0 := text_eq hd
    rw [dash_list] at t0
    have e := Lib.hid (listL_some (s := s) (by rw [hd]; exact listR_dash))
    clear hd
    go_enter Tryd.func66, Tryd.ntmps66
    go_wp2_with fail
    go_ret2
    exact ⟨_, by rw [e.out.2]; try rfl, by rw [e.out.1]; exact own_empty w w.heap.size _ 1 (Nat.le_refl _), (Below.refl _ _).alloc (Nat.le_refl _) _⟩
  have t0 := text_ne hd
  rw [dash_list] at t0
  have hR := Lib.hid (listR_word hd)
  obtain ⟨i0, hi, hz0, hz1, hz2⟩ := info_parts infoRL
  have hwl := partsS_len 44 s
  have hwz := Lib.hid (fun x (hx : x ∈ partsS 44 s) => partsS_size x hx)
  have H44 := Lib.hid (fun w' => spec_l01Split 44 s w' hs)
  generalize hW : partsS 44 s = ws at hwl hwz
  rw [hW] at H44 hR
  clear hd hW
  by_cases h64 : 64 < ws.length
  · have t64 : decide ((64 : Int) < (ws.length : Int)) = true := decide_eq_true (by omega)
    have e := Lib.hid (listL_none (s := s) (by rw [hR.out, if_pos h64]))
    go_enter Tryd.func66, Tryd.ntmps66
    go_wp2_with fail
    refine (H44.out _).mono ?_; rintro e w1 ⟨rv, rfl, o1, b1⟩
    obtain ⟨gw, cw, rfl⟩ := (own_rd o1).form
    have HB1 := Lib.hid b1
    clear o1 b1
    go_wp2_with fail
    go_ret2
    exact ⟨_, by rw [e.out.2]; try rfl, by rw [e.out.1]; exact own_nil _ _ _ _, HB1.out⟩
  have t64 : decide ((64 : Int) < (ws.length : Int)) = false := decide_eq_false (by omega)
  rw [if_neg h64] at hR
  go_enter Tryd.func66, Tryd.ntmps66
  go_wp2_with fail
  refine (H44.out _).mono ?_; rintro e w1 ⟨rv, rfl, o1, b1⟩
  rcases own_form o1 with ⟨_, q⟩ | ⟨gw, cw, rfl⟩
  · omega
  obtain ⟨U, ou⟩ := own_block o1
  have HWd := Lib.hid ou
  have HB1 := Lib.hid b1
  have hws1 := b1.size
  have hgw := ou.lt
  have hpl := putStr_len ws
  clear o1 b1 ou H44
  go_wp2_with fail
  go_loopw [5, 6, 7, 8] (fun r i _ _ wr => ∃ (k : Nat) (o : List Int), k ≤ ws.length ∧ i = .int .i64 k ∧ readN (ws.take k) = some o ∧ wr.ownsRow w.heap.size 2 1 r o.length (o.flatMap putI) ∧ Own wr gw 9 (ws.flatMap putStr ++ U) ∧ Below w.heap.size w wr) (fun _ i _ _ _ => ws.length - (intOf i).toNat)
  case atStart => exact ⟨0, [], Nat.zero_le _, rfl, rfl, own_empty w1 w.heap.size _ 1 hws1, HWd.out.alloc _, HB1.out.alloc hws1 _⟩
  case round =>
    clear HWd HB1
    obtain ⟨k, o, hk, rfl, hrd, hown, howd, hb⟩ := hrel
    have hol := readN_len hrd
    rw [List.length_take] at hol
    have HOL : Hid (o.length ≤ k) := Lib.hid (by omega)
    clear hol
    have HO := Lib.hid hown
    obtain ⟨ro, rc, er0⟩ := (own_rd hown).form
    subst er0
    clear hown
    have HWd := Lib.hid howd
    have HB := Lib.hid hb
    have hws := hb.size
    have hgw := howd.lt
    by_cases hlt : k < ws.length
    · have c0 := own_rdU howd hpl k hlt
      rw [putStr_get ws k hlt] at c0
      have hsz : ws[k].size ≤ 2147483647 := Nat.le_trans (hwz.out _ (List.getElem_mem hlt)) (by omega)
      have NA := Lib.hid (fun w' => spec_l01Number ws[k] w' hsz)
      have hsn := Lib.hid (readN_snoc (ws.take k) ws[k])
      have HRD := Lib.hid hrd
      have htk := Lib.hid (List.take_append_getElem hlt)
      clear howd hb hrd
      cases hna : numS ws[k] with
      | none =>
        have e := Lib.hid (listL_none (s := s) (by rw [hR.out, readN_bad hlt (numB_none hna)]))
        rw [(num_none hna).1, (num_none hna).2] at NA
        clear hna
        go_wp2_with fail
        refine (NA.out _).mono ?_; rintro e w' ⟨rfl, rfl⟩
        go_wp2_with fail
        go_ret2
        exact ⟨_, by rw [e.out.2]; try rfl, by rw [e.out.1]; exact own_nil _ _ _ _, HB.out⟩
      | some x =>
        rw [(num_some hna).1, (num_some hna).2] at NA
        have hxb := numV_bd ws[k]
        rw [(num_some hna).1] at hxb
        cases hv : valB x with
        | false =>
          have e := Lib.hid (listL_none (s := s) (by rw [hR.out, readN_bad hlt (numB_out hna hv)]))
          have hv' : inB x (-1000000000000) 1000000000000 = false := hv
          have HI := Lib.hid (fun w' => l00In_is x (-1000000000000) 1000000000000 w' hv')
          clear hna hv hv'
          go_wp2_with fail
          refine (NA.out _).mono ?_; rintro e w' ⟨rfl, rfl⟩
          go_wp2_with fail
          refine (HI.out _).mono ?_; rintro e w' ⟨rfl, rfl⟩
          go_wp2_with fail
          go_ret2
          exact ⟨_, by rw [e.out.2]; try rfl, by rw [e.out.1]; exact own_nil _ _ _ _, HB.out⟩
        | true =>
          have hnext : Hid (readN (ws.take (k + 1)) = some (o ++ [x])) := Lib.hid (by rw [← htk.out, hsn.out, HRD.out, numB_in hna hv]; rfl)
          have hv' : inB x (-1000000000000) 1000000000000 = true := hv
          have HI := Lib.hid (fun w' => l00In_is x (-1000000000000) 1000000000000 w' hv')
          clear hna hv hv'
          go_wp2_with fail
          refine (NA.out _).mono ?_; rintro e w' ⟨rfl, rfl⟩
          go_wp2_with fail
          refine (HI.out _).mono ?_; rintro e w2 ⟨rfl, rfl⟩
          go_wp2_with (at_builtin; go_loud (refine app_elK rfl _ _ 53 2 i0 (.int .i64 0) 1 8 Tryd.underlying53 hi hz0 hz1 hz2 (by rfl) (by decide) rfl _ w.heap.size _ o.length (o.flatMap putI) (by rfl) HO.out [.int .i64 x] rfl (intI_one _) (by first | rfl | (rw [World.size_alloc]; rfl)) (by have := HOL.out; omega) (by decide) hws (by rfl) ?_; intro g3 gc3 w3 hown3 hB3 hK3 hy3; have HO3 := Lib.hid hown3; have HB3 := Lib.hid (HB.out.trans (hB3 _ (Below.refl _ _))); have HWd3 := Lib.hid (hK3 _ _ _ HWd.out (own_apart_type HO.out HWd.out (by decide))); clear hown3 hB3 hK3 hy3))
          go_roundw
          case rel => exact ⟨k + 1, o ++ [x], by omega, by go_num, hnext.out, by rw [intI_snoc, List.length_append]; exact HO3.out, HWd3.out, HB3.out⟩
          case measure => simp [intOf]; omega
    · obtain rfl : k = ws.length := by omega
      rw [List.take_length] at hrd
      have e := Lib.hid (listL_some (s := s) (by rw [hR.out, hrd]))
      clear hrd howd hb
      go_wp2_with fail
      go_ret2
      exact ⟨_, by rw [e.out.2]; try rfl, by rw [e.out.1]; exact HO.out, HB.out⟩

set_option maxHeartbeats 2000000 in
theorem impl_ReadList (s : ByteArray) (w : World) (hs : s.size ≤ 1048576) (hm : MaxL w) (hp : Pow10 w) (he : ErrS w) :
    Calls Tryd.prog 32 #[.string s] w fun e w' => ∃ r : Value, e = .returned (.tuple #[r, .bool (listR s).isSome]) ∧ w'.ownsRow w.heap.size 2 1 r (listL s).length ((listL s).flatMap putI) ∧ Below w.heap.size w w' := by
  have HM := Lib.hid hm; clear hm
  have HP := Lib.hid hp; clear hp
  have HE := Lib.hid he; clear he
  by_cases hd : s = ⟨#[45]⟩
  · have t0 := text_eq hd
    rw [dash_list] at t0
    have e := Lib.hid (listL_some (s := s) (by rw [hd]; exact listR_dash))
    clear hd
    go_enter Tryd.func32, Tryd.ntmps32
    go_wp2_with fail
    go_ret2
    exact ⟨_, by rw [e.out.2]; try rfl, by rw [e.out.1]; exact own_nil _ _ _ _, Below.refl _ _⟩
  have t0 := text_ne hd
  rw [dash_list] at t0
  obtain ⟨i0, hi, hz0, hz1, hz2⟩ := info_parts infoRL
  have hT := Lib.hid (list_tests hd _ rfl)
  have hwl := partsS_len 44 s
  have hwz := Lib.hid (fun x (hx : x ∈ partsS 44 s) => partsS_size x hx)
  have H44 := Lib.hid (impl_Split 44 s w hs HM.out)
  generalize hW : partsS 44 s = ws at hwl hwz H44 hT
  have hpl := putStr_len ws
  clear hd hW
  go_enter Tryd.func32, Tryd.ntmps32
  go_wp2_with fail
  refine H44.out.mono ?_; rintro e w1 ⟨rfl, o1, b1⟩
  have HWd := Lib.hid o1
  have HB1 := Lib.hid b1
  clear o1 b1 H44
  go_wp2_with fail
  go_loopw [4, 6, 7, 8, 14] (fun r _ _ _ i wr => ∃ (k : Nat), k ≤ ws.length ∧ i = .int .i64 k ∧ wr.ownsRow w.heap.size 2 1 r ((ws.take k).map numV).length (((ws.take k).map numV).flatMap putI) ∧ Own wr w.heap.size 9 (ws.flatMap putStr) ∧ Below w.heap.size w wr) (fun _ _ _ _ i _ => ws.length - (intOf i).toNat)
  case atStart => exact ⟨0, Nat.zero_le _, rfl, own_nil _ _ _ _, HWd.out, HB1.out⟩
  case round =>
    clear HWd HB1
    obtain ⟨k, hk, rfl, hown, howd, hb⟩ := hrel
    have HOL : Hid (((ws.take k).map numV).length = k) := Lib.hid (by rw [List.length_map, List.length_take]; omega)
    obtain ⟨o, ho⟩ : ∃ o, (ws.take k).map numV = o := ⟨_, rfl⟩
    rw [ho] at hown HOL
    have HOE := Lib.hid ho
    clear ho
    have HO := Lib.hid hown
    obtain ⟨ro, rc, er0⟩ := (own_rd hown).form
    subst er0
    clear hown
    have HWd := Lib.hid howd
    have HB := Lib.hid hb
    have hws := hb.size
    have hgw := howd.lt
    by_cases hlt : k < ws.length
    · have c0 := howd.cell k
      rw [putStr_get ws k hlt] at c0
      have hsz : ws[k].size ≤ 2147483647 := Nat.le_trans (hwz.out _ (List.getElem_mem hlt)) (by omega)
      have hms : Hid ((ws.take (k + 1)).map numV = (ws.take k).map numV ++ [numV ws[k]]) := Lib.hid (by rw [← List.take_append_getElem hlt, List.map_append]; rfl)
      have hA := Lib.hid (fun (w' : World) (h1 : Pow10 w') (h2 : ErrS w') => impl_ReadDecimal ws[k] w' hsz h1 h2)
      obtain ⟨x, hx⟩ : ∃ x, numV ws[k] = x := ⟨_, rfl⟩
      rw [hx] at hA hms
      clear howd hb hx
      go_wp2_with fail
      refine (hA.out _ (HP.out.below HB.out) (HE.out.below HB.out)).mono ?_; rintro e w3 ⟨rfl, b3⟩
      have HO3 := Lib.hid (own_below HO.out b3 (Nat.le_refl _))
      have HWd3 := Lib.hid (HWd.out.below b3 HWd.out.lt)
      have HB3 := Lib.hid (bnext HB.out b3)
      have hs3 := HB3.out.size
      clear b3 c0 HO HWd HB hA
      go_wp2_with (at_builtin; go_loud (refine app_elK rfl _ _ 53 2 i0 (.int .i64 0) 1 8 Tryd.underlying53 hi hz0 hz1 hz2 (by rfl) (by decide) rfl w3 w.heap.size _ o.length (o.flatMap putI) (by rfl) HO3.out [.int .i64 x] rfl (intI_one _) (by first | rfl | (rw [World.size_alloc]; rfl)) (by have := HOL.out; omega) (by decide) hs3 (by rfl) ?_; intro g7 gc7 w7 hown7 hB7 hK7 hy7; have HO7 := Lib.hid hown7; have HB7 := Lib.hid (HB3.out.trans (hB7 _ (Below.refl _ _))); have HWd7 := Lib.hid (hK7 _ _ _ HWd3.out (own_apart_type HO3.out HWd3.out (by decide))); clear hown7 hB7 hK7 hy7))
      go_roundw
      case rel => exact ⟨k + 1, by omega, by go_num, by rw [hms.out, HOE.out, intI_snoc, List.length_append]; exact HO7.out, HWd7.out, HB7.out⟩
      case measure => simp [intOf]; omega
    · obtain rfl : k = ws.length := by omega
      have hxl : Hid (0 < o.length ∧ o.length ≤ 2097152) := Lib.hid (by have := HOL.out; omega)
      have hoe := HOE.out
      rw [List.take_length] at hoe
      rw [hoe] at hT
      have HX := Lib.hid (fun (w' : World) (hr : Rd w'.heap.size w' (.slice ro o.length rc) 1 o.length (o.flatMap putI)) (h1 : Pow10 w') => impl_ListTextX w' _ o hr hxl.out.1 hxl.out.2 h1)
      clear howd hb hoe HOE HOL
      by_cases ht : listX o = s
      · have e := Lib.hid (listL_some (hT.out.1 ht))
        have t1 := text_eq ht
        clear ht
        go_wp2_with fail
        refine (HX.out _ (own_rd HO.out) (HP.out.below HB.out)).mono ?_; rintro e w2 ⟨rfl, b2⟩
        have HB2 := Lib.hid (bnext HB.out b2)
        have HO2 := Lib.hid (own_below HO.out b2 (Nat.le_refl _)); clear b2
        go_wp2_with fail
        go_ret2
        exact ⟨_, by rw [e.out.2]; try rfl, by rw [e.out.1]; exact HO2.out, HB2.out⟩
      · have e := Lib.hid (listL_none (hT.out.2 ht))
        have t1 := text_ne ht
        clear ht
        go_wp2_with fail
        refine (HX.out _ (own_rd HO.out) (HP.out.below HB.out)).mono ?_; rintro e w2 ⟨rfl, b2⟩
        have HB2 := Lib.hid (bnext HB.out b2); clear b2
        go_wp2_with fail
        go_ret2
        exact ⟨_, by rw [e.out.2]; try rfl, by rw [e.out.1]; exact own_nil _ _ _ _, HB2.out⟩
end Go.Proofs.YtklgkbiobggbiaaDoor
