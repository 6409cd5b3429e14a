/- Contracts and plain facts, joined: ReadSpI, DecLaid. -/
import Derived.Test.YtockglfoeagahaaGreatDoorRows
import Derived.Test.YtockglfoeagahaaGreatDoorZFnWarbleX
import Derived.Test.YtockglfoeagahaaGreatDoorZFnWarbleZG
import Derived.Lib.LaidTab
namespace Go.Proofs.YtockglfoeagahaaGreatDoor
open Go.ChangeShapes Go.WideShapes Go.ChangeAt Go.RowKit Go.Deep Go.Joins
set_option linter.unusedVariables false
set_option maxRecDepth 100000
set_option linter.unusedSimpArgs false
theorem spotW_ok (w : ByteArray) : (spotW w).ok := by
  have a := numV_bd (cutA 58 w)
  have b := numV_bd (cutB 58 w)
  exact ⟨⟨by show _ ≤ numV _; omega, by show numV _ ≤ _; omega⟩, ⟨by show _ ≤ numV _; omega, by show numV _ ≤ _; omega⟩⟩
theorem map_snoc (ws : List ByteArray) {k : Nat} (h : k < ws.length) : (ws.take (k + 1)).map spotW = (ws.take k).map spotW ++ [spotW ws[k]] := by
  rw [← List.take_append_getElem h, List.map_append]; rfl
set_option maxHeartbeats 2000000 in
theorem impl_ReadSpots (s : ByteArray) (w : World) (hs : s.size ≤ 1048576) (hm : MaxL w) (hp : Pow10 w) (he : ErrS w) :
    Calls Tryz.prog 15 #[.string s] w fun e w' => ∃ r : Value, e = .returned (.tuple #[r, .bool (readR s).isSome]) ∧ w'.ownsRow w.heap.size 38 2 r (readL s).length ((readL s).flatMap Spot.put) ∧ Below w.heap.size w w' := by
  have HM := Lib.hid hm; clear hm
  have HP := Lib.hid hp; clear hp
  have HE := Lib.hid he; clear he
  by_cases hd : s = ⟨#[45]⟩
  · have t0 := text_eq hd
    rw [dash_list] at t0
    have e := Lib.hid (readL_some (s := s) (by rw [hd]; exact readR_dash))
    clear hd
    go_enter Tryz.func15, Tryz.ntmps15
    go_wp2_with fail
    go_ret2
    exact ⟨_, by rw [e.out.2]; try rfl, by rw [e.out.1]; exact own_nil _ _ _ _, Below.refl _ _⟩
  have t0 := text_ne hd
  rw [dash_list] at t0
  obtain ⟨i0, hi, hz0, hz1, hz2⟩ := info_parts Spot_info
  have hT := Lib.hid (read_tests hd _ rfl)
  have hwl := partsS_len 32 s
  have hwz := Lib.hid (fun x (hx : x ∈ partsS 32 s) => partsS_size x hx)
  have H32 := Lib.hid (impl_Split 32 s w hs HM.out)
  generalize hW : partsS 32 s = ws at hwl hwz H32 hT
  have hpl := putStr_len ws
  clear hd hW
  go_enter Tryz.func15, Tryz.ntmps15
  go_wp2_with fail
  refine H32.out.mono ?_; rintro e w1 ⟨rfl, o1, b1⟩
  have HWd := Lib.hid o1
  have HB1 := Lib.hid b1
  clear o1 b1 H32
  go_wp2_with fail
  go_loopw [4, 6, 7, 8, 9, 10, 16] (fun r _ _ _ _ _ i wr => ∃ (k : Nat), k ≤ ws.length ∧ i = .int .i64 k ∧ wr.ownsRow w.heap.size 38 2 r ((ws.take k).map spotW).length (((ws.take k).map spotW).flatMap Spot.put) ∧ Own wr w.heap.size 9 (ws.flatMap putStr) ∧ Below w.heap.size w wr) (fun _ _ _ _ _ _ i _ => ws.length - (intOf i).toNat)
  case atStart => exact ⟨0, Nat.zero_le _, rfl, own_nil _ _ _ _, HWd.out, HB1.out⟩
  case round =>
    clear HWd HB1
    obtain ⟨k, hk, rfl, hown, howd, hb⟩ := hrel
    have HOL : Hid (((ws.take k).map spotW).length ≤ k) := Lib.hid (by rw [List.length_map, List.length_take]; omega)
    obtain ⟨o, ho⟩ : ∃ o, (ws.take k).map spotW = o := ⟨_, rfl⟩
    rw [ho] at hown HOL
    have HOE := Lib.hid ho
    clear ho
    have HO := Lib.hid hown
    obtain ⟨ro, rc, er0⟩ := (own_rd hown).form
    subst er0
    clear hown
    have HWd := Lib.hid howd
    have HB := Lib.hid hb
    have hws := hb.size
    have hgw := howd.lt
    by_cases hlt : k < ws.length
    · have c0 := howd.cell k
      rw [putStr_get ws k hlt] at c0
      have hsz : ws[k].size ≤ 1048576 := Nat.le_trans (hwz.out _ (List.getElem_mem hlt)) hs
      have hcs := cut_sizes 58 ws[k]
      have hms := Lib.hid (map_snoc ws hlt)
      obtain ⟨sp, hsp⟩ : ∃ sp, spotW ws[k] = sp := ⟨_, rfl⟩
      have HSP := Lib.hid hsp
      have hA := Lib.hid (fun (w' : World) (h1 : Pow10 w') (h2 : ErrS w') => impl_ReadDecimal (cutA 58 ws[k]) w' (by omega) h1 h2)
      have hB := Lib.hid (fun (w' : World) (h1 : Pow10 w') (h2 : ErrS w') => impl_ReadDecimal (cutB 58 ws[k]) w' (by omega) h1 h2)
      have hC := Lib.hid (fun (w' : World) (h1 : MaxL w') => impl_Cut 58 ws[k] w' (by omega) h1)
      have ea : numV (cutA 58 ws[k]) = sp.angle := by rw [← hsp]; rfl
      have eb : numV (cutB 58 ws[k]) = sp.weight := by rw [← hsp]; rfl
      rw [ea] at hA
      rw [eb] at hB
      clear howd hb hsp ea eb hcs
      go_wp2_with fail
      refine (hC.out _ (HM.out.below HB.out)).mono ?_; rintro e w2 ⟨rfl, b2⟩
      have HO2 := Lib.hid (own_below HO.out b2 (Nat.le_refl _))
      have HWd2 := Lib.hid (HWd.out.below b2 HWd.out.lt)
      have HB2 := Lib.hid (bnext HB.out b2)
      clear b2 c0 HO HWd HB
      go_wp2_with fail
      have hg2 : w.heap.size ≤ w2.heap.size := HB2.out.size
      have hgw2 := HWd2.out.lt
      have HX0 := Lib.hid (Own.new w2 38 [.int .i64 0, .int .i64 0])
      have HB2' := Lib.hid (HB2.out.alloc HB2.out.size (.cells #[.int .i64 0, .int .i64 0] 38))
      refine (hA.out _ (HP.out.below HB2'.out) (HE.out.below HB2'.out)).mono ?_; rintro e w3 ⟨rfl, b3⟩
      have HX3 := Lib.hid (HX0.out.below b3 HX0.out.lt)
      have HO3 := Lib.hid (own_below (HO2.out.alloc (.cells #[.int .i64 0, .int .i64 0] 38)) b3 (Nat.le_refl _))
      have HWd3 := Lib.hid ((HWd2.out.alloc (.cells #[.int .i64 0, .int .i64 0] 38)).below b3 (by simp; omega))
      have HB3 := Lib.hid (bnext HB2'.out b3)
      have hro : Hid (∀ g', Value.ownBlock (.slice ro o.length rc) = some g' → g' ≠ w2.heap.size) := Lib.hid (fun g' e => by have := (HO2.out.lt g' e).2; omega)
      clear b3 HX0 HO2 HWd2 HB2 HB2' hA
      have d0 := HX3.out.cell 0
      have f0 := HX3.out.free 0
      have dl := HX3.out.lt
      go_wp2_with fail
      have HX4 := Lib.hid (HX3.out.set 0 (.int .i64 sp.angle))
      have HO4 := Lib.hid (own_setx HO3.out HX3.out hro.out 0 (.int .i64 sp.angle))
      have HWd4 := Lib.hid (HWd3.out.other (a := ⟨w2.heap.size, 0, none⟩) (by show w2.heap.size ≠ w.heap.size; omega) (.int .i64 sp.angle))
      have HB4 := Lib.hid (Below.setCell HB3.out hg2 (.int .i64 sp.angle) : Below w.heap.size w (w3.setCell ⟨w2.heap.size, 0, none⟩ (.int .i64 sp.angle)))
      clear d0 f0 dl HX3 HO3 HWd3 HB3
      generalize w3.setCell ⟨w2.heap.size, 0, none⟩ (.int .i64 sp.angle) = w4 at *
      refine (hB.out _ (HP.out.below HB4.out) (HE.out.below HB4.out)).mono ?_; rintro e w5 ⟨rfl, b5⟩
      have HX5 := Lib.hid (HX4.out.below b5 HX4.out.lt)
      have HO5 := Lib.hid (own_below HO4.out b5 (Nat.le_refl _))
      have HWd5 := Lib.hid (HWd4.out.below b5 HWd4.out.lt)
      have HB5 := Lib.hid (bnext HB4.out b5)
      have d0 : w5.cell? ⟨w2.heap.size, 0, none⟩ = some (.int .i64 sp.angle) := HX5.out.cell 0
      have d1 : w5.cell? ⟨w2.heap.size, 1, none⟩ = some (.int .i64 0) := HX5.out.cell 1
      have f1 := HX5.out.free 1
      have dl := HX5.out.lt
      have hg5 := HB5.out.size
      have HX6 := Lib.hid (HX5.out.set 1 (.int .i64 sp.weight))
      have HO6 := Lib.hid (own_setx HO5.out HX5.out hro.out 1 (.int .i64 sp.weight))
      have HWd6 := Lib.hid (HWd5.out.other (a := ⟨w2.heap.size, 1, none⟩) (by show w2.heap.size ≠ w.heap.size; omega) (.int .i64 sp.weight))
      have HB6 := Lib.hid (Below.setCell HB5.out hg2 (.int .i64 sp.weight) : Below w.heap.size w (w5.setCell ⟨w2.heap.size, 1, none⟩ (.int .i64 sp.weight)))
      have hz6 : w.heap.size ≤ (w5.setCell ⟨w2.heap.size, 1, none⟩ (.int .i64 sp.weight)).heap.size := HB6.out.size
      have hs6 : Hid ((w5.setCell ⟨w2.heap.size, 1, none⟩ (.int .i64 sp.weight)).heap.size = w5.heap.size) := Lib.hid (by simp [World.setCell])
      clear b5 HX4 HO4 HWd4 HB4 hB
      go_wp2_with (at_builtin; go_loud (refine app_elK rfl _ _ 24 38 i0 (.agg #[.int .i64 0, .int .i64 0]) 2 16 Tryz.underlying24 hi hz0 hz1 hz2 (by rfl) (by decide) rfl (w5.setCell ⟨w2.heap.size, 1, none⟩ (.int .i64 sp.weight)) w.heap.size _ o.length (o.flatMap Spot.put) (by rfl) HO6.out [.int .i64 sp.angle, .int .i64 sp.weight] rfl (spot_one _ _) (by rw [hs6.out]; rfl) (by have := HOL.out; omega) (by decide) hz6 (by rfl) ?_; intro g7 gc7 w7 hown7 hB7 hK7 hy7; have HO7 := Lib.hid hown7; have HB7 := Lib.hid (HB6.out.trans (hB7 _ (Below.refl _ _))); have HWd7 := Lib.hid (hK7 _ _ _ HWd6.out (own_apart_type HO6.out HWd6.out (by decide))); clear hown7 hB7 hK7 hy7))
      go_roundw
      case rel => exact ⟨k + 1, by omega, by go_num, by rw [hms.out, HOE.out, HSP.out, spot_snoc, List.length_append]; exact HO7.out, HWd7.out, HB7.out⟩
      case measure => simp [intOf]; omega
    · obtain rfl : k = ws.length := by omega
      have hxl : Hid (o.length ≤ 2097152) := Lib.hid (by have := HOL.out; omega)
      have hoe := HOE.out
      rw [List.take_length] at hoe
      rw [hoe] at hT
      have hok : Hid (∀ x ∈ o, x.ok) := Lib.hid (fun x hx => by
        rw [← hoe] at hx
        obtain ⟨y, _, rfl⟩ := List.mem_map.1 hx
        exact spotW_ok y)
      have HX := Lib.hid (fun (w' : World) (hr : Rd w'.heap.size w' (.slice ro o.length rc) 2 o.length (o.flatMap Spot.put)) => impl_validSpotX w' _ o hr hxl.out hok.out)
      clear howd hb hoe HOE
      cases hv : validSpotS o
      all_goals rw [hv] at HX
      · have e := Lib.hid (readL_none (hT.out.2 (fun q => by rw [hv] at q; cases q.1)))
        clear hv
        go_wp2_with fail
        refine (HX.out _ (own_rd HO.out)).mono ?_; rintro e w2 ⟨rfl, b2⟩
        have HB2 := Lib.hid (bnext HB.out b2); clear b2
        go_wp2_with fail
        go_ret2
        exact ⟨_, by rw [e.out.2]; try rfl, by rw [e.out.1]; exact own_nil _ _ _ _, HB2.out⟩
      · have h16 := (validSpotS_parts hv).1
        by_cases ht : spotsT o = s
        · have e := Lib.hid (readL_some (hT.out.1 ⟨hv, ht⟩))
          have t1 := text_eq ht
          have HV := Lib.hid hv
          clear hv ht
          go_wp2_with fail
          refine (HX.out _ (own_rd HO.out)).mono ?_; rintro e w2 ⟨rfl, b2⟩
          have HB2 := Lib.hid (bnext HB.out b2)
          have HO2 := Lib.hid (own_below HO.out b2 (Nat.le_refl _)); clear b2
          go_wp2_with fail
          refine (impl_words _ _ o (own_rd HO2.out) (by omega) hok.out (HP.out.below HB2.out)).mono ?_; rintro e w3 ⟨rfl, b3⟩
          have HB3 := Lib.hid (bnext HB2.out b3)
          have HO3 := Lib.hid (own_below HO2.out b3 (Nat.le_refl _)); clear b3
          go_wp2_with fail
          go_ret2
          exact ⟨_, by rw [e.out.2]; try rfl, by rw [e.out.1]; exact HO3.out, HB3.out⟩
        · have e := Lib.hid (readL_none (hT.out.2 (fun q => ht q.2)))
          have t1 := text_ne ht
          have HV := Lib.hid hv
          clear hv ht
          go_wp2_with fail
          refine (HX.out _ (own_rd HO.out)).mono ?_; rintro e w2 ⟨rfl, b2⟩
          have HB2 := Lib.hid (bnext HB.out b2)
          have HO2 := Lib.hid (own_below HO.out b2 (Nat.le_refl _)); clear b2
          go_wp2_with fail
          refine (impl_words _ _ o (own_rd HO2.out) (by omega) hok.out (HP.out.below HB2.out)).mono ?_; rintro e w3 ⟨rfl, b3⟩
          have HB3 := Lib.hid (bnext HB2.out b3); clear b3
          go_wp2_with fail
          go_ret2
          exact ⟨_, by rw [e.out.2]; try rfl, by rw [e.out.1]; exact own_nil _ _ _ _, HB3.out⟩
end Go.Proofs.YtockglfoeagahaaGreatDoor
namespace Go.Proofs.YtockglfoeagahaaGreatDoor
open Go.ChangeShapes Go.WideShapes Go.ChangeAt Go.RowKit Go.Deep Go.Joins
set_option linter.unusedVariables false
set_option maxRecDepth 100000
set_option linter.unusedSimpArgs false
theorem laid_tail {P : Program} {w : World} {x : String × DataW Unit} {rest : List (String × DataW Unit)} (h : laidMet P (x :: rest) w) : laidMet P rest w := by
  obtain ⟨ps, ⟨g, t, cs, fuel, p, q, _, _, _, _, hl, rfl⟩, hn, ha⟩ := h
  exact ⟨q, hl, (List.nodup_append.1 hn).2.1, fun b off hp => ha b off (List.mem_append_right _ hp)⟩
theorem gPow : Tryz.prog.globalNamed "internal/strconv.uint64pow10" = some 4 := by kernel_rfl
theorem pow_cells_u64 : Tryz.prog.cellsOf 70 = 1 := by kernel_rfl
theorem pow_cells : Tryz.prog.cellsOf 153 = 20 := by kernel_rfl
theorem pow10_of {W : World} {rest : List (String × DataW Unit)} (h : laidMet Tryz.prog (("internal/strconv.uint64pow10", Rows.laid_internal_strconv_uint64pow10) :: rest) W) : Pow10 W := by
  have e : (Rows.laid_internal_strconv_uint64pow10 : DataW Unit) = Lib.tabData .u64 Lib.pow10Tab := by kernel_rfl
  rw [e] at h
  exact Lib.tabIs_of_head (rest := rest) gPow (t := 153) (by kernel_rfl) Tryz.underlying153 Tryz.underlying70 pow_cells_u64 pow_cells h
end Go.Proofs.YtockglfoeagahaaGreatDoor
