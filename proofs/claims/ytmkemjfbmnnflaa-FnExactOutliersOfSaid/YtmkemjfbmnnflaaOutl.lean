/- OutliersOf, WithoutOutliers: both sides compute the same. -/
import Derived.Test.YtmkemjfbmnnflaaRows
import Derived.Test.YtmkemjfbmnnflaaFar
import Derived.Test.YtmkemjfbmnnflaaAcc
namespace Go.Proofs.Ytmkemjfbmnnflaa
open Go.ChangeShapes Go.WideShapes Go.ChangeAt Go.RowKit Go.Deep Go.Joins
set_option linter.unusedVariables false
set_option maxRecDepth 100000
set_option linter.unusedSimpArgs false
def farAt (xs : List Measure) (l : Int) (i : Nat) : Bool := match xs[i]? with | some m => farB xs l m | none => false
def outF (xs : List Measure) (l : Int) (k : Nat) : List Int := ((List.range k).filter (farAt xs l)).map (fun (i : Nat) => (i : Int))
def witF (xs : List Measure) (l : Int) (k : Nat) : List Measure := (xs.take k).filter (fun m => !farB xs l m)
def outlS (xs : List Measure) (l : Int) : List Int := if limS xs l = 0 then outF xs l xs.length else []
def witS (xs : List Measure) (l : Int) : List Measure := if limS xs l = 0 then witF xs l xs.length else []
theorem farAt_eq {xs : List Measure} {l : Int} {k : Nat} (h : k < xs.length) : farAt xs l k = farB xs l xs[k] := by unfold farAt; rw [List.getElem?_eq_getElem h]
theorem outF_yes {xs : List Measure} {l : Int} {k : Nat} (h : k < xs.length) (hf : farB xs l xs[k] = true) : outF xs l (k + 1) = outF xs l k ++ [(k : Int)] := by
  unfold outF
  rw [List.range_succ, List.filter_append, List.map_append]
  simp [farAt_eq h, hf]
theorem outF_no {xs : List Measure} {l : Int} {k : Nat} (h : k < xs.length) (hf : farB xs l xs[k] = false) : outF xs l (k + 1) = outF xs l k := by
  unfold outF
  rw [List.range_succ, List.filter_append, List.map_append]
  simp [farAt_eq h, hf]
theorem witF_no {xs : List Measure} {l : Int} {k : Nat} (h : k < xs.length) (hf : farB xs l xs[k] = true) : witF xs l (k + 1) = witF xs l k := by
  unfold witF
  rw [List.take_succ_eq_append_getElem h, List.filter_append]
  simp [hf]
theorem witF_yes {xs : List Measure} {l : Int} {k : Nat} (h : k < xs.length) (hf : farB xs l xs[k] = false) : witF xs l (k + 1) = witF xs l k ++ [xs[k]] := by
  unfold witF
  rw [List.take_succ_eq_append_getElem h, List.filter_append]
  simp [hf]
theorem outF_len (xs : List Measure) (l : Int) (k : Nat) : (outF xs l k).length ≤ k := by
  unfold outF
  rw [List.length_map]
  have := List.length_filter_le (farAt xs l) (List.range k)
  rwa [List.length_range] at this
theorem witF_len (xs : List Measure) (l : Int) (k : Nat) : (witF xs l k).length ≤ k := by
  unfold witF
  have := List.length_filter_le (fun m => !farB xs l m) (xs.take k)
  rw [List.length_take] at this
  omega
theorem outlS_len (xs : List Measure) (l : Int) : (outlS xs l).length ≤ xs.length := by
  unfold outlS
  split
  · exact outF_len _ _ _
  · simp
theorem witS_len (xs : List Measure) (l : Int) : (witS xs l).length ≤ xs.length := by
  unfold witS
  split
  · exact witF_len _ _ _
  · simp
theorem outsnoc (xs : List Int) (a : Int) : (xs ++ [a]).flatMap putI = xs.flatMap putI ++ [.int .i64 a] := by rw [List.flatMap_append]; rfl
theorem witsnoc (xs : List Measure) (a : Measure) : (xs ++ [a]).flatMap Measure.put = xs.flatMap Measure.put ++ [.string a.bell, .int .i64 a.part, .int .i64 a.value] := by rw [List.flatMap_append]; rfl

set_option maxHeartbeats 4000000 in
theorem spec_Out (w : World) (v : Value) (xs : List Measure) (l : Int) (h : Rd w.heap.size w v 3 xs.length (xs.flatMap Measure.put)) (hn : xs.length ≤ 1048576) (hok : ∀ x ∈ xs, x.ok) :
    Calls Try.prog 31 #[v, .int .i64 l] w fun e w' => ∃ r : Value, e = .returned (.tuple #[r, .int .i64 (limS xs l)]) ∧ w'.ownsRow w.heap.size 2 1 r (outlS xs l).length ((outlS xs l).flatMap putI) ∧ Below w.heap.size w w' := by
  have H := Lib.hid (spec_limit w v xs l h hn hok)
  by_cases h0 : limS xs l = 0
  case neg =>
    have e : Hid (outlS xs l = []) := (if_neg h0 : outlS xs l = [])
    have t0 : (limS xs l != 0) = true := bne_iff_ne.2 h0
    clear h hok h0
    go_enter Try.func31, Try.ntmps31
    go_wp2_with fail
    refine H.out.mono ?_; rintro e1 w1 ⟨rfl, b1⟩
    go_wp2_with fail
    go_ret2
    exact ⟨_, rfl, by rw [e.out]; exact own_nil _ _ _ _, b1⟩
  have e : Hid (outlS xs l = outF xs l xs.length) := (if_pos h0 : outlS xs l = outF xs l xs.length)
  have H0 := Lib.hid h0
  have HVal := Lib.hid (limS_ok h0)
  rw [h0] at H
  clear h0 hok
  have H1 := Lib.hid h
  obtain ⟨hL, vo, vc, rfl, hcap1, hmax1, hnil1, hsome1⟩ := h
  obtain ⟨i0, hi, hz0, hz1, hz2⟩ := info_parts info_i64
  go_enter Try.func31, Try.ntmps31
  go_wp2_with fail
  refine H.out.mono ?_; rintro e1 w1 ⟨rfl, b1⟩
  have HB1 := Lib.hid b1
  have hs1 := b1.size
  clear b1
  go_wp2_with fail
  go_loopw [7, 8] (fun r i wr => ∃ (k : Nat), k ≤ xs.length ∧ i = .int .i64 k ∧ wr.ownsRow w.heap.size 2 1 r (outF xs l k).length ((outF xs l k).flatMap putI) ∧ Below w.heap.size w wr) (fun _ i _ => xs.length - (intOf i).toNat)
  case atStart => exact ⟨0, Nat.zero_le _, rfl, own_empty w1 _ _ _ hs1, HB1.out.alloc hs1 _⟩
  case round =>
    obtain ⟨k, hk, rfl, hown, hb⟩ := hrel
    have HO := Lib.hid hown; clear hown
    by_cases hlt : k < xs.length
    · have hfl := outF_len xs l k
      obtain ⟨b3, off3, rfl, hbB3, hc3⟩ := hsome1 (by omega)
      have c0 : wr.cell? ⟨b3, off3 + k * 3, none⟩ = some (.string xs[k].bell) := by rw [show off3 + k * 3 = off3 + (k * 3 + 0) from by omega, hb.cell (p := ⟨b3, off3 + (k * 3 + 0), none⟩) hbB3, hc3 (k * 3 + 0) (by omega), Measure_get0 xs k hlt]
      have c1 : wr.cell? ⟨b3, off3 + k * 3 + 1, none⟩ = some (.int .i64 xs[k].part) := by rw [show off3 + k * 3 + 1 = off3 + (k * 3 + 1) from by omega, hb.cell (p := ⟨b3, off3 + (k * 3 + 1), none⟩) hbB3, hc3 (k * 3 + 1) (by omega), Measure_get1 xs k hlt]
      have c2 : wr.cell? ⟨b3, off3 + k * 3 + 2, none⟩ = some (.int .i64 xs[k].value) := by rw [show off3 + k * 3 + 2 = off3 + (k * 3 + 2) from by omega, hb.cell (p := ⟨b3, off3 + (k * 3 + 2), none⟩) hbB3, hc3 (k * 3 + 2) (by omega), Measure_get2 xs k hlt]
      have hws := hb.size
      have hbr3 : b3 < wr.heap.size := Nat.lt_of_lt_of_le hbB3 hws
      have HB2 := Lib.hid hb
      have HO2 := HO
      have HF : Hid (∀ w', Below w.heap.size w w' → Calls Try.prog 58 #[.slice (some ⟨b3, off3, none⟩) xs.length vc, .int .i64 k, .int .i64 l] w' fun e w'' => e = .returned (.bool (farB xs l xs[k])) ∧ Below w'.heap.size w' w'') := Lib.hid (fun w' hb' => spec_l11Far w' _ xs k hlt l (H1.out.up hb') HVal.out)
      clear hc3 hsome1 hnil1 hb
      cases hF : farB xs l xs[k]
      all_goals rw [hF] at HF
      · have ef : Hid (outF xs l (k + 1) = outF xs l k) := outF_no hlt hF
        clear hF hi hz0 hz1 hz2
        go_wp2_with fail
        refine (HF.out _ (by exact HB2.out)).mono ?_; rintro e2 w2 ⟨rfl, b2⟩
        have HO3 := Lib.hid (own_below HO2.out b2 (Nat.le_refl _))
        have HB3 := Lib.hid (HB2.out.trans (b2.mono HB2.out.size))
        clear b2
        go_wp2_with fail
        go_roundw
        case rel => exact ⟨k + 1, by omega, by go_num, by rw [ef.out]; exact HO3.out, HB3.out⟩
        case measure => simp [intOf]; omega
      · have ef : Hid (outF xs l (k + 1) = outF xs l k ++ [(k : Int)]) := outF_yes hlt hF
        clear hF
        go_wp2_with fail
        refine (HF.out _ (by exact HB2.out)).mono ?_; rintro e2 w2 ⟨rfl, b2⟩
        have HO3 := Lib.hid (own_below HO2.out b2 (Nat.le_refl _))
        have HB3 := Lib.hid (HB2.out.trans (b2.mono HB2.out.size))
        have hws2 := HB3.out.size
        clear b2
        go_wp2_with (at_builtin; refine app_el rfl _ _ 24 2 i0 (.int .i64 0) 1 8 Try.underlying24 hi hz0 hz1 hz2 (by rfl) (by decide) rfl w2 w.heap.size _ _ ((outF xs l k).flatMap putI) (by rfl) HO3.out [.int .i64 k] rfl (by intro u hu; simp at hu; subst hu; rfl) (by rfl) (by omega) (by decide) hws2 ?_; intro g gc w3 hown3 hB3 hz; have HB4 := Lib.hid (hB3 w HB3.out); have HO4 := Lib.hid hown3; clear hown3 hB3)
        go_roundw
        case rel => exact ⟨k + 1, by omega, by go_num, by rw [ef.out, outsnoc, List.length_append]; exact HO4.out, HB4.out⟩
        case measure => simp [intOf]; omega
    · have em : k = xs.length := by omega
      subst em
      have HB := Lib.hid hb; clear hb hsome1 hnil1 hi hz0 hz1 hz2
      go_wp2
      go_ret2
      exact ⟨_, by rw [H0.out]; rfl, by rw [e.out]; exact HO.out, HB.out⟩

set_option maxHeartbeats 4000000 in
theorem impl_Out (w : World) (v : Value) (xs : List Measure) (l : Int) (h : Rd w.heap.size w v 3 xs.length (xs.flatMap Measure.put)) (hn : xs.length ≤ 1048576) (hok : ∀ x ∈ xs, x.ok) :
    Calls Try.prog 32 #[v, .int .i64 l] w fun e w' => ∃ r : Value, e = .returned (.tuple #[r, .int .i64 (limS xs l)]) ∧ w'.ownsRow w.heap.size 2 1 r (outlS xs l).length ((outlS xs l).flatMap putI) ∧ Below w.heap.size w w' := by
  have H := Lib.hid (impl_limit w v xs l h hn hok)
  by_cases h0 : limS xs l = 0
  case neg =>
    have e : Hid (outlS xs l = []) := (if_neg h0 : outlS xs l = [])
    have t0 : (limS xs l != 0) = true := bne_iff_ne.2 h0
    clear h hok h0
    go_enter Try.func32, Try.ntmps32
    go_wp2_with fail
    refine H.out.mono ?_; rintro e1 w1 ⟨rfl, b1⟩
    go_wp2_with fail
    go_ret2
    exact ⟨_, rfl, by rw [e.out]; exact own_nil _ _ _ _, b1⟩
  have e : Hid (outlS xs l = outF xs l xs.length) := (if_pos h0 : outlS xs l = outF xs l xs.length)
  have H0 := Lib.hid h0
  have HVal := Lib.hid (limS_ok h0)
  rw [h0] at H
  clear h0 hok
  have H1 := Lib.hid h
  obtain ⟨hL, vo, vc, rfl, hcap1, hmax1, hnil1, hsome1⟩ := h
  obtain ⟨i0, hi, hz0, hz1, hz2⟩ := info_parts info_i64
  go_enter Try.func32, Try.ntmps32
  go_wp2_with fail
  refine H.out.mono ?_; rintro e1 w1 ⟨rfl, b1⟩
  have HB1 := Lib.hid b1
  have hs1 := b1.size
  clear b1
  go_wp2_with fail
  go_loopw [7, 18] (fun r i wr => ∃ (k : Nat), k ≤ xs.length ∧ i = .int .i64 k ∧ wr.ownsRow w.heap.size 2 1 r (outF xs l k).length ((outF xs l k).flatMap putI) ∧ Below w.heap.size w wr) (fun _ i _ => xs.length - (intOf i).toNat)
  case atStart => exact ⟨0, Nat.zero_le _, rfl, own_nil _ _ _ _, HB1.out⟩
  case round =>
    obtain ⟨k, hk, rfl, hown, hb⟩ := hrel
    have HO := Lib.hid hown; clear hown
    by_cases hlt : k < xs.length
    · have hfl := outF_len xs l k
      obtain ⟨b3, off3, rfl, hbB3, hc3⟩ := hsome1 (by omega)
      have c0 : wr.cell? ⟨b3, off3 + k * 3, none⟩ = some (.string xs[k].bell) := by rw [show off3 + k * 3 = off3 + (k * 3 + 0) from by omega, hb.cell (p := ⟨b3, off3 + (k * 3 + 0), none⟩) hbB3, hc3 (k * 3 + 0) (by omega), Measure_get0 xs k hlt]
      have c1 : wr.cell? ⟨b3, off3 + k * 3 + 1, none⟩ = some (.int .i64 xs[k].part) := by rw [show off3 + k * 3 + 1 = off3 + (k * 3 + 1) from by omega, hb.cell (p := ⟨b3, off3 + (k * 3 + 1), none⟩) hbB3, hc3 (k * 3 + 1) (by omega), Measure_get1 xs k hlt]
      have c2 : wr.cell? ⟨b3, off3 + k * 3 + 2, none⟩ = some (.int .i64 xs[k].value) := by rw [show off3 + k * 3 + 2 = off3 + (k * 3 + 2) from by omega, hb.cell (p := ⟨b3, off3 + (k * 3 + 2), none⟩) hbB3, hc3 (k * 3 + 2) (by omega), Measure_get2 xs k hlt]
      have hws := hb.size
      have hbr3 : b3 < wr.heap.size := Nat.lt_of_lt_of_le hbB3 hws
      have HN := Lib.hid (Own.new wr 57 [.string xs[k].bell, .int .i64 xs[k].part, .int .i64 xs[k].value])
      have HB2 := Lib.hid (hb.alloc hws (.cells #[.string xs[k].bell, .int .i64 xs[k].part, .int .i64 xs[k].value] 57))
      have HO2 := Lib.hid (HO.out.alloc (.cells #[.string xs[k].bell, .int .i64 xs[k].part, .int .i64 xs[k].value] 57))
      have HF : Hid (∀ w', Below w.heap.size w w' → Calls Try.prog 60 #[.slice (some ⟨b3, off3, none⟩) xs.length vc, .agg #[.string xs[k].bell, .int .i64 xs[k].part, .int .i64 xs[k].value], .int .i64 l] w' fun e w'' => e = .returned (.bool (farB xs l xs[k])) ∧ Below w'.heap.size w' w'') := Lib.hid (fun w' hb' => impl_isOutlier w' _ xs xs[k] (List.getElem_mem hlt) l (H1.out.up hb') HVal.out)
      clear hc3 hsome1 hnil1 hb
      cases hF : farB xs l xs[k]
      all_goals rw [hF] at HF
      · have ef : Hid (outF xs l (k + 1) = outF xs l k) := outF_no hlt hF
        clear hF hi hz0 hz1 hz2
        go_wp2_with fail
        refine (HF.out _ (by exact HB2.out)).mono ?_; rintro e2 w2 ⟨rfl, b2⟩
        have HO3 := Lib.hid (own_below HO2.out b2 (Nat.le_refl _))
        have HB3 := Lib.hid (HB2.out.trans (b2.mono HB2.out.size))
        clear b2
        go_wp2_with fail
        go_roundw
        case rel => exact ⟨k + 1, by omega, by go_num, by rw [ef.out]; exact HO3.out, HB3.out⟩
        case measure => simp [intOf]; omega
      · have ef : Hid (outF xs l (k + 1) = outF xs l k ++ [(k : Int)]) := outF_yes hlt hF
        clear hF
        go_wp2_with fail
        refine (HF.out _ (by exact HB2.out)).mono ?_; rintro e2 w2 ⟨rfl, b2⟩
        have HO3 := Lib.hid (own_below HO2.out b2 (Nat.le_refl _))
        have HB3 := Lib.hid (HB2.out.trans (b2.mono HB2.out.size))
        have hws2 := HB3.out.size
        clear b2
        go_wp2_with (at_builtin; refine app_el rfl _ _ 24 2 i0 (.int .i64 0) 1 8 Try.underlying24 hi hz0 hz1 hz2 (by rfl) (by decide) rfl w2 w.heap.size _ _ ((outF xs l k).flatMap putI) (by rfl) HO3.out [.int .i64 k] rfl (by intro u hu; simp at hu; subst hu; rfl) (by rfl) (by omega) (by decide) hws2 ?_; intro g gc w3 hown3 hB3 hz; have HB4 := Lib.hid (hB3 w HB3.out); have HO4 := Lib.hid hown3; clear hown3 hB3)
        go_roundw
        case rel => exact ⟨k + 1, by omega, by go_num, by rw [ef.out, outsnoc, List.length_append]; exact HO4.out, HB4.out⟩
        case measure => simp [intOf]; omega
    · have em : k = xs.length := by omega
      subst em
      have HB := Lib.hid hb; clear hb hsome1 hnil1 hi hz0 hz1 hz2
      go_wp2
      go_ret2
      exact ⟨_, by rw [H0.out]; rfl, by rw [e.out]; exact HO.out, HB.out⟩

set_option maxHeartbeats 4000000 in
theorem spec_Wit (w : World) (v : Value) (xs : List Measure) (l : Int) (h : Rd w.heap.size w v 3 xs.length (xs.flatMap Measure.put)) (hn : xs.length ≤ 1048576) (hok : ∀ x ∈ xs, x.ok) :
    Calls Try.prog 33 #[v, .int .i64 l] w fun e w' => ∃ r : Value, e = .returned (.tuple #[r, .int .i64 (limS xs l)]) ∧ w'.ownsRow w.heap.size 57 3 r (witS xs l).length ((witS xs l).flatMap Measure.put) ∧ Below w.heap.size w w' := by
  have H := Lib.hid (spec_limit w v xs l h hn hok)
  by_cases h0 : limS xs l = 0
  case neg =>
    have e : Hid (witS xs l = []) := (if_neg h0 : witS xs l = [])
    have t0 : (limS xs l != 0) = true := bne_iff_ne.2 h0
    clear h hok h0
    go_enter Try.func33, Try.ntmps33
    go_wp2_with fail
    refine H.out.mono ?_; rintro e1 w1 ⟨rfl, b1⟩
    go_wp2_with fail
    go_ret2
    exact ⟨_, rfl, by rw [e.out]; exact own_nil _ _ _ _, b1⟩
  have e : Hid (witS xs l = witF xs l xs.length) := (if_pos h0 : witS xs l = witF xs l xs.length)
  have H0 := Lib.hid h0
  have HVal := Lib.hid (limS_ok h0)
  rw [h0] at H
  clear h0 hok
  have H1 := Lib.hid h
  obtain ⟨hL, vo, vc, rfl, hcap1, hmax1, hnil1, hsome1⟩ := h
  obtain ⟨i0, hi, hz0, hz1, hz2⟩ := info_parts Measure_info
  go_enter Try.func33, Try.ntmps33
  go_wp2_with fail
  refine H.out.mono ?_; rintro e1 w1 ⟨rfl, b1⟩
  have HB1 := Lib.hid b1
  have hs1 := b1.size
  clear b1
  go_wp2_with fail
  go_loopw [7, 8] (fun r i wr => ∃ (k : Nat), k ≤ xs.length ∧ i = .int .i64 k ∧ wr.ownsRow w.heap.size 57 3 r (witF xs l k).length ((witF xs l k).flatMap Measure.put) ∧ Below w.heap.size w wr) (fun _ i _ => xs.length - (intOf i).toNat)
  case atStart => exact ⟨0, Nat.zero_le _, rfl, own_empty w1 _ _ _ hs1, HB1.out.alloc hs1 _⟩
  case round =>
    obtain ⟨k, hk, rfl, hown, hb⟩ := hrel
    have HO := Lib.hid hown; clear hown
    by_cases hlt : k < xs.length
    · have hfl := witF_len xs l k
      obtain ⟨b3, off3, rfl, hbB3, hc3⟩ := hsome1 (by omega)
      have c0 : wr.cell? ⟨b3, off3 + k * 3, none⟩ = some (.string xs[k].bell) := by rw [show off3 + k * 3 = off3 + (k * 3 + 0) from by omega, hb.cell (p := ⟨b3, off3 + (k * 3 + 0), none⟩) hbB3, hc3 (k * 3 + 0) (by omega), Measure_get0 xs k hlt]
      have c1 : wr.cell? ⟨b3, off3 + k * 3 + 1, none⟩ = some (.int .i64 xs[k].part) := by rw [show off3 + k * 3 + 1 = off3 + (k * 3 + 1) from by omega, hb.cell (p := ⟨b3, off3 + (k * 3 + 1), none⟩) hbB3, hc3 (k * 3 + 1) (by omega), Measure_get1 xs k hlt]
      have c2 : wr.cell? ⟨b3, off3 + k * 3 + 2, none⟩ = some (.int .i64 xs[k].value) := by rw [show off3 + k * 3 + 2 = off3 + (k * 3 + 2) from by omega, hb.cell (p := ⟨b3, off3 + (k * 3 + 2), none⟩) hbB3, hc3 (k * 3 + 2) (by omega), Measure_get2 xs k hlt]
      have hws := hb.size
      have hbr3 : b3 < wr.heap.size := Nat.lt_of_lt_of_le hbB3 hws
      have HB2 := Lib.hid hb
      have HO2 := HO
      have HF : Hid (∀ w', Below w.heap.size w w' → Calls Try.prog 58 #[.slice (some ⟨b3, off3, none⟩) xs.length vc, .int .i64 k, .int .i64 l] w' fun e w'' => e = .returned (.bool (farB xs l xs[k])) ∧ Below w'.heap.size w' w'') := Lib.hid (fun w' hb' => spec_l11Far w' _ xs k hlt l (H1.out.up hb') HVal.out)
      clear hc3 hsome1 hnil1 hb
      cases hF : farB xs l xs[k]
      all_goals rw [hF] at HF
      · have ef : Hid (witF xs l (k + 1) = witF xs l k ++ [xs[k]]) := witF_yes hlt hF
        clear hF
        go_wp2_with fail
        refine (HF.out _ (by exact HB2.out)).mono ?_; rintro e2 w2 ⟨rfl, b2⟩
        have d0 : w2.cell? ⟨b3, off3 + k * 3, none⟩ = some (.string xs[k].bell) := (b2.cell (p := ⟨b3, off3 + k * 3, none⟩) hbr3).trans c0
        have d1 : w2.cell? ⟨b3, off3 + k * 3 + 1, none⟩ = some (.int .i64 xs[k].part) := (b2.cell (p := ⟨b3, off3 + k * 3 + 1, none⟩) hbr3).trans c1
        have d2 : w2.cell? ⟨b3, off3 + k * 3 + 2, none⟩ = some (.int .i64 xs[k].value) := (b2.cell (p := ⟨b3, off3 + k * 3 + 2, none⟩) hbr3).trans c2
        have hbr4 : b3 < w2.heap.size := Nat.lt_of_lt_of_le hbr3 b2.size
        have HO3 := Lib.hid (own_below HO2.out b2 (Nat.le_refl _))
        have HB3 := Lib.hid (HB2.out.trans (b2.mono HB2.out.size))
        have hws2 := HB3.out.size
        clear b2
        go_wp2_with (at_builtin; refine app_el rfl _ _ 27 57 i0 (.agg #[.string ByteArray.empty, .int .i64 0, .int .i64 0]) 3 32 Try.underlying27 hi hz0 hz1 hz2 (by rfl) (by decide) rfl w2 w.heap.size _ _ ((witF xs l k).flatMap Measure.put) (by rfl) HO3.out [.string xs[k].bell, .int .i64 xs[k].part, .int .i64 xs[k].value] rfl (by intro u hu; simp at hu; rcases hu with rfl | rfl | rfl <;> rfl) (by rfl) (by omega) (by decide) hws2 ?_; intro g gc w3 hown3 hB3 hz; have HB4 := Lib.hid (hB3 w HB3.out); have HO4 := Lib.hid hown3; clear hown3 hB3)
        go_roundw
        case rel => exact ⟨k + 1, by omega, by go_num, by rw [ef.out, witsnoc, List.length_append]; exact HO4.out, HB4.out⟩
        case measure => simp [intOf]; omega
      · have ef : Hid (witF xs l (k + 1) = witF xs l k) := witF_no hlt hF
        clear hF hi hz0 hz1 hz2
        go_wp2_with fail
        refine (HF.out _ (by exact HB2.out)).mono ?_; rintro e2 w2 ⟨rfl, b2⟩
        have HO3 := Lib.hid (own_below HO2.out b2 (Nat.le_refl _))
        have HB3 := Lib.hid (HB2.out.trans (b2.mono HB2.out.size))
        clear b2
        go_wp2_with fail
        go_roundw
        case rel => exact ⟨k + 1, by omega, by go_num, by rw [ef.out]; exact HO3.out, HB3.out⟩
        case measure => simp [intOf]; omega
    · have em : k = xs.length := by omega
      subst em
      have HB := Lib.hid hb; clear hb hsome1 hnil1 hi hz0 hz1 hz2
      go_wp2
      go_ret2
      exact ⟨_, by rw [H0.out]; rfl, by rw [e.out]; exact HO.out, HB.out⟩

set_option maxHeartbeats 4000000 in
theorem impl_Wit (w : World) (v : Value) (xs : List Measure) (l : Int) (h : Rd w.heap.size w v 3 xs.length (xs.flatMap Measure.put)) (hn : xs.length ≤ 1048576) (hok : ∀ x ∈ xs, x.ok) :
    Calls Try.prog 34 #[v, .int .i64 l] w fun e w' => ∃ r : Value, e = .returned (.tuple #[r, .int .i64 (limS xs l)]) ∧ w'.ownsRow w.heap.size 57 3 r (witS xs l).length ((witS xs l).flatMap Measure.put) ∧ Below w.heap.size w w' := by
  have H := Lib.hid (impl_limit w v xs l h hn hok)
  by_cases h0 : limS xs l = 0
  case neg =>
    have e : Hid (witS xs l = []) := (if_neg h0 : witS xs l = [])
    have t0 : (limS xs l != 0) = true := bne_iff_ne.2 h0
    clear h hok h0
    go_enter Try.func34, Try.ntmps34
    go_wp2_with fail
    refine H.out.mono ?_; rintro e1 w1 ⟨rfl, b1⟩
    go_wp2_with fail
    go_ret2
    exact ⟨_, rfl, by rw [e.out]; exact own_nil _ _ _ _, b1⟩
  have e : Hid (witS xs l = witF xs l xs.length) := (if_pos h0 : witS xs l = witF xs l xs.length)
  have H0 := Lib.hid h0
  have HVal := Lib.hid (limS_ok h0)
  rw [h0] at H
  clear h0 hok
  have H1 := Lib.hid h
  obtain ⟨hL, vo, vc, rfl, hcap1, hmax1, hnil1, hsome1⟩ := h
  obtain ⟨i0, hi, hz0, hz1, hz2⟩ := info_parts Measure_info
  go_enter Try.func34, Try.ntmps34
  go_wp2_with fail
  refine H.out.mono ?_; rintro e1 w1 ⟨rfl, b1⟩
  have HB1 := Lib.hid b1
  have hs1 := b1.size
  clear b1
  go_wp2_with fail
  go_loopw [7, 18] (fun r i wr => ∃ (k : Nat), k ≤ xs.length ∧ i = .int .i64 k ∧ wr.ownsRow w.heap.size 57 3 r (witF xs l k).length ((witF xs l k).flatMap Measure.put) ∧ Below w.heap.size w wr) (fun _ i _ => xs.length - (intOf i).toNat)
  case atStart => exact ⟨0, Nat.zero_le _, rfl, own_nil _ _ _ _, HB1.out⟩
  case round =>
    obtain ⟨k, hk, rfl, hown, hb⟩ := hrel
    have HO := Lib.hid hown; clear hown
    by_cases hlt : k < xs.length
    · have hfl := witF_len xs l k
      obtain ⟨b3, off3, rfl, hbB3, hc3⟩ := hsome1 (by omega)
      have c0 : wr.cell? ⟨b3, off3 + k * 3, none⟩ = some (.string xs[k].bell) := by rw [show off3 + k * 3 = off3 + (k * 3 + 0) from by omega, hb.cell (p := ⟨b3, off3 + (k * 3 + 0), none⟩) hbB3, hc3 (k * 3 + 0) (by omega), Measure_get0 xs k hlt]
      have c1 : wr.cell? ⟨b3, off3 + k * 3 + 1, none⟩ = some (.int .i64 xs[k].part) := by rw [show off3 + k * 3 + 1 = off3 + (k * 3 + 1) from by omega, hb.cell (p := ⟨b3, off3 + (k * 3 + 1), none⟩) hbB3, hc3 (k * 3 + 1) (by omega), Measure_get1 xs k hlt]
      have c2 : wr.cell? ⟨b3, off3 + k * 3 + 2, none⟩ = some (.int .i64 xs[k].value) := by rw [show off3 + k * 3 + 2 = off3 + (k * 3 + 2) from by omega, hb.cell (p := ⟨b3, off3 + (k * 3 + 2), none⟩) hbB3, hc3 (k * 3 + 2) (by omega), Measure_get2 xs k hlt]
      have hws := hb.size
      have hbr3 : b3 < wr.heap.size := Nat.lt_of_lt_of_le hbB3 hws
      have HN := Lib.hid (Own.new wr 57 [.string xs[k].bell, .int .i64 xs[k].part, .int .i64 xs[k].value])
      have HB2 := Lib.hid (hb.alloc hws (.cells #[.string xs[k].bell, .int .i64 xs[k].part, .int .i64 xs[k].value] 57))
      have HO2 := Lib.hid (HO.out.alloc (.cells #[.string xs[k].bell, .int .i64 xs[k].part, .int .i64 xs[k].value] 57))
      have HF : Hid (∀ w', Below w.heap.size w w' → Calls Try.prog 60 #[.slice (some ⟨b3, off3, none⟩) xs.length vc, .agg #[.string xs[k].bell, .int .i64 xs[k].part, .int .i64 xs[k].value], .int .i64 l] w' fun e w'' => e = .returned (.bool (farB xs l xs[k])) ∧ Below w'.heap.size w' w'') := Lib.hid (fun w' hb' => impl_isOutlier w' _ xs xs[k] (List.getElem_mem hlt) l (H1.out.up hb') HVal.out)
      clear hc3 hsome1 hnil1 hb
      cases hF : farB xs l xs[k]
      all_goals rw [hF] at HF
      · have ef : Hid (witF xs l (k + 1) = witF xs l k ++ [xs[k]]) := witF_yes hlt hF
        clear hF
        go_wp2_with fail
        refine (HF.out _ (by exact HB2.out)).mono ?_; rintro e2 w2 ⟨rfl, b2⟩
        have HN2 := Lib.hid (HN.out.below b2 HN.out.lt)
        have d0 : (_ : Option Value) = some (.string xs[k].bell) := HN2.out.cell 0
        have d1 : (_ : Option Value) = some (.int .i64 xs[k].part) := HN2.out.cell 1
        have d2 : (_ : Option Value) = some (.int .i64 xs[k].value) := HN2.out.cell 2
        have hbr4 := HN2.out.lt
        have HO3 := Lib.hid (own_below HO2.out b2 (Nat.le_refl _))
        have HB3 := Lib.hid (HB2.out.trans (b2.mono HB2.out.size))
        have hws2 := HB3.out.size
        clear b2
        go_wp2_with (at_builtin; refine app_el rfl _ _ 27 57 i0 (.agg #[.string ByteArray.empty, .int .i64 0, .int .i64 0]) 3 32 Try.underlying27 hi hz0 hz1 hz2 (by rfl) (by decide) rfl w2 w.heap.size _ _ ((witF xs l k).flatMap Measure.put) (by rfl) HO3.out [.string xs[k].bell, .int .i64 xs[k].part, .int .i64 xs[k].value] rfl (by intro u hu; simp at hu; rcases hu with rfl | rfl | rfl <;> rfl) (by rfl) (by omega) (by decide) hws2 ?_; intro g gc w3 hown3 hB3 hz; have HB4 := Lib.hid (hB3 w HB3.out); have HO4 := Lib.hid hown3; clear hown3 hB3)
        go_roundw
        case rel => exact ⟨k + 1, by omega, by go_num, by rw [ef.out, witsnoc, List.length_append]; exact HO4.out, HB4.out⟩
        case measure => simp [intOf]; omega
      · have ef : Hid (witF xs l (k + 1) = witF xs l k) := witF_no hlt hF
        clear hF hi hz0 hz1 hz2
        go_wp2_with fail
        refine (HF.out _ (by exact HB2.out)).mono ?_; rintro e2 w2 ⟨rfl, b2⟩
        have HO3 := Lib.hid (own_below HO2.out b2 (Nat.le_refl _))
        have HB3 := Lib.hid (HB2.out.trans (b2.mono HB2.out.size))
        clear b2
        go_wp2_with fail
        go_roundw
        case rel => exact ⟨k + 1, by omega, by go_num, by rw [ef.out]; exact HO3.out, HB3.out⟩
        case measure => simp [intOf]; omega
    · have em : k = xs.length := by omega
      subst em
      have HB := Lib.hid hb; clear hb hsome1 hnil1 hi hz0 hz1 hz2
      go_wp2
      go_ret2
      exact ⟨_, by rw [H0.out]; rfl, by rw [e.out]; exact HO.out, HB.out⟩
end Go.Proofs.Ytmkemjfbmnnflaa
