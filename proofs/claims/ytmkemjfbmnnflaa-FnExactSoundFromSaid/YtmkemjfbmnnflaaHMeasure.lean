/- The helpers of the laws at Measure: copies, comparisons, sizes. -/
import Derived.Test.YtmkemjfbmnnflaaRows
import Derived.Test.YtmkemjfbmnnflaaCopyInts
namespace Go.Proofs.Ytmkemjfbmnnflaa
open Go.ChangeShapes Go.WideShapes Go.ChangeAt Go.RowKit Go.Deep Go.Joins
set_option linter.unusedVariables false
set_option maxRecDepth 100000
set_option linter.unusedSimpArgs false
theorem Measure_len (xs : List Measure) : (xs.flatMap Measure.put).length = xs.length * 3 := flat_len xs (fun _ _ => rfl)
theorem Measure_get0 (xs : List Measure) (k : Nat) (h : k < xs.length) : (xs.flatMap Measure.put)[k * 3 + 0]? = some (.string xs[k].bell) := by
  rw [flat_get (f := Measure.put) (s := 3) xs (fun _ _ => rfl) (j := 0) (by omega) k, List.getElem?_eq_getElem h]
  rfl
theorem Measure_get1 (xs : List Measure) (k : Nat) (h : k < xs.length) : (xs.flatMap Measure.put)[k * 3 + 1]? = some (.int .i64 xs[k].part) := by
  rw [flat_get (f := Measure.put) (s := 3) xs (fun _ _ => rfl) (j := 1) (by omega) k, List.getElem?_eq_getElem h]
  rfl
theorem Measure_get2 (xs : List Measure) (k : Nat) (h : k < xs.length) : (xs.flatMap Measure.put)[k * 3 + 2]? = some (.int .i64 xs[k].value) := by
  rw [flat_get (f := Measure.put) (s := 3) xs (fun _ _ => rfl) (j := 2) (by omega) k, List.getElem?_eq_getElem h]
  rfl
theorem Measure_info : (Try.prog.info? 57).map (fun i => (i.zero, i.size, i.bytes)) = some (some (.agg #[.string ByteArray.empty, .int .i64 0, .int .i64 0]), 3, 32) := by kernel_rfl

theorem toMeasure (x : Measure) (w : World) : Calls Try.prog 42 #[.agg #[.string x.bell, .int .i64 x.part, .int .i64 x.value]] w fun e w' => e = .returned (.agg #[.string x.bell, .int .i64 x.part, .int .i64 x.value]) ∧ Below w.heap.size w w' := by
  go_enter Try.func42, Try.ntmps42
  go_wp2
  go_returns
  exact ⟨rfl, by (repeat' (first | (with_reducible exact Below.refl _ _) | (with_reducible assumption) | (with_reducible refine below_dn ?_ _) | (with_reducible refine Below.drew ?_) | (with_reducible refine Below.alloc ?_ ?_ _) | (with_reducible refine Below.setCell ?_ ?_ _) | go_size))⟩


theorem toMeasureS (w : World) (v : Value) (xs : List Measure) (h : Rd w.heap.size w v 3 xs.length (xs.flatMap Measure.put)) (hn : xs.length ≤ 1048576) :
    Calls Try.prog 13 #[v] w fun e w' => ∃ g, e = .returned (.slice (some ⟨g, 0, none⟩) xs.length xs.length) ∧ w.heap.size ≤ g ∧ Own w' g 57 (xs.flatMap Measure.put) ∧ Below w.heap.size w w' := by
  obtain ⟨hL, ao, cap, rfl, hcap, hmax, hnil, hsome⟩ := h
  obtain ⟨i0, hi, hz0, hz1, hz2⟩ := info_parts Measure_info
  go_enter Try.func13, Try.ntmps13
  go_wp2_with (at_make; refine wpList_make_blk _ rfl _ _ 27 rfl 57 i0 (.agg #[.string ByteArray.empty, .int .i64 0, .int .i64 0]) 3 32 Try.underlying27 hi hz0 hz1 hz2 _ _ _ _ xs.length rfl rfl rfl rfl (by omega) (by unfold maxLen; omega) ?_; intro w1 ho hb hs)
  have hml := made_len (Value.agg #[.string ByteArray.empty, .int .i64 0, .int .i64 0]).cells (xs.length * 3)
  go_loopw [4] (fun i wr => ∃ (k : Nat) (U : List Value), k ≤ xs.length ∧ i = .int .i64 k ∧ U.length = (xs.length - k) * 3 ∧ Own wr w.heap.size 57 ((xs.take k).flatMap Measure.put ++ U) ∧ Below w.heap.size w wr) (fun i _ => xs.length - (intOf i).toNat)
  case atStart => exact ⟨0, _, Nat.zero_le _, rfl, by rw [Nat.sub_zero]; exact hml, by simpa using ho, hb⟩
  case round =>
    clear ho hb hs hml hi hz0 hz1 hz2
    obtain ⟨k, U, hk, rfl, hU, ho, hb⟩ := hrel
    by_cases hlt : k < xs.length
    · obtain ⟨b, off, rfl, hbB, hc⟩ := hsome (by omega)
      obtain ⟨t0, t1, t2, U, rfl, hU2⟩ := cons3 hU (by omega)
      have hA : ((xs.take k).flatMap Measure.put).length = k * 3 := by rw [Measure_len, List.length_take]; congr 1; omega
      have c0 : wr.cell? ⟨b, off + k * 3, none⟩ = some (.string xs[k].bell) := by
        rw [show off + k * 3 = off + (k * 3 + 0) from by omega, hb.cell (p := ⟨b, off + (k * 3 + 0), none⟩) hbB, hc (k * 3 + 0) (by omega), Measure_get0 xs k hlt]
      have c1 : wr.cell? ⟨b, off + k * 3 + 1, none⟩ = some (.int .i64 xs[k].part) := by
        rw [show off + k * 3 + 1 = off + (k * 3 + 1) from by omega, hb.cell (p := ⟨b, off + (k * 3 + 1), none⟩) hbB, hc (k * 3 + 1) (by omega), Measure_get1 xs k hlt]
      have c2 : wr.cell? ⟨b, off + k * 3 + 2, none⟩ = some (.int .i64 xs[k].value) := by
        rw [show off + k * 3 + 2 = off + (k * 3 + 2) from by omega, hb.cell (p := ⟨b, off + (k * 3 + 2), none⟩) hbB, hc (k * 3 + 2) (by omega), Measure_get2 xs k hlt]
      have HB := Lib.hid hb
      have HO := Lib.hid ho
      have HC := Lib.hid hc
      have HA := Lib.hid hA
      have HU := Lib.hid hU2
      clear hc ho hb hA hsome hnil hU hU2
      go_wp2_with fail
      refine (toMeasure xs[k] _).mono ?_; rintro e w1 ⟨rfl, b1⟩
      have ho1 := HO.out.below b1 HO.out.lt
      have hA := HA.out
      have d0 : w1.cell? ⟨w.heap.size, k * 3, none⟩ = some t0 := by
        rw [ho1.cell, List.getElem?_append_right (by omega), hA]
        simp
      have d1 : w1.cell? ⟨w.heap.size, k * 3 + 1, none⟩ = some t1 := by
        rw [ho1.cell, List.getElem?_append_right (by omega), hA]
        simp
      have d2 : w1.cell? ⟨w.heap.size, k * 3 + 2, none⟩ = some t2 := by
        rw [ho1.cell, List.getElem?_append_right (by omega), hA]
        simp
      have f0 := ho1.free (k * 3)
      have f1 := ho1.free (k * 3 + 1)
      have f2 := ho1.free (k * 3 + 2)
      have o1 := (((ho1.set (k * 3) (.string xs[k].bell)).set (k * 3 + 1) (.int .i64 xs[k].part)).set (k * 3 + 2) (.int .i64 xs[k].value))
      rw [set3 _ _ _ _ _ _ _ _ _ hA] at o1
      have hb := HB.out
      have O1 := Lib.hid o1
      have HB1 := Lib.hid (Below.setCell (Below.setCell (Below.setCell (hb.trans (b1.mono hb.size)) (p := ⟨w.heap.size, k * 3, none⟩) (Nat.le_refl _) (.string xs[k].bell)) (p := ⟨w.heap.size, k * 3 + 1, none⟩) (Nat.le_refl _) (.int .i64 xs[k].part)) (p := ⟨w.heap.size, k * 3 + 2, none⟩) (Nat.le_refl _) (.int .i64 xs[k].value))
      clear ho1 o1 hA hb b1 HO HB c0 c1 c2
      go_wp2_with fail
      go_roundw
      case rel => exact ⟨k + 1, U, by omega, by go_num, by have := HU.out; omega, by rw [set_snoc Measure.put xs k hlt]; exact O1.out, HB1.out⟩
      case measure => simp [intOf]; omega
    · have e : Hid (k = xs.length) := (by omega : k = xs.length)
      have HO := Lib.hid ho
      clear ho
      go_wp2
      go_ret
      refine ⟨w.heap.size, rfl, Nat.le_refl _, ?_, hb⟩
      have ho := HO.out
      obtain rfl := e.out
      have : U = [] := List.eq_nil_of_length_eq_zero (by rw [hU]; omega)
      subst this
      simpa using ho

theorem eqMeasure (x : Measure) (w : World) : Calls Try.prog 46 #[.agg #[.string x.bell, .int .i64 x.part, .int .i64 x.value], .agg #[.string x.bell, .int .i64 x.part, .int .i64 x.value]] w fun e w' => e = .returned (.bool true) ∧ Below w.heap.size w w' := by
  go_enter Try.func46, Try.ntmps46
  repeat (go_wp2_with fail; go_quiet (fail))
  go_wp2_with fail
  go_ret
  exact ⟨rfl, by (repeat' (first | (with_reducible exact Below.refl _ _) | (with_reducible assumption) | (with_reducible refine below_dn ?_ _) | (with_reducible refine Below.drew ?_) | (with_reducible refine Below.alloc ?_ ?_ _) | (with_reducible refine Below.setCell ?_ ?_ _) | go_size))⟩
theorem eqMeasureS (w : World) (v1 v2 : Value) (xs : List Measure) (h1 : Rd w.heap.size w v1 3 xs.length (xs.flatMap Measure.put)) (h2 : Rd w.heap.size w v2 3 xs.length (xs.flatMap Measure.put)) (hn : xs.length ≤ 1048576) :
    Calls Try.prog 16 #[v1, v2] w fun e w' => e = .returned (.bool true) ∧ Below w.heap.size w w' := by
  obtain ⟨hL, ao, cap, rfl, hcap, hmax, hnil, hsome⟩ := h1
  obtain ⟨hL2, ao2, cap2, rfl, hcap2, hmax2, hnil2, hsome2⟩ := h2
  go_enter Try.func16, Try.ntmps16
  go_wp2
  go_loopw [5] (fun i wr => ∃ (k : Nat), k ≤ xs.length ∧ i = .int .i64 k ∧ Below w.heap.size w wr) (fun i _ => xs.length - (intOf i).toNat)
  case atStart => exact ⟨0, Nat.zero_le _, rfl, Below.refl _ _⟩
  case round =>
    obtain ⟨k, hk, rfl, hb⟩ := hrel
    by_cases hlt : k < xs.length
    · obtain ⟨b, off, rfl, hbB, hc⟩ := hsome (by omega)
      obtain ⟨b2, off2, rfl, hbB2, hc2⟩ := hsome2 (by omega)
      have c0 : wr.cell? ⟨b, off + k * 3, none⟩ = some (.string xs[k].bell) := by
        rw [show off + k * 3 = off + (k * 3 + 0) from by omega, hb.cell (p := ⟨b, off + (k * 3 + 0), none⟩) hbB, hc (k * 3 + 0) (by omega), Measure_get0 xs k hlt]
      have c1 : wr.cell? ⟨b, off + k * 3 + 1, none⟩ = some (.int .i64 xs[k].part) := by
        rw [show off + k * 3 + 1 = off + (k * 3 + 1) from by omega, hb.cell (p := ⟨b, off + (k * 3 + 1), none⟩) hbB, hc (k * 3 + 1) (by omega), Measure_get1 xs k hlt]
      have c2 : wr.cell? ⟨b, off + k * 3 + 2, none⟩ = some (.int .i64 xs[k].value) := by
        rw [show off + k * 3 + 2 = off + (k * 3 + 2) from by omega, hb.cell (p := ⟨b, off + (k * 3 + 2), none⟩) hbB, hc (k * 3 + 2) (by omega), Measure_get2 xs k hlt]
      have d0 : wr.cell? ⟨b2, off2 + k * 3, none⟩ = some (.string xs[k].bell) := by
        rw [show off2 + k * 3 = off2 + (k * 3 + 0) from by omega, hb.cell (p := ⟨b2, off2 + (k * 3 + 0), none⟩) hbB2, hc2 (k * 3 + 0) (by omega), Measure_get0 xs k hlt]
      have d1 : wr.cell? ⟨b2, off2 + k * 3 + 1, none⟩ = some (.int .i64 xs[k].part) := by
        rw [show off2 + k * 3 + 1 = off2 + (k * 3 + 1) from by omega, hb.cell (p := ⟨b2, off2 + (k * 3 + 1), none⟩) hbB2, hc2 (k * 3 + 1) (by omega), Measure_get1 xs k hlt]
      have d2 : wr.cell? ⟨b2, off2 + k * 3 + 2, none⟩ = some (.int .i64 xs[k].value) := by
        rw [show off2 + k * 3 + 2 = off2 + (k * 3 + 2) from by omega, hb.cell (p := ⟨b2, off2 + (k * 3 + 2), none⟩) hbB2, hc2 (k * 3 + 2) (by omega), Measure_get2 xs k hlt]
      have HB := Lib.hid hb
      clear hc hc2 hsome hsome2 hnil hnil2 hb
      go_wp2_with fail
      have hbr : b < wr.heap.size := Nat.lt_of_lt_of_le hbB HB.out.size
      have hbr2 : b2 < wr.heap.size := Nat.lt_of_lt_of_le hbB2 HB.out.size
      refine wp_region_above (by kernel_rfl) (by kernel_rfl) ?_
      repeat (go_big_quiet_step ((go_at_call 46; exact aboveC (eqMeasure xs[k] _))))
      refine wpQuiet_nil ?_
      intro w1 b1
      have HB1 := Lib.hid (HB.out.trans (b1.mono HB.out.size)); clear b1 HB
      go_wp2_with fail
      go_roundw
      case rel => exact ⟨k + 1, by omega, by go_num, HB1.out⟩
      case measure => simp [intOf]; omega
    · go_wp2
      go_ret
      exact ⟨rfl, hb⟩


theorem szMeasure (x : Measure) (left : Int) (w : World) (h0 : 0 ≤ left) (h1 : left ≤ 1048576) (hx : x.bell.size ≤ maxLen) : Calls Try.prog 39 #[.agg #[.string x.bell, .int .i64 x.part, .int .i64 x.value], .int .i64 left] w fun e w' => e = .returned (.int .i64 (szR left x.bell.size)) ∧ Below w.heap.size w w' := by
  unfold maxLen at hx
  by_cases h : (x.bell.size : Int) ≤ left
  · have e : Hid (szR left x.bell.size = left - x.bell.size) := (if_pos h : szR left x.bell.size = left - x.bell.size)
    go_enter Try.func39, Try.ntmps39
    go_wp2
    go_ret
    exact ⟨by rw [e.out]; rfl, by (repeat' (first | (with_reducible exact Below.refl _ _) | (with_reducible assumption) | (with_reducible refine below_dn ?_ _) | (with_reducible refine Below.drew ?_) | (with_reducible refine Below.alloc ?_ ?_ _) | (with_reducible refine Below.setCell ?_ ?_ _) | go_size))⟩
  · have e : Hid (szR left x.bell.size = -1) := (if_neg h : szR left x.bell.size = -1)
    go_enter Try.func39, Try.ntmps39
    go_wp2
    go_ret
    exact ⟨by rw [e.out]; rfl, by (repeat' (first | (with_reducible exact Below.refl _ _) | (with_reducible assumption) | (with_reducible refine below_dn ?_ _) | (with_reducible refine Below.drew ?_) | (with_reducible refine Below.alloc ?_ ?_ _) | (with_reducible refine Below.setCell ?_ ?_ _) | go_size))⟩
def wtMeasure (xs : List Measure) : Nat := (xs.map fun x => x.bell.size).sum
theorem wtMeasure_succ (xs : List Measure) (k : Nat) (h : k < xs.length) : wtMeasure (xs.take (k + 1)) = wtMeasure (xs.take k) + xs[k].bell.size := by
  unfold wtMeasure
  rw [List.take_succ_eq_append_getElem h, List.map_append, List.sum_append]
  simp only [List.map_cons, List.map_nil, List.sum_cons, List.sum_nil, Nat.add_zero]
theorem wtMeasure_le (xs : List Measure) (k : Nat) : wtMeasure (xs.take k) ≤ wtMeasure xs := by
  have h : wtMeasure xs = wtMeasure (xs.take k) + wtMeasure (xs.drop k) := by
    unfold wtMeasure
    rw [← List.sum_append, ← List.map_append, List.take_append_drop]
  omega
theorem wtMeasure_mem (xs : List Measure) (x : Measure) (h : x ∈ xs) : x.bell.size ≤ wtMeasure xs := by
  unfold wtMeasure
  exact le_sum_of (List.mem_map.2 ⟨x, h, rfl⟩)

theorem szMeasureS (w : World) (v : Value) (xs : List Measure) (left : Int) (h : Rd w.heap.size w v 3 xs.length (xs.flatMap Measure.put)) (hm : xs.length ≤ maxLen) (hx : ∀ x ∈ xs, x.bell.size ≤ maxLen) (h0 : 0 ≤ left) (h1 : left ≤ 1048576) :
    Calls Try.prog 11 #[v, .int .i64 left] w fun e w' => e = .returned (.int .i64 (szR left (xs.length + wtMeasure xs))) ∧ Below w.heap.size w w' := by
  obtain ⟨hL, ao, cap, rfl, hcap, hmax, hnil, hsome⟩ := h
  have hm2 := hm
  unfold maxLen at hm2
  by_cases hn : (xs.length : Int) ≤ left
  case neg =>
    have e : Hid (szR left (xs.length + wtMeasure xs) = -1) := (if_neg (by omega) : szR left (xs.length + wtMeasure xs) = -1)
    clear hsome hnil hx
    go_enter Try.func11, Try.ntmps11
    go_wp2
    go_ret
    exact ⟨by rw [e.out]; rfl, by (repeat' (first | (with_reducible exact Below.refl _ _) | (with_reducible assumption) | (with_reducible refine below_dn ?_ _) | (with_reducible refine Below.drew ?_) | (with_reducible refine Below.alloc ?_ ?_ _) | (with_reducible refine Below.setCell ?_ ?_ _) | go_size))⟩
  go_enter Try.func11, Try.ntmps11
  have Hx := Lib.hid hx; clear hx
  go_wp2
  go_loopw [1, 5] (fun l i wr => ∃ (k : Nat), k ≤ xs.length ∧ i = .int .i64 k ∧ l = .int .i64 (left - xs.length - wtMeasure (xs.take k)) ∧ 0 ≤ left - xs.length - wtMeasure (xs.take k) ∧ Below w.heap.size w wr) (fun _ i _ => xs.length - (intOf i).toNat)
  case atStart => exact ⟨0, Nat.zero_le _, rfl, by simp [wtMeasure], by simp [wtMeasure]; omega, Below.refl _ _⟩
  case round =>
    obtain ⟨k, hk, rfl, rfl, hp, hb⟩ := hrel
    by_cases hlt : k < xs.length
    · obtain ⟨b, off, rfl, hbB, hc⟩ := hsome (by omega)
      have c0 : wr.cell? ⟨b, off + k * 3, none⟩ = some (.string xs[k].bell) := by
        rw [show off + k * 3 = off + (k * 3 + 0) from by omega, hb.cell (p := ⟨b, off + (k * 3 + 0), none⟩) hbB, hc (k * 3 + 0) (by omega), Measure_get0 xs k hlt]
      have c1 : wr.cell? ⟨b, off + k * 3 + 1, none⟩ = some (.int .i64 xs[k].part) := by
        rw [show off + k * 3 + 1 = off + (k * 3 + 1) from by omega, hb.cell (p := ⟨b, off + (k * 3 + 1), none⟩) hbB, hc (k * 3 + 1) (by omega), Measure_get1 xs k hlt]
      have c2 : wr.cell? ⟨b, off + k * 3 + 2, none⟩ = some (.int .i64 xs[k].value) := by
        rw [show off + k * 3 + 2 = off + (k * 3 + 2) from by omega, hb.cell (p := ⟨b, off + (k * 3 + 2), none⟩) hbB, hc (k * 3 + 2) (by omega), Measure_get2 xs k hlt]
      have hs := Lib.hid (wtMeasure_succ xs k hlt)
      have hle := Lib.hid (wtMeasure_le xs (k + 1))
      have hxk := Lib.hid (Hx.out xs[k] (List.getElem_mem hlt))
      have HB := Lib.hid hb
      clear hc hsome hnil hb
      by_cases hq : (xs[k].bell.size : Int) ≤ left - xs.length - wtMeasure (xs.take k)
      · have es : Hid (szR (left - xs.length - wtMeasure (xs.take k)) xs[k].bell.size = left - xs.length - wtMeasure (xs.take (k + 1))) := (by unfold szR; rw [if_pos hq, hs.out]; push_cast; omega : szR (left - xs.length - wtMeasure (xs.take k)) xs[k].bell.size = left - xs.length - wtMeasure (xs.take (k + 1)))
        have hp2 : 0 ≤ left - xs.length - wtMeasure (xs.take (k + 1)) := by have := hs.out; omega
        go_wp2_with fail
        refine (szMeasure xs[k] _ _ hp (by omega) hxk.out).mono ?_; rw [es.out]; rintro e w1 ⟨rfl, b1⟩
        have HB1 := Lib.hid (HB.out.trans (b1.mono HB.out.size)); clear b1 HB
        clear es hp
        go_wp2_with fail
        go_roundw
        case rel => exact ⟨k + 1, by omega, by go_num, rfl, hp2, HB1.out⟩
        case measure => simp [intOf]; omega
      · have es : Hid (szR (left - xs.length - wtMeasure (xs.take k)) xs[k].bell.size = -1) := (if_neg hq : szR (left - xs.length - wtMeasure (xs.take k)) xs[k].bell.size = -1)
        have e : Hid (szR left (xs.length + wtMeasure xs) = -1) := (if_neg (by have := hs.out; have := hle.out; omega) : szR left (xs.length + wtMeasure xs) = -1)
        go_wp2_with fail
        refine (szMeasure xs[k] _ _ hp (by omega) hxk.out).mono ?_; rw [es.out]; rintro e w1 ⟨rfl, b1⟩
        have HB1 := Lib.hid (HB.out.trans (b1.mono HB.out.size)); clear b1 HB es hp
        go_wp2_with fail
        go_ret
        exact ⟨by rw [e.out]; rfl, HB1.out⟩
    · have e : Hid (szR left (xs.length + wtMeasure xs) = left - xs.length - wtMeasure (xs.take k)) := (by
        rw [List.take_of_length_le (by omega)] at hp ⊢
        unfold szR
        rw [if_pos (by push_cast; omega)]; push_cast; omega : szR left (xs.length + wtMeasure xs) = left - xs.length - wtMeasure (xs.take k))
      go_wp2
      go_ret
      exact ⟨by rw [e.out]; rfl, hb⟩
end Go.Proofs.Ytmkemjfbmnnflaa
