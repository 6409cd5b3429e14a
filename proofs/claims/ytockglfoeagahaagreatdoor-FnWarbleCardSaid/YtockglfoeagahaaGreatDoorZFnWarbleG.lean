/- Contracts and plain facts, joined: SearchSpot. -/
import Derived.Test.YtockglfoeagahaaGreatDoorRows
import Derived.Test.YtockglfoeagahaaGreatDoorZFnWarbleB
import Derived.Test.YtockglfoeagahaaGreatDoorZFnWarbleF
namespace Go.Proofs.YtockglfoeagahaaGreatDoor
open Go.ChangeShapes Go.WideShapes Go.ChangeAt Go.RowKit Go.Deep Go.Joins
set_option linter.unusedVariables false
set_option maxRecDepth 100000
set_option linter.unusedSimpArgs false
theorem impl_compareSpots (x y : Spot) (w : World) : Calls Tryz.prog 28 #[.agg #[.int .i64 x.angle, .int .i64 x.weight], .agg #[.int .i64 y.angle, .int .i64 y.weight]] w fun e w' => e = .returned (.int .i64 (cmpI x.angle y.angle)) ∧ Below w.heap.size w w' := by
  go_enter Tryz.func28, Tryz.ntmps28
  go_wp2_with (first | (go_at_call 48; refine (cmp_Compare_int _ _ _).mono ?_; rintro e w' ⟨rfl, rfl⟩))
  go_ret
  exact ⟨rfl, by (repeat' (first | (with_reducible exact Below.refl _ _) | (with_reducible assumption) | (with_reducible refine below_dn ?_ _) | (with_reducible refine Below.drew ?_) | (with_reducible refine Below.alloc ?_ ?_ _) | (with_reducible refine Below.setCell ?_ ?_ _) | go_size))⟩

def cmpSpot (xs : List Spot) (t : Spot) (k : Nat) : Int := (xs[k]?).elim 1 fun x => cmpI x.angle t.angle
theorem cmpSpot_at {xs : List Spot} {t : Spot} {k : Nat} (h : k < xs.length) : cmpSpot xs t k = (fun x : Spot => cmpI x.angle t.angle) xs[k] := by
  unfold cmpSpot
  rw [List.getElem?_eq_getElem h]
  rfl

set_option maxHeartbeats 2000000 in
theorem BinarySearch_Spot (w : World) (v : Value) (xs : List Spot) (t : Spot) (h : Rd w.heap.size w v 2 xs.length (xs.flatMap Spot.put)) (hn : xs.length ≤ 1048576) :
    Calls Tryz.prog 49 #[v, .agg #[.int .i64 t.angle, .int .i64 t.weight], .func (.func 28) #[] #[]] w fun e w' => (∃ i : Nat, e = .returned (.tuple #[.int .i64 i, .bool (decide (i < xs.length) && decide (cmpSpot xs t i = 0))]) ∧ Found (cmpSpot xs t) xs.length i) ∧ Below w.heap.size w w' := by
  obtain ⟨hL, ao, cap, rfl, hcap, hmax, hnil, hsome⟩ := h
  go_enter Tryz.func49, Tryz.ntmps49
  go_wp2
  go_loopw [9, 10] (fun i j wr => ∃ (a b : Nat), a ≤ b ∧ b ≤ xs.length ∧ i = .int .i64 a ∧ j = .int .i64 b ∧ Part (cmpSpot xs t) xs.length a b ∧ Own wr w.heap.size 38 [.int .i64 t.angle, .int .i64 t.weight] ∧ Below w.heap.size w wr) (fun i j _ => (intOf j).toNat - (intOf i).toNat)
  case atStart => exact ⟨0, xs.length, Nat.zero_le _, Nat.le_refl _, rfl, rfl, part_start _ _, Own.new w _ _, by (repeat' (first | (with_reducible exact Below.refl _ _) | (with_reducible assumption) | (with_reducible refine below_dn ?_ _) | (with_reducible refine Below.drew ?_) | (with_reducible refine Below.alloc ?_ ?_ _) | (with_reducible refine Below.setCell ?_ ?_ _) | go_size))⟩
  case round =>
    obtain ⟨a, b, hab, hbn, rfl, rfl, hpart, how, hb⟩ := hrel
    have HP := Lib.hid hpart; clear hpart
    have HOW := Lib.hid how
    have t0 : wr.cell? ⟨w.heap.size, 0, none⟩ = some (.int .i64 t.angle) := how.cell 0
    have t1 : wr.cell? ⟨w.heap.size, 1, none⟩ = some (.int .i64 t.weight) := how.cell 1
    have hlo := how.lt
    clear how
    by_cases hlt : a < b
    · obtain ⟨b0, off, rfl, hbB, hc⟩ := hsome (by omega)
      obtain ⟨m, hm, ham, hmb⟩ : ∃ m : Nat, ((a : Int) + (b : Int)) / 2 = ((m : Nat) : Int) ∧ a ≤ m ∧ m < b := ⟨(a + b) / 2, by omega, by omega, by omega⟩
      have hml : m < xs.length := by omega
      have c0 : wr.cell? ⟨b0, off + m * 2, none⟩ = some (.int .i64 xs[m].angle) := by rw [show off + m * 2 = off + (m * 2 + 0) from by omega, hb.cell (p := ⟨b0, off + (m * 2 + 0), none⟩) hbB, hc (m * 2 + 0) (by omega), Spot_get0 xs m hml]
      have c1 : wr.cell? ⟨b0, off + m * 2 + 1, none⟩ = some (.int .i64 xs[m].weight) := by rw [show off + m * 2 + 1 = off + (m * 2 + 1) from by omega, hb.cell (p := ⟨b0, off + (m * 2 + 1), none⟩) hbB, hc (m * 2 + 1) (by omega), Spot_get1 xs m hml]
      have HC := Lib.hid (cmpSpot_at (t := t) hml)
      have HB := Lib.hid hb
      have hws := hb.size
      have hbr : b0 < wr.heap.size := Nat.lt_of_lt_of_le hbB hws
      clear hc hsome hb hnil
      by_cases hneg : cmpSpot xs t m < 0
      · have HN := Lib.hid hneg
        rw [HC.out] at hneg
        go_wp2_with fail
        refine wp_region_above (by kernel_rfl) (by kernel_rfl) ?_
        repeat (go_big_quiet_step (((go_at_call 28; exact aboveC (impl_compareSpots xs[m] t _)))))
        refine wpQuiet_nil ?_
        intro w1 b1
        have HOW1 := Lib.hid (HOW.out.below b1 HOW.out.lt)
        have HB1 := Lib.hid (HB.out.trans (b1.mono HB.out.size)); clear b1 HB
        go_wp2_with fail
        go_roundw
        case rel => exact ⟨m + 1, b, by omega, by omega, by go_num, rfl, part_up HP.out hml HN.out, HOW1.out, HB1.out⟩
        case measure => simp [intOf]; omega
      · have HN := Lib.hid hneg
        rw [HC.out] at hneg
        go_wp2_with fail
        refine wp_region_above (by kernel_rfl) (by kernel_rfl) ?_
        repeat (go_big_quiet_step (((go_at_call 28; exact aboveC (impl_compareSpots xs[m] t _)))))
        refine wpQuiet_nil ?_
        intro w1 b1
        have HOW1 := Lib.hid (HOW.out.below b1 HOW.out.lt)
        have HB1 := Lib.hid (HB.out.trans (b1.mono HB.out.size)); clear b1 HB
        go_wp2_with fail
        go_roundw
        case rel => exact ⟨a, m, by omega, by omega, rfl, by go_num, part_down HP.out (by have := HN.out; omega), HOW1.out, HB1.out⟩
        case measure => simp [intOf]; omega
    · obtain rfl : a = b := by omega
      by_cases hml : a < xs.length
      · obtain ⟨b0, off, rfl, hbB, hc⟩ := hsome (by omega)
        have c0 : wr.cell? ⟨b0, off + a * 2, none⟩ = some (.int .i64 xs[a].angle) := by rw [show off + a * 2 = off + (a * 2 + 0) from by omega, hb.cell (p := ⟨b0, off + (a * 2 + 0), none⟩) hbB, hc (a * 2 + 0) (by omega), Spot_get0 xs a hml]
        have c1 : wr.cell? ⟨b0, off + a * 2 + 1, none⟩ = some (.int .i64 xs[a].weight) := by rw [show off + a * 2 + 1 = off + (a * 2 + 1) from by omega, hb.cell (p := ⟨b0, off + (a * 2 + 1), none⟩) hbB, hc (a * 2 + 1) (by omega), Spot_get1 xs a hml]
        have HC := Lib.hid (cmpSpot_at (t := t) hml)
        have HB := Lib.hid hb
        have hws := hb.size
        have hbr : b0 < wr.heap.size := Nat.lt_of_lt_of_le hbB hws
        clear hc hsome hb hnil
        by_cases hz : cmpSpot xs t a = 0
        · have E : Hid ((decide (a < xs.length) && decide (cmpSpot xs t a = 0)) = true) := (by simp [hml, hz] : (decide (a < xs.length) && decide (cmpSpot xs t a = 0)) = true)
          rw [HC.out] at hz
          have hz2 := (beq_iff_eq (α := Int)).2 hz
          have HZ := Lib.hid hz; clear hz
          simp only at hz2
          go_wp2_with fail
          refine wp_region_above (by kernel_rfl) (by kernel_rfl) ?_
          repeat (go_big_quiet_step (((go_at_call 28; exact aboveC (impl_compareSpots xs[a] t _)))))
          refine wpQuiet_nil ?_
          intro w1 b1
          have HOW1 := Lib.hid (HOW.out.below b1 HOW.out.lt)
          have HB1 := Lib.hid (HB.out.trans (b1.mono HB.out.size)); clear b1 HB
          go_wp2_with fail
          go_ret2
          exact ⟨⟨a, by rw [E.out]; rfl, part_end HP.out hbn⟩, HB1.out⟩
        · have E : Hid ((decide (a < xs.length) && decide (cmpSpot xs t a = 0)) = false) := (by simp [hz] : (decide (a < xs.length) && decide (cmpSpot xs t a = 0)) = false)
          rw [HC.out] at hz
          have hz2 := (beq_eq_false_iff_ne (α := Int)).2 hz
          have HZ := Lib.hid hz; clear hz
          simp only at hz2
          go_wp2_with fail
          refine wp_region_above (by kernel_rfl) (by kernel_rfl) ?_
          repeat (go_big_quiet_step (((go_at_call 28; exact aboveC (impl_compareSpots xs[a] t _)))))
          refine wpQuiet_nil ?_
          intro w1 b1
          have HOW1 := Lib.hid (HOW.out.below b1 HOW.out.lt)
          have HB1 := Lib.hid (HB.out.trans (b1.mono HB.out.size)); clear b1 HB
          go_wp2_with fail
          go_ret2
          exact ⟨⟨a, by rw [E.out]; rfl, part_end HP.out hbn⟩, HB1.out⟩
      · have E : Hid ((decide (a < xs.length) && decide (cmpSpot xs t a = 0)) = false) := (by simp [hml] : (decide (a < xs.length) && decide (cmpSpot xs t a = 0)) = false)
        have HB := Lib.hid hb; clear hb
        have hd : decide (a < xs.length) = false := decide_eq_false hml
        go_wp2_with fail
        refine wp_region_above (by kernel_rfl) (by kernel_rfl) ?_
        repeat (go_big_quiet_step (fail))
        refine wpQuiet_nil ?_
        intro w1 b1
        have HB1 := Lib.hid (HB.out.trans (b1.mono HB.out.size)); clear b1 HB
        go_wp2_with fail
        go_ret2
        exact ⟨⟨a, by rw [E.out]; rfl, part_end HP.out hbn⟩, HB1.out⟩
end Go.Proofs.YtockglfoeagahaaGreatDoor
