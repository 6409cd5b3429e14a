/- SameSpots: both sides compute the same. -/
import Derived.Test.YtkfpoabgbailjaaRows
import Derived.Test.YtkfpoabgbailjaaEqSpot
import Derived.Test.YtkfpoabgbailjaaSteps
namespace Go.Proofs.Ytkfpoabgbailjaa
open Go.ChangeShapes Go.WideShapes Go.ChangeAt Go.RowKit Go.Deep Go.Joins
set_option linter.unusedVariables false
set_option maxRecDepth 100000
set_option linter.unusedSimpArgs false
def sameSpotsS (xs ys : List Spot) : Bool := decide (xs.length = ys.length) && allK (atB spotEq xs ys) xs.length

set_option maxHeartbeats 400000 in
theorem spec_SameSpots (w : World) (v1 v2 : Value) (xs ys : List Spot) (h1 : Rd w.heap.size w v1 2 xs.length (xs.flatMap Spot.put)) (h2 : Rd w.heap.size w v2 2 ys.length (ys.flatMap Spot.put)) (hn : xs.length ≤ 1048576) (hn2 : ys.length ≤ 1048576) :
    Calls Try.prog 27 #[v1, v2] w fun e w' => e = .returned (.bool (sameSpotsS xs ys)) ∧ Below w.heap.size w w' := by
  obtain ⟨hL, ao, cap, rfl, hcap, hmax, hnil, hsome⟩ := h1
  obtain ⟨hL2, ao2, cap2, rfl, hcap2, hmax2, hnil2, hsome2⟩ := h2
  by_cases hl : xs.length = ys.length
  case neg =>
    have e : Hid (sameSpotsS xs ys = false) := (by simp [sameSpotsS, hl] : sameSpotsS xs ys = false)
    have hz : decide (xs.length = ys.length) = false := decide_eq_false hl
    have hz2 : ((xs.length : Int) != (ys.length : Int)) = true := by simp; omega
    clear hsome hsome2 hnil hnil2 hl
    go_enter Try.func27, Try.ntmps27
    go_wp2
    go_ret
    exact ⟨by rw [e.out]; rfl, by (repeat' (first | (with_reducible exact Below.refl _ _) | (with_reducible assumption) | (with_reducible refine below_dn ?_ _) | (with_reducible refine Below.drew ?_) | (with_reducible refine Below.alloc ?_ ?_ _) | (with_reducible refine Below.setCell ?_ ?_ _) | go_size))⟩
  have es : Hid (sameSpotsS xs ys = allK (atB spotEq xs ys) xs.length) := (by simp [sameSpotsS, hl] : sameSpotsS xs ys = allK (atB spotEq xs ys) xs.length)
  have Hl := Lib.hid hl
  have hz2 : ((xs.length : Int) != (ys.length : Int)) = false := by simp [hl]
  have hle : xs.length ≤ ys.length := by omega
  have hge : ys.length ≤ xs.length := by omega
  clear hl
  go_enter Try.func27, Try.ntmps27
  go_wp2
  go_loopw [5] (fun i wr => ∃ (k : Nat), k ≤ xs.length ∧ i = .int .i64 k ∧ allK (atB spotEq xs ys) k = true ∧ Below w.heap.size w wr) (fun i _ => xs.length - (intOf i).toNat)
  case atStart => exact ⟨0, Nat.zero_le _, rfl, rfl, Below.refl _ _⟩
  case round =>
    obtain ⟨k, hk, rfl, hall, hb⟩ := hrel
    have Hall := Lib.hid hall; clear hall
    by_cases hlt : k < xs.length
    · have hlt2 : k < ys.length := by omega
      obtain ⟨b, off, rfl, hbB, hc⟩ := hsome (by omega)
      obtain ⟨b2, off2, rfl, hbB2, hc2⟩ := hsome2 (by omega)
      have c0 : wr.cell? ⟨b, off + k * 2, none⟩ = some (.int .i64 xs[k].angle) := by
        rw [show off + k * 2 = off + (k * 2 + 0) from by omega, hb.cell (p := ⟨b, off + (k * 2 + 0), none⟩) hbB, hc (k * 2 + 0) (by omega), Spot_get0 xs k hlt]
      have c1 : wr.cell? ⟨b, off + k * 2 + 1, none⟩ = some (.int .i64 xs[k].weight) := by
        rw [show off + k * 2 + 1 = off + (k * 2 + 1) from by omega, hb.cell (p := ⟨b, off + (k * 2 + 1), none⟩) hbB, hc (k * 2 + 1) (by omega), Spot_get1 xs k hlt]
      have d0 : wr.cell? ⟨b2, off2 + k * 2, none⟩ = some (.int .i64 ys[k].angle) := by
        rw [show off2 + k * 2 = off2 + (k * 2 + 0) from by omega, hb.cell (p := ⟨b2, off2 + (k * 2 + 0), none⟩) hbB2, hc2 (k * 2 + 0) (by omega), Spot_get0 ys k hlt2]
      have d1 : wr.cell? ⟨b2, off2 + k * 2 + 1, none⟩ = some (.int .i64 ys[k].weight) := by
        rw [show off2 + k * 2 + 1 = off2 + (k * 2 + 1) from by omega, hb.cell (p := ⟨b2, off2 + (k * 2 + 1), none⟩) hbB2, hc2 (k * 2 + 1) (by omega), Spot_get1 ys k hlt2]
      have hbr : b < wr.heap.size := Nat.lt_of_lt_of_le hbB hb.size
      have hbr2 : b2 < wr.heap.size := Nat.lt_of_lt_of_le hbB2 hb.size
      have HS := Lib.hid (allK_succ (atB spotEq xs ys) k)
      have HF := Lib.hid (allK_false (atB spotEq xs ys) xs.length k hlt)
      have hne := fun w => neq_spot xs[k] ys[k] w
      have HB := Lib.hid hb
      clear hc hc2 hsome hsome2 hnil hnil2 hb
      cases hE : spotEq xs[k] ys[k]
      · have e : Hid (sameSpotsS xs ys = false) := (by rw [es.out]; exact HF.out (by rw [atB_eq hlt hlt2, hE]) : sameSpotsS xs ys = false)
        go_wp2_with fail
        refine wp_region_above (by kernel_rfl) (by kernel_rfl) ?_
        repeat (go_big_quiet_step (fail))
        refine wpQuiet_nil ?_
        intro w1 b1
        have HB1 := Lib.hid (HB.out.trans (b1.mono HB.out.size)); clear b1 HB hne
        go_wp2_with fail
        go_ret
        exact ⟨by rw [e.out]; rfl, HB1.out⟩
      · have e : Hid (allK (atB spotEq xs ys) (k + 1) = true) := (by rw [HS.out, Hall.out, atB_eq hlt hlt2, hE]; rfl : allK (atB spotEq xs ys) (k + 1) = true)
        go_wp2_with fail
        refine wp_region_above (by kernel_rfl) (by kernel_rfl) ?_
        repeat (go_big_quiet_step (fail))
        refine wpQuiet_nil ?_
        intro w1 b1
        have HB1 := Lib.hid (HB.out.trans (b1.mono HB.out.size)); clear b1 HB hne
        go_wp2_with fail
        go_roundw
        case rel => exact ⟨k + 1, by omega, by go_num, e.out, HB1.out⟩
        case measure => simp [intOf]; omega
    · have e : Hid (sameSpotsS xs ys = true) := (by
        obtain rfl : k = xs.length := by omega
        rw [es.out]; exact Hall.out : sameSpotsS xs ys = true)
      go_wp2
      go_ret
      exact ⟨by rw [e.out]; rfl, hb⟩

set_option maxHeartbeats 400000 in
theorem slices_Equal_Spot (w : World) (v1 v2 : Value) (xs ys : List Spot) (h1 : Rd w.heap.size w v1 2 xs.length (xs.flatMap Spot.put)) (h2 : Rd w.heap.size w v2 2 ys.length (ys.flatMap Spot.put)) (hn : xs.length ≤ 1048576) (hn2 : ys.length ≤ 1048576) :
    Calls Try.prog 72 #[v1, v2] w fun e w' => e = .returned (.bool (sameSpotsS xs ys)) ∧ Below w.heap.size w w' := by
  obtain ⟨hL, ao, cap, rfl, hcap, hmax, hnil, hsome⟩ := h1
  obtain ⟨hL2, ao2, cap2, rfl, hcap2, hmax2, hnil2, hsome2⟩ := h2
  by_cases hl : xs.length = ys.length
  case neg =>
    have e : Hid (sameSpotsS xs ys = false) := (by simp [sameSpotsS, hl] : sameSpotsS xs ys = false)
    have hz : decide (xs.length = ys.length) = false := decide_eq_false hl
    have hz2 : ((xs.length : Int) != (ys.length : Int)) = true := by simp; omega
    clear hsome hsome2 hnil hnil2 hl
    go_enter Try.func72, Try.ntmps72
    go_wp2
    go_ret
    exact ⟨by rw [e.out]; rfl, by (repeat' (first | (with_reducible exact Below.refl _ _) | (with_reducible assumption) | (with_reducible refine below_dn ?_ _) | (with_reducible refine Below.drew ?_) | (with_reducible refine Below.alloc ?_ ?_ _) | (with_reducible refine Below.setCell ?_ ?_ _) | go_size))⟩
  have es : Hid (sameSpotsS xs ys = allK (atB spotEq xs ys) xs.length) := (by simp [sameSpotsS, hl] : sameSpotsS xs ys = allK (atB spotEq xs ys) xs.length)
  have Hl := Lib.hid hl
  have hz2 : ((xs.length : Int) != (ys.length : Int)) = false := by simp [hl]
  have hle : xs.length ≤ ys.length := by omega
  have hge : ys.length ≤ xs.length := by omega
  clear hl
  go_enter Try.func72, Try.ntmps72
  go_wp2
  go_loopw [13] (fun i wr => ∃ (k : Nat), k ≤ xs.length ∧ i = .int .i64 k ∧ allK (atB spotEq xs ys) k = true ∧ Below w.heap.size w wr) (fun i _ => xs.length - (intOf i).toNat)
  case atStart => exact ⟨0, Nat.zero_le _, rfl, rfl, Below.refl _ _⟩
  case round =>
    obtain ⟨k, hk, rfl, hall, hb⟩ := hrel
    have Hall := Lib.hid hall; clear hall
    by_cases hlt : k < xs.length
    · have hlt2 : k < ys.length := by omega
      obtain ⟨b, off, rfl, hbB, hc⟩ := hsome (by omega)
      obtain ⟨b2, off2, rfl, hbB2, hc2⟩ := hsome2 (by omega)
      have c0 : wr.cell? ⟨b, off + k * 2, none⟩ = some (.int .i64 xs[k].angle) := by
        rw [show off + k * 2 = off + (k * 2 + 0) from by omega, hb.cell (p := ⟨b, off + (k * 2 + 0), none⟩) hbB, hc (k * 2 + 0) (by omega), Spot_get0 xs k hlt]
      have c1 : wr.cell? ⟨b, off + k * 2 + 1, none⟩ = some (.int .i64 xs[k].weight) := by
        rw [show off + k * 2 + 1 = off + (k * 2 + 1) from by omega, hb.cell (p := ⟨b, off + (k * 2 + 1), none⟩) hbB, hc (k * 2 + 1) (by omega), Spot_get1 xs k hlt]
      have d0 : wr.cell? ⟨b2, off2 + k * 2, none⟩ = some (.int .i64 ys[k].angle) := by
        rw [show off2 + k * 2 = off2 + (k * 2 + 0) from by omega, hb.cell (p := ⟨b2, off2 + (k * 2 + 0), none⟩) hbB2, hc2 (k * 2 + 0) (by omega), Spot_get0 ys k hlt2]
      have d1 : wr.cell? ⟨b2, off2 + k * 2 + 1, none⟩ = some (.int .i64 ys[k].weight) := by
        rw [show off2 + k * 2 + 1 = off2 + (k * 2 + 1) from by omega, hb.cell (p := ⟨b2, off2 + (k * 2 + 1), none⟩) hbB2, hc2 (k * 2 + 1) (by omega), Spot_get1 ys k hlt2]
      have hbr : b < wr.heap.size := Nat.lt_of_lt_of_le hbB hb.size
      have hbr2 : b2 < wr.heap.size := Nat.lt_of_lt_of_le hbB2 hb.size
      have HS := Lib.hid (allK_succ (atB spotEq xs ys) k)
      have HF := Lib.hid (allK_false (atB spotEq xs ys) xs.length k hlt)
      have hne := fun w => neq_spot xs[k] ys[k] w
      have HB := Lib.hid hb
      clear hc hc2 hsome hsome2 hnil hnil2 hb
      cases hE : spotEq xs[k] ys[k]
      · have e : Hid (sameSpotsS xs ys = false) := (by rw [es.out]; exact HF.out (by rw [atB_eq hlt hlt2, hE]) : sameSpotsS xs ys = false)
        go_wp2_with fail
        refine wp_region_above (by kernel_rfl) (by kernel_rfl) ?_
        repeat (go_big_quiet_step (fail))
        refine wpQuiet_nil ?_
        intro w1 b1
        have HB1 := Lib.hid (HB.out.trans (b1.mono HB.out.size)); clear b1 HB hne
        go_wp2_with fail
        go_ret
        exact ⟨by rw [e.out]; rfl, HB1.out⟩
      · have e : Hid (allK (atB spotEq xs ys) (k + 1) = true) := (by rw [HS.out, Hall.out, atB_eq hlt hlt2, hE]; rfl : allK (atB spotEq xs ys) (k + 1) = true)
        go_wp2_with fail
        refine wp_region_above (by kernel_rfl) (by kernel_rfl) ?_
        repeat (go_big_quiet_step (fail))
        refine wpQuiet_nil ?_
        intro w1 b1
        have HB1 := Lib.hid (HB.out.trans (b1.mono HB.out.size)); clear b1 HB hne
        go_wp2_with fail
        go_roundw
        case rel => exact ⟨k + 1, by omega, by go_num, e.out, HB1.out⟩
        case measure => simp [intOf]; omega
    · have e : Hid (sameSpotsS xs ys = true) := (by
        obtain rfl : k = xs.length := by omega
        rw [es.out]; exact Hall.out : sameSpotsS xs ys = true)
      go_wp2
      go_ret
      exact ⟨by rw [e.out]; rfl, hb⟩

theorem impl_SameSpots (w : World) (v1 v2 : Value) (xs ys : List Spot) (h1 : Rd w.heap.size w v1 2 xs.length (xs.flatMap Spot.put)) (h2 : Rd w.heap.size w v2 2 ys.length (ys.flatMap Spot.put)) (hn : xs.length ≤ 1048576) (hn2 : ys.length ≤ 1048576) :
    Calls Try.prog 29 #[v1, v2] w fun e w' => e = .returned (.bool (sameSpotsS xs ys)) ∧ Below w.heap.size w w' := by
  have H := Lib.hid (slices_Equal_Spot w v1 v2 xs ys h1 h2 hn hn2)
  clear h1 h2
  go_enter Try.func29, Try.ntmps29
  go_wp2_with fail
  refine H.out.mono ?_; rintro e w1 ⟨rfl, b1⟩
  go_wp2_with fail
  go_ret
  exact ⟨rfl, b1⟩
end Go.Proofs.Ytkfpoabgbailjaa
