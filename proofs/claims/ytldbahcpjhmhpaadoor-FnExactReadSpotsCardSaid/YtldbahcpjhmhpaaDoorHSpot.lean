/- The helpers of the laws at Spot: copies, comparisons, sizes. -/
import Derived.Test.YtldbahcpjhmhpaaDoorRows
import Derived.Test.YtldbahcpjhmhpaaDoorCopyInts
namespace Go.Proofs.YtldbahcpjhmhpaaDoor
open Go.ChangeShapes Go.WideShapes Go.ChangeAt Go.RowKit Go.Deep Go.Joins
set_option linter.unusedVariables false
set_option maxRecDepth 100000
set_option linter.unusedSimpArgs false
theorem Spot_len (xs : List Spot) : (xs.flatMap Spot.put).length = xs.length * 2 := flat_len xs (fun _ _ => rfl)
theorem Spot_get0 (xs : List Spot) (k : Nat) (h : k < xs.length) : (xs.flatMap Spot.put)[k * 2 + 0]? = some (.int .i64 xs[k].angle) := by
  rw [flat_get (f := Spot.put) (s := 2) xs (fun _ _ => rfl) (j := 0) (by omega) k, List.getElem?_eq_getElem h]
  rfl
theorem Spot_get1 (xs : List Spot) (k : Nat) (h : k < xs.length) : (xs.flatMap Spot.put)[k * 2 + 1]? = some (.int .i64 xs[k].weight) := by
  rw [flat_get (f := Spot.put) (s := 2) xs (fun _ _ => rfl) (j := 1) (by omega) k, List.getElem?_eq_getElem h]
  rfl
theorem Spot_info : (Tryd.prog.info? 58).map (fun i => (i.zero, i.size, i.bytes)) = some (some (.agg #[.int .i64 0, .int .i64 0]), 2, 16) := by kernel_rfl

theorem eqSpot (x : Spot) (w : World) : Calls Tryd.prog 35 #[.agg #[.int .i64 x.angle, .int .i64 x.weight], .agg #[.int .i64 x.angle, .int .i64 x.weight]] w fun e w' => e = .returned (.bool true) ∧ Below w.heap.size w w' := by
  go_enter Tryd.func35, Tryd.ntmps35
  repeat (go_wp2_with fail; go_quiet (fail))
  go_wp2_with fail
  go_ret
  exact ⟨rfl, by (repeat' (first | (with_reducible exact Below.refl _ _) | (with_reducible assumption) | (with_reducible refine below_dn ?_ _) | (with_reducible refine Below.drew ?_) | (with_reducible refine Below.alloc ?_ ?_ _) | (with_reducible refine Below.setCell ?_ ?_ _) | go_size))⟩
theorem eqSpotS (w : World) (v1 v2 : Value) (xs : List Spot) (h1 : Rd w.heap.size w v1 2 xs.length (xs.flatMap Spot.put)) (h2 : Rd w.heap.size w v2 2 xs.length (xs.flatMap Spot.put)) (hn : xs.length ≤ 1048576) :
    Calls Tryd.prog 10 #[v1, v2] w fun e w' => e = .returned (.bool true) ∧ Below w.heap.size w w' := by
  obtain ⟨hL, ao, cap, rfl, hcap, hmax, hnil, hsome⟩ := h1
  obtain ⟨hL2, ao2, cap2, rfl, hcap2, hmax2, hnil2, hsome2⟩ := h2
  go_enter Tryd.func10, Tryd.ntmps10
  go_wp2
  go_loopw [5] (fun i wr => ∃ (k : Nat), k ≤ xs.length ∧ i = .int .i64 k ∧ Below w.heap.size w wr) (fun i _ => xs.length - (intOf i).toNat)
  case atStart => exact ⟨0, Nat.zero_le _, rfl, Below.refl _ _⟩
  case round =>
    obtain ⟨k, hk, rfl, hb⟩ := hrel
    by_cases hlt : k < xs.length
    · obtain ⟨b, off, rfl, hbB, hc⟩ := hsome (by omega)
      obtain ⟨b2, off2, rfl, hbB2, hc2⟩ := hsome2 (by omega)
      have c0 : wr.cell? ⟨b, off + k * 2, none⟩ = some (.int .i64 xs[k].angle) := by
        rw [show off + k * 2 = off + (k * 2 + 0) from by omega, hb.cell (p := ⟨b, off + (k * 2 + 0), none⟩) hbB, hc (k * 2 + 0) (by omega), Spot_get0 xs k hlt]
      have c1 : wr.cell? ⟨b, off + k * 2 + 1, none⟩ = some (.int .i64 xs[k].weight) := by
        rw [show off + k * 2 + 1 = off + (k * 2 + 1) from by omega, hb.cell (p := ⟨b, off + (k * 2 + 1), none⟩) hbB, hc (k * 2 + 1) (by omega), Spot_get1 xs k hlt]
      have d0 : wr.cell? ⟨b2, off2 + k * 2, none⟩ = some (.int .i64 xs[k].angle) := by
        rw [show off2 + k * 2 = off2 + (k * 2 + 0) from by omega, hb.cell (p := ⟨b2, off2 + (k * 2 + 0), none⟩) hbB2, hc2 (k * 2 + 0) (by omega), Spot_get0 xs k hlt]
      have d1 : wr.cell? ⟨b2, off2 + k * 2 + 1, none⟩ = some (.int .i64 xs[k].weight) := by
        rw [show off2 + k * 2 + 1 = off2 + (k * 2 + 1) from by omega, hb.cell (p := ⟨b2, off2 + (k * 2 + 1), none⟩) hbB2, hc2 (k * 2 + 1) (by omega), Spot_get1 xs k hlt]
      have HB := Lib.hid hb
      clear hc hc2 hsome hsome2 hnil hnil2 hb
      go_wp2_with fail
      have hbr : b < wr.heap.size := Nat.lt_of_lt_of_le hbB HB.out.size
      have hbr2 : b2 < wr.heap.size := Nat.lt_of_lt_of_le hbB2 HB.out.size
      refine wp_region_above (by kernel_rfl) (by kernel_rfl) ?_
      repeat (go_big_quiet_step ((go_at_call 35; exact aboveC (eqSpot xs[k] _))))
      refine wpQuiet_nil ?_
      intro w1 b1
      have HB1 := Lib.hid (HB.out.trans (b1.mono HB.out.size)); clear b1 HB
      go_wp2_with fail
      go_roundw
      case rel => exact ⟨k + 1, by omega, by go_num, HB1.out⟩
      case measure => simp [intOf]; omega
    · go_wp2
      go_ret
      exact ⟨rfl, hb⟩
end Go.Proofs.YtldbahcpjhmhpaaDoor
