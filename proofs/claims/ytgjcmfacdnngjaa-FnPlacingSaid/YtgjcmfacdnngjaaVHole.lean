/- Valid lists of Hole: both sides compute the same. -/
import Derived.Test.YtgjcmfacdnngjaaRows
import Derived.Test.YtgjcmfacdnngjaaHHole
import Derived.Test.YtgjcmfacdnngjaaOneHole
import Derived.Test.YtgjcmfacdnngjaaSteps
namespace Go.Proofs.Ytgjcmfacdnngjaa
open Go.ChangeShapes Go.WideShapes Go.ChangeAt Go.RowKit Go.Deep Go.Joins
set_option linter.unusedVariables false
set_option maxRecDepth 100000
set_option linter.unusedSimpArgs false
def ltKHole (y x : Hole) : Bool := Op.bytesLess y.name.toList x.name.toList
def validHoleS (xs : List Hole) : Bool := allK (stepB holeB ltKHole xs) xs.length && decide (xs.length ≤ 8)

theorem ltKHole_spec_f {y x : Hole} (h : ltKHole y x = false) : (!(Op.bytesLess y.name.toList x.name.toList)) = true := by
  unfold ltKHole at h; rw [h]; rfl
theorem ltKHole_spec_t {y x : Hole} (h : ltKHole y x = true) : (!(Op.bytesLess y.name.toList x.name.toList)) = false := by
  unfold ltKHole at h; rw [h]; rfl
theorem ltKHole_impl_f {y x : Hole} (h : ltKHole y x = false) : (Op.bytesLess x.name.toList y.name.toList || x.name.toList == y.name.toList) = true := by
  unfold ltKHole at h; rw [← not_less, h]; rfl
theorem ltKHole_impl_t {y x : Hole} (h : ltKHole y x = true) : (Op.bytesLess x.name.toList y.name.toList || x.name.toList == y.name.toList) = false := by
  unfold ltKHole at h; rw [← not_less, h]; rfl

set_option maxHeartbeats 1000000 in
theorem impl_validHole (w : World) (v : Value) (xs : List Hole) (h : Rd w.heap.size w v 3 xs.length (xs.flatMap Hole.put)) (hn : xs.length ≤ 1048576) (hok : ∀ x ∈ xs, x.ok) :
    Calls Try.prog 19 #[v] w fun e w' => e = .returned (.bool (validHoleS xs)) ∧ Below w.heap.size w w' := by
  obtain ⟨hL, ao, cap, rfl, hcap, hmax, hnil, hsome⟩ := h
  have Hok := Lib.hid hok; clear hok
  go_enter Try.func19, Try.ntmps19
  go_wp2
  go_loopw [7] (fun i wr => ∃ (k : Nat), k ≤ xs.length ∧ i = .int .i64 k ∧ allK (stepB holeB ltKHole xs) k = true ∧ Below w.heap.size w wr) (fun i _ => xs.length - (intOf i).toNat)
  case atStart => exact ⟨0, Nat.zero_le _, rfl, rfl, Below.refl _ _⟩
  case round =>
    obtain ⟨k, hk, rfl, hall, hb⟩ := hrel
    have Hall := Lib.hid hall; clear hall
    by_cases hlt : k < xs.length
    · obtain ⟨b, off, rfl, hbB, hc⟩ := hsome (by omega)
      have hok := Hok.out
      have c0 : wr.cell? ⟨b, off + k * 3, none⟩ = some (.string xs[k].name) := by
        rw [show off + k * 3 = off + (k * 3 + 0) from by omega, hb.cell (p := ⟨b, off + (k * 3 + 0), none⟩) hbB, hc (k * 3 + 0) (by omega), Hole_get0 xs k hlt]
      have c1 : wr.cell? ⟨b, off + k * 3 + 1, none⟩ = some (.int .i64 xs[k].radius) := by
        rw [show off + k * 3 + 1 = off + (k * 3 + 1) from by omega, hb.cell (p := ⟨b, off + (k * 3 + 1), none⟩) hbB, hc (k * 3 + 1) (by omega), Hole_get1 xs k hlt]
      have c2 : wr.cell? ⟨b, off + k * 3 + 2, none⟩ = some (.int .i64 xs[k].depth) := by
        rw [show off + k * 3 + 2 = off + (k * 3 + 2) from by omega, hb.cell (p := ⟨b, off + (k * 3 + 2), none⟩) hbB, hc (k * 3 + 2) (by omega), Hole_get2 xs k hlt]
      have hbr : b < wr.heap.size := Nat.lt_of_lt_of_le hbB hb.size
      have HS := Lib.hid (allK_succ (stepB holeB ltKHole xs) k)
      have HF := Lib.hid (allK_false (stepB holeB ltKHole xs) xs.length k hlt)
      cases hO : holeB xs[k]
      · have e : Hid (validHoleS xs = false) := (by unfold validHoleS; rw [HF.out (stepB_no hlt hO)]; rfl : validHoleS xs = false)
        have HB := Lib.hid hb
        clear hc hsome hnil hb hok
        go_wp2_with fail
        refine wp_region_above (by kernel_rfl) (by kernel_rfl) ?_
        repeat (go_big_quiet_step ((first | (go_at_call 23; exact aboveC (impl_validHole_is xs[k] _ (by assumption) (Hok.out _ (List.getElem_mem hlt)))))))
        refine wpQuiet_nil ?_
        intro w1 b1
        have hsz := HB.out.size
        have HB1 := Lib.hid (HB.out.trans (Below.trans (((Below.refl _ _).alloc hsz _)) (b1.mono (by simp; omega)))); clear b1 HB
        go_wp2_with fail
        go_ret
        exact ⟨by rw [e.out]; rfl, HB1.out⟩
      by_cases hk0 : k = 0
      · have e : Hid (allK (stepB holeB ltKHole xs) (k + 1) = true) := (by subst hk0; rw [HS.out, stepB_zero hlt hO]; rfl : allK (stepB holeB ltKHole xs) (k + 1) = true)
        have hz : decide (0 < k) = false := decide_eq_false (by omega)
        have HB := Lib.hid hb
        clear hc hsome hnil hb hok hk0
        go_wp2_with fail
        refine wp_region_above (by kernel_rfl) (by kernel_rfl) ?_
        repeat (go_big_quiet_step ((first | (go_at_call 23; exact aboveC (impl_validHole_is xs[k] _ (by assumption) (Hok.out _ (List.getElem_mem hlt)))))))
        refine wpQuiet_nil ?_
        intro w1 b1
        have hsz := HB.out.size
        have HB1 := Lib.hid (HB.out.trans (Below.trans (((Below.refl _ _).alloc hsz _)) (b1.mono (by simp; omega)))); clear b1 HB
        go_wp2_with fail
        go_roundw
        case rel => exact ⟨k + 1, by omega, by go_num, e.out, HB1.out⟩
        case measure => simp [intOf]; omega
      · have hpos : 0 < k := by omega
        have hz : decide (0 < k) = true := decide_eq_true (by omega)
        have p0 : wr.cell? ⟨b, off + (k - 1) * 3, none⟩ = some (.string xs[k - 1].name) := by
          rw [show off + (k - 1) * 3 = off + ((k - 1) * 3 + 0) from by omega, hb.cell (p := ⟨b, off + ((k - 1) * 3 + 0), none⟩) hbB, hc ((k - 1) * 3 + 0) (by omega), Hole_get0 xs (k - 1) (by omega)]
        cases hT : ltKHole xs[k - 1] xs[k]
        · have e : Hid (validHoleS xs = false) := (by unfold validHoleS; rw [HF.out (stepB_lt hlt hpos hO hT)]; rfl : validHoleS xs = false)
          have t1 : ((Op.bytesLess xs[k].name.toList xs[k - 1].name.toList || xs[k].name.toList == xs[k - 1].name.toList)) = true := ltKHole_impl_f hT
          have HB := Lib.hid hb
          clear hc hsome hnil hb hok hT
          go_wp2_with fail
          refine wp_region_above (by kernel_rfl) (by kernel_rfl) ?_
          repeat (go_big_quiet_step ((first | (go_at_call 23; exact aboveC (impl_validHole_is xs[k] _ (by assumption) (Hok.out _ (List.getElem_mem hlt)))))))
          refine wpQuiet_nil ?_
          intro w1 b1
          have hsz := HB.out.size
          have HB1 := Lib.hid (HB.out.trans (Below.trans (((Below.refl _ _).alloc hsz _)) (b1.mono (by simp; omega)))); clear b1 HB
          go_wp2_with fail
          go_ret
          exact ⟨by rw [e.out]; rfl, HB1.out⟩
        · have e : Hid (allK (stepB holeB ltKHole xs) (k + 1) = true) := (by rw [HS.out, Hall.out, stepB_yes hlt hpos hO hT]; rfl : allK (stepB holeB ltKHole xs) (k + 1) = true)
          have t1 : ((Op.bytesLess xs[k].name.toList xs[k - 1].name.toList || xs[k].name.toList == xs[k - 1].name.toList)) = false := ltKHole_impl_t hT
          have HB := Lib.hid hb
          clear hc hsome hnil hb hok hT
          go_wp2_with fail
          refine wp_region_above (by kernel_rfl) (by kernel_rfl) ?_
          repeat (go_big_quiet_step ((first | (go_at_call 23; exact aboveC (impl_validHole_is xs[k] _ (by assumption) (Hok.out _ (List.getElem_mem hlt)))))))
          refine wpQuiet_nil ?_
          intro w1 b1
          have hsz := HB.out.size
          have HB1 := Lib.hid (HB.out.trans (Below.trans (((Below.refl _ _).alloc hsz _)) (b1.mono (by simp; omega)))); clear b1 HB
          go_wp2_with fail
          go_roundw
          case rel => exact ⟨k + 1, by omega, by go_num, e.out, HB1.out⟩
          case measure => simp [intOf]; omega
    · have e : Hid (validHoleS xs = decide (xs.length ≤ 8)) := (by
        unfold validHoleS
        obtain rfl : k = xs.length := by omega
        rw [Hall.out]; rfl : validHoleS xs = decide (xs.length ≤ 8))
      go_wp2
      go_ret
      exact ⟨by rw [e.out]; congr 2; simp; try omega, hb⟩
end Go.Proofs.Ytgjcmfacdnngjaa
