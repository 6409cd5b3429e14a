/- Contracts and plain facts, joined: VIngot, MixS, MixLaw. -/
import Derived.Test.YtnbodmbagendnaaGreatDoorRows
import Derived.Test.YtnbodmbagendnaaGreatDoorZFnMeltsF
import Derived.Test.YtnbodmbagendnaaGreatDoorZFnMeltsG
namespace Go.Proofs.YtnbodmbagendnaaGreatDoor
open Go.ChangeShapes Go.WideShapes Go.ChangeAt Go.RowKit Go.Deep Go.Joins
set_option linter.unusedVariables false
set_option maxRecDepth 100000
set_option linter.unusedSimpArgs false
def ltKIngot (y x : Ingot) : Bool := Op.bytesLess y.id.toList x.id.toList
def validIngotS (xs : List Ingot) : Bool := allK (stepB ingotB ltKIngot xs) xs.length && decide (xs.length ≤ 16)

theorem ltKIngot_spec_f {y x : Ingot} (h : ltKIngot y x = false) : (!(Op.bytesLess y.id.toList x.id.toList)) = true := by
  unfold ltKIngot at h; rw [h]; rfl
theorem ltKIngot_spec_t {y x : Ingot} (h : ltKIngot y x = true) : (!(Op.bytesLess y.id.toList x.id.toList)) = false := by
  unfold ltKIngot at h; rw [h]; rfl
theorem ltKIngot_impl_f {y x : Ingot} (h : ltKIngot y x = false) : (Op.bytesLess x.id.toList y.id.toList || x.id.toList == y.id.toList) = true := by
  unfold ltKIngot at h; rw [← not_less, h]; rfl
theorem ltKIngot_impl_t {y x : Ingot} (h : ltKIngot y x = true) : (Op.bytesLess x.id.toList y.id.toList || x.id.toList == y.id.toList) = false := by
  unfold ltKIngot at h; rw [← not_less, h]; rfl

set_option maxHeartbeats 1000000 in
theorem spec_validIngot (w : World) (v : Value) (xs : List Ingot) (h : Rd w.heap.size w v 5 xs.length (xs.flatMap Ingot.put)) (hn : xs.length ≤ 1048576) (hok : ∀ x ∈ xs, x.ok) :
    Calls Tryz.prog 128 #[v] w fun e w' => e = .returned (.bool (validIngotS xs)) ∧ Below w.heap.size w w' := by
  obtain ⟨hL, ao, cap, rfl, hcap, hmax, hnil, hsome⟩ := h
  have Hok := Lib.hid hok; clear hok
  go_enter Tryz.func128, Tryz.ntmps128
  go_wp2
  go_loopw [3] (fun i wr => ∃ (k : Nat), k ≤ xs.length ∧ i = .int .i64 k ∧ allK (stepB ingotB ltKIngot xs) k = true ∧ Below w.heap.size w wr) (fun i _ => xs.length - (intOf i).toNat)
  case atStart => exact ⟨0, Nat.zero_le _, rfl, rfl, Below.refl _ _⟩
  case round =>
    obtain ⟨k, hk, rfl, hall, hb⟩ := hrel
    have Hall := Lib.hid hall; clear hall
    by_cases hlt : k < xs.length
    · obtain ⟨b, off, rfl, hbB, hc⟩ := hsome (by omega)
      have hok := Hok.out
      have c0 : wr.cell? ⟨b, off + k * 5, none⟩ = some (.string xs[k].id) := by
        rw [show off + k * 5 = off + (k * 5 + 0) from by omega, hb.cell (p := ⟨b, off + (k * 5 + 0), none⟩) hbB, hc (k * 5 + 0) (by omega), Ingot_get0 xs k hlt]
      have c1 : wr.cell? ⟨b, off + k * 5 + 1, none⟩ = some (.int .i64 xs[k].mass) := by
        rw [show off + k * 5 + 1 = off + (k * 5 + 1) from by omega, hb.cell (p := ⟨b, off + (k * 5 + 1), none⟩) hbB, hc (k * 5 + 1) (by omega), Ingot_get1 xs k hlt]
      have c2 : wr.cell? ⟨b, off + k * 5 + 2, none⟩ = some (.int .i64 xs[k].alloy.copper) := by
        rw [show off + k * 5 + 2 = off + (k * 5 + 2) from by omega, hb.cell (p := ⟨b, off + (k * 5 + 2), none⟩) hbB, hc (k * 5 + 2) (by omega), Ingot_get2 xs k hlt]
      have c3 : wr.cell? ⟨b, off + k * 5 + 3, none⟩ = some (.int .i64 xs[k].alloy.tin) := by
        rw [show off + k * 5 + 3 = off + (k * 5 + 3) from by omega, hb.cell (p := ⟨b, off + (k * 5 + 3), none⟩) hbB, hc (k * 5 + 3) (by omega), Ingot_get3 xs k hlt]
      have c4 : wr.cell? ⟨b, off + k * 5 + 4, none⟩ = some (.int .i64 xs[k].alloy.other) := by
        rw [show off + k * 5 + 4 = off + (k * 5 + 4) from by omega, hb.cell (p := ⟨b, off + (k * 5 + 4), none⟩) hbB, hc (k * 5 + 4) (by omega), Ingot_get4 xs k hlt]
      have hbr : b < wr.heap.size := Nat.lt_of_lt_of_le hbB hb.size
      have HS := Lib.hid (allK_succ (stepB ingotB ltKIngot xs) k)
      have HF := Lib.hid (allK_false (stepB ingotB ltKIngot xs) xs.length k hlt)
      cases hO : ingotB xs[k]
      · have e : Hid (validIngotS xs = false) := (by unfold validIngotS; rw [HF.out (stepB_no hlt hO)]; rfl : validIngotS xs = false)
        have HB := Lib.hid hb
        clear hc hsome hnil hb hok
        go_wp2_with fail
        refine wp_region_above (by kernel_rfl) (by kernel_rfl) ?_
        repeat (go_big_quiet_step ((first | (go_at_call 145; exact aboveC (spec_l13One_is xs[k] _ _ _ (by assumption) (by rw [above_cell (by omega)]; assumption) (by rw [above_cell (by omega)]; assumption) (by rw [above_cell (by omega)]; assumption) (by rw [above_cell (by omega)]; assumption) (by rw [above_cell (by omega)]; assumption) (Hok.out _ (List.getElem_mem hlt)))))))
        refine wpQuiet_nil ?_
        intro w1 b1
        have HB1 := Lib.hid (HB.out.trans (b1.mono HB.out.size)); clear b1 HB
        go_wp2_with fail
        go_ret
        exact ⟨by rw [e.out]; rfl, HB1.out⟩
      by_cases hk0 : k = 0
      · have e : Hid (allK (stepB ingotB ltKIngot xs) (k + 1) = true) := (by subst hk0; rw [HS.out, stepB_zero hlt hO]; rfl : allK (stepB ingotB ltKIngot xs) (k + 1) = true)
        have hz : decide (0 < k) = false := decide_eq_false (by omega)
        have HB := Lib.hid hb
        clear hc hsome hnil hb hok hk0
        go_wp2_with fail
        refine wp_region_above (by kernel_rfl) (by kernel_rfl) ?_
        repeat (go_big_quiet_step ((first | (go_at_call 145; exact aboveC (spec_l13One_is xs[k] _ _ _ (by assumption) (by rw [above_cell (by omega)]; assumption) (by rw [above_cell (by omega)]; assumption) (by rw [above_cell (by omega)]; assumption) (by rw [above_cell (by omega)]; assumption) (by rw [above_cell (by omega)]; assumption) (Hok.out _ (List.getElem_mem hlt)))))))
        refine wpQuiet_nil ?_
        intro w1 b1
        have HB1 := Lib.hid (HB.out.trans (b1.mono HB.out.size)); clear b1 HB
        go_wp2_with fail
        go_roundw
        case rel => exact ⟨k + 1, by omega, by go_num, e.out, HB1.out⟩
        case measure => simp [intOf]; omega
      · have hpos : 0 < k := by omega
        have hz : decide (0 < k) = true := decide_eq_true (by omega)
        have p0 : wr.cell? ⟨b, off + (k - 1) * 5, none⟩ = some (.string xs[k - 1].id) := by
          rw [show off + (k - 1) * 5 = off + ((k - 1) * 5 + 0) from by omega, hb.cell (p := ⟨b, off + ((k - 1) * 5 + 0), none⟩) hbB, hc ((k - 1) * 5 + 0) (by omega), Ingot_get0 xs (k - 1) (by omega)]
        cases hT : ltKIngot xs[k - 1] xs[k]
        · have e : Hid (validIngotS xs = false) := (by unfold validIngotS; rw [HF.out (stepB_lt hlt hpos hO hT)]; rfl : validIngotS xs = false)
          have t1 : (!(Op.bytesLess xs[k - 1].id.toList xs[k].id.toList)) = true := ltKIngot_spec_f hT
          have HB := Lib.hid hb
          clear hc hsome hnil hb hok hT
          go_wp2_with fail
          refine wp_region_above (by kernel_rfl) (by kernel_rfl) ?_
          repeat (go_big_quiet_step ((first | (go_at_call 145; exact aboveC (spec_l13One_is xs[k] _ _ _ (by assumption) (by rw [above_cell (by omega)]; assumption) (by rw [above_cell (by omega)]; assumption) (by rw [above_cell (by omega)]; assumption) (by rw [above_cell (by omega)]; assumption) (by rw [above_cell (by omega)]; assumption) (Hok.out _ (List.getElem_mem hlt)))))))
          refine wpQuiet_nil ?_
          intro w1 b1
          have HB1 := Lib.hid (HB.out.trans (b1.mono HB.out.size)); clear b1 HB
          go_wp2_with fail
          go_ret
          exact ⟨by rw [e.out]; rfl, HB1.out⟩
        · have e : Hid (allK (stepB ingotB ltKIngot xs) (k + 1) = true) := (by rw [HS.out, Hall.out, stepB_yes hlt hpos hO hT]; rfl : allK (stepB ingotB ltKIngot xs) (k + 1) = true)
          have t1 : (!(Op.bytesLess xs[k - 1].id.toList xs[k].id.toList)) = false := ltKIngot_spec_t hT
          have HB := Lib.hid hb
          clear hc hsome hnil hb hok hT
          go_wp2_with fail
          refine wp_region_above (by kernel_rfl) (by kernel_rfl) ?_
          repeat (go_big_quiet_step ((first | (go_at_call 145; exact aboveC (spec_l13One_is xs[k] _ _ _ (by assumption) (by rw [above_cell (by omega)]; assumption) (by rw [above_cell (by omega)]; assumption) (by rw [above_cell (by omega)]; assumption) (by rw [above_cell (by omega)]; assumption) (by rw [above_cell (by omega)]; assumption) (Hok.out _ (List.getElem_mem hlt)))))))
          refine wpQuiet_nil ?_
          intro w1 b1
          have HB1 := Lib.hid (HB.out.trans (b1.mono HB.out.size)); clear b1 HB
          go_wp2_with fail
          go_roundw
          case rel => exact ⟨k + 1, by omega, by go_num, e.out, HB1.out⟩
          case measure => simp [intOf]; omega
    · have e : Hid (validIngotS xs = decide (xs.length ≤ 16)) := (by
        unfold validIngotS
        obtain rfl : k = xs.length := by omega
        rw [Hall.out]; rfl : validIngotS xs = decide (xs.length ≤ 16))
      go_wp2
      go_ret
      exact ⟨by rw [e.out]; congr 2; simp; try omega, hb⟩

set_option maxHeartbeats 1000000 in
theorem impl_validIngot (w : World) (v : Value) (xs : List Ingot) (h : Rd w.heap.size w v 5 xs.length (xs.flatMap Ingot.put)) (hn : xs.length ≤ 1048576) (hok : ∀ x ∈ xs, x.ok) :
    Calls Tryz.prog 20 #[v] w fun e w' => e = .returned (.bool (validIngotS xs)) ∧ Below w.heap.size w w' := by
  obtain ⟨hL, ao, cap, rfl, hcap, hmax, hnil, hsome⟩ := h
  have Hok := Lib.hid hok; clear hok
  go_enter Tryz.func20, Tryz.ntmps20
  go_wp2
  go_loopw [7] (fun i wr => ∃ (k : Nat), k ≤ xs.length ∧ i = .int .i64 k ∧ allK (stepB ingotB ltKIngot xs) k = true ∧ Below w.heap.size w wr) (fun i _ => xs.length - (intOf i).toNat)
  case atStart => exact ⟨0, Nat.zero_le _, rfl, rfl, Below.refl _ _⟩
  case round =>
    obtain ⟨k, hk, rfl, hall, hb⟩ := hrel
    have Hall := Lib.hid hall; clear hall
    by_cases hlt : k < xs.length
    · obtain ⟨b, off, rfl, hbB, hc⟩ := hsome (by omega)
      have hok := Hok.out
      have c0 : wr.cell? ⟨b, off + k * 5, none⟩ = some (.string xs[k].id) := by
        rw [show off + k * 5 = off + (k * 5 + 0) from by omega, hb.cell (p := ⟨b, off + (k * 5 + 0), none⟩) hbB, hc (k * 5 + 0) (by omega), Ingot_get0 xs k hlt]
      have c1 : wr.cell? ⟨b, off + k * 5 + 1, none⟩ = some (.int .i64 xs[k].mass) := by
        rw [show off + k * 5 + 1 = off + (k * 5 + 1) from by omega, hb.cell (p := ⟨b, off + (k * 5 + 1), none⟩) hbB, hc (k * 5 + 1) (by omega), Ingot_get1 xs k hlt]
      have c2 : wr.cell? ⟨b, off + k * 5 + 2, none⟩ = some (.int .i64 xs[k].alloy.copper) := by
        rw [show off + k * 5 + 2 = off + (k * 5 + 2) from by omega, hb.cell (p := ⟨b, off + (k * 5 + 2), none⟩) hbB, hc (k * 5 + 2) (by omega), Ingot_get2 xs k hlt]
      have c3 : wr.cell? ⟨b, off + k * 5 + 3, none⟩ = some (.int .i64 xs[k].alloy.tin) := by
        rw [show off + k * 5 + 3 = off + (k * 5 + 3) from by omega, hb.cell (p := ⟨b, off + (k * 5 + 3), none⟩) hbB, hc (k * 5 + 3) (by omega), Ingot_get3 xs k hlt]
      have c4 : wr.cell? ⟨b, off + k * 5 + 4, none⟩ = some (.int .i64 xs[k].alloy.other) := by
        rw [show off + k * 5 + 4 = off + (k * 5 + 4) from by omega, hb.cell (p := ⟨b, off + (k * 5 + 4), none⟩) hbB, hc (k * 5 + 4) (by omega), Ingot_get4 xs k hlt]
      have hbr : b < wr.heap.size := Nat.lt_of_lt_of_le hbB hb.size
      have HS := Lib.hid (allK_succ (stepB ingotB ltKIngot xs) k)
      have HF := Lib.hid (allK_false (stepB ingotB ltKIngot xs) xs.length k hlt)
      cases hO : ingotB xs[k]
      · have e : Hid (validIngotS xs = false) := (by unfold validIngotS; rw [HF.out (stepB_no hlt hO)]; rfl : validIngotS xs = false)
        have HB := Lib.hid hb
        clear hc hsome hnil hb hok
        go_wp2_with fail
        refine wp_region_above (by kernel_rfl) (by kernel_rfl) ?_
        repeat (go_big_quiet_step ((first | (go_at_call 53; exact aboveC (impl_validIngot_is xs[k] _ (by assumption) (Hok.out _ (List.getElem_mem hlt)))))))
        refine wpQuiet_nil ?_
        intro w1 b1
        have hsz := HB.out.size
        have HB1 := Lib.hid (HB.out.trans (Below.trans (((Below.refl _ _).alloc hsz _)) (b1.mono (by simp; omega)))); clear b1 HB
        go_wp2_with fail
        go_ret
        exact ⟨by rw [e.out]; rfl, HB1.out⟩
      by_cases hk0 : k = 0
      · have e : Hid (allK (stepB ingotB ltKIngot xs) (k + 1) = true) := (by subst hk0; rw [HS.out, stepB_zero hlt hO]; rfl : allK (stepB ingotB ltKIngot xs) (k + 1) = true)
        have hz : decide (0 < k) = false := decide_eq_false (by omega)
        have HB := Lib.hid hb
        clear hc hsome hnil hb hok hk0
        go_wp2_with fail
        refine wp_region_above (by kernel_rfl) (by kernel_rfl) ?_
        repeat (go_big_quiet_step ((first | (go_at_call 53; exact aboveC (impl_validIngot_is xs[k] _ (by assumption) (Hok.out _ (List.getElem_mem hlt)))))))
        refine wpQuiet_nil ?_
        intro w1 b1
        have hsz := HB.out.size
        have HB1 := Lib.hid (HB.out.trans (Below.trans (((Below.refl _ _).alloc hsz _)) (b1.mono (by simp; omega)))); clear b1 HB
        go_wp2_with fail
        go_roundw
        case rel => exact ⟨k + 1, by omega, by go_num, e.out, HB1.out⟩
        case measure => simp [intOf]; omega
      · have hpos : 0 < k := by omega
        have hz : decide (0 < k) = true := decide_eq_true (by omega)
        have p0 : wr.cell? ⟨b, off + (k - 1) * 5, none⟩ = some (.string xs[k - 1].id) := by
          rw [show off + (k - 1) * 5 = off + ((k - 1) * 5 + 0) from by omega, hb.cell (p := ⟨b, off + ((k - 1) * 5 + 0), none⟩) hbB, hc ((k - 1) * 5 + 0) (by omega), Ingot_get0 xs (k - 1) (by omega)]
        cases hT : ltKIngot xs[k - 1] xs[k]
        · have e : Hid (validIngotS xs = false) := (by unfold validIngotS; rw [HF.out (stepB_lt hlt hpos hO hT)]; rfl : validIngotS xs = false)
          have t1 : ((Op.bytesLess xs[k].id.toList xs[k - 1].id.toList || xs[k].id.toList == xs[k - 1].id.toList)) = true := ltKIngot_impl_f hT
          have HB := Lib.hid hb
          clear hc hsome hnil hb hok hT
          go_wp2_with fail
          refine wp_region_above (by kernel_rfl) (by kernel_rfl) ?_
          repeat (go_big_quiet_step ((first | (go_at_call 53; exact aboveC (impl_validIngot_is xs[k] _ (by assumption) (Hok.out _ (List.getElem_mem hlt)))))))
          refine wpQuiet_nil ?_
          intro w1 b1
          have hsz := HB.out.size
          have HB1 := Lib.hid (HB.out.trans (Below.trans (((Below.refl _ _).alloc hsz _)) (b1.mono (by simp; omega)))); clear b1 HB
          go_wp2_with fail
          go_ret
          exact ⟨by rw [e.out]; rfl, HB1.out⟩
        · have e : Hid (allK (stepB ingotB ltKIngot xs) (k + 1) = true) := (by rw [HS.out, Hall.out, stepB_yes hlt hpos hO hT]; rfl : allK (stepB ingotB ltKIngot xs) (k + 1) = true)
          have t1 : ((Op.bytesLess xs[k].id.toList xs[k - 1].id.toList || xs[k].id.toList == xs[k - 1].id.toList)) = false := ltKIngot_impl_t hT
          have HB := Lib.hid hb
          clear hc hsome hnil hb hok hT
          go_wp2_with fail
          refine wp_region_above (by kernel_rfl) (by kernel_rfl) ?_
          repeat (go_big_quiet_step ((first | (go_at_call 53; exact aboveC (impl_validIngot_is xs[k] _ (by assumption) (Hok.out _ (List.getElem_mem hlt)))))))
          refine wpQuiet_nil ?_
          intro w1 b1
          have hsz := HB.out.size
          have HB1 := Lib.hid (HB.out.trans (Below.trans (((Below.refl _ _).alloc hsz _)) (b1.mono (by simp; omega)))); clear b1 HB
          go_wp2_with fail
          go_roundw
          case rel => exact ⟨k + 1, by omega, by go_num, e.out, HB1.out⟩
          case measure => simp [intOf]; omega
    · have e : Hid (validIngotS xs = decide (xs.length ≤ 16)) := (by
        unfold validIngotS
        obtain rfl : k = xs.length := by omega
        rw [Hall.out]; rfl : validIngotS xs = decide (xs.length ≤ 16))
      go_wp2
      go_ret
      exact ⟨by rw [e.out]; congr 2; simp; try omega, hb⟩
end Go.Proofs.YtnbodmbagendnaaGreatDoor
namespace Go.Proofs.YtnbodmbagendnaaGreatDoor
open Go.ChangeShapes Go.WideShapes Go.ChangeAt Go.RowKit Go.Deep Go.Joins
set_option linter.unusedVariables false
set_option maxRecDepth 100000
set_option linter.unusedSimpArgs false
def mixA (xs : List Ingot) (cs : List Int) : Alloy :=
  ⟨1000000 - sumK tinF xs cs / sumK massF xs cs - sumK otherF xs cs / sumK massF xs cs, sumK tinF xs cs / sumK massF xs cs, sumK otherF xs cs / sumK massF xs cs⟩
def mixS (xs : List Ingot) (cs : List Int) : Alloy × Int × Int :=
  if validIngotS xs then if choiceB xs.length cs then if cs.length = 0 then (⟨0, 0, 0⟩, 0, 6) else (mixA xs cs, sumK massF xs cs, 0) else (⟨0, 0, 0⟩, 0, 2) else (⟨0, 0, 0⟩, 0, 1)
theorem validIngotS_true {xs : List Ingot} (h : validIngotS xs = true) : xs.length ≤ 16 ∧ ∀ x ∈ xs, ingotB x = true := by
  simp only [validIngotS, Bool.and_eq_true, decide_eq_true_eq] at h
  refine ⟨h.2, fun x hx => ?_⟩
  obtain ⟨i, hi, rfl⟩ := List.mem_iff_getElem.1 hx
  have := allK_true h.1 i hi
  unfold stepB at this
  rw [List.getElem?_eq_getElem hi] at this
  simp only [Bool.and_eq_true] at this
  exact this.1
theorem spec_l13Ok_is {r : Bool} (w : World) (v : Value) (xs : List Ingot) (h : Rd w.heap.size w v 5 xs.length (xs.flatMap Ingot.put)) (hn : xs.length ≤ 1048576) (hok : ∀ x ∈ xs, x.ok) (hr : validIngotS xs = r) :
    Calls Tryz.prog 128 #[v] w fun e w' => e = .returned (.bool r) ∧ Below w.heap.size w w' := by
  subst hr; exact spec_validIngot w v xs h hn hok
theorem impl_ValidIngots_is {r : Bool} (w : World) (v : Value) (xs : List Ingot) (h : Rd w.heap.size w v 5 xs.length (xs.flatMap Ingot.put)) (hn : xs.length ≤ 1048576) (hok : ∀ x ∈ xs, x.ok) (hr : validIngotS xs = r) :
    Calls Tryz.prog 20 #[v] w fun e w' => e = .returned (.bool r) ∧ Below w.heap.size w w' := by
  subst hr; exact impl_validIngot w v xs h hn hok
theorem quot_bd (t m : Int) (h1 : 0 ≤ t ∧ t ≤ 320000000000000) (h2 : 1 ≤ m) : 0 ≤ t / m ∧ t / m ≤ 320000000000000 := by
  refine ⟨Int.ediv_nonneg (by omega) (by omega), ?_⟩
  have := Int.ediv_le_self m h1.1
  omega
end Go.Proofs.YtnbodmbagendnaaGreatDoor
namespace Go.Proofs.YtnbodmbagendnaaGreatDoor
open Go.ChangeShapes Go.WideShapes Go.ChangeAt Go.RowKit Go.Deep Go.Joins
set_option linter.unusedVariables false
set_option maxRecDepth 100000
set_option linter.unusedSimpArgs false
theorem sumK_le {f g : Ingot → Int} {xs : List Ingot} (h : ∀ x ∈ xs, f x ≤ g x) : ∀ (cs : List Int), sumK f xs cs ≤ sumK g xs cs
  | [] => by simp [sumK]
  | c :: cs => by
    have ih := sumK_le h cs
    unfold sumK at *
    simp only [List.map_cons, List.sum_cons]
    cases e : xs[c.toNat]? with
    | none => simp; omega
    | some x => have := h x (List.mem_of_getElem? e); simp; omega
theorem sumK_mul (c : Int) (f : Ingot → Int) (xs : List Ingot) : ∀ (cs : List Int), sumK (fun x => f x * c) xs cs = sumK f xs cs * c
  | [] => by simp [sumK]
  | d :: cs => by
    have ih := sumK_mul c f xs cs
    unfold sumK at *
    simp only [List.map_cons, List.sum_cons]
    rw [ih, Int.add_mul]
    cases e : xs[d.toNat]? <;> simp
theorem sumK_two (f g : Ingot → Int) (xs : List Ingot) : ∀ (cs : List Int), sumK (fun x => f x + g x) xs cs = sumK f xs cs + sumK g xs cs
  | [] => by simp [sumK]
  | d :: cs => by
    have ih := sumK_two f g xs cs
    unfold sumK at *
    simp only [List.map_cons, List.sum_cons]
    rw [ih]
    cases e : xs[d.toNat]? <;> simp <;> omega
theorem mass_posM {xs : List Ingot} {cs : List Int} (hv : ∀ x ∈ xs, ingotB x = true) (hch : choiceB xs.length cs = true) (h0 : 0 < cs.length) : 1 ≤ sumK massF xs cs := by
  match cs, h0 with
  | c :: cs, _ =>
    obtain ⟨j, e1, e2⟩ := choice_at hch 0 (by simp)
    have e1 : c = (j : Int) := e1
    have h1 := sumK_bd massF xs 20000000 (by omega) (fun x hx => by have := (ingotB_nums (hv x hx)).1; unfold massF; omega) cs
    have h2 := (ingotB_nums (hv xs[j] (List.getElem_mem e2))).1
    have e : sumK massF xs (c :: cs) = xs[j].mass + sumK massF xs cs := by
      subst e1
      simp [sumK, massF, List.getElem?_eq_getElem e2]
    omega
/-- a mixture of valid alloys is a valid alloy -/
theorem mix_valid {xs : List Ingot} {cs : List Int} (hv : ∀ x ∈ xs, ingotB x = true) (hch : choiceB xs.length cs = true) (h0 : 0 < cs.length) : alloyB (mixA xs cs) = true := by
  unfold mixA
  have hm := mass_posM hv hch h0
  have hs : sumK tinF xs cs + sumK otherF xs cs ≤ sumK massF xs cs * 1000000 := by
    rw [← sumK_two, ← sumK_mul]
    refine sumK_le (fun x hx => ?_) cs
    have h1 := ingotB_nums (hv x hx)
    have h2 := hv x hx
    simp only [ingotB, alloyB, Bool.and_eq_true, decide_eq_true_eq] at h2
    have h3 := inB_true h2.2.2.1
    have h4 : x.alloy.tin + x.alloy.other ≤ 1000000 := by omega
    have := Int.mul_le_mul_of_nonneg_left h4 (show 0 ≤ x.mass by omega)
    show x.mass * x.alloy.tin + x.mass * x.alloy.other ≤ x.mass * 1000000
    rw [← Int.mul_add]; exact this
  have ht : 0 ≤ sumK tinF xs cs := (sumK_bd tinF xs 20000000000000 (by omega) (fun x hx => by have := ingotB_nums (hv x hx); exact part_bd _ _ this.1 this.2.1) cs).1
  have ho : 0 ≤ sumK otherF xs cs := (sumK_bd otherF xs 20000000000000 (by omega) (fun x hx => by have := ingotB_nums (hv x hx); exact part_bd _ _ this.1 this.2.2) cs).1
  generalize sumK massF xs cs = M at *
  generalize sumK tinF xs cs = T at *
  generalize sumK otherF xs cs = O at *
  have a1 : 0 ≤ T / M := Int.ediv_nonneg ht (by omega)
  have a2 : 0 ≤ O / M := Int.ediv_nonneg ho (by omega)
  have b1 : T / M * M ≤ T := Int.ediv_mul_le _ (by omega)
  have b2 : O / M * M ≤ O := Int.ediv_mul_le _ (by omega)
  have b3 : (T / M + O / M) * M ≤ 1000000 * M := by rw [Int.add_mul, Int.mul_comm 1000000]; omega
  have b4 : T / M + O / M ≤ 1000000 := Int.le_of_mul_le_mul_right b3 (by omega)
  simp only [alloyB, Bool.and_eq_true, decide_eq_true_eq]
  exact ⟨inB_mk ⟨by omega, by omega⟩, inB_mk ⟨by omega, by omega⟩, inB_mk ⟨by omega, by omega⟩, by omega⟩
end Go.Proofs.YtnbodmbagendnaaGreatDoor
