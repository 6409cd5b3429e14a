/- Contracts and plain facts, joined: Choice, VIngot, MixS, ChosenS, Acc, Chosen, Any, Common. -/
import Derived.Test.YtnbodmbagendnaaRows
import Derived.Test.YtnbodmbagendnaaZFnExactAddMeltD
import Derived.Deep.AppendLies
import Derived.Deep.LoopGhost
namespace Go.Proofs.Ytnbodmbagendnaa
open Go.ChangeShapes Go.WideShapes Go.ChangeAt Go.RowKit Go.Deep Go.Joins
set_option linter.unusedVariables false
set_option maxRecDepth 100000
set_option linter.unusedSimpArgs false
/-- what 'last' holds -/
def lastC (cs : List Int) (k : Nat) : Int := if k = 0 then -1 else cs[k - 1]?.getD 0
theorem lastC_succ {cs : List Int} {k : Nat} (h : k < cs.length) : lastC cs (k + 1) = cs[k] := by
  unfold lastC
  simp [h]
theorem choice_step {n k : Nat} {cs : List Int} (hall : allK (stepB (okC n) ltC cs) k = true) (hk : k < cs.length) : stepB (okC n) ltC cs k = inB cs[k] (lastC cs k + 1) ((n : Int) - 1) := by
  by_cases h0 : k = 0
  · subst h0
    unfold stepB
    rw [List.getElem?_eq_getElem hk]
    simp [okC, lastC]
  · obtain ⟨m, rfl⟩ : ∃ m, k = m + 1 := ⟨k - 1, by omega⟩
    have h1 := allK_true hall m (by omega)
    have h2 : okC n cs[m] = true := by
      unfold stepB at h1
      rw [List.getElem?_eq_getElem (show m < cs.length by omega)] at h1
      simp only [Bool.and_eq_true] at h1
      exact h1.1
    have h3 := okC_true h2
    have e : lastC cs (m + 1) = cs[m] := lastC_succ (by omega)
    rw [e]
    unfold stepB
    simp only [List.getElem?_eq_getElem hk]
    simp only [List.getElem?_eq_getElem (show m < cs.length by omega)]
    rw [Bool.eq_iff_iff]
    simp only [okC, inB, ltC, Bool.and_eq_true, decide_eq_true_eq]
    omega
theorem lastC_bd {n k : Nat} {cs : List Int} (hall : allK (stepB (okC n) ltC cs) k = true) (hk : k ≤ cs.length) : -1 ≤ lastC cs k ∧ lastC cs k ≤ n := by
  by_cases h0 : k = 0
  · subst h0; simp [lastC]
  · obtain ⟨m, rfl⟩ : ∃ m, k = m + 1 := ⟨k - 1, by omega⟩
    have h1 := allK_true hall m (by omega)
    have h2 : okC n cs[m] = true := by
      unfold stepB at h1
      rw [List.getElem?_eq_getElem (show m < cs.length by omega)] at h1
      simp only [Bool.and_eq_true] at h1
      exact h1.1
    have h3 := okC_true h2
    rw [lastC_succ (by omega)]; omega

set_option maxHeartbeats 2000000 in
theorem impl_sums (w : World) (v c : Value) (xs : List Ingot) (cs : List Int) (h1 : Rd w.heap.size w v 5 xs.length (xs.flatMap Ingot.put)) (h2 : Rd w.heap.size w c 1 cs.length (cs.flatMap putI)) (hn : xs.length ≤ 16) (hv : ∀ x ∈ xs, ingotB x = true) (hch : choiceB xs.length cs = true) :
    Calls Try.prog 142 #[v, c] w fun e w' => e = .returned (.tuple #[.int .i64 (sumK massF xs cs), .int .i64 (sumK tinF xs cs), .int .i64 (sumK otherF xs cs)]) ∧ Below w.heap.size w w' := by
  obtain ⟨hL, ao, cap, rfl, hcap, hmax, hnil, hsome⟩ := h1
  obtain ⟨hL2, ao2, cap2, rfl, hcap2, hmax2, hnil2, hsome2⟩ := h2
  have hcl : cs.length ≤ 16 := Nat.le_trans (choice_len hch) hn
  have HM := Lib.hid (massF_bd hv hcl)
  have HT := Lib.hid (tinF_bd hv hcl)
  have HO := Lib.hid (otherF_bd hv hcl)
  have HV := Lib.hid hv; clear hv
  have HCH := Lib.hid hch; clear hch
  go_enter Try.func142, Try.ntmps142
  go_wp2
  go_loopw [7, 8, 9, 15] (fun m t o i wr => ∃ (k : Nat), k ≤ cs.length ∧ i = .int .i64 k ∧ m = .int .i64 (sumK massF xs (cs.take k)) ∧ t = .int .i64 (sumK tinF xs (cs.take k)) ∧ o = .int .i64 (sumK otherF xs (cs.take k)) ∧ Below w.heap.size w wr) (fun _ _ _ i _ => cs.length - (intOf i).toNat)
  case atStart => exact ⟨0, Nat.zero_le _, rfl, rfl, rfl, rfl, Below.refl _ _⟩
  case round =>
    obtain ⟨k, hk, rfl, rfl, rfl, rfl, hb⟩ := hrel
    by_cases hlt : k < cs.length
    · obtain ⟨j, hj, hjl⟩ := choice_at HCH.out k hlt
      obtain ⟨b, off, rfl, hbB, hc⟩ := hsome (by omega)
      obtain ⟨b2, off2, rfl, hbB2, hc2⟩ := hsome2 (by omega)
      have cc : wr.cell? ⟨b2, off2 + k, none⟩ = some (.int .i64 j) := by
        rw [hb.cell (p := ⟨b2, off2 + k, none⟩) hbB2, hc2 k (by omega), putI_get cs k hlt, hj]
      have c0 : wr.cell? ⟨b, off + j * 5, none⟩ = some (.string xs[j].id) := by
        rw [show off + j * 5 = off + (j * 5 + 0) from by omega, hb.cell (p := ⟨b, off + (j * 5 + 0), none⟩) hbB, hc (j * 5 + 0) (by omega), Ingot_get0 xs j hjl]
      have c1 : wr.cell? ⟨b, off + j * 5 + 1, none⟩ = some (.int .i64 xs[j].mass) := by
        rw [show off + j * 5 + 1 = off + (j * 5 + 1) from by omega, hb.cell (p := ⟨b, off + (j * 5 + 1), none⟩) hbB, hc (j * 5 + 1) (by omega), Ingot_get1 xs j hjl]
      have c2 : wr.cell? ⟨b, off + j * 5 + 2, none⟩ = some (.int .i64 xs[j].alloy.copper) := by
        rw [show off + j * 5 + 2 = off + (j * 5 + 2) from by omega, hb.cell (p := ⟨b, off + (j * 5 + 2), none⟩) hbB, hc (j * 5 + 2) (by omega), Ingot_get2 xs j hjl]
      have c3 : wr.cell? ⟨b, off + j * 5 + 3, none⟩ = some (.int .i64 xs[j].alloy.tin) := by
        rw [show off + j * 5 + 3 = off + (j * 5 + 3) from by omega, hb.cell (p := ⟨b, off + (j * 5 + 3), none⟩) hbB, hc (j * 5 + 3) (by omega), Ingot_get3 xs j hjl]
      have c4 : wr.cell? ⟨b, off + j * 5 + 4, none⟩ = some (.int .i64 xs[j].alloy.other) := by
        rw [show off + j * 5 + 4 = off + (j * 5 + 4) from by omega, hb.cell (p := ⟨b, off + (j * 5 + 4), none⟩) hbB, hc (j * 5 + 4) (by omega), Ingot_get4 xs j hjl]
      have hnu := ingotB_nums (HV.out xs[j] (List.getElem_mem hjl))
      obtain ⟨n1, n2⟩ := part_bd _ _ hnu.1 hnu.2.1
      obtain ⟨n3, n4⟩ := part_bd _ _ hnu.1 hnu.2.2
      obtain ⟨m1, m2⟩ := HM.out k
      obtain ⟨m3, m4⟩ := HT.out k
      obtain ⟨m5, m6⟩ := HO.out k
      have E1 : Hid (sumK massF xs (cs.take (k + 1)) = sumK massF xs (cs.take k) + xs[j].mass) := sumK_succ massF xs cs k hlt j hj hjl
      have E2 : Hid (sumK tinF xs (cs.take (k + 1)) = sumK tinF xs (cs.take k) + xs[j].mass * xs[j].alloy.tin) := sumK_succ tinF xs cs k hlt j hj hjl
      have E3 : Hid (sumK otherF xs (cs.take (k + 1)) = sumK otherF xs (cs.take k) + xs[j].mass * xs[j].alloy.other) := sumK_succ otherF xs cs k hlt j hj hjl
      have hws := hb.size
      have HB := Lib.hid hb
      clear hc hc2 hsome hsome2 hnil hnil2 hj
      generalize sumK massF xs (cs.take k) = S1 at *
      generalize sumK tinF xs (cs.take k) = S2 at *
      generalize sumK otherF xs (cs.take k) = S3 at *
      go_wp2
      go_roundw
      case rel => exact ⟨k + 1, by omega, by go_num, by rw [E1.out], by rw [E2.out], by rw [E3.out], by have hb := HB.out; (repeat' (first | (with_reducible exact Below.refl _ _) | (with_reducible assumption) | (with_reducible refine below_dn ?_ _) | (with_reducible refine Below.drew ?_) | (with_reducible refine Below.alloc ?_ ?_ _) | (with_reducible refine Below.setCell ?_ ?_ _) | go_size))⟩
      case measure => simp [intOf]; omega
    · have e1 : Hid (cs.take k = cs) := (take_all (by omega) : cs.take k = cs)
      have HB := Lib.hid hb
      clear hb
      go_wp2
      go_ret3
      exact ⟨by rw [e1.out]; rfl, HB.out⟩
end Go.Proofs.Ytnbodmbagendnaa
namespace Go.Proofs.Ytnbodmbagendnaa
open Go.ChangeShapes Go.WideShapes Go.ChangeAt Go.RowKit Go.Deep Go.Joins
set_option linter.unusedVariables false
set_option maxRecDepth 100000
set_option linter.unusedSimpArgs false
def ltKIngot (y x : Ingot) : Bool := Op.bytesLess y.id.toList x.id.toList
def validIngotS (xs : List Ingot) : Bool := allK (stepB ingotB ltKIngot xs) xs.length && decide (xs.length ≤ 16)

theorem ltKIngot_spec_f {y x : Ingot} (h : ltKIngot y x = false) : (!(Op.bytesLess y.id.toList x.id.toList)) = true := by
  unfold ltKIngot at h; rw [h]; rfl
theorem ltKIngot_spec_t {y x : Ingot} (h : ltKIngot y x = true) : (!(Op.bytesLess y.id.toList x.id.toList)) = false := by
  unfold ltKIngot at h; rw [h]; rfl
theorem ltKIngot_impl_f {y x : Ingot} (h : ltKIngot y x = false) : (Op.bytesLess x.id.toList y.id.toList || x.id.toList == y.id.toList) = true := by
  unfold ltKIngot at h; rw [← not_less, h]; rfl
theorem ltKIngot_impl_t {y x : Ingot} (h : ltKIngot y x = true) : (Op.bytesLess x.id.toList y.id.toList || x.id.toList == y.id.toList) = false := by
  unfold ltKIngot at h; rw [← not_less, h]; rfl

set_option maxHeartbeats 1000000 in
theorem spec_validIngot (w : World) (v : Value) (xs : List Ingot) (h : Rd w.heap.size w v 5 xs.length (xs.flatMap Ingot.put)) (hn : xs.length ≤ 1048576) (hok : ∀ x ∈ xs, x.ok) :
    Calls Try.prog 116 #[v] w fun e w' => e = .returned (.bool (validIngotS xs)) ∧ Below w.heap.size w w' := by
  obtain ⟨hL, ao, cap, rfl, hcap, hmax, hnil, hsome⟩ := h
  have Hok := Lib.hid hok; clear hok
  go_enter Try.func116, Try.ntmps116
  go_wp2
  go_loopw [3] (fun i wr => ∃ (k : Nat), k ≤ xs.length ∧ i = .int .i64 k ∧ allK (stepB ingotB ltKIngot xs) k = true ∧ Below w.heap.size w wr) (fun i _ => xs.length - (intOf i).toNat)
  case atStart => exact ⟨0, Nat.zero_le _, rfl, rfl, Below.refl _ _⟩
  case round =>
    obtain ⟨k, hk, rfl, hall, hb⟩ := hrel
    have Hall := Lib.hid hall; clear hall
    by_cases hlt : k < xs.length
    · obtain ⟨b, off, rfl, hbB, hc⟩ := hsome (by omega)
      have hok := Hok.out
      have c0 : wr.cell? ⟨b, off + k * 5, none⟩ = some (.string xs[k].id) := by
        rw [show off + k * 5 = off + (k * 5 + 0) from by omega, hb.cell (p := ⟨b, off + (k * 5 + 0), none⟩) hbB, hc (k * 5 + 0) (by omega), Ingot_get0 xs k hlt]
      have c1 : wr.cell? ⟨b, off + k * 5 + 1, none⟩ = some (.int .i64 xs[k].mass) := by
        rw [show off + k * 5 + 1 = off + (k * 5 + 1) from by omega, hb.cell (p := ⟨b, off + (k * 5 + 1), none⟩) hbB, hc (k * 5 + 1) (by omega), Ingot_get1 xs k hlt]
      have c2 : wr.cell? ⟨b, off + k * 5 + 2, none⟩ = some (.int .i64 xs[k].alloy.copper) := by
        rw [show off + k * 5 + 2 = off + (k * 5 + 2) from by omega, hb.cell (p := ⟨b, off + (k * 5 + 2), none⟩) hbB, hc (k * 5 + 2) (by omega), Ingot_get2 xs k hlt]
      have c3 : wr.cell? ⟨b, off + k * 5 + 3, none⟩ = some (.int .i64 xs[k].alloy.tin) := by
        rw [show off + k * 5 + 3 = off + (k * 5 + 3) from by omega, hb.cell (p := ⟨b, off + (k * 5 + 3), none⟩) hbB, hc (k * 5 + 3) (by omega), Ingot_get3 xs k hlt]
      have c4 : wr.cell? ⟨b, off + k * 5 + 4, none⟩ = some (.int .i64 xs[k].alloy.other) := by
        rw [show off + k * 5 + 4 = off + (k * 5 + 4) from by omega, hb.cell (p := ⟨b, off + (k * 5 + 4), none⟩) hbB, hc (k * 5 + 4) (by omega), Ingot_get4 xs k hlt]
      have hbr : b < wr.heap.size := Nat.lt_of_lt_of_le hbB hb.size
      have HS := Lib.hid (allK_succ (stepB ingotB ltKIngot xs) k)
      have HF := Lib.hid (allK_false (stepB ingotB ltKIngot xs) xs.length k hlt)
      cases hO : ingotB xs[k]
      · have e : Hid (validIngotS xs = false) := (by unfold validIngotS; rw [HF.out (stepB_no hlt hO)]; rfl : validIngotS xs = false)
        have HB := Lib.hid hb
        clear hc hsome hnil hb hok
        go_wp2_with fail
        refine wp_region_above (by kernel_rfl) (by kernel_rfl) ?_
        repeat (go_big_quiet_step ((first | (go_at_call 149; exact aboveC (spec_l13One_is xs[k] _ _ _ (by assumption) (by rw [above_cell (by omega)]; assumption) (by rw [above_cell (by omega)]; assumption) (by rw [above_cell (by omega)]; assumption) (by rw [above_cell (by omega)]; assumption) (by rw [above_cell (by omega)]; assumption) (Hok.out _ (List.getElem_mem hlt)))))))
        refine wpQuiet_nil ?_
        intro w1 b1
        have HB1 := Lib.hid (HB.out.trans (b1.mono HB.out.size)); clear b1 HB
        go_wp2_with fail
        go_ret
        exact ⟨by rw [e.out]; rfl, HB1.out⟩
      by_cases hk0 : k = 0
      · have e : Hid (allK (stepB ingotB ltKIngot xs) (k + 1) = true) := (by subst hk0; rw [HS.out, stepB_zero hlt hO]; rfl : allK (stepB ingotB ltKIngot xs) (k + 1) = true)
        have hz : decide (0 < k) = false := decide_eq_false (by omega)
        have HB := Lib.hid hb
        clear hc hsome hnil hb hok hk0
        go_wp2_with fail
        refine wp_region_above (by kernel_rfl) (by kernel_rfl) ?_
        repeat (go_big_quiet_step ((first | (go_at_call 149; exact aboveC (spec_l13One_is xs[k] _ _ _ (by assumption) (by rw [above_cell (by omega)]; assumption) (by rw [above_cell (by omega)]; assumption) (by rw [above_cell (by omega)]; assumption) (by rw [above_cell (by omega)]; assumption) (by rw [above_cell (by omega)]; assumption) (Hok.out _ (List.getElem_mem hlt)))))))
        refine wpQuiet_nil ?_
        intro w1 b1
        have HB1 := Lib.hid (HB.out.trans (b1.mono HB.out.size)); clear b1 HB
        go_wp2_with fail
        go_roundw
        case rel => exact ⟨k + 1, by omega, by go_num, e.out, HB1.out⟩
        case measure => simp [intOf]; omega
      · have hpos : 0 < k := by omega
        have hz : decide (0 < k) = true := decide_eq_true (by omega)
        have p0 : wr.cell? ⟨b, off + (k - 1) * 5, none⟩ = some (.string xs[k - 1].id) := by
          rw [show off + (k - 1) * 5 = off + ((k - 1) * 5 + 0) from by omega, hb.cell (p := ⟨b, off + ((k - 1) * 5 + 0), none⟩) hbB, hc ((k - 1) * 5 + 0) (by omega), Ingot_get0 xs (k - 1) (by omega)]
        cases hT : ltKIngot xs[k - 1] xs[k]
        · have e : Hid (validIngotS xs = false) := (by unfold validIngotS; rw [HF.out (stepB_lt hlt hpos hO hT)]; rfl : validIngotS xs = false)
          have t1 : (!(Op.bytesLess xs[k - 1].id.toList xs[k].id.toList)) = true := ltKIngot_spec_f hT
          have HB := Lib.hid hb
          clear hc hsome hnil hb hok hT
          go_wp2_with fail
          refine wp_region_above (by kernel_rfl) (by kernel_rfl) ?_
          repeat (go_big_quiet_step ((first | (go_at_call 149; exact aboveC (spec_l13One_is xs[k] _ _ _ (by assumption) (by rw [above_cell (by omega)]; assumption) (by rw [above_cell (by omega)]; assumption) (by rw [above_cell (by omega)]; assumption) (by rw [above_cell (by omega)]; assumption) (by rw [above_cell (by omega)]; assumption) (Hok.out _ (List.getElem_mem hlt)))))))
          refine wpQuiet_nil ?_
          intro w1 b1
          have HB1 := Lib.hid (HB.out.trans (b1.mono HB.out.size)); clear b1 HB
          go_wp2_with fail
          go_ret
          exact ⟨by rw [e.out]; rfl, HB1.out⟩
        · have e : Hid (allK (stepB ingotB ltKIngot xs) (k + 1) = true) := (by rw [HS.out, Hall.out, stepB_yes hlt hpos hO hT]; rfl : allK (stepB ingotB ltKIngot xs) (k + 1) = true)
          have t1 : (!(Op.bytesLess xs[k - 1].id.toList xs[k].id.toList)) = false := ltKIngot_spec_t hT
          have HB := Lib.hid hb
          clear hc hsome hnil hb hok hT
          go_wp2_with fail
          refine wp_region_above (by kernel_rfl) (by kernel_rfl) ?_
          repeat (go_big_quiet_step ((first | (go_at_call 149; exact aboveC (spec_l13One_is xs[k] _ _ _ (by assumption) (by rw [above_cell (by omega)]; assumption) (by rw [above_cell (by omega)]; assumption) (by rw [above_cell (by omega)]; assumption) (by rw [above_cell (by omega)]; assumption) (by rw [above_cell (by omega)]; assumption) (Hok.out _ (List.getElem_mem hlt)))))))
          refine wpQuiet_nil ?_
          intro w1 b1
          have HB1 := Lib.hid (HB.out.trans (b1.mono HB.out.size)); clear b1 HB
          go_wp2_with fail
          go_roundw
          case rel => exact ⟨k + 1, by omega, by go_num, e.out, HB1.out⟩
          case measure => simp [intOf]; omega
    · have e : Hid (validIngotS xs = decide (xs.length ≤ 16)) := (by
        unfold validIngotS
        obtain rfl : k = xs.length := by omega
        rw [Hall.out]; rfl : validIngotS xs = decide (xs.length ≤ 16))
      go_wp2
      go_ret
      exact ⟨by rw [e.out]; congr 2; simp; try omega, hb⟩

set_option maxHeartbeats 1000000 in
theorem impl_validIngot (w : World) (v : Value) (xs : List Ingot) (h : Rd w.heap.size w v 5 xs.length (xs.flatMap Ingot.put)) (hn : xs.length ≤ 1048576) (hok : ∀ x ∈ xs, x.ok) :
    Calls Try.prog 77 #[v] w fun e w' => e = .returned (.bool (validIngotS xs)) ∧ Below w.heap.size w w' := by
  obtain ⟨hL, ao, cap, rfl, hcap, hmax, hnil, hsome⟩ := h
  have Hok := Lib.hid hok; clear hok
  go_enter Try.func77, Try.ntmps77
  go_wp2
  go_loopw [7] (fun i wr => ∃ (k : Nat), k ≤ xs.length ∧ i = .int .i64 k ∧ allK (stepB ingotB ltKIngot xs) k = true ∧ Below w.heap.size w wr) (fun i _ => xs.length - (intOf i).toNat)
  case atStart => exact ⟨0, Nat.zero_le _, rfl, rfl, Below.refl _ _⟩
  case round =>
    obtain ⟨k, hk, rfl, hall, hb⟩ := hrel
    have Hall := Lib.hid hall; clear hall
    by_cases hlt : k < xs.length
    · obtain ⟨b, off, rfl, hbB, hc⟩ := hsome (by omega)
      have hok := Hok.out
      have c0 : wr.cell? ⟨b, off + k * 5, none⟩ = some (.string xs[k].id) := by
        rw [show off + k * 5 = off + (k * 5 + 0) from by omega, hb.cell (p := ⟨b, off + (k * 5 + 0), none⟩) hbB, hc (k * 5 + 0) (by omega), Ingot_get0 xs k hlt]
      have c1 : wr.cell? ⟨b, off + k * 5 + 1, none⟩ = some (.int .i64 xs[k].mass) := by
        rw [show off + k * 5 + 1 = off + (k * 5 + 1) from by omega, hb.cell (p := ⟨b, off + (k * 5 + 1), none⟩) hbB, hc (k * 5 + 1) (by omega), Ingot_get1 xs k hlt]
      have c2 : wr.cell? ⟨b, off + k * 5 + 2, none⟩ = some (.int .i64 xs[k].alloy.copper) := by
        rw [show off + k * 5 + 2 = off + (k * 5 + 2) from by omega, hb.cell (p := ⟨b, off + (k * 5 + 2), none⟩) hbB, hc (k * 5 + 2) (by omega), Ingot_get2 xs k hlt]
      have c3 : wr.cell? ⟨b, off + k * 5 + 3, none⟩ = some (.int .i64 xs[k].alloy.tin) := by
        rw [show off + k * 5 + 3 = off + (k * 5 + 3) from by omega, hb.cell (p := ⟨b, off + (k * 5 + 3), none⟩) hbB, hc (k * 5 + 3) (by omega), Ingot_get3 xs k hlt]
      have c4 : wr.cell? ⟨b, off + k * 5 + 4, none⟩ = some (.int .i64 xs[k].alloy.other) := by
        rw [show off + k * 5 + 4 = off + (k * 5 + 4) from by omega, hb.cell (p := ⟨b, off + (k * 5 + 4), none⟩) hbB, hc (k * 5 + 4) (by omega), Ingot_get4 xs k hlt]
      have hbr : b < wr.heap.size := Nat.lt_of_lt_of_le hbB hb.size
      have HS := Lib.hid (allK_succ (stepB ingotB ltKIngot xs) k)
      have HF := Lib.hid (allK_false (stepB ingotB ltKIngot xs) xs.length k hlt)
      cases hO : ingotB xs[k]
      · have e : Hid (validIngotS xs = false) := (by unfold validIngotS; rw [HF.out (stepB_no hlt hO)]; rfl : validIngotS xs = false)
        have HB := Lib.hid hb
        clear hc hsome hnil hb hok
        go_wp2_with fail
        refine wp_region_above (by kernel_rfl) (by kernel_rfl) ?_
        repeat (go_big_quiet_step ((first | (go_at_call 126; exact aboveC (impl_validIngot_is xs[k] _ (by assumption) (Hok.out _ (List.getElem_mem hlt)))))))
        refine wpQuiet_nil ?_
        intro w1 b1
        have hsz := HB.out.size
        have HB1 := Lib.hid (HB.out.trans (Below.trans (((Below.refl _ _).alloc hsz _)) (b1.mono (by simp; omega)))); clear b1 HB
        go_wp2_with fail
        go_ret
        exact ⟨by rw [e.out]; rfl, HB1.out⟩
      by_cases hk0 : k = 0
      · have e : Hid (allK (stepB ingotB ltKIngot xs) (k + 1) = true) := (by subst hk0; rw [HS.out, stepB_zero hlt hO]; rfl : allK (stepB ingotB ltKIngot xs) (k + 1) = true)
        have hz : decide (0 < k) = false := decide_eq_false (by omega)
        have HB := Lib.hid hb
        clear hc hsome hnil hb hok hk0
        go_wp2_with fail
        refine wp_region_above (by kernel_rfl) (by kernel_rfl) ?_
        repeat (go_big_quiet_step ((first | (go_at_call 126; exact aboveC (impl_validIngot_is xs[k] _ (by assumption) (Hok.out _ (List.getElem_mem hlt)))))))
        refine wpQuiet_nil ?_
        intro w1 b1
        have hsz := HB.out.size
        have HB1 := Lib.hid (HB.out.trans (Below.trans (((Below.refl _ _).alloc hsz _)) (b1.mono (by simp; omega)))); clear b1 HB
        go_wp2_with fail
        go_roundw
        case rel => exact ⟨k + 1, by omega, by go_num, e.out, HB1.out⟩
        case measure => simp [intOf]; omega
      · have hpos : 0 < k := by omega
        have hz : decide (0 < k) = true := decide_eq_true (by omega)
        have p0 : wr.cell? ⟨b, off + (k - 1) * 5, none⟩ = some (.string xs[k - 1].id) := by
          rw [show off + (k - 1) * 5 = off + ((k - 1) * 5 + 0) from by omega, hb.cell (p := ⟨b, off + ((k - 1) * 5 + 0), none⟩) hbB, hc ((k - 1) * 5 + 0) (by omega), Ingot_get0 xs (k - 1) (by omega)]
        cases hT : ltKIngot xs[k - 1] xs[k]
        · have e : Hid (validIngotS xs = false) := (by unfold validIngotS; rw [HF.out (stepB_lt hlt hpos hO hT)]; rfl : validIngotS xs = false)
          have t1 : ((Op.bytesLess xs[k].id.toList xs[k - 1].id.toList || xs[k].id.toList == xs[k - 1].id.toList)) = true := ltKIngot_impl_f hT
          have HB := Lib.hid hb
          clear hc hsome hnil hb hok hT
          go_wp2_with fail
          refine wp_region_above (by kernel_rfl) (by kernel_rfl) ?_
          repeat (go_big_quiet_step ((first | (go_at_call 126; exact aboveC (impl_validIngot_is xs[k] _ (by assumption) (Hok.out _ (List.getElem_mem hlt)))))))
          refine wpQuiet_nil ?_
          intro w1 b1
          have hsz := HB.out.size
          have HB1 := Lib.hid (HB.out.trans (Below.trans (((Below.refl _ _).alloc hsz _)) (b1.mono (by simp; omega)))); clear b1 HB
          go_wp2_with fail
          go_ret
          exact ⟨by rw [e.out]; rfl, HB1.out⟩
        · have e : Hid (allK (stepB ingotB ltKIngot xs) (k + 1) = true) := (by rw [HS.out, Hall.out, stepB_yes hlt hpos hO hT]; rfl : allK (stepB ingotB ltKIngot xs) (k + 1) = true)
          have t1 : ((Op.bytesLess xs[k].id.toList xs[k - 1].id.toList || xs[k].id.toList == xs[k - 1].id.toList)) = false := ltKIngot_impl_t hT
          have HB := Lib.hid hb
          clear hc hsome hnil hb hok hT
          go_wp2_with fail
          refine wp_region_above (by kernel_rfl) (by kernel_rfl) ?_
          repeat (go_big_quiet_step ((first | (go_at_call 126; exact aboveC (impl_validIngot_is xs[k] _ (by assumption) (Hok.out _ (List.getElem_mem hlt)))))))
          refine wpQuiet_nil ?_
          intro w1 b1
          have hsz := HB.out.size
          have HB1 := Lib.hid (HB.out.trans (Below.trans (((Below.refl _ _).alloc hsz _)) (b1.mono (by simp; omega)))); clear b1 HB
          go_wp2_with fail
          go_roundw
          case rel => exact ⟨k + 1, by omega, by go_num, e.out, HB1.out⟩
          case measure => simp [intOf]; omega
    · have e : Hid (validIngotS xs = decide (xs.length ≤ 16)) := (by
        unfold validIngotS
        obtain rfl : k = xs.length := by omega
        rw [Hall.out]; rfl : validIngotS xs = decide (xs.length ≤ 16))
      go_wp2
      go_ret
      exact ⟨by rw [e.out]; congr 2; simp; try omega, hb⟩
end Go.Proofs.Ytnbodmbagendnaa
namespace Go.Proofs.Ytnbodmbagendnaa
open Go.ChangeShapes Go.WideShapes Go.ChangeAt Go.RowKit Go.Deep Go.Joins
set_option linter.unusedVariables false
set_option maxRecDepth 100000
set_option linter.unusedSimpArgs false
def mixA (xs : List Ingot) (cs : List Int) : Alloy :=
  ⟨1000000 - sumK tinF xs cs / sumK massF xs cs - sumK otherF xs cs / sumK massF xs cs, sumK tinF xs cs / sumK massF xs cs, sumK otherF xs cs / sumK massF xs cs⟩
def mixS (xs : List Ingot) (cs : List Int) : Alloy × Int × Int :=
  if validIngotS xs then if choiceB xs.length cs then if cs.length = 0 then (⟨0, 0, 0⟩, 0, 6) else (mixA xs cs, sumK massF xs cs, 0) else (⟨0, 0, 0⟩, 0, 2) else (⟨0, 0, 0⟩, 0, 1)
theorem validIngotS_true {xs : List Ingot} (h : validIngotS xs = true) : xs.length ≤ 16 ∧ ∀ x ∈ xs, ingotB x = true := by
  simp only [validIngotS, Bool.and_eq_true, decide_eq_true_eq] at h
  refine ⟨h.2, fun x hx => ?_⟩
  obtain ⟨i, hi, rfl⟩ := List.mem_iff_getElem.1 hx
  have := allK_true h.1 i hi
  unfold stepB at this
  rw [List.getElem?_eq_getElem hi] at this
  simp only [Bool.and_eq_true] at this
  exact this.1
theorem spec_l13Ok_is {r : Bool} (w : World) (v : Value) (xs : List Ingot) (h : Rd w.heap.size w v 5 xs.length (xs.flatMap Ingot.put)) (hn : xs.length ≤ 1048576) (hok : ∀ x ∈ xs, x.ok) (hr : validIngotS xs = r) :
    Calls Try.prog 116 #[v] w fun e w' => e = .returned (.bool r) ∧ Below w.heap.size w w' := by
  subst hr; exact spec_validIngot w v xs h hn hok
theorem impl_ValidIngots_is {r : Bool} (w : World) (v : Value) (xs : List Ingot) (h : Rd w.heap.size w v 5 xs.length (xs.flatMap Ingot.put)) (hn : xs.length ≤ 1048576) (hok : ∀ x ∈ xs, x.ok) (hr : validIngotS xs = r) :
    Calls Try.prog 77 #[v] w fun e w' => e = .returned (.bool r) ∧ Below w.heap.size w w' := by
  subst hr; exact impl_validIngot w v xs h hn hok
theorem quot_bd (t m : Int) (h1 : 0 ≤ t ∧ t ≤ 320000000000000) (h2 : 1 ≤ m) : 0 ≤ t / m ∧ t / m ≤ 320000000000000 := by
  refine ⟨Int.ediv_nonneg (by omega) (by omega), ?_⟩
  have := Int.ediv_le_self m h1.1
  omega
end Go.Proofs.Ytnbodmbagendnaa
namespace Go.Proofs.Ytnbodmbagendnaa
open Go.ChangeShapes Go.WideShapes Go.ChangeAt Go.RowKit Go.Deep Go.Joins
set_option linter.unusedVariables false
set_option maxRecDepth 100000
set_option linter.unusedSimpArgs false
def idK (xs : List Ingot) (a : ByteArray) : Option Nat := xs.findIdx? fun x => strEq x.id a
theorem idK_some {xs : List Ingot} {a : ByteArray} {k : Nat} (h : idK xs a = some k) : ∃ hk : k < xs.length, xs[k].id = a := by
  obtain ⟨hk, h1, _⟩ := List.findIdx?_eq_some_iff_getElem.1 h
  exact ⟨hk, strEq_iff.1 h1⟩
theorem idK_none {xs : List Ingot} {a : ByteArray} (h : idK xs a = none) (k : Nat) (hk : k < xs.length) : xs[k].id ≠ a := by
  intro e
  have := List.findIdx?_eq_none_iff.1 h xs[k] (List.getElem_mem hk)
  rw [e, strEq_iff.2 rfl] at this
  cases this
/-- the ids rise -/
def Rises (xs : List Ingot) : Prop := ∀ i j (hij : i < j) (hj : j < xs.length), ltName xs[i].id xs[j].id = true
theorem rises_of {xs : List Ingot} (h : validIngotS xs = true) : Rises xs := by
  simp only [validIngotS, Bool.and_eq_true] at h
  have step : ∀ k (hk : k + 1 < xs.length), ltName xs[k].id xs[k + 1].id = true := fun k hk => by
    have h1 := allK_true h.1 (k + 1) hk
    have h2 := (validIngotS_true (xs := xs) (by simp only [validIngotS, Bool.and_eq_true]; exact h)).2 xs[k + 1] (List.getElem_mem hk)
    rw [stepB_pos hk (by omega) h2] at h1
    exact h1
  intro i j hij hj
  induction j with
  | zero => omega
  | succ j ih =>
    rcases Nat.lt_or_ge i j with h1 | h1
    · exact ltName_trans (ih h1 (by omega)) (step j hj)
    · obtain rfl : i = j := by omega
      exact step i hj
theorem rises_inj {xs : List Ingot} (h : Rises xs) {i j : Nat} (hi : i < xs.length) (hj : j < xs.length) (e : xs[i].id = xs[j].id) : i = j := by
  rcases Nat.lt_trichotomy i j with h1 | h1 | h1
  · have := h i j h1 hj; rw [e, ltName_irrefl] at this; cases this
  · exact h1
  · have := h j i h1 hi; rw [e, ltName_irrefl] at this; cases this
theorem idK_at {xs : List Ingot} (h : Rises xs) {k : Nat} (hk : k < xs.length) : idK xs xs[k].id = some k := by
  cases e : idK xs xs[k].id with
  | none => exact absurd rfl (idK_none e k hk)
  | some j =>
    obtain ⟨hj, e2⟩ := idK_some e
    rw [rises_inj h hj hk e2]
theorem falls_of {xs : List Ingot} (h : Rises xs) (t : ByteArray) : Falls (cmpIngot xs t) xs.length := by
  intro a b hab hb hc
  rw [cmpIngot_at hb] at hc
  rw [cmpIngot_at (by omega)]
  rw [cmpS_lt] at *
  rcases Nat.lt_or_ge a b with h1 | h1
  · exact ltName_trans (h a b h1 hb) hc
  · obtain rfl : a = b := by omega
    exact hc
theorem found_idK {xs : List Ingot} (h : Rises xs) {t : ByteArray} {i : Nat} (hf : Found (cmpIngot xs t) xs.length i) :
    (decide (i < xs.length) && decide (cmpIngot xs t i = 0)) = (idK xs t).isSome ∧ ∀ k, idK xs t = some k → i = k := by
  obtain ⟨hi, hp⟩ := hf
  obtain ⟨h1, h2⟩ := hp (falls_of h t)
  have key : ∀ k, idK xs t = some k → i = k := by
    intro k hk
    obtain ⟨hkl, e⟩ := idK_some hk
    have e0 : cmpIngot xs t k = 0 := by rw [cmpIngot_at hkl]; exact cmpS_zero.2 e
    have hik : i ≤ k := by
      rcases Nat.lt_or_ge k i with h3 | h3
      · have := h1 k h3; omega
      · exact h3
    rcases Nat.lt_or_ge i k with h3 | h3
    · have h4 := h2 i (Nat.le_refl _) (by omega)
      rw [cmpIngot_at (by omega)] at h4
      have h5 : cmpS xs[i].id t < 0 := cmpS_lt.2 (by rw [← e]; exact h i k h3 hkl)
      simp only at h4; omega
    · omega
  refine ⟨?_, key⟩
  cases e : idK xs t with
  | none =>
    by_cases hl : i < xs.length
    · have : cmpIngot xs t i ≠ 0 := by
        rw [cmpIngot_at hl]
        exact fun h0 => idK_none e i hl (cmpS_zero.1 h0)
      simp [this]
    · simp [hl]
  | some k =>
    obtain rfl := key k e
    obtain ⟨hl, e2⟩ := idK_some e
    have : cmpIngot xs t i = 0 := by rw [cmpIngot_at hl]; exact cmpS_zero.2 e2
    simp [hl, this]

def chosenL (xs : List Ingot) (ids : List ByteArray) : Option (List Int) := ids.foldl (fun acc a => acc.bind fun l => (idK xs a).map fun k => l ++ [(k : Int)]) (some [])
theorem chosen_succ (xs : List Ingot) (ids : List ByteArray) (k : Nat) (hk : k < ids.length) : chosenL xs (ids.take (k + 1)) = (chosenL xs (ids.take k)).bind fun l => (idK xs ids[k]).map fun j => l ++ [(j : Int)] := by
  unfold chosenL
  rw [List.take_succ_eq_append_getElem hk, List.foldl_append]
  rfl
theorem chosen_dead (xs : List Ingot) (l : List ByteArray) : l.foldl (fun acc a => acc.bind fun l => (idK xs a).map fun k => l ++ [(k : Int)]) (none : Option (List Int)) = none := by
  induction l with
  | nil => rfl
  | cons a l ih => exact ih
theorem chosen_none {xs : List Ingot} {ids : List ByteArray} {k : Nat} (h : chosenL xs (ids.take k) = none) : chosenL xs ids = none := by
  have e : ids = ids.take k ++ ids.drop k := (List.take_append_drop k ids).symm
  unfold chosenL at *
  rw [e, List.foldl_append, h]
  exact chosen_dead xs _
theorem chosen_no {xs : List Ingot} {ids : List ByteArray} {k : Nat} (hk : k < ids.length) (h : idK xs ids[k] = none) : chosenL xs ids = none := by
  refine chosen_none (k := k + 1) ?_
  rw [chosen_succ xs ids k hk, h]
  cases chosenL xs (ids.take k) <;> rfl
theorem chosen_yes {xs : List Ingot} {ids : List ByteArray} {k : Nat} {cs : List Int} (hk : k < ids.length) (h0 : chosenL xs (ids.take k) = some cs) {j : Nat} (h : idK xs ids[k] = some j) : chosenL xs (ids.take (k + 1)) = some (cs ++ [(j : Int)]) := by
  rw [chosen_succ xs ids k hk, h0, h]; rfl
theorem chosen_len {xs : List Ingot} {ids : List ByteArray} : ∀ {k : Nat} {cs : List Int}, k ≤ ids.length → chosenL xs (ids.take k) = some cs → cs.length = k
  | 0, cs, _, h => by
    have : chosenL xs (ids.take 0) = some [] := rfl
    rw [this] at h; cases h; rfl
  | k + 1, cs, hk, h => by
    rw [chosen_succ xs ids k hk] at h
    cases e : chosenL xs (ids.take k) with
    | none => rw [e] at h; cases h
    | some l =>
      rw [e] at h
      cases e2 : idK xs ids[k] with
      | none => rw [e2] at h; cases h
      | some j =>
        rw [e2] at h
        cases h
        rw [List.length_append, chosen_len (by omega) e]; rfl
theorem putI_snoc (cs : List Int) (j : Int) : (cs ++ [j]).flatMap putI = cs.flatMap putI ++ [.int .i64 j] := by
  rw [List.flatMap_append]; rfl
end Go.Proofs.Ytnbodmbagendnaa
namespace Go.Proofs.Ytnbodmbagendnaa
open Go.ChangeShapes Go.WideShapes Go.ChangeAt Go.RowKit Go.Deep Go.Joins
set_option linter.unusedVariables false
set_option maxRecDepth 100000
set_option linter.unusedSimpArgs false
/-- block g of the call's own, or nil: reads as the cells L -/
theorem own_rd {w : World} {base : Nat} {E : TypeId} {s n : Nat} {v : Value} {L : List Value} (h : w.ownsRow base E s v n L) : Rd w.heap.size w v s n L := by
  obtain ⟨h1, h2⟩ := h
  rcases h2 with ⟨rfl, rfl⟩ | ⟨g, cap, cur, rfl, hb, hg, hn, hm, hs, ht⟩
  · have : L = [] := List.eq_nil_of_length_eq_zero (by simpa using h1)
    subst this
    exact ⟨by simp, none, 0, rfl, Nat.le_refl _, Nat.zero_le _, fun _ => ⟨rfl, rfl⟩, fun h => by omega⟩
  · refine ⟨h1, _, cap, rfl, hn, hm, (fun h => by cases h), fun _ => ⟨g, 0, rfl, (Array.getElem?_eq_some_iff.1 hg).1, fun i hi => ?_⟩⟩
    rw [← ht, List.getElem?_take_of_lt hi, Nat.zero_add]
    simp [World.cell?, hg]
theorem own_below {w w' : World} {B base : Nat} {E : TypeId} {s n : Nat} {v : Value} {L : List Value} (h : w.ownsRow base E s v n L) (hb : Below B w w') (hB : w.heap.size ≤ B) : w'.ownsRow base E s v n L := by
  obtain ⟨h1, h2⟩ := h
  refine ⟨h1, ?_⟩
  rcases h2 with h2 | ⟨g, cap, cur, rfl, hg0, hg, rest⟩
  · exact .inl h2
  · exact .inr ⟨g, cap, cur, rfl, hg0, (hb.block g (Nat.lt_of_lt_of_le (Array.getElem?_eq_some_iff.1 hg).1 hB)).trans hg, rest⟩
/-- behind an append: what lay below the call's own blocks is as it was -/
theorem grown_below {W w w' : World} {base : Nat} {E : TypeId} {s n : Nat} {v : Value} {L : List Value} (hb : Below base W w) (h : w.ownsRow base E s v n L) (hW : base ≤ w.heap.size) (hg : w.grownBy w' v.ownBlock) : Below base W w' := by
  refine hb.trans ⟨hg.os, hg.tape, hg.output, hg.size, fun b hlt => hg.block b (by omega) ?_⟩
  intro e
  have := (h.lt b e.symm).1
  omega
/-- a slice of the call's own as one fact: its value, its block from B on -/
def Acc (B : Nat) (w : World) (E : TypeId) (s : Nat) (v : Value) (n : Nat) (L : List Value) : Prop := w.ownsRow B E s v n L
theorem own_empty (w : World) (base : Nat) (E : TypeId) (s : Nat) (h : base ≤ w.heap.size) : (w.alloc (.cells #[] E)).ownsRow base E s (.slice (some ⟨w.heap.size, 0, none⟩) 0 0) 0 [] := by
  refine ⟨by simp, .inr ⟨w.heap.size, 0, #[], rfl, h, ?_, Nat.le_refl _, Nat.zero_le _, by simp, by simp⟩⟩
  exact Own.new w E []
theorem own_nil (w : World) (base : Nat) (E : TypeId) (s : Nat) : w.ownsRow base E s (.slice none 0 0) 0 [] := ⟨by simp, .inl ⟨rfl, rfl⟩⟩
theorem own_drew {w : World} {base : Nat} {E : TypeId} {s n : Nat} {v : Value} {L : List Value} (h : w.ownsRow base E s v n L) (m : Nat) : (w.drewN m).ownsRow base E s v n L := h

/-- 'append(out, x)' of one element: the element lies in a block of its own, the last one -/
theorem app_el {P : Program} {ops : Array Oper} {rest : List Oper} {o : Oper} {a : Act} {Q : Exit → Act → World → Prop} (hgd : o.guard = none) (s x : Operand) (T E : TypeId) (i : TypeInfo) (z : Value) (sz bytes : Nat)
    (hT : P.underlying T = some (.slice E)) (hi : P.info? E = some i) (hz : i.zero = some z) (h1 : i.size = sz) (h2 : i.bytes = bytes) (hzs : z.cells.size = sz) (hsz : 0 < sz)
    (ho : o.op = .call { callee := .builtin .append, args := #[s, x], argTypes := #[T, T] }) (w0 : World) (base : Nat) (v : Value) (n : Nat) (L : List Value) (hs : a.eval s = v) (hown : w0.ownsRow base E sz v n L)
    (cs : List Value) (hcs : cs.length = sz) (hone : ∀ u ∈ cs, u.oneCell' = true) (hx : a.eval x = .slice (some ⟨w0.heap.size, 0, none⟩) 1 1) (hn : n + 1 ≤ 2097152) (hby : bytes ≤ 64) (hbase : base ≤ w0.heap.size)
    (h : ∀ g cap w', w'.ownsRow base E sz (.slice (some ⟨g, 0, none⟩) (n + 1) cap) (n + 1) (L ++ cs) → (∀ W, Below base W w0 → Below base W w') → w0.heap.size < w'.heap.size → wpList P ops Q rest (a.put o.dst (.slice (some ⟨g, 0, none⟩) (n + 1) cap)) w') :
    wpList P ops Q (o :: rest) a (w0.alloc (.cells cs.toArray E)) := by
  have hb : (n + 1) * bytes ≤ 140737488355328 := by
    have := Nat.mul_le_mul hn hby
    omega
  refine wpList_append_lies _ hgd s x T ho base E i z sz bytes hT hi hz h1 h2 hzs hsz v n L hs (hown.alloc _) ⟨w0.heap.size, 0, none⟩ 1 1 cs hx (by omega) (World.news_of_block (Own.new w0 E cs)) hone (by omega) (by unfold maxLen; omega) hb (by simp; omega) _ rfl ?_
  intro g cap w' hown' hgrow _ _
  refine h g cap w' hown' (fun W hW => ?_) ?_
  · exact grown_below (hW.alloc hbase _) (hown.alloc _) (by simp; omega) hgrow
  · have := hgrow.size
    simp at this; omega
end Go.Proofs.Ytnbodmbagendnaa
namespace Go.Proofs.Ytnbodmbagendnaa
open Go.ChangeShapes Go.WideShapes Go.ChangeAt Go.RowKit Go.Deep Go.Joins
set_option linter.unusedVariables false
set_option maxRecDepth 100000
set_option linter.unusedSimpArgs false
theorem impl_ingotAt (w : World) (v : Value) (xs : List Ingot) (t : ByteArray) (h : Rd w.heap.size w v 5 xs.length (xs.flatMap Ingot.put)) (hn : xs.length ≤ 1048576) (hr : Rises xs) :
    Calls Try.prog 152 #[v, .string t] w fun e w' => (∃ i : Nat, e = .returned (.tuple #[.int .i64 i, .bool (idK xs t).isSome]) ∧ i ≤ xs.length ∧ ∀ k, idK xs t = some k → i = k) ∧ Below w.heap.size w w' := by
  have H := Lib.hid (BinarySearch_Ingot w v xs t h hn)
  have HR := Lib.hid hr
  clear h hr
  go_enter Try.func152, Try.ntmps152
  go_wp2_with fail
  refine H.out.mono ?_; rintro e w1 ⟨⟨i, rfl, hf⟩, b1⟩
  have HF := Lib.hid (found_idK HR.out hf)
  have hi := hf.1
  have HF0 := Lib.hid hf
  clear hf
  go_wp2_with fail
  go_ret2
  exact ⟨⟨i, by rw [← HF.out.1]; rfl, hi, HF.out.2⟩, b1⟩

set_option maxHeartbeats 2000000 in
theorem impl_choiceOf (w : World) (v : Value) (xs : List Ingot) (x : Melt) (lo : Option Addr) (lc : Nat) (h : Rd w.heap.size w v 5 xs.length (xs.flatMap Ingot.put)) (hn : xs.length ≤ 1048576) (hr : Rises xs)
    (h2 : Rd w.heap.size w (.slice lo x.ingots.length lc) 1 x.ingots.length (x.ingots.flatMap putStr)) (hn2 : x.ingots.length ≤ 1048576) :
    Calls Try.prog 130 #[v, .agg #[.string x.id, .slice lo x.ingots.length lc, .int .i64 x.mass]] w fun e w' => (∃ u : Value, e = .returned (.tuple #[u, .bool (chosenL xs x.ingots).isSome]) ∧ ∀ cs, chosenL xs x.ingots = some cs → Rd w'.heap.size w' u 1 cs.length (cs.flatMap putI)) ∧ Below w.heap.size w w' := by
  have H1 := Lib.hid h; clear h
  have HR := Lib.hid hr; clear hr
  obtain ⟨hL, ao, cap, he, hcap, hmax, hnil, hsome⟩ := h2
  cases he
  obtain ⟨i0, hi, hz0, hz1, hz2⟩ := info_parts info_i64
  go_enter Try.func130, Try.ntmps130
  go_wp2
  go_loopw [6, 14] (fun u i wr => ∃ (k : Nat) (cs : List Int), k ≤ x.ingots.length ∧ i = .int .i64 k ∧ chosenL xs (x.ingots.take k) = some cs ∧ wr.ownsRow w.heap.size 2 1 u k (cs.flatMap putI) ∧ Below w.heap.size w wr) (fun _ i _ => x.ingots.length - (intOf i).toNat)
  case atStart => exact ⟨0, [], Nat.zero_le _, rfl, rfl, own_nil _ _ _ _, by (repeat' (first | (with_reducible exact Below.refl _ _) | (with_reducible assumption) | (with_reducible refine below_dn ?_ _) | (with_reducible refine Below.drew ?_) | (with_reducible refine Below.alloc ?_ ?_ _) | (with_reducible refine Below.setCell ?_ ?_ _) | go_size))⟩
  case round =>
    obtain ⟨k, cs, hk, rfl, hch, hown, hb⟩ := hrel
    have HCH := Lib.hid hch; clear hch
    have HO := Lib.hid hown; clear hown
    by_cases hlt : k < x.ingots.length
    · obtain ⟨b, off, rfl, hbB, hc⟩ := hsome (by omega)
      have c0 : wr.cell? ⟨b, off + k, none⟩ = some (.string x.ingots[k]) := by
        rw [hb.cell (p := ⟨b, off + k, none⟩) hbB, hc k (by omega), putStr_get x.ingots k hlt]
      have HC := Lib.hid (impl_ingotAt wr v xs x.ingots[k] (H1.out.up hb) hn HR.out)
      have hws := hb.size
      have HB := Lib.hid hb
      clear hc hsome hnil hb
      cases hf : idK xs x.ingots[k] with
      | none =>
        have e : Hid (chosenL xs x.ingots = none) := (chosen_no hlt hf : chosenL xs x.ingots = none)
        rw [hf] at HC
        clear hf hi hz0 hz1 hz2
        go_wp2_with fail
        refine HC.out.mono ?_; rintro e1 w1 ⟨⟨i, rfl, _, _⟩, b1⟩
        have HB1 := Lib.hid (HB.out.trans (b1.mono hws)); clear b1 HC
        go_wp2_with fail
        go_ret2
        exact ⟨⟨.slice none 0 0, by rw [e.out]; rfl, fun cs hcs => by rw [e.out] at hcs; cases hcs⟩, HB1.out⟩
      | some j =>
        have e : Hid (chosenL xs (x.ingots.take (k + 1)) = some (cs ++ [(j : Int)])) := (chosen_yes hlt HCH.out hf : chosenL xs (x.ingots.take (k + 1)) = some (cs ++ [(j : Int)]))
        have hjl : j < xs.length := (idK_some hf).1
        rw [hf] at HC
        clear hf
        go_wp2_with fail
        refine HC.out.mono ?_; rintro e1 w1 ⟨⟨i, rfl, _, hij⟩, b1⟩
        obtain rfl := hij j rfl
        have HB1 := Lib.hid (HB.out.trans (b1.mono hws))
        have HO1 := Lib.hid (own_below HO.out b1 (Nat.le_refl _))
        have hws1 : w.heap.size ≤ w1.heap.size := HB1.out.size
        clear b1 HC hij HO c0
        go_wp2_with (at_builtin; refine app_el rfl _ _ 40 2 i0 (.int .i64 0) 1 8 Try.underlying40 hi hz0 hz1 hz2 rfl (by decide) rfl w1 w.heap.size _ k (cs.flatMap putI) (by rfl) HO1.out [.int .i64 i] rfl (by intro u hu; simp at hu; subst hu; rfl) (by rfl) (by omega) (by decide) hws1 ?_; intro g gc w2 hown2 hB2 hz)
        have HB2 := Lib.hid (hB2 w HB1.out)
        have HO2 := Lib.hid hown2
        clear hown2 hB2
        go_roundw
        case rel => exact ⟨k + 1, _, by omega, by go_num, e.out, by rw [putI_snoc]; exact HO2.out, HB2.out⟩
        case measure => simp [intOf]; omega
    · have e : Hid (chosenL xs x.ingots = some cs) := (by
        have := HCH.out
        rwa [take_all (by omega)] at this : chosenL xs x.ingots = some cs)
      obtain rfl : k = x.ingots.length := by omega
      have HL := Lib.hid (chosen_len (Nat.le_refl _) HCH.out)
      have HB := Lib.hid hb; clear hb hi hz0 hz1 hz2 hsome
      go_wp2
      go_ret2
      refine ⟨⟨_, by rw [e.out]; rfl, fun cs' hcs => ?_⟩, HB.out⟩
      rw [e.out] at hcs
      cases hcs
      have := own_rd HO.out
      rwa [← HL.out] at this
end Go.Proofs.Ytnbodmbagendnaa
namespace Go.Proofs.Ytnbodmbagendnaa
open Go.ChangeShapes Go.WideShapes Go.ChangeAt Go.RowKit Go.Deep Go.Joins
set_option linter.unusedVariables false
set_option maxRecDepth 100000
set_option linter.unusedSimpArgs false
theorem any_take {α : Type} {p : α → Bool} (xs : List α) (k : Nat) (h : k < xs.length) : (xs.take (k + 1)).any p = ((xs.take k).any p || p xs[k]) := by
  rw [List.take_succ_eq_append_getElem h, List.any_append]; simp
theorem any_at {α : Type} {p : α → Bool} (xs : List α) (k : Nat) (h : k < xs.length) (hp : p xs[k] = true) : xs.any p = true := by
  rw [List.any_eq_true]; exact ⟨xs[k], List.getElem_mem h, hp⟩
theorem any_full {α : Type} {p : α → Bool} {xs : List α} {k : Nat} (h : (xs.take k).any p = false) (hk : xs.length ≤ k) : xs.any p = false := by
  rwa [List.take_of_length_le hk] at h
theorem any_two {α β : Type} (f : α → β → Bool) (g : β → α → Bool) (hfg : ∀ a b, f a b = g b a) (xs : List α) (ys : List β) : (xs.any fun a => ys.any fun b => f a b) = ys.any fun b => xs.any fun a => g b a := by
  rw [Bool.eq_iff_iff]
  simp only [List.any_eq_true]
  constructor
  · rintro ⟨a, ha, b, hb, h⟩; exact ⟨b, hb, a, ha, by rw [← hfg]; exact h⟩
  · rintro ⟨b, hb, a, ha, h⟩; exact ⟨a, ha, b, hb, by rw [hfg]; exact h⟩
end Go.Proofs.Ytnbodmbagendnaa
namespace Go.Proofs.Ytnbodmbagendnaa
open Go.ChangeShapes Go.WideShapes Go.ChangeAt Go.RowKit Go.Deep Go.Joins
set_option linter.unusedVariables false
set_option maxRecDepth 100000
set_option linter.unusedSimpArgs false
def hasB (ys : List ByteArray) (a : ByteArray) : Bool := ys.any (strEq a)
def commonB (xs ys : List ByteArray) : Bool := xs.any (hasB ys)
theorem strEq_comm (a b : ByteArray) : strEq a b = strEq b a := by
  unfold strEq
  rw [Bool.eq_iff_iff, beq_iff_eq, beq_iff_eq]
  exact eq_comm
theorem commonB_comm (xs ys : List ByteArray) : commonB xs ys = commonB ys xs := by
  unfold commonB
  show (xs.any fun a => ys.any fun b => strEq a b) = ys.any fun b => xs.any fun a => strEq b a
  exact any_two strEq strEq (fun a b => strEq_comm a b) xs ys

set_option maxHeartbeats 2000000 in
theorem spec_l14Common {b0 : Bool} (w : World) (a1 o1 a2 o2 : Nat) (v1 v2 : Value) (xs ys : List ByteArray) (g1 : w.cell? ⟨a1, o1 + 1, none⟩ = some v1) (g2 : w.cell? ⟨a2, o2 + 1, none⟩ = some v2) (ha1 : a1 < w.heap.size) (ha2 : a2 < w.heap.size)
    (h1 : Rd w.heap.size w v1 1 xs.length (xs.flatMap putStr)) (h2 : Rd w.heap.size w v2 1 ys.length (ys.flatMap putStr)) (hn : xs.length ≤ 1048576) (hn2 : ys.length ≤ 1048576) (hb0 : commonB xs ys = b0) :
    Calls Try.prog 72 #[.pointer (some ⟨a1, o1, none⟩), .pointer (some ⟨a2, o2, none⟩)] w fun e w' => e = .returned (.bool b0) ∧ Below w.heap.size w w' := by
  subst hb0
  obtain ⟨hL, ao, cap, rfl, hcap, hmax, hnil, hsome⟩ := h1
  obtain ⟨hL2, ao2, cap2, rfl, hcap2, hmax2, hnil2, hsome2⟩ := h2
  go_enter Try.func72, Try.ntmps72
  go_wp2
  go_loopw [5, 6] (fun i u wr => ∃ (k : Nat), k ≤ xs.length ∧ i = .int .i64 k ∧ (xs.take k).any (hasB ys) = false ∧ Below w.heap.size w wr) (fun i _ _ => xs.length - (intOf i).toNat)
  case atStart => exact ⟨0, Nat.zero_le _, rfl, rfl, Below.refl _ _⟩
  case round =>
    obtain ⟨k, hk, rfl, hall, hb⟩ := hrel
    have Hall := Lib.hid hall; clear hall
    have e1 : wr.cell? ⟨a1, o1 + 1, none⟩ = some (.slice ao xs.length cap) := (hb.cell (p := ⟨a1, o1 + 1, none⟩) ha1).trans g1
    by_cases hlt : k < xs.length
    · have hws := hb.size
      go_wp2
      obtain ⟨wo, rfl⟩ : ∃ wo : World, wo = wr := ⟨_, rfl⟩
      go_loopw [6] (fun j wr => ∃ (m : Nat), m ≤ ys.length ∧ j = .int .i64 m ∧ (ys.take m).any (strEq xs[k]) = false ∧ Below w.heap.size w wr) (fun j _ => ys.length - (intOf j).toNat)
      case atStart => exact ⟨0, Nat.zero_le _, rfl, rfl, hb⟩
      case round =>
        clear hb e1
        obtain ⟨m, hm, rfl, hall2, hb⟩ := hrel
        have Hall2 := Lib.hid hall2; clear hall2
        have e1 : wr.cell? ⟨a1, o1 + 1, none⟩ = some (.slice ao xs.length cap) := (hb.cell (p := ⟨a1, o1 + 1, none⟩) ha1).trans g1
        have e2 : wr.cell? ⟨a2, o2 + 1, none⟩ = some (.slice ao2 ys.length cap2) := (hb.cell (p := ⟨a2, o2 + 1, none⟩) ha2).trans g2
        have hw1 : a1 < wr.heap.size := Nat.lt_of_lt_of_le ha1 hb.size
        have hw2 : a2 < wr.heap.size := Nat.lt_of_lt_of_le ha2 hb.size
        by_cases hlt2 : m < ys.length
        · obtain ⟨b, off, rfl, hbB, hc⟩ := hsome (by omega)
          obtain ⟨b2, off2, rfl, hbB2, hc2⟩ := hsome2 (by omega)
          have c0 : wr.cell? ⟨b, off + k, none⟩ = some (.string xs[k]) := by
            rw [hb.cell (p := ⟨b, off + k, none⟩) hbB, hc k (by omega), putStr_get xs k hlt]
          have d0 : wr.cell? ⟨b2, off2 + m, none⟩ = some (.string ys[m]) := by
            rw [hb.cell (p := ⟨b2, off2 + m, none⟩) hbB2, hc2 m (by omega), putStr_get ys m hlt2]
          have hbr : b < wr.heap.size := Nat.lt_of_lt_of_le hbB hb.size
          have hbr2 : b2 < wr.heap.size := Nat.lt_of_lt_of_le hbB2 hb.size
          have HB := Lib.hid hb
          clear hc hc2 hsome hsome2 hnil hnil2 hb g1 g2
          cases hE : strEq xs[k] ys[m]
          · have e : Hid ((ys.take (m + 1)).any (strEq xs[k]) = false) := (by rw [any_take ys m hlt2, Hall2.out, hE]; rfl : (ys.take (m + 1)).any (strEq xs[k]) = false)
            have t1 := strEq_f hE
            clear hE
            go_wp2_with fail
            refine wp_region_above (by kernel_rfl) (by kernel_rfl) ?_
            repeat (go_big_quiet_step (fail))
            refine wpQuiet_nil ?_
            intro w1 b1
            have HB1 := Lib.hid (HB.out.trans (b1.mono HB.out.size)); clear b1 HB
            go_wp2_with fail
            go_roundw
            case rel => exact ⟨m + 1, by omega, by go_num, e.out, HB1.out⟩
            case measure => simp [intOf]; omega
          · have e : Hid (commonB xs ys = true) := (any_at xs k hlt (any_at ys m hlt2 hE) : commonB xs ys = true)
            have t1 := strEq_t hE
            clear hE
            go_wp2_with fail
            refine wp_region_above (by kernel_rfl) (by kernel_rfl) ?_
            repeat (go_big_quiet_step (fail))
            refine wpQuiet_nil ?_
            intro w1 b1
            have HB1 := Lib.hid (HB.out.trans (b1.mono HB.out.size)); clear b1 HB
            go_wp2_with fail
            go_ret
            exact ⟨by rw [e.out]; rfl, HB1.out⟩
        · have e : Hid ((xs.take (k + 1)).any (hasB ys) = false) := (by rw [any_take xs k hlt, Hall.out]; exact any_full Hall2.out (by omega) : (xs.take (k + 1)).any (hasB ys) = false)
          have HB := Lib.hid hb; clear hb
          go_wp2
          go_roundw
          case rel => exact ⟨k + 1, by omega, by go_num, e.out, HB.out⟩
          case measure => simp [intOf]; omega
    · have e : Hid (commonB xs ys = false) := (any_full Hall.out (by omega) : commonB xs ys = false)
      have HB := Lib.hid hb; clear hb
      go_wp2
      go_ret
      exact ⟨by rw [e.out]; rfl, HB.out⟩

set_option maxHeartbeats 1000000 in
theorem slices_Index_str (w : World) (v : Value) (xs : List ByteArray) (a : ByteArray) (h : Rd w.heap.size w v 1 xs.length (xs.flatMap putStr)) (hn : xs.length ≤ 1048576) :
    Calls Try.prog 143 #[v, .string a] w fun e w' => (∃ r : Int, e = .returned (.int .i64 r) ∧ decide (0 ≤ r) = hasB xs a) ∧ Below w.heap.size w w' := by
  obtain ⟨hL, ao, cap, rfl, hcap, hmax, hnil, hsome⟩ := h
  go_enter Try.func143, Try.ntmps143
  go_wp2
  go_loopw [8] (fun i wr => ∃ (k : Nat), k ≤ xs.length ∧ i = .int .i64 k ∧ (xs.take k).any (strEq a) = false ∧ Below w.heap.size w wr) (fun i _ => xs.length - (intOf i).toNat)
  case atStart => exact ⟨0, Nat.zero_le _, rfl, rfl, Below.refl _ _⟩
  case round =>
    obtain ⟨k, hk, rfl, hall, hb⟩ := hrel
    have Hall := Lib.hid hall; clear hall
    by_cases hlt : k < xs.length
    · obtain ⟨b, off, rfl, hbB, hc⟩ := hsome (by omega)
      have c0 : wr.cell? ⟨b, off + k, none⟩ = some (.string xs[k]) := by
        rw [hb.cell (p := ⟨b, off + k, none⟩) hbB, hc k (by omega), putStr_get xs k hlt]
      have HB := Lib.hid hb
      clear hc hsome hnil hb
      cases hE : strEq a xs[k]
      · have e : Hid ((xs.take (k + 1)).any (strEq a) = false) := (by rw [any_take xs k hlt, Hall.out, hE]; rfl : (xs.take (k + 1)).any (strEq a) = false)
        have t1 := strEq_f hE
        clear hE
        go_wp2_with fail
        go_roundw
        case rel => exact ⟨k + 1, by omega, by go_num, e.out, HB.out⟩
        case measure => simp [intOf]; omega
      · have e : Hid (hasB xs a = true) := (any_at xs k hlt hE : hasB xs a = true)
        have t1 := strEq_t hE
        clear hE
        go_wp2_with fail
        go_ret
        exact ⟨⟨_, rfl, by rw [e.out]; simp⟩, HB.out⟩
    · have e : Hid (hasB xs a = false) := (any_full Hall.out (by omega) : hasB xs a = false)
      have HB := Lib.hid hb; clear hb
      go_wp2
      go_ret
      exact ⟨⟨_, rfl, by rw [e.out]; rfl⟩, HB.out⟩

theorem slices_Contains_str (w : World) (v : Value) (xs : List ByteArray) (a : ByteArray) (h : Rd w.heap.size w v 1 xs.length (xs.flatMap putStr)) (hn : xs.length ≤ 1048576) :
    Calls Try.prog 97 #[v, .string a] w fun e w' => e = .returned (.bool (hasB xs a)) ∧ Below w.heap.size w w' := by
  have H2 := Lib.hid (slices_Index_str w v xs a h hn)
  clear h
  go_enter Try.func97, Try.ntmps97
  go_wp2_with fail
  refine H2.out.mono ?_; rintro e w1 ⟨⟨r, rfl, hr⟩, b1⟩
  have Hr := Lib.hid hr; clear hr
  go_wp2_with fail
  go_ret
  exact ⟨by rw [← Hr.out]; rfl, b1⟩

theorem impl_shares1 (w : World) (a : ByteArray) (g : Nat) (v : Value) (ys : List ByteArray) (hg : w.cell? ⟨g, 1, none⟩ = some v) (h : Rd w.heap.size w v 1 ys.length (ys.flatMap putStr)) (hn : ys.length ≤ 1048576) :
    Calls Try.prog 133 #[.string a, .pointer (some ⟨g, 0, none⟩)] w fun e w' => e = .returned (.bool (hasB ys a)) ∧ Below w.heap.size w w' := by
  have H2 := Lib.hid (slices_Contains_str w v ys a h hn)
  obtain ⟨lo, lc, rfl⟩ := h.form
  clear h
  go_enter Try.func133, Try.ntmps133
  go_wp2_with fail
  refine H2.out.mono ?_; rintro e w1 ⟨rfl, b1⟩
  go_wp2_with fail
  go_ret
  exact ⟨rfl, b1⟩

set_option maxHeartbeats 1000000 in
theorem IndexFunc_shares (g : Nat) (w : World) (v : Value) (xs : List ByteArray) (p : ByteArray → Bool) (h : Rd w.heap.size w v 1 xs.length (xs.flatMap putStr)) (hn : xs.length ≤ 1048576)
    (H : ∀ (wr : World) (hb : Below w.heap.size w wr) (k : Nat) (hk : k < xs.length), Calls Try.prog 133 #[.string xs[k], .pointer (some ⟨g, 0, none⟩)] wr fun e w' => e = .returned (.bool (p xs[k])) ∧ Below wr.heap.size wr w') :
    Calls Try.prog 153 #[v, .func (.func 133) #[] #[.pointer (some ⟨g, 0, none⟩)]] w fun e w' => (∃ r : Int, e = .returned (.int .i64 r) ∧ decide (0 ≤ r) = xs.any p) ∧ Below w.heap.size w w' := by
  obtain ⟨hL, ao, cap, rfl, hcap, hmax, hnil, hsome⟩ := h
  go_enter Try.func153, Try.ntmps153
  have HH := Lib.hid H; clear H
  go_wp2
  go_loopw [8] (fun i wr => ∃ (k : Nat), k ≤ xs.length ∧ i = .int .i64 k ∧ (xs.take k).any p = false ∧ Below w.heap.size w wr) (fun i _ => xs.length - (intOf i).toNat)
  case atStart => exact ⟨0, Nat.zero_le _, rfl, rfl, Below.refl _ _⟩
  case round =>
    obtain ⟨k, hk, rfl, hall, hb⟩ := hrel
    have Hall := Lib.hid hall; clear hall
    by_cases hlt : k < xs.length
    · obtain ⟨b, off, rfl, hbB, hc⟩ := hsome (by omega)
      have c0 : wr.cell? ⟨b, off + k, none⟩ = some (.string xs[k]) := by rw [hb.cell (p := ⟨b, off + k, none⟩) hbB, hc k (by omega), putStr_get xs k hlt]
      have hbr : b < wr.heap.size := Nat.lt_of_lt_of_le hbB hb.size
      have HC := Lib.hid (HH.out wr hb k hlt); clear HH
      have HB := Lib.hid hb
      clear hc hsome hnil hb 
      cases hO : p xs[k]
      all_goals rw [hO] at HC
      · have e : Hid ((xs.take (k + 1)).any p = false) := (by rw [any_take xs k hlt, Hall.out, hO]; rfl : (xs.take (k + 1)).any p = false)
        clear hO
        go_wp2_with fail
        go_at_call 133
        refine HC.out.mono ?_; rintro e1 w1 ⟨rfl, b1⟩
        have HB1 := Lib.hid (HB.out.trans (b1.mono HB.out.size)); clear b1 HB
        go_wp2_with fail
        go_roundw
        case rel => exact ⟨k + 1, by omega, by go_num, e.out, HB1.out⟩
        case measure => simp [intOf]; omega
      · have e : Hid (xs.any p = true) := (any_at xs k hlt hO : xs.any p = true)
        clear hO
        go_wp2_with fail
        go_at_call 133
        refine HC.out.mono ?_; rintro e1 w1 ⟨rfl, b1⟩
        have HB1 := Lib.hid (HB.out.trans (b1.mono HB.out.size)); clear b1 HB
        go_wp2_with fail
        go_ret
        exact ⟨⟨_, rfl, by rw [e.out]; simp⟩, HB1.out⟩
    · have e : Hid (xs.any p = false) := (by
        have := Hall.out
        rwa [List.take_of_length_le (by omega)] at this : xs.any p = false)
      clear HH
      go_wp2
      go_ret
      exact ⟨⟨_, rfl, by rw [e.out]; rfl⟩, hb⟩

theorem ContainsFunc_shares (g : Nat) (w : World) (v : Value) (xs : List ByteArray) (p : ByteArray → Bool) (h : Rd w.heap.size w v 1 xs.length (xs.flatMap putStr)) (hn : xs.length ≤ 1048576)
    (H : ∀ (wr : World) (hb : Below w.heap.size w wr) (k : Nat) (hk : k < xs.length), Calls Try.prog 133 #[.string xs[k], .pointer (some ⟨g, 0, none⟩)] wr fun e w' => e = .returned (.bool (p xs[k])) ∧ Below wr.heap.size wr w') :
    Calls Try.prog 132 #[v, .func (.func 133) #[] #[.pointer (some ⟨g, 0, none⟩)]] w fun e w' => e = .returned (.bool (xs.any p)) ∧ Below w.heap.size w w' := by
  have H2 := Lib.hid (IndexFunc_shares g w v xs p h hn H)
  clear h H
  go_enter Try.func132, Try.ntmps132
  go_wp2_with fail
  refine H2.out.mono ?_; rintro e w1 ⟨⟨r, rfl, hr⟩, b1⟩
  have Hr := Lib.hid hr; clear hr
  go_wp2_with fail
  go_ret
  exact ⟨by rw [← Hr.out]; rfl, b1⟩

set_option maxHeartbeats 1000000 in
theorem impl_shares {b0 : Bool} (x y : Melt) (l1 l2 : Value) (w : World) (h1 : Rd w.heap.size w l1 1 x.ingots.length (x.ingots.flatMap putStr)) (h2 : Rd w.heap.size w l2 1 y.ingots.length (y.ingots.flatMap putStr)) (hn : x.ingots.length ≤ 1048576) (hn2 : y.ingots.length ≤ 1048576) (hb0 : commonB x.ingots y.ingots = b0) :
    Calls Try.prog 84 #[.agg #[.string x.id, l1, .int .i64 x.mass], .agg #[.string y.id, l2, .int .i64 y.mass]] w fun e w' => e = .returned (.bool b0) ∧ Below w.heap.size w w' := by
  subst hb0
  obtain ⟨lo, lc, rfl⟩ := h1.form
  obtain ⟨lo2, lc2, rfl⟩ := h2.form
  have H1 := Lib.hid h1; clear h1
  have H2 := Lib.hid h2; clear h2
  have hM : Hid (Own ((w.alloc (Obj.cells #[Value.string x.id, Value.slice lo x.ingots.length lc, Value.int IntKind.i64 x.mass] 63)).alloc (Obj.cells #[Value.string y.id, Value.slice lo2 y.ingots.length lc2, Value.int IntKind.i64 y.mass] 63)) (w.heap.size + 1) 63 [Value.string y.id, Value.slice lo2 y.ingots.length lc2, Value.int IntKind.i64 y.mass]) :=
    Own.newAt _ _ (by simp)
  go_enter Try.func84, Try.ntmps84
  go_wp2_with fail
  refine (ContainsFunc_shares (w.heap.size + 1) _ _ x.ingots (hasB y.ingots) (by exact H1.out.up (by (repeat' (first | (with_reducible exact Below.refl _ _) | (with_reducible assumption) | (with_reducible refine below_dn ?_ _) | (with_reducible refine Below.drew ?_) | (with_reducible refine Below.alloc ?_ ?_ _) | (with_reducible refine Below.setCell ?_ ?_ _) | go_size)))) hn ?_).mono ?_
  · intro wr hb k hk
    exact impl_shares1 wr _ _ _ y.ingots ((hM.out.below hb hM.out.lt).cell 1) (by exact H2.out.up (Below.trans (by (repeat' (first | (with_reducible exact Below.refl _ _) | (with_reducible assumption) | (with_reducible refine below_dn ?_ _) | (with_reducible refine Below.drew ?_) | (with_reducible refine Below.alloc ?_ ?_ _) | (with_reducible refine Below.setCell ?_ ?_ _) | go_size))) (hb.mono (by simp <;> omega)))) hn2
  rintro e w1 ⟨rfl, b1⟩
  go_wp2_with fail
  go_ret
  exact ⟨rfl, Below.trans (by (repeat' (first | (with_reducible exact Below.refl _ _) | (with_reducible assumption) | (with_reducible refine below_dn ?_ _) | (with_reducible refine Below.drew ?_) | (with_reducible refine Below.alloc ?_ ?_ _) | (with_reducible refine Below.setCell ?_ ?_ _) | go_size))) (b1.mono (by simp <;> omega))⟩
end Go.Proofs.Ytnbodmbagendnaa
