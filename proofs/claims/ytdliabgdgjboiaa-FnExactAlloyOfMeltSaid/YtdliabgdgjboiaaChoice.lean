/- Choices of ingots: both sides compute the same. -/
import Derived.Test.YtdliabgdgjboiaaRows
import Derived.Test.YtdliabgdgjboiaaChoiceS
import Derived.Test.YtdliabgdgjboiaaHIngot
namespace Go.Proofs.Ytdliabgdgjboiaa
open Go.ChangeShapes Go.WideShapes Go.ChangeAt Go.RowKit Go.Deep Go.Joins
set_option linter.unusedVariables false
set_option maxRecDepth 100000
set_option linter.unusedSimpArgs false
set_option maxHeartbeats 1000000 in
theorem spec_l00Rises (w : World) (v : Value) (n : Nat) (cs : List Int) (h : Rd w.heap.size w v 1 cs.length (cs.flatMap putI)) (hn : n ≤ 1048576) (hcn : cs.length ≤ 1048576) (hi : ∀ c ∈ cs, I64 c) :
    Calls Try.prog 140 #[v, .int .i64 0, .int .i64 ((n : Int) - 1)] w fun e w' => e = .returned (.bool (choiceB n cs)) ∧ Below w.heap.size w w' := by
  obtain ⟨hL, ao, cap, rfl, hcap, hmax, hnil, hsome⟩ := h
  have Hi := Lib.hid hi; clear hi
  go_enter Try.func140, Try.ntmps140
  go_wp2
  go_loopw [7] (fun i wr => ∃ (k : Nat), k ≤ cs.length ∧ i = .int .i64 k ∧ allK (stepB (okC n) ltC cs) k = true ∧ Below w.heap.size w wr) (fun i _ => cs.length - (intOf i).toNat)
  case atStart => exact ⟨0, Nat.zero_le _, rfl, rfl, Below.refl _ _⟩
  case round =>
    obtain ⟨k, hk, rfl, hall, hb⟩ := hrel
    have Hall := Lib.hid hall; clear hall
    by_cases hlt : k < cs.length
    · obtain ⟨b, off, rfl, hbB, hc⟩ := hsome (by omega)
      have c0 : wr.cell? ⟨b, off + k, none⟩ = some (.int .i64 cs[k]) := by
        rw [hb.cell (p := ⟨b, off + k, none⟩) hbB, hc k (by omega), putI_get cs k hlt]
      have hbr : b < wr.heap.size := Nat.lt_of_lt_of_le hbB hb.size
      have hik := Hi.out cs[k] (List.getElem_mem hlt)
      unfold I64 at hik
      have HS := Lib.hid (allK_succ (stepB (okC n) ltC cs) k)
      have HF := Lib.hid (allK_false (stepB (okC n) ltC cs) cs.length k hlt)
      have HB := Lib.hid hb
      have HC := Lib.hid hc
      clear hc hsome hnil hb
      cases hO : inB cs[k] 0 ((n : Int) - 1)

      · have e : Hid (choiceB n cs = false) := (HF.out (stepB_no hlt hO) : choiceB n cs = false)
        have HO := Lib.hid hO; clear hO
        go_wp2_with fail
        refine wp_region_above (by kernel_rfl) (by kernel_rfl) ?_
        repeat (go_big_quiet_step ((first | (go_at_call 120; exact aboveE (l00In_is _ _ _ _ HO.out)))))
        refine wpQuiet_nil ?_
        intro w1 b1
        have HB1 := Lib.hid (HB.out.trans (b1.mono HB.out.size)); clear b1 HB
        go_wp2_with fail
        go_ret
        exact ⟨by rw [e.out]; rfl, HB1.out⟩
      by_cases hk0 : k = 0
      · have e : Hid (allK (stepB (okC n) ltC cs) (k + 1) = true) := (by rw [HS.out, Hall.out, stepB_k0 hlt hk0 hO]; rfl : allK (stepB (okC n) ltC cs) (k + 1) = true)
        have hz : decide (0 < k) = false := decide_eq_false (by omega)
        clear hk0
        have HO := Lib.hid hO; clear hO
        go_wp2_with fail
        refine wp_region_above (by kernel_rfl) (by kernel_rfl) ?_
        repeat (go_big_quiet_step ((first | (go_at_call 120; exact aboveE (l00In_is _ _ _ _ HO.out)))))
        refine wpQuiet_nil ?_
        intro w1 b1
        have HB1 := Lib.hid (HB.out.trans (b1.mono HB.out.size)); clear b1 HB
        go_wp2_with fail
        go_roundw
        case rel => exact ⟨k + 1, by omega, by go_num, e.out, HB1.out⟩
        case measure => simp [intOf]; omega
      have hpos : 0 < k := by omega
      have hz : decide (0 < k) = true := decide_eq_true (by omega)
      have p0 : wr.cell? ⟨b, off + (k - 1), none⟩ = some (.int .i64 cs[k - 1]) := by
        rw [HB.out.cell (p := ⟨b, off + (k - 1), none⟩) hbB, HC.out (k - 1) (by omega), putI_get cs (k - 1) (by omega)]
      clear hk0
      by_cases hT : cs[k - 1] < cs[k]
      · have e : Hid (allK (stepB (okC n) ltC cs) (k + 1) = true) := (by rw [HS.out, Hall.out, stepB_yes hlt hpos hO (by simpa [ltC] using hT)]; rfl : allK (stepB (okC n) ltC cs) (k + 1) = true)
        have t1 : ¬ cs[k] ≤ cs[k - 1] := by omega
        clear hT
        have HO := Lib.hid hO; clear hO
        go_wp2_with fail
        refine wp_region_above (by kernel_rfl) (by kernel_rfl) ?_
        repeat (go_big_quiet_step ((first | (go_at_call 120; exact aboveE (l00In_is _ _ _ _ HO.out)))))
        refine wpQuiet_nil ?_
        intro w1 b1
        have HB1 := Lib.hid (HB.out.trans (b1.mono HB.out.size)); clear b1 HB
        go_wp2_with fail
        go_roundw
        case rel => exact ⟨k + 1, by omega, by go_num, e.out, HB1.out⟩
        case measure => simp [intOf]; omega
      · have e : Hid (choiceB n cs = false) := (HF.out (stepB_lt hlt hpos hO (by simpa [ltC] using hT)) : choiceB n cs = false)
        have t1 : cs[k] ≤ cs[k - 1] := by omega
        clear hT
        have HO := Lib.hid hO; clear hO
        go_wp2_with fail
        refine wp_region_above (by kernel_rfl) (by kernel_rfl) ?_
        repeat (go_big_quiet_step ((first | (go_at_call 120; exact aboveE (l00In_is _ _ _ _ HO.out)))))
        refine wpQuiet_nil ?_
        intro w1 b1
        have HB1 := Lib.hid (HB.out.trans (b1.mono HB.out.size)); clear b1 HB
        go_wp2_with fail
        go_ret
        exact ⟨by rw [e.out]; rfl, HB1.out⟩
    · have e : Hid (choiceB n cs = true) := (by
        obtain rfl : k = cs.length := by omega
        exact Hall.out : choiceB n cs = true)
      go_wp2
      go_ret
      exact ⟨by rw [e.out]; rfl, hb⟩

theorem spec_l13Chosen_is {r : Bool} (w : World) (ao : Option Addr) (n cap : Nat) (c : Value) (cs : List Int) (h : Rd w.heap.size w c 1 cs.length (cs.flatMap putI)) (hn : n ≤ 1048576) (hcn : cs.length ≤ 1048576) (hi : ∀ c ∈ cs, I64 c) (hr : choiceB n cs = r) :
    Calls Try.prog 101 #[.slice ao n cap, c] w fun e w' => e = .returned (.bool r) ∧ Below w.heap.size w w' := by
  subst hr
  have H := Lib.hid (spec_l00Rises w c n cs h hn hcn hi)
  clear h hi
  go_enter Try.func101, Try.ntmps101
  go_wp2_with fail
  refine H.out.mono ?_; rintro e w1 ⟨rfl, b1⟩
  go_wp2_with fail
  go_ret
  exact ⟨rfl, b1⟩

/-- what 'last' holds -/
def lastC (cs : List Int) (k : Nat) : Int := if k = 0 then -1 else cs[k - 1]?.getD 0
theorem lastC_succ {cs : List Int} {k : Nat} (h : k < cs.length) : lastC cs (k + 1) = cs[k] := by
  unfold lastC
  simp [h]
theorem choice_step {n k : Nat} {cs : List Int} (hall : allK (stepB (okC n) ltC cs) k = true) (hk : k < cs.length) : stepB (okC n) ltC cs k = inB cs[k] (lastC cs k + 1) ((n : Int) - 1) := by
  by_cases h0 : k = 0
  · subst h0
    unfold stepB
    rw [List.getElem?_eq_getElem hk]
    simp [okC, lastC]
  · obtain ⟨m, rfl⟩ : ∃ m, k = m + 1 := ⟨k - 1, by omega⟩
    have h1 := allK_true hall m (by omega)
    have h2 : okC n cs[m] = true := by
      unfold stepB at h1
      rw [List.getElem?_eq_getElem (show m < cs.length by omega)] at h1
      simp only [Bool.and_eq_true] at h1
      exact h1.1
    have h3 := okC_true h2
    have e : lastC cs (m + 1) = cs[m] := lastC_succ (by omega)
    rw [e]
    unfold stepB
    simp only [List.getElem?_eq_getElem hk]
    simp only [List.getElem?_eq_getElem (show m < cs.length by omega)]
    rw [Bool.eq_iff_iff]
    simp only [okC, inB, ltC, Bool.and_eq_true, decide_eq_true_eq]
    omega
theorem lastC_bd {n k : Nat} {cs : List Int} (hall : allK (stepB (okC n) ltC cs) k = true) (hk : k ≤ cs.length) : -1 ≤ lastC cs k ∧ lastC cs k ≤ n := by
  by_cases h0 : k = 0
  · subst h0; simp [lastC]
  · obtain ⟨m, rfl⟩ : ∃ m, k = m + 1 := ⟨k - 1, by omega⟩
    have h1 := allK_true hall m (by omega)
    have h2 : okC n cs[m] = true := by
      unfold stepB at h1
      rw [List.getElem?_eq_getElem (show m < cs.length by omega)] at h1
      simp only [Bool.and_eq_true] at h1
      exact h1.1
    have h3 := okC_true h2
    rw [lastC_succ (by omega)]; omega

set_option maxHeartbeats 2000000 in
theorem spec_l13Sum (w : World) (v c : Value) (xs : List Ingot) (cs : List Int) (h1 : Rd w.heap.size w v 5 xs.length (xs.flatMap Ingot.put)) (h2 : Rd w.heap.size w c 1 cs.length (cs.flatMap putI)) (hn : xs.length ≤ 16) (hv : ∀ x ∈ xs, ingotB x = true) (hch : choiceB xs.length cs = true) :
    Calls Try.prog 102 #[v, c] w fun e w' => e = .returned (.tuple #[.int .i64 (sumK massF xs cs), .int .i64 (sumK tinF xs cs), .int .i64 (sumK otherF xs cs)]) ∧ Below w.heap.size w w' := by
  obtain ⟨hL, ao, cap, rfl, hcap, hmax, hnil, hsome⟩ := h1
  obtain ⟨hL2, ao2, cap2, rfl, hcap2, hmax2, hnil2, hsome2⟩ := h2
  have hcl : cs.length ≤ 16 := Nat.le_trans (choice_len hch) hn
  have HM := Lib.hid (massF_bd hv hcl)
  have HT := Lib.hid (tinF_bd hv hcl)
  have HO := Lib.hid (otherF_bd hv hcl)
  have HV := Lib.hid hv; clear hv
  have HCH := Lib.hid hch; clear hch
  go_enter Try.func102, Try.ntmps102
  go_wp2
  go_loopw [7, 8, 9, 10] (fun m t o i wr => ∃ (k : Nat), k ≤ cs.length ∧ i = .int .i64 k ∧ m = .int .i64 (sumK massF xs (cs.take k)) ∧ t = .int .i64 (sumK tinF xs (cs.take k)) ∧ o = .int .i64 (sumK otherF xs (cs.take k)) ∧ Below w.heap.size w wr) (fun _ _ _ i _ => cs.length - (intOf i).toNat)
  case atStart => exact ⟨0, Nat.zero_le _, rfl, rfl, rfl, rfl, Below.refl _ _⟩
  case round =>
    obtain ⟨k, hk, rfl, rfl, rfl, rfl, hb⟩ := hrel
    by_cases hlt : k < cs.length
    · obtain ⟨j, hj, hjl⟩ := choice_at HCH.out k hlt
      obtain ⟨b, off, rfl, hbB, hc⟩ := hsome (by omega)
      obtain ⟨b2, off2, rfl, hbB2, hc2⟩ := hsome2 (by omega)
      have cc : wr.cell? ⟨b2, off2 + k, none⟩ = some (.int .i64 j) := by
        rw [hb.cell (p := ⟨b2, off2 + k, none⟩) hbB2, hc2 k (by omega), putI_get cs k hlt, hj]
      have c0 : wr.cell? ⟨b, off + j * 5, none⟩ = some (.string xs[j].id) := by
        rw [show off + j * 5 = off + (j * 5 + 0) from by omega, hb.cell (p := ⟨b, off + (j * 5 + 0), none⟩) hbB, hc (j * 5 + 0) (by omega), Ingot_get0 xs j hjl]
      have c1 : wr.cell? ⟨b, off + j * 5 + 1, none⟩ = some (.int .i64 xs[j].mass) := by
        rw [show off + j * 5 + 1 = off + (j * 5 + 1) from by omega, hb.cell (p := ⟨b, off + (j * 5 + 1), none⟩) hbB, hc (j * 5 + 1) (by omega), Ingot_get1 xs j hjl]
      have c2 : wr.cell? ⟨b, off + j * 5 + 2, none⟩ = some (.int .i64 xs[j].alloy.copper) := by
        rw [show off + j * 5 + 2 = off + (j * 5 + 2) from by omega, hb.cell (p := ⟨b, off + (j * 5 + 2), none⟩) hbB, hc (j * 5 + 2) (by omega), Ingot_get2 xs j hjl]
      have c3 : wr.cell? ⟨b, off + j * 5 + 3, none⟩ = some (.int .i64 xs[j].alloy.tin) := by
        rw [show off + j * 5 + 3 = off + (j * 5 + 3) from by omega, hb.cell (p := ⟨b, off + (j * 5 + 3), none⟩) hbB, hc (j * 5 + 3) (by omega), Ingot_get3 xs j hjl]
      have c4 : wr.cell? ⟨b, off + j * 5 + 4, none⟩ = some (.int .i64 xs[j].alloy.other) := by
        rw [show off + j * 5 + 4 = off + (j * 5 + 4) from by omega, hb.cell (p := ⟨b, off + (j * 5 + 4), none⟩) hbB, hc (j * 5 + 4) (by omega), Ingot_get4 xs j hjl]
      have hnu := ingotB_nums (HV.out xs[j] (List.getElem_mem hjl))
      obtain ⟨n1, n2⟩ := part_bd _ _ hnu.1 hnu.2.1
      obtain ⟨n3, n4⟩ := part_bd _ _ hnu.1 hnu.2.2
      obtain ⟨m1, m2⟩ := HM.out k
      obtain ⟨m3, m4⟩ := HT.out k
      obtain ⟨m5, m6⟩ := HO.out k
      have E1 : Hid (sumK massF xs (cs.take (k + 1)) = sumK massF xs (cs.take k) + xs[j].mass) := sumK_succ massF xs cs k hlt j hj hjl
      have E2 : Hid (sumK tinF xs (cs.take (k + 1)) = sumK tinF xs (cs.take k) + xs[j].mass * xs[j].alloy.tin) := sumK_succ tinF xs cs k hlt j hj hjl
      have E3 : Hid (sumK otherF xs (cs.take (k + 1)) = sumK otherF xs (cs.take k) + xs[j].mass * xs[j].alloy.other) := sumK_succ otherF xs cs k hlt j hj hjl
      have hws := hb.size
      have HB := Lib.hid hb
      clear hc hc2 hsome hsome2 hnil hnil2 hj
      generalize sumK massF xs (cs.take k) = S1 at *
      generalize sumK tinF xs (cs.take k) = S2 at *
      generalize sumK otherF xs (cs.take k) = S3 at *
      go_wp2
      go_roundw
      case rel => exact ⟨k + 1, by omega, by go_num, by rw [E1.out], by rw [E2.out], by rw [E3.out], by have hb := HB.out; (repeat' (first | (with_reducible exact Below.refl _ _) | (with_reducible assumption) | (with_reducible refine below_dn ?_ _) | (with_reducible refine Below.drew ?_) | (with_reducible refine Below.alloc ?_ ?_ _) | (with_reducible refine Below.setCell ?_ ?_ _) | go_size))⟩
      case measure => simp [intOf]; omega
    · have e1 : Hid (cs.take k = cs) := (take_all (by omega) : cs.take k = cs)
      have HB := Lib.hid hb
      clear hb
      go_wp2
      go_ret3
      exact ⟨by rw [e1.out]; rfl, HB.out⟩

set_option maxHeartbeats 2000000 in
theorem impl_sums (w : World) (v c : Value) (xs : List Ingot) (cs : List Int) (h1 : Rd w.heap.size w v 5 xs.length (xs.flatMap Ingot.put)) (h2 : Rd w.heap.size w c 1 cs.length (cs.flatMap putI)) (hn : xs.length ≤ 16) (hv : ∀ x ∈ xs, ingotB x = true) (hch : choiceB xs.length cs = true) :
    Calls Try.prog 114 #[v, c] w fun e w' => e = .returned (.tuple #[.int .i64 (sumK massF xs cs), .int .i64 (sumK tinF xs cs), .int .i64 (sumK otherF xs cs)]) ∧ Below w.heap.size w w' := by
  obtain ⟨hL, ao, cap, rfl, hcap, hmax, hnil, hsome⟩ := h1
  obtain ⟨hL2, ao2, cap2, rfl, hcap2, hmax2, hnil2, hsome2⟩ := h2
  have hcl : cs.length ≤ 16 := Nat.le_trans (choice_len hch) hn
  have HM := Lib.hid (massF_bd hv hcl)
  have HT := Lib.hid (tinF_bd hv hcl)
  have HO := Lib.hid (otherF_bd hv hcl)
  have HV := Lib.hid hv; clear hv
  have HCH := Lib.hid hch; clear hch
  go_enter Try.func114, Try.ntmps114
  go_wp2
  go_loopw [7, 8, 9, 15] (fun m t o i wr => ∃ (k : Nat), k ≤ cs.length ∧ i = .int .i64 k ∧ m = .int .i64 (sumK massF xs (cs.take k)) ∧ t = .int .i64 (sumK tinF xs (cs.take k)) ∧ o = .int .i64 (sumK otherF xs (cs.take k)) ∧ Below w.heap.size w wr) (fun _ _ _ i _ => cs.length - (intOf i).toNat)
  case atStart => exact ⟨0, Nat.zero_le _, rfl, rfl, rfl, rfl, Below.refl _ _⟩
  case round =>
    obtain ⟨k, hk, rfl, rfl, rfl, rfl, hb⟩ := hrel
    by_cases hlt : k < cs.length
    · obtain ⟨j, hj, hjl⟩ := choice_at HCH.out k hlt
      obtain ⟨b, off, rfl, hbB, hc⟩ := hsome (by omega)
      obtain ⟨b2, off2, rfl, hbB2, hc2⟩ := hsome2 (by omega)
      have cc : wr.cell? ⟨b2, off2 + k, none⟩ = some (.int .i64 j) := by
        rw [hb.cell (p := ⟨b2, off2 + k, none⟩) hbB2, hc2 k (by omega), putI_get cs k hlt, hj]
      have c0 : wr.cell? ⟨b, off + j * 5, none⟩ = some (.string xs[j].id) := by
        rw [show off + j * 5 = off + (j * 5 + 0) from by omega, hb.cell (p := ⟨b, off + (j * 5 + 0), none⟩) hbB, hc (j * 5 + 0) (by omega), Ingot_get0 xs j hjl]
      have c1 : wr.cell? ⟨b, off + j * 5 + 1, none⟩ = some (.int .i64 xs[j].mass) := by
        rw [show off + j * 5 + 1 = off + (j * 5 + 1) from by omega, hb.cell (p := ⟨b, off + (j * 5 + 1), none⟩) hbB, hc (j * 5 + 1) (by omega), Ingot_get1 xs j hjl]
      have c2 : wr.cell? ⟨b, off + j * 5 + 2, none⟩ = some (.int .i64 xs[j].alloy.copper) := by
        rw [show off + j * 5 + 2 = off + (j * 5 + 2) from by omega, hb.cell (p := ⟨b, off + (j * 5 + 2), none⟩) hbB, hc (j * 5 + 2) (by omega), Ingot_get2 xs j hjl]
      have c3 : wr.cell? ⟨b, off + j * 5 + 3, none⟩ = some (.int .i64 xs[j].alloy.tin) := by
        rw [show off + j * 5 + 3 = off + (j * 5 + 3) from by omega, hb.cell (p := ⟨b, off + (j * 5 + 3), none⟩) hbB, hc (j * 5 + 3) (by omega), Ingot_get3 xs j hjl]
      have c4 : wr.cell? ⟨b, off + j * 5 + 4, none⟩ = some (.int .i64 xs[j].alloy.other) := by
        rw [show off + j * 5 + 4 = off + (j * 5 + 4) from by omega, hb.cell (p := ⟨b, off + (j * 5 + 4), none⟩) hbB, hc (j * 5 + 4) (by omega), Ingot_get4 xs j hjl]
      have hnu := ingotB_nums (HV.out xs[j] (List.getElem_mem hjl))
      obtain ⟨n1, n2⟩ := part_bd _ _ hnu.1 hnu.2.1
      obtain ⟨n3, n4⟩ := part_bd _ _ hnu.1 hnu.2.2
      obtain ⟨m1, m2⟩ := HM.out k
      obtain ⟨m3, m4⟩ := HT.out k
      obtain ⟨m5, m6⟩ := HO.out k
      have E1 : Hid (sumK massF xs (cs.take (k + 1)) = sumK massF xs (cs.take k) + xs[j].mass) := sumK_succ massF xs cs k hlt j hj hjl
      have E2 : Hid (sumK tinF xs (cs.take (k + 1)) = sumK tinF xs (cs.take k) + xs[j].mass * xs[j].alloy.tin) := sumK_succ tinF xs cs k hlt j hj hjl
      have E3 : Hid (sumK otherF xs (cs.take (k + 1)) = sumK otherF xs (cs.take k) + xs[j].mass * xs[j].alloy.other) := sumK_succ otherF xs cs k hlt j hj hjl
      have hws := hb.size
      have HB := Lib.hid hb
      clear hc hc2 hsome hsome2 hnil hnil2 hj
      generalize sumK massF xs (cs.take k) = S1 at *
      generalize sumK tinF xs (cs.take k) = S2 at *
      generalize sumK otherF xs (cs.take k) = S3 at *
      go_wp2
      go_roundw
      case rel => exact ⟨k + 1, by omega, by go_num, by rw [E1.out], by rw [E2.out], by rw [E3.out], by have hb := HB.out; (repeat' (first | (with_reducible exact Below.refl _ _) | (with_reducible assumption) | (with_reducible refine below_dn ?_ _) | (with_reducible refine Below.drew ?_) | (with_reducible refine Below.alloc ?_ ?_ _) | (with_reducible refine Below.setCell ?_ ?_ _) | go_size))⟩
      case measure => simp [intOf]; omega
    · have e1 : Hid (cs.take k = cs) := (take_all (by omega) : cs.take k = cs)
      have HB := Lib.hid hb
      clear hb
      go_wp2
      go_ret3
      exact ⟨by rw [e1.out]; rfl, HB.out⟩
end Go.Proofs.Ytdliabgdgjboiaa
