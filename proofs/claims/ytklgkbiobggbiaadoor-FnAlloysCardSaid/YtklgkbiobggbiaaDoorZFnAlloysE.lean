/- Contracts and plain facts, joined: Choice, VIngot, MixS, MixLaw, Tin, AlloysLaw, DrawI. -/
import Derived.Test.YtklgkbiobggbiaaDoorRows
import Derived.Test.YtklgkbiobggbiaaDoorZFnAlloysD
import Derived.Deep.RegionHeld3
namespace Go.Proofs.YtklgkbiobggbiaaDoor
open Go.ChangeShapes Go.WideShapes Go.ChangeAt Go.RowKit Go.Deep Go.Joins
set_option linter.unusedVariables false
set_option maxRecDepth 100000
set_option linter.unusedSimpArgs false
set_option maxHeartbeats 1000000 in
theorem spec_l00Rises (w : World) (v : Value) (n : Nat) (cs : List Int) (h : Rd w.heap.size w v 1 cs.length (cs.flatMap putI)) (hn : n ≤ 1048576) (hcn : cs.length ≤ 1048576) (hi : ∀ c ∈ cs, I64 c) :
    Calls Tryd.prog 116 #[v, .int .i64 0, .int .i64 ((n : Int) - 1)] w fun e w' => e = .returned (.bool (choiceB n cs)) ∧ Below w.heap.size w w' := by
  obtain ⟨hL, ao, cap, rfl, hcap, hmax, hnil, hsome⟩ := h
  have Hi := Lib.hid hi; clear hi
  go_enter Tryd.func116, Tryd.ntmps116
  go_wp2
  go_loopw [7] (fun i wr => ∃ (k : Nat), k ≤ cs.length ∧ i = .int .i64 k ∧ allK (stepB (okC n) ltC cs) k = true ∧ Below w.heap.size w wr) (fun i _ => cs.length - (intOf i).toNat)
  case atStart => exact ⟨0, Nat.zero_le _, rfl, rfl, Below.refl _ _⟩
  case round =>
    obtain ⟨k, hk, rfl, hall, hb⟩ := hrel
    have Hall := Lib.hid hall; clear hall
    by_cases hlt : k < cs.length
    · obtain ⟨b, off, rfl, hbB, hc⟩ := hsome (by omega)
      have c0 : wr.cell? ⟨b, off + k, none⟩ = some (.int .i64 cs[k]) := by
        rw [hb.cell (p := ⟨b, off + k, none⟩) hbB, hc k (by omega), putI_get cs k hlt]
      have hbr : b < wr.heap.size := Nat.lt_of_lt_of_le hbB hb.size
      have hik := Hi.out cs[k] (List.getElem_mem hlt)
      unfold I64 at hik
      have HS := Lib.hid (allK_succ (stepB (okC n) ltC cs) k)
      have HF := Lib.hid (allK_false (stepB (okC n) ltC cs) cs.length k hlt)
      have HB := Lib.hid hb
      have HC := Lib.hid hc
      clear hc hsome hnil hb
      cases hO : inB cs[k] 0 ((n : Int) - 1)

      · have e : Hid (choiceB n cs = false) := (HF.out (stepB_no hlt hO) : choiceB n cs = false)
        have HO := Lib.hid hO; clear hO
        go_wp2_with fail
        refine wp_region_above (by kernel_rfl) (by kernel_rfl) ?_
        repeat (go_big_quiet_step ((first | (go_at_call 87; exact aboveE (l00In_is _ _ _ _ HO.out)))))
        refine wpQuiet_nil ?_
        intro w1 b1
        have HB1 := Lib.hid (HB.out.trans (b1.mono HB.out.size)); clear b1 HB
        go_wp2_with fail
        go_ret
        exact ⟨by rw [e.out]; rfl, HB1.out⟩
      by_cases hk0 : k = 0
      · have e : Hid (allK (stepB (okC n) ltC cs) (k + 1) = true) := (by rw [HS.out, Hall.out, stepB_k0 hlt hk0 hO]; rfl : allK (stepB (okC n) ltC cs) (k + 1) = true)
        have hz : decide (0 < k) = false := decide_eq_false (by omega)
        clear hk0
        have HO := Lib.hid hO; clear hO
        go_wp2_with fail
        refine wp_region_above (by kernel_rfl) (by kernel_rfl) ?_
        repeat (go_big_quiet_step ((first | (go_at_call 87; exact aboveE (l00In_is _ _ _ _ HO.out)))))
        refine wpQuiet_nil ?_
        intro w1 b1
        have HB1 := Lib.hid (HB.out.trans (b1.mono HB.out.size)); clear b1 HB
        go_wp2_with fail
        go_roundw
        case rel => exact ⟨k + 1, by omega, by go_num, e.out, HB1.out⟩
        case measure => simp [intOf]; omega
      have hpos : 0 < k := by omega
      have hz : decide (0 < k) = true := decide_eq_true (by omega)
      have p0 : wr.cell? ⟨b, off + (k - 1), none⟩ = some (.int .i64 cs[k - 1]) := by
        rw [HB.out.cell (p := ⟨b, off + (k - 1), none⟩) hbB, HC.out (k - 1) (by omega), putI_get cs (k - 1) (by omega)]
      clear hk0
      by_cases hT : cs[k - 1] < cs[k]
      · have e : Hid (allK (stepB (okC n) ltC cs) (k + 1) = true) := (by rw [HS.out, Hall.out, stepB_yes hlt hpos hO (by simpa [ltC] using hT)]; rfl : allK (stepB (okC n) ltC cs) (k + 1) = true)
        have t1 : ¬ cs[k] ≤ cs[k - 1] := by omega
        clear hT
        have HO := Lib.hid hO; clear hO
        go_wp2_with fail
        refine wp_region_above (by kernel_rfl) (by kernel_rfl) ?_
        repeat (go_big_quiet_step ((first | (go_at_call 87; exact aboveE (l00In_is _ _ _ _ HO.out)))))
        refine wpQuiet_nil ?_
        intro w1 b1
        have HB1 := Lib.hid (HB.out.trans (b1.mono HB.out.size)); clear b1 HB
        go_wp2_with fail
        go_roundw
        case rel => exact ⟨k + 1, by omega, by go_num, e.out, HB1.out⟩
        case measure => simp [intOf]; omega
      · have e : Hid (choiceB n cs = false) := (HF.out (stepB_lt hlt hpos hO (by simpa [ltC] using hT)) : choiceB n cs = false)
        have t1 : cs[k] ≤ cs[k - 1] := by omega
        clear hT
        have HO := Lib.hid hO; clear hO
        go_wp2_with fail
        refine wp_region_above (by kernel_rfl) (by kernel_rfl) ?_
        repeat (go_big_quiet_step ((first | (go_at_call 87; exact aboveE (l00In_is _ _ _ _ HO.out)))))
        refine wpQuiet_nil ?_
        intro w1 b1
        have HB1 := Lib.hid (HB.out.trans (b1.mono HB.out.size)); clear b1 HB
        go_wp2_with fail
        go_ret
        exact ⟨by rw [e.out]; rfl, HB1.out⟩
    · have e : Hid (choiceB n cs = true) := (by
        obtain rfl : k = cs.length := by omega
        exact Hall.out : choiceB n cs = true)
      go_wp2
      go_ret
      exact ⟨by rw [e.out]; rfl, hb⟩

theorem impl_size_Ingot (w : World) (ao : Option Addr) (n cap : Nat) (hn : n ≤ 1048576) : Calls Tryd.prog 100 #[.slice ao n cap] w fun e w' => e = .returned (.int .i64 n) ∧ w = w' := by
  go_enter Tryd.func100, Tryd.ntmps100
  go_wp2
  go_ret
  exact ⟨rfl, rfl⟩

/-- what 'last' holds -/
def lastC (cs : List Int) (k : Nat) : Int := if k = 0 then -1 else cs[k - 1]?.getD 0
theorem lastC_succ {cs : List Int} {k : Nat} (h : k < cs.length) : lastC cs (k + 1) = cs[k] := by
  unfold lastC
  simp [h]
theorem choice_step {n k : Nat} {cs : List Int} (hall : allK (stepB (okC n) ltC cs) k = true) (hk : k < cs.length) : stepB (okC n) ltC cs k = inB cs[k] (lastC cs k + 1) ((n : Int) - 1) := by
  by_cases h0 : k = 0
  · subst h0
    unfold stepB
    rw [List.getElem?_eq_getElem hk]
    simp [okC, lastC]
  · obtain ⟨m, rfl⟩ : ∃ m, k = m + 1 := ⟨k - 1, by omega⟩
    have h1 := allK_true hall m (by omega)
    have h2 : okC n cs[m] = true := by
      unfold stepB at h1
      rw [List.getElem?_eq_getElem (show m < cs.length by omega)] at h1
      simp only [Bool.and_eq_true] at h1
      exact h1.1
    have h3 := okC_true h2
    have e : lastC cs (m + 1) = cs[m] := lastC_succ (by omega)
    rw [e]
    unfold stepB
    simp only [List.getElem?_eq_getElem hk]
    simp only [List.getElem?_eq_getElem (show m < cs.length by omega)]
    rw [Bool.eq_iff_iff]
    simp only [okC, inB, ltC, Bool.and_eq_true, decide_eq_true_eq]
    omega
theorem lastC_bd {n k : Nat} {cs : List Int} (hall : allK (stepB (okC n) ltC cs) k = true) (hk : k ≤ cs.length) : -1 ≤ lastC cs k ∧ lastC cs k ≤ n := by
  by_cases h0 : k = 0
  · subst h0; simp [lastC]
  · obtain ⟨m, rfl⟩ : ∃ m, k = m + 1 := ⟨k - 1, by omega⟩
    have h1 := allK_true hall m (by omega)
    have h2 : okC n cs[m] = true := by
      unfold stepB at h1
      rw [List.getElem?_eq_getElem (show m < cs.length by omega)] at h1
      simp only [Bool.and_eq_true] at h1
      exact h1.1
    have h3 := okC_true h2
    rw [lastC_succ (by omega)]; omega

set_option maxHeartbeats 1000000 in
theorem impl_isChoice_is {r : Bool} (w : World) (ao : Option Addr) (n cap : Nat) (c : Value) (cs : List Int) (h : Rd w.heap.size w c 1 cs.length (cs.flatMap putI)) (hn : n ≤ 1048576) (hcn : cs.length ≤ 1048576) (hi : ∀ c ∈ cs, I64 c) (hr : choiceB n cs = r) :
    Calls Tryd.prog 62 #[.slice ao n cap, c] w fun e w' => e = .returned (.bool r) ∧ Below w.heap.size w w' := by
  subst hr
  obtain ⟨hL, ao2, cap2, rfl, hcap, hmax, hnil, hsome⟩ := h
  have Hi := Lib.hid hi; clear hi
  go_enter Tryd.func62, Tryd.ntmps62
  go_wp2
  go_loopw [5, 10] (fun l i wr => ∃ (k : Nat), k ≤ cs.length ∧ i = .int .i64 k ∧ l = .int .i64 (lastC cs k) ∧ allK (stepB (okC n) ltC cs) k = true ∧ Below w.heap.size w wr) (fun _ i _ => cs.length - (intOf i).toNat)
  case atStart => exact ⟨0, Nat.zero_le _, rfl, rfl, rfl, Below.refl _ _⟩
  case round =>
    obtain ⟨k, hk, rfl, rfl, hall, hb⟩ := hrel
    have hlb := lastC_bd hall hk
    by_cases hlt : k < cs.length
    · obtain ⟨b, off, rfl, hbB, hc⟩ := hsome (by omega)
      have c0 : wr.cell? ⟨b, off + k, none⟩ = some (.int .i64 cs[k]) := by
        rw [hb.cell (p := ⟨b, off + k, none⟩) hbB, hc k (by omega), putI_get cs k hlt]
      have hik := Hi.out cs[k] (List.getElem_mem hlt)
      unfold I64 at hik
      have HS := Lib.hid (allK_succ (stepB (okC n) ltC cs) k)
      have HF := Lib.hid (allK_false (stepB (okC n) ltC cs) cs.length k hlt)
      have HST := Lib.hid (choice_step hall hlt)
      have HL := Lib.hid (lastC_succ hlt)
      have Hall := Lib.hid hall
      have HB := Lib.hid hb
      clear hc hsome hnil hb hall
      generalize lastC cs k = la at *
      cases hO : inB cs[k] (la + 1) ((n : Int) - 1)
      · have e : Hid (choiceB n cs = false) := (HF.out (by rw [HST.out, hO]) : choiceB n cs = false)
        have HO := Lib.hid hO; clear hO
        go_wp2_with (first | (go_at_call 100; refine (impl_size_Ingot _ _ _ _ hn).mono ?_; rintro e1 w1 ⟨rfl, rfl⟩) | (go_at_call 70; refine (within_is _ _ _ _ HO.out).mono ?_; rintro e w' ⟨rfl, rfl⟩))
        go_ret
        exact ⟨by rw [e.out]; rfl, HB.out⟩
      · have e : Hid (allK (stepB (okC n) ltC cs) (k + 1) = true) := (by rw [HS.out, Hall.out, HST.out, hO]; rfl : allK (stepB (okC n) ltC cs) (k + 1) = true)
        have HO := Lib.hid hO; clear hO
        go_wp2_with (first | (go_at_call 100; refine (impl_size_Ingot _ _ _ _ hn).mono ?_; rintro e1 w1 ⟨rfl, rfl⟩) | (go_at_call 70; refine (within_is _ _ _ _ HO.out).mono ?_; rintro e w' ⟨rfl, rfl⟩))
        go_roundw
        case rel => exact ⟨k + 1, by omega, by go_num, by rw [HL.out], e.out, HB.out⟩
        case measure => simp [intOf]; omega
    · have e : Hid (choiceB n cs = true) := (by
        obtain rfl : k = cs.length := by omega
        exact hall : choiceB n cs = true)
      have HB := Lib.hid hb
      clear hb hall
      go_wp2
      go_ret
      exact ⟨by rw [e.out]; rfl, HB.out⟩

set_option maxHeartbeats 2000000 in
theorem impl_sums (w : World) (v c : Value) (xs : List Ingot) (cs : List Int) (h1 : Rd w.heap.size w v 5 xs.length (xs.flatMap Ingot.put)) (h2 : Rd w.heap.size w c 1 cs.length (cs.flatMap putI)) (hn : xs.length ≤ 16) (hv : ∀ x ∈ xs, ingotB x = true) (hch : choiceB xs.length cs = true) :
    Calls Tryd.prog 101 #[v, c] w fun e w' => e = .returned (.tuple #[.int .i64 (sumK massF xs cs), .int .i64 (sumK tinF xs cs), .int .i64 (sumK otherF xs cs)]) ∧ Below w.heap.size w w' := by
  obtain ⟨hL, ao, cap, rfl, hcap, hmax, hnil, hsome⟩ := h1
  obtain ⟨hL2, ao2, cap2, rfl, hcap2, hmax2, hnil2, hsome2⟩ := h2
  have hcl : cs.length ≤ 16 := Nat.le_trans (choice_len hch) hn
  have HM := Lib.hid (massF_bd hv hcl)
  have HT := Lib.hid (tinF_bd hv hcl)
  have HO := Lib.hid (otherF_bd hv hcl)
  have HV := Lib.hid hv; clear hv
  have HCH := Lib.hid hch; clear hch
  go_enter Tryd.func101, Tryd.ntmps101
  go_wp2
  go_loopw [7, 8, 9, 15] (fun m t o i wr => ∃ (k : Nat), k ≤ cs.length ∧ i = .int .i64 k ∧ m = .int .i64 (sumK massF xs (cs.take k)) ∧ t = .int .i64 (sumK tinF xs (cs.take k)) ∧ o = .int .i64 (sumK otherF xs (cs.take k)) ∧ Below w.heap.size w wr) (fun _ _ _ i _ => cs.length - (intOf i).toNat)
  case atStart => exact ⟨0, Nat.zero_le _, rfl, rfl, rfl, rfl, Below.refl _ _⟩
  case round =>
    obtain ⟨k, hk, rfl, rfl, rfl, rfl, hb⟩ := hrel
    by_cases hlt : k < cs.length
    · obtain ⟨j, hj, hjl⟩ := choice_at HCH.out k hlt
      obtain ⟨b, off, rfl, hbB, hc⟩ := hsome (by omega)
      obtain ⟨b2, off2, rfl, hbB2, hc2⟩ := hsome2 (by omega)
      have cc : wr.cell? ⟨b2, off2 + k, none⟩ = some (.int .i64 j) := by
        rw [hb.cell (p := ⟨b2, off2 + k, none⟩) hbB2, hc2 k (by omega), putI_get cs k hlt, hj]
      have c0 : wr.cell? ⟨b, off + j * 5, none⟩ = some (.string xs[j].id) := by
        rw [show off + j * 5 = off + (j * 5 + 0) from by omega, hb.cell (p := ⟨b, off + (j * 5 + 0), none⟩) hbB, hc (j * 5 + 0) (by omega), Ingot_get0 xs j hjl]
      have c1 : wr.cell? ⟨b, off + j * 5 + 1, none⟩ = some (.int .i64 xs[j].mass) := by
        rw [show off + j * 5 + 1 = off + (j * 5 + 1) from by omega, hb.cell (p := ⟨b, off + (j * 5 + 1), none⟩) hbB, hc (j * 5 + 1) (by omega), Ingot_get1 xs j hjl]
      have c2 : wr.cell? ⟨b, off + j * 5 + 2, none⟩ = some (.int .i64 xs[j].alloy.copper) := by
        rw [show off + j * 5 + 2 = off + (j * 5 + 2) from by omega, hb.cell (p := ⟨b, off + (j * 5 + 2), none⟩) hbB, hc (j * 5 + 2) (by omega), Ingot_get2 xs j hjl]
      have c3 : wr.cell? ⟨b, off + j * 5 + 3, none⟩ = some (.int .i64 xs[j].alloy.tin) := by
        rw [show off + j * 5 + 3 = off + (j * 5 + 3) from by omega, hb.cell (p := ⟨b, off + (j * 5 + 3), none⟩) hbB, hc (j * 5 + 3) (by omega), Ingot_get3 xs j hjl]
      have c4 : wr.cell? ⟨b, off + j * 5 + 4, none⟩ = some (.int .i64 xs[j].alloy.other) := by
        rw [show off + j * 5 + 4 = off + (j * 5 + 4) from by omega, hb.cell (p := ⟨b, off + (j * 5 + 4), none⟩) hbB, hc (j * 5 + 4) (by omega), Ingot_get4 xs j hjl]
      have hnu := ingotB_nums (HV.out xs[j] (List.getElem_mem hjl))
      obtain ⟨n1, n2⟩ := part_bd _ _ hnu.1 hnu.2.1
      obtain ⟨n3, n4⟩ := part_bd _ _ hnu.1 hnu.2.2
      obtain ⟨m1, m2⟩ := HM.out k
      obtain ⟨m3, m4⟩ := HT.out k
      obtain ⟨m5, m6⟩ := HO.out k
      have E1 : Hid (sumK massF xs (cs.take (k + 1)) = sumK massF xs (cs.take k) + xs[j].mass) := sumK_succ massF xs cs k hlt j hj hjl
      have E2 : Hid (sumK tinF xs (cs.take (k + 1)) = sumK tinF xs (cs.take k) + xs[j].mass * xs[j].alloy.tin) := sumK_succ tinF xs cs k hlt j hj hjl
      have E3 : Hid (sumK otherF xs (cs.take (k + 1)) = sumK otherF xs (cs.take k) + xs[j].mass * xs[j].alloy.other) := sumK_succ otherF xs cs k hlt j hj hjl
      have hws := hb.size
      have HB := Lib.hid hb
      clear hc hc2 hsome hsome2 hnil hnil2 hj
      generalize sumK massF xs (cs.take k) = S1 at *
      generalize sumK tinF xs (cs.take k) = S2 at *
      generalize sumK otherF xs (cs.take k) = S3 at *
      go_wp2
      go_roundw
      case rel => exact ⟨k + 1, by omega, by go_num, by rw [E1.out], by rw [E2.out], by rw [E3.out], by have hb := HB.out; (repeat' (first | (with_reducible exact Below.refl _ _) | (with_reducible assumption) | (with_reducible refine below_dn ?_ _) | (with_reducible refine Below.drew ?_) | (with_reducible refine Below.alloc ?_ ?_ _) | (with_reducible refine Below.setCell ?_ ?_ _) | go_size))⟩
      case measure => simp [intOf]; omega
    · have e1 : Hid (cs.take k = cs) := (take_all (by omega) : cs.take k = cs)
      have HB := Lib.hid hb
      clear hb
      go_wp2
      go_ret3
      exact ⟨by rw [e1.out]; rfl, HB.out⟩
end Go.Proofs.YtklgkbiobggbiaaDoor
namespace Go.Proofs.YtklgkbiobggbiaaDoor
open Go.ChangeShapes Go.WideShapes Go.ChangeAt Go.RowKit Go.Deep Go.Joins
set_option linter.unusedVariables false
set_option maxRecDepth 100000
set_option linter.unusedSimpArgs false
def ltKIngot (y x : Ingot) : Bool := Op.bytesLess y.id.toList x.id.toList
def validIngotS (xs : List Ingot) : Bool := allK (stepB ingotB ltKIngot xs) xs.length && decide (xs.length ≤ 16)

theorem ltKIngot_spec_f {y x : Ingot} (h : ltKIngot y x = false) : (!(Op.bytesLess y.id.toList x.id.toList)) = true := by
  unfold ltKIngot at h; rw [h]; rfl
theorem ltKIngot_spec_t {y x : Ingot} (h : ltKIngot y x = true) : (!(Op.bytesLess y.id.toList x.id.toList)) = false := by
  unfold ltKIngot at h; rw [h]; rfl
theorem ltKIngot_impl_f {y x : Ingot} (h : ltKIngot y x = false) : (Op.bytesLess x.id.toList y.id.toList || x.id.toList == y.id.toList) = true := by
  unfold ltKIngot at h; rw [← not_less, h]; rfl
theorem ltKIngot_impl_t {y x : Ingot} (h : ltKIngot y x = true) : (Op.bytesLess x.id.toList y.id.toList || x.id.toList == y.id.toList) = false := by
  unfold ltKIngot at h; rw [← not_less, h]; rfl

set_option maxHeartbeats 1000000 in
theorem impl_validIngot (w : World) (v : Value) (xs : List Ingot) (h : Rd w.heap.size w v 5 xs.length (xs.flatMap Ingot.put)) (hn : xs.length ≤ 1048576) (hok : ∀ x ∈ xs, x.ok) :
    Calls Tryd.prog 61 #[v] w fun e w' => e = .returned (.bool (validIngotS xs)) ∧ Below w.heap.size w w' := by
  obtain ⟨hL, ao, cap, rfl, hcap, hmax, hnil, hsome⟩ := h
  have Hok := Lib.hid hok; clear hok
  go_enter Tryd.func61, Tryd.ntmps61
  go_wp2
  go_loopw [7] (fun i wr => ∃ (k : Nat), k ≤ xs.length ∧ i = .int .i64 k ∧ allK (stepB ingotB ltKIngot xs) k = true ∧ Below w.heap.size w wr) (fun i _ => xs.length - (intOf i).toNat)
  case atStart => exact ⟨0, Nat.zero_le _, rfl, rfl, Below.refl _ _⟩
  case round =>
    obtain ⟨k, hk, rfl, hall, hb⟩ := hrel
    have Hall := Lib.hid hall; clear hall
    by_cases hlt : k < xs.length
    · obtain ⟨b, off, rfl, hbB, hc⟩ := hsome (by omega)
      have hok := Hok.out
      have c0 : wr.cell? ⟨b, off + k * 5, none⟩ = some (.string xs[k].id) := by
        rw [show off + k * 5 = off + (k * 5 + 0) from by omega, hb.cell (p := ⟨b, off + (k * 5 + 0), none⟩) hbB, hc (k * 5 + 0) (by omega), Ingot_get0 xs k hlt]
      have c1 : wr.cell? ⟨b, off + k * 5 + 1, none⟩ = some (.int .i64 xs[k].mass) := by
        rw [show off + k * 5 + 1 = off + (k * 5 + 1) from by omega, hb.cell (p := ⟨b, off + (k * 5 + 1), none⟩) hbB, hc (k * 5 + 1) (by omega), Ingot_get1 xs k hlt]
      have c2 : wr.cell? ⟨b, off + k * 5 + 2, none⟩ = some (.int .i64 xs[k].alloy.copper) := by
        rw [show off + k * 5 + 2 = off + (k * 5 + 2) from by omega, hb.cell (p := ⟨b, off + (k * 5 + 2), none⟩) hbB, hc (k * 5 + 2) (by omega), Ingot_get2 xs k hlt]
      have c3 : wr.cell? ⟨b, off + k * 5 + 3, none⟩ = some (.int .i64 xs[k].alloy.tin) := by
        rw [show off + k * 5 + 3 = off + (k * 5 + 3) from by omega, hb.cell (p := ⟨b, off + (k * 5 + 3), none⟩) hbB, hc (k * 5 + 3) (by omega), Ingot_get3 xs k hlt]
      have c4 : wr.cell? ⟨b, off + k * 5 + 4, none⟩ = some (.int .i64 xs[k].alloy.other) := by
        rw [show off + k * 5 + 4 = off + (k * 5 + 4) from by omega, hb.cell (p := ⟨b, off + (k * 5 + 4), none⟩) hbB, hc (k * 5 + 4) (by omega), Ingot_get4 xs k hlt]
      have hbr : b < wr.heap.size := Nat.lt_of_lt_of_le hbB hb.size
      have HS := Lib.hid (allK_succ (stepB ingotB ltKIngot xs) k)
      have HF := Lib.hid (allK_false (stepB ingotB ltKIngot xs) xs.length k hlt)
      cases hO : ingotB xs[k]
      · have e : Hid (validIngotS xs = false) := (by unfold validIngotS; rw [HF.out (stepB_no hlt hO)]; rfl : validIngotS xs = false)
        have HB := Lib.hid hb
        clear hc hsome hnil hb hok
        go_wp2_with fail
        refine wp_region_above (by kernel_rfl) (by kernel_rfl) ?_
        repeat (go_big_quiet_step ((first | (go_at_call 33; exact aboveC (impl_validIngot_is xs[k] _ (by assumption) (Hok.out _ (List.getElem_mem hlt)))))))
        refine wpQuiet_nil ?_
        intro w1 b1
        have hsz := HB.out.size
        have HB1 := Lib.hid (HB.out.trans (Below.trans (((Below.refl _ _).alloc hsz _)) (b1.mono (by simp; omega)))); clear b1 HB
        go_wp2_with fail
        go_ret
        exact ⟨by rw [e.out]; rfl, HB1.out⟩
      by_cases hk0 : k = 0
      · have e : Hid (allK (stepB ingotB ltKIngot xs) (k + 1) = true) := (by subst hk0; rw [HS.out, stepB_zero hlt hO]; rfl : allK (stepB ingotB ltKIngot xs) (k + 1) = true)
        have hz : decide (0 < k) = false := decide_eq_false (by omega)
        have HB := Lib.hid hb
        clear hc hsome hnil hb hok hk0
        go_wp2_with fail
        refine wp_region_above (by kernel_rfl) (by kernel_rfl) ?_
        repeat (go_big_quiet_step ((first | (go_at_call 33; exact aboveC (impl_validIngot_is xs[k] _ (by assumption) (Hok.out _ (List.getElem_mem hlt)))))))
        refine wpQuiet_nil ?_
        intro w1 b1
        have hsz := HB.out.size
        have HB1 := Lib.hid (HB.out.trans (Below.trans (((Below.refl _ _).alloc hsz _)) (b1.mono (by simp; omega)))); clear b1 HB
        go_wp2_with fail
        go_roundw
        case rel => exact ⟨k + 1, by omega, by go_num, e.out, HB1.out⟩
        case measure => simp [intOf]; omega
      · have hpos : 0 < k := by omega
        have hz : decide (0 < k) = true := decide_eq_true (by omega)
        have p0 : wr.cell? ⟨b, off + (k - 1) * 5, none⟩ = some (.string xs[k - 1].id) := by
          rw [show off + (k - 1) * 5 = off + ((k - 1) * 5 + 0) from by omega, hb.cell (p := ⟨b, off + ((k - 1) * 5 + 0), none⟩) hbB, hc ((k - 1) * 5 + 0) (by omega), Ingot_get0 xs (k - 1) (by omega)]
        cases hT : ltKIngot xs[k - 1] xs[k]
        · have e : Hid (validIngotS xs = false) := (by unfold validIngotS; rw [HF.out (stepB_lt hlt hpos hO hT)]; rfl : validIngotS xs = false)
          have t1 : ((Op.bytesLess xs[k].id.toList xs[k - 1].id.toList || xs[k].id.toList == xs[k - 1].id.toList)) = true := ltKIngot_impl_f hT
          have HB := Lib.hid hb
          clear hc hsome hnil hb hok hT
          go_wp2_with fail
          refine wp_region_above (by kernel_rfl) (by kernel_rfl) ?_
          repeat (go_big_quiet_step ((first | (go_at_call 33; exact aboveC (impl_validIngot_is xs[k] _ (by assumption) (Hok.out _ (List.getElem_mem hlt)))))))
          refine wpQuiet_nil ?_
          intro w1 b1
          have hsz := HB.out.size
          have HB1 := Lib.hid (HB.out.trans (Below.trans (((Below.refl _ _).alloc hsz _)) (b1.mono (by simp; omega)))); clear b1 HB
          go_wp2_with fail
          go_ret
          exact ⟨by rw [e.out]; rfl, HB1.out⟩
        · have e : Hid (allK (stepB ingotB ltKIngot xs) (k + 1) = true) := (by rw [HS.out, Hall.out, stepB_yes hlt hpos hO hT]; rfl : allK (stepB ingotB ltKIngot xs) (k + 1) = true)
          have t1 : ((Op.bytesLess xs[k].id.toList xs[k - 1].id.toList || xs[k].id.toList == xs[k - 1].id.toList)) = false := ltKIngot_impl_t hT
          have HB := Lib.hid hb
          clear hc hsome hnil hb hok hT
          go_wp2_with fail
          refine wp_region_above (by kernel_rfl) (by kernel_rfl) ?_
          repeat (go_big_quiet_step ((first | (go_at_call 33; exact aboveC (impl_validIngot_is xs[k] _ (by assumption) (Hok.out _ (List.getElem_mem hlt)))))))
          refine wpQuiet_nil ?_
          intro w1 b1
          have hsz := HB.out.size
          have HB1 := Lib.hid (HB.out.trans (Below.trans (((Below.refl _ _).alloc hsz _)) (b1.mono (by simp; omega)))); clear b1 HB
          go_wp2_with fail
          go_roundw
          case rel => exact ⟨k + 1, by omega, by go_num, e.out, HB1.out⟩
          case measure => simp [intOf]; omega
    · have e : Hid (validIngotS xs = decide (xs.length ≤ 16)) := (by
        unfold validIngotS
        obtain rfl : k = xs.length := by omega
        rw [Hall.out]; rfl : validIngotS xs = decide (xs.length ≤ 16))
      go_wp2
      go_ret
      exact ⟨by rw [e.out]; congr 2; simp; try omega, hb⟩
end Go.Proofs.YtklgkbiobggbiaaDoor
namespace Go.Proofs.YtklgkbiobggbiaaDoor
open Go.ChangeShapes Go.WideShapes Go.ChangeAt Go.RowKit Go.Deep Go.Joins
set_option linter.unusedVariables false
set_option maxRecDepth 100000
set_option linter.unusedSimpArgs false
def mixA (xs : List Ingot) (cs : List Int) : Alloy :=
  ⟨1000000 - sumK tinF xs cs / sumK massF xs cs - sumK otherF xs cs / sumK massF xs cs, sumK tinF xs cs / sumK massF xs cs, sumK otherF xs cs / sumK massF xs cs⟩
def mixS (xs : List Ingot) (cs : List Int) : Alloy × Int × Int :=
  if validIngotS xs then if choiceB xs.length cs then if cs.length = 0 then (⟨0, 0, 0⟩, 0, 6) else (mixA xs cs, sumK massF xs cs, 0) else (⟨0, 0, 0⟩, 0, 2) else (⟨0, 0, 0⟩, 0, 1)
theorem validIngotS_true {xs : List Ingot} (h : validIngotS xs = true) : xs.length ≤ 16 ∧ ∀ x ∈ xs, ingotB x = true := by
  simp only [validIngotS, Bool.and_eq_true, decide_eq_true_eq] at h
  refine ⟨h.2, fun x hx => ?_⟩
  obtain ⟨i, hi, rfl⟩ := List.mem_iff_getElem.1 hx
  have := allK_true h.1 i hi
  unfold stepB at this
  rw [List.getElem?_eq_getElem hi] at this
  simp only [Bool.and_eq_true] at this
  exact this.1
theorem impl_ValidIngots_is {r : Bool} (w : World) (v : Value) (xs : List Ingot) (h : Rd w.heap.size w v 5 xs.length (xs.flatMap Ingot.put)) (hn : xs.length ≤ 1048576) (hok : ∀ x ∈ xs, x.ok) (hr : validIngotS xs = r) :
    Calls Tryd.prog 61 #[v] w fun e w' => e = .returned (.bool r) ∧ Below w.heap.size w w' := by
  subst hr; exact impl_validIngot w v xs h hn hok
theorem quot_bd (t m : Int) (h1 : 0 ≤ t ∧ t ≤ 320000000000000) (h2 : 1 ≤ m) : 0 ≤ t / m ∧ t / m ≤ 320000000000000 := by
  refine ⟨Int.ediv_nonneg (by omega) (by omega), ?_⟩
  have := Int.ediv_le_self m h1.1
  omega
end Go.Proofs.YtklgkbiobggbiaaDoor
namespace Go.Proofs.YtklgkbiobggbiaaDoor
open Go.ChangeShapes Go.WideShapes Go.ChangeAt Go.RowKit Go.Deep Go.Joins
set_option linter.unusedVariables false
set_option maxRecDepth 100000
set_option linter.unusedSimpArgs false
theorem sumK_le {f g : Ingot → Int} {xs : List Ingot} (h : ∀ x ∈ xs, f x ≤ g x) : ∀ (cs : List Int), sumK f xs cs ≤ sumK g xs cs
  | [] => by simp [sumK]
  | c :: cs => by
    have ih := sumK_le h cs
    unfold sumK at *
    simp only [List.map_cons, List.sum_cons]
    cases e : xs[c.toNat]? with
    | none => simp; omega
    | some x => have := h x (List.mem_of_getElem? e); simp; omega
theorem sumK_mul (c : Int) (f : Ingot → Int) (xs : List Ingot) : ∀ (cs : List Int), sumK (fun x => f x * c) xs cs = sumK f xs cs * c
  | [] => by simp [sumK]
  | d :: cs => by
    have ih := sumK_mul c f xs cs
    unfold sumK at *
    simp only [List.map_cons, List.sum_cons]
    rw [ih, Int.add_mul]
    cases e : xs[d.toNat]? <;> simp
theorem sumK_two (f g : Ingot → Int) (xs : List Ingot) : ∀ (cs : List Int), sumK (fun x => f x + g x) xs cs = sumK f xs cs + sumK g xs cs
  | [] => by simp [sumK]
  | d :: cs => by
    have ih := sumK_two f g xs cs
    unfold sumK at *
    simp only [List.map_cons, List.sum_cons]
    rw [ih]
    cases e : xs[d.toNat]? <;> simp <;> omega
theorem mass_posM {xs : List Ingot} {cs : List Int} (hv : ∀ x ∈ xs, ingotB x = true) (hch : choiceB xs.length cs = true) (h0 : 0 < cs.length) : 1 ≤ sumK massF xs cs := by
  match cs, h0 with
  | c :: cs, _ =>
    obtain ⟨j, e1, e2⟩ := choice_at hch 0 (by simp)
    have e1 : c = (j : Int) := e1
    have h1 := sumK_bd massF xs 20000000 (by omega) (fun x hx => by have := (ingotB_nums (hv x hx)).1; unfold massF; omega) cs
    have h2 := (ingotB_nums (hv xs[j] (List.getElem_mem e2))).1
    have e : sumK massF xs (c :: cs) = xs[j].mass + sumK massF xs cs := by
      subst e1
      simp [sumK, massF, List.getElem?_eq_getElem e2]
    omega
/-- a mixture of valid alloys is a valid alloy -/
theorem mix_valid {xs : List Ingot} {cs : List Int} (hv : ∀ x ∈ xs, ingotB x = true) (hch : choiceB xs.length cs = true) (h0 : 0 < cs.length) : alloyB (mixA xs cs) = true := by
  unfold mixA
  have hm := mass_posM hv hch h0
  have hs : sumK tinF xs cs + sumK otherF xs cs ≤ sumK massF xs cs * 1000000 := by
    rw [← sumK_two, ← sumK_mul]
    refine sumK_le (fun x hx => ?_) cs
    have h1 := ingotB_nums (hv x hx)
    have h2 := hv x hx
    simp only [ingotB, alloyB, Bool.and_eq_true, decide_eq_true_eq] at h2
    have h3 := inB_true h2.2.2.1
    have h4 : x.alloy.tin + x.alloy.other ≤ 1000000 := by omega
    have := Int.mul_le_mul_of_nonneg_left h4 (show 0 ≤ x.mass by omega)
    show x.mass * x.alloy.tin + x.mass * x.alloy.other ≤ x.mass * 1000000
    rw [← Int.mul_add]; exact this
  have ht : 0 ≤ sumK tinF xs cs := (sumK_bd tinF xs 20000000000000 (by omega) (fun x hx => by have := ingotB_nums (hv x hx); exact part_bd _ _ this.1 this.2.1) cs).1
  have ho : 0 ≤ sumK otherF xs cs := (sumK_bd otherF xs 20000000000000 (by omega) (fun x hx => by have := ingotB_nums (hv x hx); exact part_bd _ _ this.1 this.2.2) cs).1
  generalize sumK massF xs cs = M at *
  generalize sumK tinF xs cs = T at *
  generalize sumK otherF xs cs = O at *
  have a1 : 0 ≤ T / M := Int.ediv_nonneg ht (by omega)
  have a2 : 0 ≤ O / M := Int.ediv_nonneg ho (by omega)
  have b1 : T / M * M ≤ T := Int.ediv_mul_le _ (by omega)
  have b2 : O / M * M ≤ O := Int.ediv_mul_le _ (by omega)
  have b3 : (T / M + O / M) * M ≤ 1000000 * M := by rw [Int.add_mul, Int.mul_comm 1000000]; omega
  have b4 : T / M + O / M ≤ 1000000 := Int.le_of_mul_le_mul_right b3 (by omega)
  simp only [alloyB, Bool.and_eq_true, decide_eq_true_eq]
  exact ⟨inB_mk ⟨by omega, by omega⟩, inB_mk ⟨by omega, by omega⟩, inB_mk ⟨by omega, by omega⟩, by omega⟩
end Go.Proofs.YtklgkbiobggbiaaDoor
namespace Go.Proofs.YtklgkbiobggbiaaDoor
open Go.ChangeShapes Go.WideShapes Go.ChangeAt Go.RowKit Go.Deep Go.Joins
set_option linter.unusedVariables false
set_option maxRecDepth 100000
set_option linter.unusedSimpArgs false
def tinS (x : Ingot) : Int × Int := if ingotB x then (divR (x.mass * x.alloy.tin) 1000000, 0) else (0, 1)
theorem ingotB_true {x : Ingot} (h : ingotB x = true) : nameB x.id = true ∧ (1 ≤ x.mass ∧ x.mass ≤ 20000000) ∧ alloyB x.alloy = true := by
  simp only [ingotB, Bool.and_eq_true] at h
  exact ⟨h.1, inB_true h.2.1, h.2.2⟩
theorem tin_bd {x : Ingot} (h : ingotB x = true) : 0 ≤ x.mass * x.alloy.tin ∧ x.mass * x.alloy.tin ≤ 20000000000000 := by
  obtain ⟨_, h1, h2⟩ := ingotB_true h
  obtain ⟨_, h3, _⟩ := alloyB_true h2
  refine ⟨Int.mul_nonneg (by omega) (by omega), ?_⟩
  have := Int.mul_le_mul h1.2 h3.2 h3.1 (by omega)
  omega

theorem impl_TinOf (x : Ingot) (hx : x.ok) (w : World) : Calls Tryd.prog 25 #[.agg #[.string x.id, .int .i64 x.mass, .int .i64 x.alloy.copper, .int .i64 x.alloy.tin, .int .i64 x.alloy.other]] w fun e w' => e = .returned (.tuple #[.int .i64 (tinS x).1, .int .i64 (tinS x).2]) ∧ Below w.heap.size w w' := by
  have Hx := Lib.hid hx; clear hx
  unfold tinS
  cases h : ingotB x
  · go_enter Tryd.func25, Tryd.ntmps25
    go_wp2_with fail
    refine (impl_validIngot_is x _ h Hx.out).mono ?_; rintro e w1 ⟨rfl, b1⟩
    go_wp2_with fail
    go_ret2
    exact ⟨rfl, Below.trans (by (repeat' (first | (with_reducible exact Below.refl _ _) | (with_reducible assumption) | (with_reducible refine below_dn ?_ _) | (with_reducible refine Below.drew ?_) | (with_reducible refine Below.alloc ?_ ?_ _) | (with_reducible refine Below.setCell ?_ ?_ _) | go_size))) (b1.mono (by simp))⟩
  · obtain ⟨hb1, hb2⟩ := tin_bd h
    go_enter Tryd.func25, Tryd.ntmps25
    go_wp2_with fail
    refine (impl_validIngot_is x _ h Hx.out).mono ?_; rintro e w1 ⟨rfl, b1⟩
    obtain ⟨hc, hf⟩ := bcell b1
    go_wp2_with (go_at_call 59; refine (impl_nearest _ _ _ (by omega) (by omega) (by omega) (by omega)).mono ?_; rintro e w' ⟨rfl, n, rfl⟩)
    go_ret2
    exact ⟨rfl, below_dn (Below.trans (by (repeat' (first | (with_reducible exact Below.refl _ _) | (with_reducible assumption) | (with_reducible refine below_dn ?_ _) | (with_reducible refine Below.drew ?_) | (with_reducible refine Below.alloc ?_ ?_ _) | (with_reducible refine Below.setCell ?_ ?_ _) | go_size))) (b1.mono (by simp))) _⟩
end Go.Proofs.YtklgkbiobggbiaaDoor
namespace Go.Proofs.YtklgkbiobggbiaaDoor
open Go.ChangeShapes Go.WideShapes Go.ChangeAt Go.RowKit Go.Deep Go.Joins
set_option linter.unusedVariables false
set_option maxRecDepth 100000
set_option linter.unusedSimpArgs false
/-- the name of the drawn ingot k -/
def letB (k : Nat) : ByteArray := ⟨#[UInt8.ofNat (97 + k)]⟩
/-- what is known of drawn ingots -/
def drawnI (xs : List Ingot) : Prop := xs.length ≤ 7 ∧ ∀ k (h : k < xs.length), xs[k].id = letB k ∧ (1000 ≤ xs[k].mass ∧ xs[k].mass ≤ 90000) ∧ alloyB xs[k].alloy = true
theorem letB_name : ∀ k, k < 7 → nameB (letB k) = true := by
  intro k hk
  match k, hk with
  | 0, _ => decide
  | 1, _ => decide
  | 2, _ => decide
  | 3, _ => decide
  | 4, _ => decide
  | 5, _ => decide
  | 6, _ => decide
theorem drawn_one {xs : List Ingot} (h : drawnI xs) : ∀ x ∈ xs, ingotB x = true := by
  intro x hx
  obtain ⟨k, hk, rfl⟩ := List.mem_iff_getElem.1 hx
  obtain ⟨h1, h2, h3⟩ := h.2 k hk
  have h7 := h.1
  unfold ingotB
  rw [h1, letB_name k (by omega), h3, inB_mk ⟨by omega, by omega⟩]; rfl
theorem drawn_nil : drawnI [] := ⟨by simp, fun k h => absurd h (by simp)⟩
theorem drawn_snoc {xs : List Ingot} {x : Ingot} (h : drawnI xs) (hl : xs.length < 7) (h1 : x.id = letB xs.length) (h2 : 1000 ≤ x.mass ∧ x.mass ≤ 90000) (h3 : alloyB x.alloy = true) : drawnI (xs ++ [x]) := by
  refine ⟨by simp; omega, fun k hk => ?_⟩
  by_cases q : k < xs.length
  · rw [List.getElem_append_left q]; exact h.2 k q
  · have : k = xs.length := by simp at hk; omega
    subst this
    rw [List.getElem_append_right (Nat.le_refl _)]
    simp only [Nat.sub_self, List.getElem_cons_zero]
    exact ⟨h1, h2, h3⟩
theorem letB_lt (k : Nat) (h : k < 6) : Op.bytesLess (letB k).toList (letB (k + 1)).toList = true := by
  rw [ByteArray.toList_eq, ByteArray.toList_eq]
  match k, h with
  | 0, _ => decide
  | 1, _ => decide
  | 2, _ => decide
  | 3, _ => decide
  | 4, _ => decide
  | 5, _ => decide
theorem drawn_valid {xs : List Ingot} (h : drawnI xs) : validIngotS xs = true := by
  have h7 := h.1
  unfold validIngotS
  rw [Bool.and_eq_true, decide_eq_true_eq]
  refine ⟨allK_intro fun k hk => ?_, by omega⟩
  have ho := drawn_one h xs[k] (List.getElem_mem hk)
  by_cases h0 : 0 < k
  · refine stepB_yes hk h0 ho ?_
    unfold ltKIngot
    obtain ⟨j, rfl⟩ : ∃ j, k = j + 1 := ⟨k - 1, by omega⟩
    show Op.bytesLess xs[j].id.toList xs[j + 1].id.toList = true
    rw [(h.2 (j + 1) hk).1, (h.2 j (by omega)).1]
    exact letB_lt j (by omega)
  · exact stepB_k0 hk (by omega) ho
/-- a list of numbers is read back from its text -/
theorem listL_text {zs : List Int} (h1 : 1 < zs.length) (h2 : zs.length ≤ 64) (hv : zs.all valB = true) : listL (listT zs) = zs := by
  have hp : partsS 44 (listT zs) = zs.map decT := by
    unfold listT
    refine parts_joinT 44 _ (fun q => ?_) fun x hx => ?_
    · have h0 := congrArg List.length q
      rw [List.length_map, List.length_nil] at h0
      omega
    · obtain ⟨y, _, rfl⟩ := List.mem_map.1 hx
      exact decT_free (by decide) (by decide)
  have hd : listT zs ≠ ⟨#[45]⟩ := by
    intro q
    rw [q] at hp
    have e : partsS 44 ⟨#[45]⟩ = [⟨#[45]⟩] := rfl
    rw [e] at hp
    have := congrArg List.length hp
    simp at this
    omega
  refine (listL_some (xs := zs) ?_).1
  rw [listR_word hd, hp, if_neg (by rw [List.length_map]; omega), readN_texts hv]
/-- an ingot is read back from its text -/
theorem ing_back {x : Ingot} (h : ingotB x = true) : ingR (ingT x) = some x := by
  have e : ingT x = x.id ++ ⟨#[32]⟩ ++ listT [x.mass, x.alloy.copper, x.alloy.tin, x.alloy.other] := if_pos h
  have hf := (ingotB_facts h).2
  have hnm : nameB x.id = true := by
    have := h
    unfold ingotB at this
    rw [Bool.and_eq_true] at this
    exact this.1
  have hp := parts_of_two (nameB_free hnm) (listT_free (c := 32) (by decide) (by decide) (by decide) [x.mass, x.alloy.copper, x.alloy.tin, x.alloy.other])
  rw [e, (ingR_two hp).1, listL_text (by simp) (by simp) ?_, ingOf_four, if_pos h]
  rw [List.all_eq_true]
  intro z hz
  have := hf z hz
  exact inB_mk ⟨by omega, by omega⟩
theorem ing_size {x : Ingot} (h : ingotB x = true) : (ingT x).size ≤ 1048576 := by
  have e : ingT x = x.id ++ ⟨#[32]⟩ ++ listT [x.mass, x.alloy.copper, x.alloy.tin, x.alloy.other] := if_pos h
  have hf := ingotB_facts h
  have h2 := joinT_size 44 21 ([x.mass, x.alloy.copper, x.alloy.tin, x.alloy.other].map decT) (fun y hy => by
    obtain ⟨z, hz, rfl⟩ := List.mem_map.1 hy
    have := hf.2 z hz
    exact decT_sizeV ⟨by omega, by omega⟩)
  have h3 : (listT [x.mass, x.alloy.copper, x.alloy.tin, x.alloy.other]).size ≤ 88 := h2
  have h4 : (⟨#[32]⟩ : ByteArray).size = 1 := rfl
  rw [e]
  simp only [ByteArray.size_append]
  omega
theorem tin_law {x : Ingot} (h : ingotB x = true) : (tinS x).2 = 0 ∧ 0 ≤ (tinS x).1 ∧ (tinS x).1 ≤ x.mass := by
  have e : tinS x = (divR (x.mass * x.alloy.tin) 1000000, 0) := if_pos h
  have h0 := ingotB_nums h
  have h1 := tin_bd h
  have h2 : x.mass * x.alloy.tin ≤ x.mass * 1000000 := Int.mul_le_mul_of_nonneg_left h0.2.1.2 (by omega)
  rw [e]
  unfold divR
  generalize x.mass * x.alloy.tin = p at *
  rw [if_neg (by omega)]
  exact ⟨rfl, by show 0 ≤ (2 * p + 1000000) / (2 * 1000000); omega, by show (2 * p + 1000000) / (2 * 1000000) ≤ x.mass; omega⟩
theorem dens_law {a : Alloy} (h : alloyB a = true) : (densS a).2 = 0 ∧ 7310 ≤ (densS a).1 ∧ (densS a).1 ≤ 8960 := by
  have e : densS a = (divR (8960 * a.copper + 7310 * a.tin + 8000 * a.other) 1000000, 0) := if_pos h
  have h0 := alloyB_true h
  rw [e]
  unfold divR
  rw [if_neg (by omega)]
  exact ⟨rfl, by show 7310 ≤ (2 * (8960 * a.copper + 7310 * a.tin + 8000 * a.other) + 1000000) / (2 * 1000000); omega, by show (2 * (8960 * a.copper + 7310 * a.tin + 8000 * a.other) + 1000000) / (2 * 1000000) ≤ 8960; omega⟩
theorem choice_snoc {n : Nat} {cs : List Int} {i : Nat} (h : choiceB n cs = true) (hc : ∀ c ∈ cs, c < (i : Int)) (hi : i < n) : choiceB n (cs ++ [(i : Int)]) = true := by
  unfold choiceB
  refine allK_intro fun k hk => ?_
  have hk' : k ≤ cs.length := by simp at hk; omega
  by_cases q : k < cs.length
  · have h1 := allK_true h k q
    have e : (cs ++ [(i : Int)])[k]? = cs[k]? := List.getElem?_append_left q
    unfold stepB at h1 ⊢
    rw [e]
    match k, q with
    | 0, _ => exact h1
    | j + 1, q =>
      have e2 : (cs ++ [(i : Int)])[j]? = cs[j]? := List.getElem?_append_left (by omega)
      simp only [e2]
      exact h1
  · have e0 : k = cs.length := by omega
    subst e0
    have ho : okC n (cs ++ [(i : Int)])[cs.length] = true := by
      simp only [List.getElem_append_right (Nat.le_refl _), Nat.sub_self, List.getElem_cons_zero]
      exact inB_mk ⟨by omega, by omega⟩
    by_cases h0 : 0 < cs.length
    · refine stepB_yes hk h0 ho ?_
      have e1 : (cs ++ [(i : Int)])[cs.length] = (i : Int) := by simp
      have e2 : (cs ++ [(i : Int)])[cs.length - 1] = cs[cs.length - 1] := List.getElem_append_left (by omega)
      rw [e1, e2]
      exact decide_eq_true (hc _ (List.getElem_mem _))
    · exact stepB_k0 hk (by omega) ho
/-- what has been picked of the first i ingots: their mass, and bounds of their tin -/
def Picked (xs : List Ingot) (i : Nat) (cs : List Int) (m lo hi : Int) : Prop :=
  choiceB xs.length cs = true ∧ (∀ c ∈ cs, c < (i : Int)) ∧ m = sumK massF xs cs ∧ (∀ c ∈ cs, ∃ (j : Nat) (hj : j < xs.length), c = (j : Int) ∧ lo ≤ xs[j].alloy.tin ∧ xs[j].alloy.tin ≤ hi) ∧ (0 ≤ lo ∧ lo ≤ 1000000) ∧ (0 ≤ hi ∧ hi ≤ 1000000) ∧ cs.length ≤ i ∧ (0 ≤ m ∧ m ≤ 90000 * i)
theorem Picked.start (xs : List Ingot) : Picked xs 0 [] 0 1000000 0 := ⟨rfl, by simp, by simp [sumK], by simp, ⟨by omega, by omega⟩, ⟨by omega, by omega⟩, by simp, ⟨by omega, by simp⟩⟩
theorem Picked.skip {xs : List Ingot} {i : Nat} {cs : List Int} {m lo hi : Int} (h : Picked xs i cs m lo hi) : Picked xs (i + 1) cs m lo hi := by
  obtain ⟨h1, h2, h3, h4, h5, h6, h7, h8⟩ := h
  exact ⟨h1, fun c hc => by have := h2 c hc; omega, h3, h4, h5, h6, by omega, by omega⟩
theorem Picked.step {xs : List Ingot} (hd : drawnI xs) {i : Nat} {cs : List Int} {m lo hi lo' hi' : Int} (h : Picked xs i cs m lo hi) (hi2 : i < xs.length) (a1 : lo' ≤ lo) (a2 : lo' ≤ xs[i].alloy.tin) (a3 : hi ≤ hi') (a4 : xs[i].alloy.tin ≤ hi') (a5 : 0 ≤ lo') (a6 : hi' ≤ 1000000) : Picked xs (i + 1) (cs ++ [(i : Int)]) (m + xs[i].mass) lo' hi' := by
  obtain ⟨h1, h2, h3, h4, h5, h6, h7, h8⟩ := h
  have hm := (hd.2 i hi2).2.1
  refine ⟨choice_snoc h1 h2 hi2, fun c hc => ?_, ?_, fun c hc => ?_, ⟨by omega, by omega⟩, ⟨by omega, by omega⟩, by simp; omega, by omega⟩
  · rcases List.mem_append.1 hc with hc | hc
    · have := h2 c hc; omega
    · have : c = (i : Int) := by simpa using hc
      omega
  · unfold sumK at h3 ⊢
    rw [List.map_append, List.sum_append, h3]
    simp [List.getElem?_eq_getElem hi2, massF]
  · rcases List.mem_append.1 hc with hc | hc
    · obtain ⟨j, hj, e, q1, q2⟩ := h4 c hc
      exact ⟨j, hj, e, by omega, by omega⟩
    · have : c = (i : Int) := by simpa using hc
      exact ⟨i, hi2, this, a2, a4⟩
theorem tin_sum {xs : List Ingot} (hv : ∀ x ∈ xs, ingotB x = true) {lo hi : Int} : ∀ (cs : List Int), (∀ c ∈ cs, ∃ (j : Nat) (hj : j < xs.length), c = (j : Int) ∧ lo ≤ xs[j].alloy.tin ∧ xs[j].alloy.tin ≤ hi) → sumK massF xs cs * lo ≤ sumK tinF xs cs ∧ sumK tinF xs cs ≤ sumK massF xs cs * hi
  | [], _ => by simp [sumK]
  | c :: cs, h => by
    have ih := tin_sum hv cs fun d hd => h d (List.mem_cons_of_mem _ hd)
    obtain ⟨j, hj, e, q1, q2⟩ := h c (List.mem_cons_self ..)
    have hn := ingotB_nums (hv xs[j] (List.getElem_mem hj))
    have e1 : ∀ f : Ingot → Int, sumK f xs (c :: cs) = f xs[j] + sumK f xs cs := fun f => by
      subst e
      simp [sumK, List.getElem?_eq_getElem hj]
    have b1 : xs[j].mass * lo ≤ xs[j].mass * xs[j].alloy.tin := Int.mul_le_mul_of_nonneg_left q1 (by omega)
    have b2 : xs[j].mass * xs[j].alloy.tin ≤ xs[j].mass * hi := Int.mul_le_mul_of_nonneg_left q2 (by omega)
    rw [e1, e1, Int.add_mul, Int.add_mul]
    show xs[j].mass * lo + _ ≤ xs[j].mass * xs[j].alloy.tin + _ ∧ xs[j].mass * xs[j].alloy.tin + _ ≤ xs[j].mass * hi + _
    omega
/-- the mixture of what has been picked -/
theorem picked_law {xs : List Ingot} (hd : drawnI xs) {i : Nat} {cs : List Int} {m lo hi : Int} (h : Picked xs i cs m lo hi) (h0 : 0 < cs.length) : mixS xs cs = (mixA xs cs, m, 0) ∧ alloyB (mixA xs cs) = true ∧ lo ≤ (mixA xs cs).tin ∧ (mixA xs cs).tin ≤ hi := by
  obtain ⟨h1, h2, h3, h4, h5, h6, h7, h8⟩ := h
  have hv := drawn_one hd
  have hm := mass_posM hv h1 h0
  have ht := tin_sum hv cs h4
  refine ⟨?_, mix_valid hv h1 h0, ?_, ?_⟩
  · unfold mixS
    rw [if_pos (drawn_valid hd), if_pos h1, if_neg (by omega), h3]
  · show lo ≤ sumK tinF xs cs / sumK massF xs cs
    refine Int.le_ediv_of_mul_le (by omega) ?_
    rw [Int.mul_comm]; exact ht.1
  · show sumK tinF xs cs / sumK massF xs cs ≤ hi
    refine Int.ediv_le_of_le_mul (by omega) ?_
    rw [Int.mul_comm]; exact ht.2
theorem picked_none {xs : List Ingot} (hd : drawnI xs) : mixS xs [] = (⟨0, 0, 0⟩, 0, 6) := by
  unfold mixS
  rw [if_pos (drawn_valid hd)]
  exact (if_pos rfl).trans (if_pos rfl)
end Go.Proofs.YtklgkbiobggbiaaDoor
namespace Go.Proofs.YtklgkbiobggbiaaDoor
open Go.ChangeShapes Go.WideShapes Go.ChangeAt Go.RowKit Go.Deep Go.Joins
set_option linter.unusedVariables false
set_option maxRecDepth 100000
set_option linter.unusedSimpArgs false
theorem alloy_drawn {t o : Int} (ht : t ∈ [(0 : Int), 200000, 220000, 230000, 1000000, 150000]) (ho : (t < 1000000 ∧ o ∈ [(0 : Int), 0, 5000, 20000]) ∨ (¬ t < 1000000 ∧ o = 0)) : alloyB ⟨1000000 - t - o, t, o⟩ = true := by
  have h1 : t = 0 ∨ t = 200000 ∨ t = 220000 ∨ t = 230000 ∨ t = 1000000 ∨ t = 150000 := by simpa using ht
  have h2 : 0 ≤ o ∧ o ≤ 20000 ∧ (¬ t < 1000000 → o = 0) := by
    rcases ho with ⟨_, h⟩ | ⟨_, h⟩
    · have : o = 0 ∨ o = 0 ∨ o = 5000 ∨ o = 20000 := by simpa using h
      omega
    · omega
  simp only [alloyB, Bool.and_eq_true, decide_eq_true_eq]
  exact ⟨inB_mk ⟨by omega, by omega⟩, inB_mk ⟨by omega, by omega⟩, inB_mk ⟨by omega, by omega⟩, by omega⟩
set_option maxHeartbeats 4000000 in
theorem draw_alloy (w : World) (g n : Nat) (h : Src w g n) (hn : n ≤ 1000000) :
    Calls Tryd.prog 95 #[.pointer (some ⟨g, 0, none⟩)] w fun e w' => ∃ a : Alloy, e = .returned (.agg #[.int .i64 a.copper, .int .i64 a.tin, .int .i64 a.other]) ∧ alloyB a = true ∧ Src w' g (n + 4) ∧ Turn g (g + 1) w w' := by
  have hg := h.lt
  obtain ⟨W1, hW1⟩ : ∃ W1, w.alloc (.cells #[.int .i64 0, .int .i64 0, .int .i64 0] 23) = W1 := ⟨_, rfl⟩
  have e1 : W1.heap.size = w.heap.size + 1 := by rw [← hW1]; simp
  obtain ⟨W2, hW2⟩ : ∃ W2, W1.alloc (.cells #[.int .i64 0, .int .i64 200000, .int .i64 220000, .int .i64 230000, .int .i64 1000000, .int .i64 150000] 2) = W2 := ⟨_, rfl⟩
  have e2 : W2.heap.size = w.heap.size + 2 := by rw [← hW2]; simp [e1]
  have T2 : Turn g (g + 1) w W2 := by rw [← hW2, ← hW1]; exact ((Turn.refl _ _ w).allocR _).allocR _
  have R1 : Own W1 w.heap.size 23 [.int .i64 0, .int .i64 0, .int .i64 0] := by rw [← hW1]; exact Own.new w _ _
  have R2 : Own W2 w.heap.size 23 [.int .i64 0, .int .i64 0, .int .i64 0] := by rw [← hW2]; exact R1.alloc _
  have S2 : Src W2 g n := by rw [← hW2, ← hW1]; exact (h.below ((Below.refl _ _).alloc (Nat.le_refl _) _)).below ((Below.refl _ _).alloc (Nat.le_refl _) _)
  have L2 : Rd W2.heap.size W2 (.slice (some ⟨W1.heap.size, 0, none⟩) 6 6) 1 6 ([(0 : Int), 200000, 220000, 230000, 1000000, 150000].flatMap putI) := by
    have o : Own W2 W1.heap.size 2 [.int .i64 0, .int .i64 200000, .int .i64 220000, .int .i64 230000, .int .i64 1000000, .int .i64 150000] := by rw [← hW2]; exact Own.new W1 _ _
    exact o.rd o.lt (n := 6) rfl (by unfold maxLen; omega) _ (Nat.le_refl _) (by unfold maxLen; omega)
  rw [e1] at L2
  have HX := Lib.hid (src_among W2 g n _ _ S2 (by omega) L2 (by decide) (by decide) (by rintro b off l c e; injection e with e _ _; injection e with e; injection e with e; omega))
  have HR2 := Lib.hid R2
  have HT2 := Lib.hid T2
  clear R1 R2 S2 L2 T2 h
  go_enter Tryd.func95, Tryd.ntmps95
  go_wp2_with fail
  refine HX.out.mono ?_; rintro e w3 ⟨t, rfl, ht, s3, t3⟩
  have HTN := Lib.hid ht
  have htb : 0 ≤ t ∧ t ≤ 1000000 := by
    have h1 : t = 0 ∨ t = 200000 ∨ t = 220000 ∨ t = 230000 ∨ t = 1000000 ∨ t = 150000 := by simpa using ht
    omega
  have z3 : W2.heap.size ≤ w3.heap.size := t3.size
  have R3 := Lib.hid (HR2.out.turn t3 (.inr (by omega)))
  have T3 := Lib.hid (HT2.out.trans t3)
  have S3 := Lib.hid s3
  clear ht s3 t3 HX HR2 HT2
  by_cases hlt : t < 1000000
  · have tl : decide (t < 1000000) = true := decide_eq_true hlt
    have R5 : Hid (Own ((w3.alloc (.cells #[.int .i64 0, .int .i64 t, .int .i64 0] 23)).alloc (.cells #[.int .i64 0, .int .i64 0, .int .i64 5000, .int .i64 20000] 2)) w.heap.size 23 [.int .i64 0, .int .i64 0, .int .i64 0]) := Lib.hid ((R3.out.alloc _).alloc _)
    have A5 : Hid (Own ((w3.alloc (.cells #[.int .i64 0, .int .i64 t, .int .i64 0] 23)).alloc (.cells #[.int .i64 0, .int .i64 0, .int .i64 5000, .int .i64 20000] 2)) w3.heap.size 23 [.int .i64 0, .int .i64 t, .int .i64 0]) := Lib.hid ((Own.new w3 _ _).alloc _)
    have T5 : Hid (Turn g (g + 1) w ((w3.alloc (.cells #[.int .i64 0, .int .i64 t, .int .i64 0] 23)).alloc (.cells #[.int .i64 0, .int .i64 0, .int .i64 5000, .int .i64 20000] 2))) := Lib.hid ((T3.out.allocR _).allocR _)
    have S5 : Src ((w3.alloc (.cells #[.int .i64 0, .int .i64 t, .int .i64 0] 23)).alloc (.cells #[.int .i64 0, .int .i64 0, .int .i64 5000, .int .i64 20000] 2)) g (n + 2) := (S3.out.below ((Below.refl _ _).alloc (Nat.le_refl _) _)).below ((Below.refl _ _).alloc (Nat.le_refl _) _)
    have o5 : Own ((w3.alloc (.cells #[.int .i64 0, .int .i64 t, .int .i64 0] 23)).alloc (.cells #[.int .i64 0, .int .i64 0, .int .i64 5000, .int .i64 20000] 2)) (w3.heap.size + 1) 2 [.int .i64 0, .int .i64 0, .int .i64 5000, .int .i64 20000] := Own.newAt _ _ (by simp)
    have L5 : Rd ((w3.alloc (.cells #[.int .i64 0, .int .i64 t, .int .i64 0] 23)).alloc (.cells #[.int .i64 0, .int .i64 0, .int .i64 5000, .int .i64 20000] 2)).heap.size ((w3.alloc (.cells #[.int .i64 0, .int .i64 t, .int .i64 0] 23)).alloc (.cells #[.int .i64 0, .int .i64 0, .int .i64 5000, .int .i64 20000] 2)) (.slice (some ⟨w3.heap.size + 1, 0, none⟩) 4 4) 1 4 ([(0 : Int), 0, 5000, 20000].flatMap putI) := o5.rd o5.lt (n := 4) rfl (by unfold maxLen; omega) _ (Nat.le_refl _) (by unfold maxLen; omega)
    have HX2 := Lib.hid (src_among ((w3.alloc (.cells #[.int .i64 0, .int .i64 t, .int .i64 0] 23)).alloc (.cells #[.int .i64 0, .int .i64 0, .int .i64 5000, .int .i64 20000] 2)) g (n + 2) _ _ S5 (by omega) L5 (by decide) (by decide) (by rintro b off l c e; injection e with e _ _; injection e with e; injection e with e; omega))
    clear L5 S5 o5 R3 T3 S3
    go_wp2_with fail
    refine HX2.out.mono ?_; rintro e w6 ⟨o, rfl, ho, s6, t6⟩
    have HA := Lib.hid (alloy_drawn HTN.out (.inl ⟨hlt, ho⟩))
    have hob : 0 ≤ o ∧ o ≤ 20000 := by
      have h1 : o = 0 ∨ o = 0 ∨ o = 5000 ∨ o = 20000 := by simpa using ho
      omega
    have R6 := Lib.hid (R5.out.turn t6 (.inr (by omega)))
    have A6 := Lib.hid (A5.out.turn t6 (.inr (by omega)))
    have T6 := Lib.hid (T5.out.trans t6)
    have S6 := Lib.hid s6
    clear ho s6 t6 R5 A5 T5 HX2
    have x0 : w6.cell? ⟨w3.heap.size, 0, none⟩ = some (.int .i64 0) := A6.out.cell 0
    have fx0 := A6.out.free 0
    have x1 : w6.cell? ⟨w3.heap.size, 1, none⟩ = some (.int .i64 t) := A6.out.cell 1
    have fx1 := A6.out.free 1
    have x2 : w6.cell? ⟨w3.heap.size, 2, none⟩ = some (.int .i64 0) := A6.out.cell 2
    have fx2 := A6.out.free 2
    have hltx := A6.out.lt
    have r0 : w6.cell? ⟨w.heap.size, 0, none⟩ = some (.int .i64 0) := R6.out.cell 0
    have fr0 := R6.out.free 0
    have r1 : w6.cell? ⟨w.heap.size, 1, none⟩ = some (.int .i64 0) := R6.out.cell 1
    have fr1 := R6.out.free 1
    have r2 : w6.cell? ⟨w.heap.size, 2, none⟩ = some (.int .i64 0) := R6.out.cell 2
    have fr2 := R6.out.free 2
    have hltr := R6.out.lt
    have hne1 : ¬ w.heap.size = w3.heap.size := by omega
    have hne2 : ¬ w3.heap.size = w.heap.size := by omega
    go_wp2_with fail
    refine bodyPost_ret (v := .agg #[.int .i64 (1000000 - t - o), .int .i64 t, .int .i64 o]) (by simp [results, Tryd.results95, go_sem, x0, x1, x2, r0, r1, r2, hltx, hltr, hne1, hne2]) rfl ?_
    refine ⟨⟨1000000 - t - o, t, o⟩, rfl, HA.out, ?_, ?_⟩
    · repeat (refine Src.set ?_ (by omega) _ _)
      exact S6.out
    · repeat (refine Turn.setNew ?_ (by omega) _ _)
      exact T6.out
  · have tl : decide (t < 1000000) = false := decide_eq_false hlt
    have HA := Lib.hid (alloy_drawn HTN.out (.inr ⟨hlt, rfl⟩))
    have RB : Hid (Own (w3.alloc (.cells #[.int .i64 (1000000 - t), .int .i64 t, .int .i64 0] 23)) w.heap.size 23 [.int .i64 0, .int .i64 0, .int .i64 0]) := Lib.hid (R3.out.alloc _)
    have TB : Hid (Turn g (g + 1) w (w3.alloc (.cells #[.int .i64 (1000000 - t), .int .i64 t, .int .i64 0] 23))) := Lib.hid (T3.out.allocR _)
    have SB : Hid (Src (w3.alloc (.cells #[.int .i64 (1000000 - t), .int .i64 t, .int .i64 0] 23)) g (n + 2)) := Lib.hid (S3.out.below ((Below.refl _ _).alloc (Nat.le_refl _) _))
    have r0 : (w3.alloc (.cells #[.int .i64 (1000000 - t), .int .i64 t, .int .i64 0] 23)).cell? ⟨w.heap.size, 0, none⟩ = some (.int .i64 0) := RB.out.cell 0
    have fr0 := RB.out.free 0
    have r1 : (w3.alloc (.cells #[.int .i64 (1000000 - t), .int .i64 t, .int .i64 0] 23)).cell? ⟨w.heap.size, 1, none⟩ = some (.int .i64 0) := RB.out.cell 1
    have fr1 := RB.out.free 1
    have r2 : (w3.alloc (.cells #[.int .i64 (1000000 - t), .int .i64 t, .int .i64 0] 23)).cell? ⟨w.heap.size, 2, none⟩ = some (.int .i64 0) := RB.out.cell 2
    have fr2 := RB.out.free 2
    have hltr := RB.out.lt
    have hne1 : ¬ w.heap.size = w3.heap.size := by omega
    have hne2 : ¬ w3.heap.size = w.heap.size := by omega
    clear R3 T3 S3
    go_wp2_with fail
    refine bodyPost_ret (v := .agg #[.int .i64 (1000000 - t), .int .i64 t, .int .i64 0]) (by simp [results, Tryd.results95, go_sem, r0, r1, r2, hltr, hne1, hne2]) rfl ?_
    refine ⟨⟨1000000 - t - 0, t, 0⟩, by rw [Int.sub_zero], HA.out, ?_, ?_⟩
    · repeat (refine Src.set ?_ (by omega) _ _)
      exact SB.out.mono (by omega)
    · repeat (refine Turn.setNew ?_ (by omega) _ _)
      exact TB.out
def namesI : List ByteArray := [⟨#[97]⟩, ⟨#[98]⟩, ⟨#[99]⟩, ⟨#[100]⟩, ⟨#[101]⟩, ⟨#[102]⟩, ⟨#[103]⟩]
theorem namesI_get (k : Nat) (h : k < namesI.length) : namesI[k] = letB k := by
  have h7 : k < 7 := h
  match k, h7 with
  | 0, _ => rfl
  | 1, _ => rfl
  | 2, _ => rfl
  | 3, _ => rfl
  | 4, _ => rfl
  | 5, _ => rfl
  | 6, _ => rfl
theorem ing_snoc (xs : List Ingot) (a : Ingot) : (xs ++ [a]).flatMap Ingot.put = xs.flatMap Ingot.put ++ [.string a.id, .int .i64 a.mass, .int .i64 a.alloy.copper, .int .i64 a.alloy.tin, .int .i64 a.alloy.other] := by rw [List.flatMap_append]; rfl
end Go.Proofs.YtklgkbiobggbiaaDoor
