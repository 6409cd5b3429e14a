/- Contracts and plain facts, joined: Choice. -/
import Derived.Test.YtnbodmbagendnaaRows
import Derived.Test.YtnbodmbagendnaaZFnMetalH
import Derived.Test.YtnbodmbagendnaaZFnMetalI
namespace Go.Proofs.Ytnbodmbagendnaa
open Go.ChangeShapes Go.WideShapes Go.ChangeAt Go.RowKit Go.Deep Go.Joins
set_option linter.unusedVariables false
set_option maxRecDepth 100000
set_option linter.unusedSimpArgs false
/-- what 'last' holds -/
def lastC (cs : List Int) (k : Nat) : Int := if k = 0 then -1 else cs[k - 1]?.getD 0
theorem lastC_succ {cs : List Int} {k : Nat} (h : k < cs.length) : lastC cs (k + 1) = cs[k] := by
  unfold lastC
  simp [h]
theorem choice_step {n k : Nat} {cs : List Int} (hall : allK (stepB (okC n) ltC cs) k = true) (hk : k < cs.length) : stepB (okC n) ltC cs k = inB cs[k] (lastC cs k + 1) ((n : Int) - 1) := by
  by_cases h0 : k = 0
  · subst h0
    unfold stepB
    rw [List.getElem?_eq_getElem hk]
    simp [okC, lastC]
  · obtain ⟨m, rfl⟩ : ∃ m, k = m + 1 := ⟨k - 1, by omega⟩
    have h1 := allK_true hall m (by omega)
    have h2 : okC n cs[m] = true := by
      unfold stepB at h1
      rw [List.getElem?_eq_getElem (show m < cs.length by omega)] at h1
      simp only [Bool.and_eq_true] at h1
      exact h1.1
    have h3 := okC_true h2
    have e : lastC cs (m + 1) = cs[m] := lastC_succ (by omega)
    rw [e]
    unfold stepB
    simp only [List.getElem?_eq_getElem hk]
    simp only [List.getElem?_eq_getElem (show m < cs.length by omega)]
    rw [Bool.eq_iff_iff]
    simp only [okC, inB, ltC, Bool.and_eq_true, decide_eq_true_eq]
    omega
theorem lastC_bd {n k : Nat} {cs : List Int} (hall : allK (stepB (okC n) ltC cs) k = true) (hk : k ≤ cs.length) : -1 ≤ lastC cs k ∧ lastC cs k ≤ n := by
  by_cases h0 : k = 0
  · subst h0; simp [lastC]
  · obtain ⟨m, rfl⟩ : ∃ m, k = m + 1 := ⟨k - 1, by omega⟩
    have h1 := allK_true hall m (by omega)
    have h2 : okC n cs[m] = true := by
      unfold stepB at h1
      rw [List.getElem?_eq_getElem (show m < cs.length by omega)] at h1
      simp only [Bool.and_eq_true] at h1
      exact h1.1
    have h3 := okC_true h2
    rw [lastC_succ (by omega)]; omega

set_option maxHeartbeats 2000000 in
theorem impl_sums (w : World) (v c : Value) (xs : List Ingot) (cs : List Int) (h1 : Rd w.heap.size w v 5 xs.length (xs.flatMap Ingot.put)) (h2 : Rd w.heap.size w c 1 cs.length (cs.flatMap putI)) (hn : xs.length ≤ 16) (hv : ∀ x ∈ xs, ingotB x = true) (hch : choiceB xs.length cs = true) :
    Calls Try.prog 142 #[v, c] w fun e w' => e = .returned (.tuple #[.int .i64 (sumK massF xs cs), .int .i64 (sumK tinF xs cs), .int .i64 (sumK otherF xs cs)]) ∧ Below w.heap.size w w' := by
  obtain ⟨hL, ao, cap, rfl, hcap, hmax, hnil, hsome⟩ := h1
  obtain ⟨hL2, ao2, cap2, rfl, hcap2, hmax2, hnil2, hsome2⟩ := h2
  have hcl : cs.length ≤ 16 := Nat.le_trans (choice_len hch) hn
  have HM := Lib.hid (massF_bd hv hcl)
  have HT := Lib.hid (tinF_bd hv hcl)
  have HO := Lib.hid (otherF_bd hv hcl)
  have HV := Lib.hid hv; clear hv
  have HCH := Lib.hid hch; clear hch
  go_enter Try.func142, Try.ntmps142
  go_wp2
  go_loopw [7, 8, 9, 15] (fun m t o i wr => ∃ (k : Nat), k ≤ cs.length ∧ i = .int .i64 k ∧ m = .int .i64 (sumK massF xs (cs.take k)) ∧ t = .int .i64 (sumK tinF xs (cs.take k)) ∧ o = .int .i64 (sumK otherF xs (cs.take k)) ∧ Below w.heap.size w wr) (fun _ _ _ i _ => cs.length - (intOf i).toNat)
  case atStart => exact ⟨0, Nat.zero_le _, rfl, rfl, rfl, rfl, Below.refl _ _⟩
  case round =>
    obtain ⟨k, hk, rfl, rfl, rfl, rfl, hb⟩ := hrel
    by_cases hlt : k < cs.length
    · obtain ⟨j, hj, hjl⟩ := choice_at HCH.out k hlt
      obtain ⟨b, off, rfl, hbB, hc⟩ := hsome (by omega)
      obtain ⟨b2, off2, rfl, hbB2, hc2⟩ := hsome2 (by omega)
      have cc : wr.cell? ⟨b2, off2 + k, none⟩ = some (.int .i64 j) := by
        rw [hb.cell (p := ⟨b2, off2 + k, none⟩) hbB2, hc2 k (by omega), putI_get cs k hlt, hj]
      have c0 : wr.cell? ⟨b, off + j * 5, none⟩ = some (.string xs[j].id) := by
        rw [show off + j * 5 = off + (j * 5 + 0) from by omega, hb.cell (p := ⟨b, off + (j * 5 + 0), none⟩) hbB, hc (j * 5 + 0) (by omega), Ingot_get0 xs j hjl]
      have c1 : wr.cell? ⟨b, off + j * 5 + 1, none⟩ = some (.int .i64 xs[j].mass) := by
        rw [show off + j * 5 + 1 = off + (j * 5 + 1) from by omega, hb.cell (p := ⟨b, off + (j * 5 + 1), none⟩) hbB, hc (j * 5 + 1) (by omega), Ingot_get1 xs j hjl]
      have c2 : wr.cell? ⟨b, off + j * 5 + 2, none⟩ = some (.int .i64 xs[j].alloy.copper) := by
        rw [show off + j * 5 + 2 = off + (j * 5 + 2) from by omega, hb.cell (p := ⟨b, off + (j * 5 + 2), none⟩) hbB, hc (j * 5 + 2) (by omega), Ingot_get2 xs j hjl]
      have c3 : wr.cell? ⟨b, off + j * 5 + 3, none⟩ = some (.int .i64 xs[j].alloy.tin) := by
        rw [show off + j * 5 + 3 = off + (j * 5 + 3) from by omega, hb.cell (p := ⟨b, off + (j * 5 + 3), none⟩) hbB, hc (j * 5 + 3) (by omega), Ingot_get3 xs j hjl]
      have c4 : wr.cell? ⟨b, off + j * 5 + 4, none⟩ = some (.int .i64 xs[j].alloy.other) := by
        rw [show off + j * 5 + 4 = off + (j * 5 + 4) from by omega, hb.cell (p := ⟨b, off + (j * 5 + 4), none⟩) hbB, hc (j * 5 + 4) (by omega), Ingot_get4 xs j hjl]
      have hnu := ingotB_nums (HV.out xs[j] (List.getElem_mem hjl))
      obtain ⟨n1, n2⟩ := part_bd _ _ hnu.1 hnu.2.1
      obtain ⟨n3, n4⟩ := part_bd _ _ hnu.1 hnu.2.2
      obtain ⟨m1, m2⟩ := HM.out k
      obtain ⟨m3, m4⟩ := HT.out k
      obtain ⟨m5, m6⟩ := HO.out k
      have E1 : Hid (sumK massF xs (cs.take (k + 1)) = sumK massF xs (cs.take k) + xs[j].mass) := sumK_succ massF xs cs k hlt j hj hjl
      have E2 : Hid (sumK tinF xs (cs.take (k + 1)) = sumK tinF xs (cs.take k) + xs[j].mass * xs[j].alloy.tin) := sumK_succ tinF xs cs k hlt j hj hjl
      have E3 : Hid (sumK otherF xs (cs.take (k + 1)) = sumK otherF xs (cs.take k) + xs[j].mass * xs[j].alloy.other) := sumK_succ otherF xs cs k hlt j hj hjl
      have hws := hb.size
      have HB := Lib.hid hb
      clear hc hc2 hsome hsome2 hnil hnil2 hj
      generalize sumK massF xs (cs.take k) = S1 at *
      generalize sumK tinF xs (cs.take k) = S2 at *
      generalize sumK otherF xs (cs.take k) = S3 at *
      go_wp2
      go_roundw
      case rel => exact ⟨k + 1, by omega, by go_num, by rw [E1.out], by rw [E2.out], by rw [E3.out], by have hb := HB.out; (repeat' (first | (with_reducible exact Below.refl _ _) | (with_reducible assumption) | (with_reducible refine below_dn ?_ _) | (with_reducible refine Below.drew ?_) | (with_reducible refine Below.alloc ?_ ?_ _) | (with_reducible refine Below.setCell ?_ ?_ _) | go_size))⟩
      case measure => simp [intOf]; omega
    · have e1 : Hid (cs.take k = cs) := (take_all (by omega) : cs.take k = cs)
      have HB := Lib.hid hb
      clear hb
      go_wp2
      go_ret3
      exact ⟨by rw [e1.out]; rfl, HB.out⟩
end Go.Proofs.Ytnbodmbagendnaa
