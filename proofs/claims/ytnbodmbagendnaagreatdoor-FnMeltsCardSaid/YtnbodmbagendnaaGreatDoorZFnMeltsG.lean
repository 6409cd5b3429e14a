/- Contracts and plain facts, joined: ChoiceS, HAlloy, HIngot, Choice. -/
import Derived.Test.YtnbodmbagendnaaGreatDoorRows
import Derived.Test.YtnbodmbagendnaaGreatDoorZFnMeltsC
import Derived.Test.YtnbodmbagendnaaGreatDoorZFnMeltsD
import Derived.Test.YtnbodmbagendnaaGreatDoorZFnMeltsE
import Derived.Test.YtnbodmbagendnaaGreatDoorZFnMeltsF
namespace Go.Proofs.YtnbodmbagendnaaGreatDoor
open Go.ChangeShapes Go.WideShapes Go.ChangeAt Go.RowKit Go.Deep Go.Joins
set_option linter.unusedVariables false
set_option maxRecDepth 100000
set_option linter.unusedSimpArgs false
def okC (n : Nat) (c : Int) : Bool := inB c 0 ((n : Int) - 1)
def ltC (a b : Int) : Bool := decide (a < b)
def choiceB (n : Nat) (cs : List Int) : Bool := allK (stepB (okC n) ltC cs) cs.length
theorem okC_true {n : Nat} {c : Int} (h : okC n c = true) : 0 ≤ c ∧ c ≤ (n : Int) - 1 := inB_true h
theorem choice_rises {n : Nat} {cs : List Int} (h : choiceB n cs = true) (k : Nat) (hk : k < cs.length) : okC n cs[k] = true := by
  have := allK_true h k hk
  unfold stepB at this
  rw [List.getElem?_eq_getElem hk] at this
  simp only [Bool.and_eq_true] at this
  exact this.1
theorem choice_less {n : Nat} {cs : List Int} (h : choiceB n cs = true) (k : Nat) (hk : k + 1 < cs.length) : cs[k] < cs[k + 1] := by
  have h1 := allK_true h (k + 1) hk
  rw [stepB_pos hk (by omega) (choice_rises h (k + 1) hk)] at h1
  simpa [ltC] using h1
theorem choice_ge {n : Nat} {cs : List Int} (h : choiceB n cs = true) : ∀ (k : Nat) (hk : k < cs.length), (k : Int) ≤ cs[k]
  | 0, hk => by have := okC_true (choice_rises h 0 hk); omega
  | k + 1, hk => by
    have h1 := choice_ge h k (by omega)
    have h2 := choice_less h k hk
    omega
theorem choice_len {n : Nat} {cs : List Int} (h : choiceB n cs = true) : cs.length ≤ n := by
  rcases Nat.eq_zero_or_pos cs.length with h0 | h0
  · omega
  · have h1 := choice_ge h (cs.length - 1) (by omega)
    have h2 := okC_true (choice_rises h (cs.length - 1) (by omega))
    omega
theorem choice_at {n : Nat} {cs : List Int} (h : choiceB n cs = true) (k : Nat) (hk : k < cs.length) : ∃ j : Nat, cs[k] = (j : Int) ∧ j < n := by
  have := okC_true (choice_rises h k hk)
  exact ⟨cs[k].toNat, by omega, by omega⟩

/-- a sum over chosen ingots -/
def sumK (f : Ingot → Int) (xs : List Ingot) (cs : List Int) : Int := (cs.map fun c => (xs[c.toNat]?).elim 0 f).sum
theorem sumK_succ (f : Ingot → Int) (xs : List Ingot) (cs : List Int) (k : Nat) (hk : k < cs.length) (j : Nat) (hj : cs[k] = (j : Int)) (hl : j < xs.length) : sumK f xs (cs.take (k + 1)) = sumK f xs (cs.take k) + f xs[j] := by
  unfold sumK
  rw [List.take_succ_eq_append_getElem hk, List.map_append, List.sum_append, hj]
  simp [List.getElem?_eq_getElem hl]
theorem sumK_bd (f : Ingot → Int) (xs : List Ingot) (m : Int) (hm : 0 ≤ m) (hf : ∀ x ∈ xs, 0 ≤ f x ∧ f x ≤ m) : ∀ (cs : List Int), 0 ≤ sumK f xs cs ∧ sumK f xs cs ≤ cs.length * m
  | [] => by simp [sumK]
  | c :: cs => by
    have ih := sumK_bd f xs m hm hf cs
    have h1 : 0 ≤ (xs[c.toNat]?).elim 0 f ∧ (xs[c.toNat]?).elim 0 f ≤ m := by
      cases h : xs[c.toNat]? with
      | none => simp [hm]
      | some x => exact hf x (List.mem_of_getElem? h)
    have e : sumK f xs (c :: cs) = (xs[c.toNat]?).elim 0 f + sumK f xs cs := by simp [sumK]
    have e2 : (((c :: cs).length : Nat) : Int) * m = cs.length * m + m := by
      rw [List.length_cons]; push_cast; rw [Int.add_mul]; omega
    rw [e, e2]; omega
def massF (x : Ingot) : Int := x.mass
def tinF (x : Ingot) : Int := x.mass * x.alloy.tin
def otherF (x : Ingot) : Int := x.mass * x.alloy.other
theorem part_bd (m t : Int) (h1 : 1 ≤ m ∧ m ≤ 20000000) (h2 : 0 ≤ t ∧ t ≤ 1000000) : 0 ≤ m * t ∧ m * t ≤ 20000000000000 := by
  refine ⟨Int.mul_nonneg (by omega) (by omega), ?_⟩
  have := Int.mul_le_mul h1.2 h2.2 h2.1 (by omega)
  omega
theorem ingotB_nums {x : Ingot} (h : ingotB x = true) : (1 ≤ x.mass ∧ x.mass ≤ 20000000) ∧ (0 ≤ x.alloy.tin ∧ x.alloy.tin ≤ 1000000) ∧ (0 ≤ x.alloy.other ∧ x.alloy.other ≤ 1000000) := by
  simp only [ingotB, Bool.and_eq_true, alloyB] at h
  exact ⟨inB_true h.2.1, inB_true h.2.2.2.1, inB_true h.2.2.2.2.1⟩
theorem sum_len {cs : List Int} {k : Nat} (hc : cs.length ≤ 16) (b m S : Int) (hS : S ≤ ((cs.take k).length : Nat) * m) (hm : 0 ≤ m) (hb : 16 * m ≤ b) : S ≤ b := by
  have h1 : ((cs.take k).length : Int) ≤ 16 := by have := List.length_take_le k cs; have : (cs.take k).length ≤ cs.length := by rw [List.length_take]; omega
                                                  omega
  have h2 : ((cs.take k).length : Int) * m ≤ 16 * m := Int.mul_le_mul_of_nonneg_right h1 hm
  omega
theorem massF_bd {xs : List Ingot} (hv : ∀ x ∈ xs, ingotB x = true) {cs : List Int} (hc : cs.length ≤ 16) (k : Nat) : 0 ≤ sumK massF xs (cs.take k) ∧ sumK massF xs (cs.take k) ≤ 320000000 := by
  have h := sumK_bd massF xs 20000000 (by omega) (fun x hx => by have := (ingotB_nums (hv x hx)).1; unfold massF; omega) (cs.take k)
  exact ⟨h.1, sum_len hc _ _ _ h.2 (by omega) (by omega)⟩
theorem tinF_bd {xs : List Ingot} (hv : ∀ x ∈ xs, ingotB x = true) {cs : List Int} (hc : cs.length ≤ 16) (k : Nat) : 0 ≤ sumK tinF xs (cs.take k) ∧ sumK tinF xs (cs.take k) ≤ 320000000000000 := by
  have h := sumK_bd tinF xs 20000000000000 (by omega) (fun x hx => by have := ingotB_nums (hv x hx); exact part_bd _ _ this.1 this.2.1) (cs.take k)
  exact ⟨h.1, sum_len hc _ _ _ h.2 (by omega) (by omega)⟩
theorem otherF_bd {xs : List Ingot} (hv : ∀ x ∈ xs, ingotB x = true) {cs : List Int} (hc : cs.length ≤ 16) (k : Nat) : 0 ≤ sumK otherF xs (cs.take k) ∧ sumK otherF xs (cs.take k) ≤ 320000000000000 := by
  have h := sumK_bd otherF xs 20000000000000 (by omega) (fun x hx => by have := ingotB_nums (hv x hx); exact part_bd _ _ this.1 this.2.2) (cs.take k)
  exact ⟨h.1, sum_len hc _ _ _ h.2 (by omega) (by omega)⟩
theorem take_all {α : Type} {cs : List α} {k : Nat} (h : cs.length ≤ k) : cs.take k = cs := List.take_of_length_le h
/-- the mass of a choice that is not empty is not 0 -/
theorem mass_pos {xs : List Ingot} (hv : ∀ x ∈ xs, ingotB x = true) {cs : List Int} (hc : choiceB xs.length cs = true) (h0 : 0 < cs.length) : 1 ≤ sumK massF xs cs := by
  obtain ⟨j, hj, hl⟩ := choice_at hc 0 h0
  have hs := sumK_succ massF xs cs 0 h0 j hj hl
  have h1 := (ingotB_nums (hv xs[j] (List.getElem_mem hl))).1
  have hr : sumK massF xs cs = sumK massF xs (cs.take 1) + sumK massF xs (cs.drop 1) := by
    unfold sumK; rw [← List.sum_append, ← List.map_append, List.take_append_drop]
  have h2 := (sumK_bd massF xs 20000000 (by omega) (fun x hx => by have := (ingotB_nums (hv x hx)).1; unfold massF; omega) (cs.drop 1)).1
  have e0 : sumK massF xs (cs.take 0) = 0 := rfl
  have e1 : massF xs[j] = xs[j].mass := rfl
  rw [hr, hs, e0, e1]; omega

def fitsB (d : Demand) (m t o : Int) : Bool := inB m d.least d.most && (inB t (d.minTin * m) (d.maxTin * m) && decide (o ≤ d.other * m))
end Go.Proofs.YtnbodmbagendnaaGreatDoor
namespace Go.Proofs.YtnbodmbagendnaaGreatDoor
open Go.ChangeShapes Go.WideShapes Go.ChangeAt Go.RowKit Go.Deep Go.Joins
set_option linter.unusedVariables false
set_option maxRecDepth 100000
set_option linter.unusedSimpArgs false

end Go.Proofs.YtnbodmbagendnaaGreatDoor
namespace Go.Proofs.YtnbodmbagendnaaGreatDoor
open Go.ChangeShapes Go.WideShapes Go.ChangeAt Go.RowKit Go.Deep Go.Joins
set_option linter.unusedVariables false
set_option maxRecDepth 100000
set_option linter.unusedSimpArgs false
theorem Ingot_len (xs : List Ingot) : (xs.flatMap Ingot.put).length = xs.length * 5 := flat_len xs (fun _ _ => rfl)
theorem Ingot_get0 (xs : List Ingot) (k : Nat) (h : k < xs.length) : (xs.flatMap Ingot.put)[k * 5 + 0]? = some (.string xs[k].id) := by
  rw [flat_get (f := Ingot.put) (s := 5) xs (fun _ _ => rfl) (j := 0) (by omega) k, List.getElem?_eq_getElem h]
  rfl
theorem Ingot_get1 (xs : List Ingot) (k : Nat) (h : k < xs.length) : (xs.flatMap Ingot.put)[k * 5 + 1]? = some (.int .i64 xs[k].mass) := by
  rw [flat_get (f := Ingot.put) (s := 5) xs (fun _ _ => rfl) (j := 1) (by omega) k, List.getElem?_eq_getElem h]
  rfl
theorem Ingot_get2 (xs : List Ingot) (k : Nat) (h : k < xs.length) : (xs.flatMap Ingot.put)[k * 5 + 2]? = some (.int .i64 xs[k].alloy.copper) := by
  rw [flat_get (f := Ingot.put) (s := 5) xs (fun _ _ => rfl) (j := 2) (by omega) k, List.getElem?_eq_getElem h]
  rfl
theorem Ingot_get3 (xs : List Ingot) (k : Nat) (h : k < xs.length) : (xs.flatMap Ingot.put)[k * 5 + 3]? = some (.int .i64 xs[k].alloy.tin) := by
  rw [flat_get (f := Ingot.put) (s := 5) xs (fun _ _ => rfl) (j := 3) (by omega) k, List.getElem?_eq_getElem h]
  rfl
theorem Ingot_get4 (xs : List Ingot) (k : Nat) (h : k < xs.length) : (xs.flatMap Ingot.put)[k * 5 + 4]? = some (.int .i64 xs[k].alloy.other) := by
  rw [flat_get (f := Ingot.put) (s := 5) xs (fun _ _ => rfl) (j := 4) (by omega) k, List.getElem?_eq_getElem h]
  rfl
theorem Ingot_info : (Tryz.prog.info? 77).map (fun i => (i.zero, i.size, i.bytes)) = some (some (.agg #[.string ByteArray.empty, .int .i64 0, .int .i64 0, .int .i64 0, .int .i64 0]), 5, 48) := by kernel_rfl

def wtIngot (xs : List Ingot) : Nat := (xs.map fun x => x.id.size).sum
theorem wtIngot_succ (xs : List Ingot) (k : Nat) (h : k < xs.length) : wtIngot (xs.take (k + 1)) = wtIngot (xs.take k) + xs[k].id.size := by
  unfold wtIngot
  rw [List.take_succ_eq_append_getElem h, List.map_append, List.sum_append]
  simp only [List.map_cons, List.map_nil, List.sum_cons, List.sum_nil, Nat.add_zero]
theorem wtIngot_le (xs : List Ingot) (k : Nat) : wtIngot (xs.take k) ≤ wtIngot xs := by
  have h : wtIngot xs = wtIngot (xs.take k) + wtIngot (xs.drop k) := by
    unfold wtIngot
    rw [← List.sum_append, ← List.map_append, List.take_append_drop]
  omega
theorem wtIngot_mem (xs : List Ingot) (x : Ingot) (h : x ∈ xs) : x.id.size ≤ wtIngot xs := by
  unfold wtIngot
  exact le_sum_of (List.mem_map.2 ⟨x, h, rfl⟩)
end Go.Proofs.YtnbodmbagendnaaGreatDoor
namespace Go.Proofs.YtnbodmbagendnaaGreatDoor
open Go.ChangeShapes Go.WideShapes Go.ChangeAt Go.RowKit Go.Deep Go.Joins
set_option linter.unusedVariables false
set_option maxRecDepth 100000
set_option linter.unusedSimpArgs false
/-- what 'last' holds -/
def lastC (cs : List Int) (k : Nat) : Int := if k = 0 then -1 else cs[k - 1]?.getD 0
theorem lastC_succ {cs : List Int} {k : Nat} (h : k < cs.length) : lastC cs (k + 1) = cs[k] := by
  unfold lastC
  simp [h]
theorem choice_step {n k : Nat} {cs : List Int} (hall : allK (stepB (okC n) ltC cs) k = true) (hk : k < cs.length) : stepB (okC n) ltC cs k = inB cs[k] (lastC cs k + 1) ((n : Int) - 1) := by
  by_cases h0 : k = 0
  · subst h0
    unfold stepB
    rw [List.getElem?_eq_getElem hk]
    simp [okC, lastC]
  · obtain ⟨m, rfl⟩ : ∃ m, k = m + 1 := ⟨k - 1, by omega⟩
    have h1 := allK_true hall m (by omega)
    have h2 : okC n cs[m] = true := by
      unfold stepB at h1
      rw [List.getElem?_eq_getElem (show m < cs.length by omega)] at h1
      simp only [Bool.and_eq_true] at h1
      exact h1.1
    have h3 := okC_true h2
    have e : lastC cs (m + 1) = cs[m] := lastC_succ (by omega)
    rw [e]
    unfold stepB
    simp only [List.getElem?_eq_getElem hk]
    simp only [List.getElem?_eq_getElem (show m < cs.length by omega)]
    rw [Bool.eq_iff_iff]
    simp only [okC, inB, ltC, Bool.and_eq_true, decide_eq_true_eq]
    omega
theorem lastC_bd {n k : Nat} {cs : List Int} (hall : allK (stepB (okC n) ltC cs) k = true) (hk : k ≤ cs.length) : -1 ≤ lastC cs k ∧ lastC cs k ≤ n := by
  by_cases h0 : k = 0
  · subst h0; simp [lastC]
  · obtain ⟨m, rfl⟩ : ∃ m, k = m + 1 := ⟨k - 1, by omega⟩
    have h1 := allK_true hall m (by omega)
    have h2 : okC n cs[m] = true := by
      unfold stepB at h1
      rw [List.getElem?_eq_getElem (show m < cs.length by omega)] at h1
      simp only [Bool.and_eq_true] at h1
      exact h1.1
    have h3 := okC_true h2
    rw [lastC_succ (by omega)]; omega

set_option maxHeartbeats 2000000 in
theorem impl_sums (w : World) (v c : Value) (xs : List Ingot) (cs : List Int) (h1 : Rd w.heap.size w v 5 xs.length (xs.flatMap Ingot.put)) (h2 : Rd w.heap.size w c 1 cs.length (cs.flatMap putI)) (hn : xs.length ≤ 16) (hv : ∀ x ∈ xs, ingotB x = true) (hch : choiceB xs.length cs = true) :
    Calls Tryz.prog 68 #[v, c] w fun e w' => e = .returned (.tuple #[.int .i64 (sumK massF xs cs), .int .i64 (sumK tinF xs cs), .int .i64 (sumK otherF xs cs)]) ∧ Below w.heap.size w w' := by
  obtain ⟨hL, ao, cap, rfl, hcap, hmax, hnil, hsome⟩ := h1
  obtain ⟨hL2, ao2, cap2, rfl, hcap2, hmax2, hnil2, hsome2⟩ := h2
  have hcl : cs.length ≤ 16 := Nat.le_trans (choice_len hch) hn
  have HM := Lib.hid (massF_bd hv hcl)
  have HT := Lib.hid (tinF_bd hv hcl)
  have HO := Lib.hid (otherF_bd hv hcl)
  have HV := Lib.hid hv; clear hv
  have HCH := Lib.hid hch; clear hch
  go_enter Tryz.func68, Tryz.ntmps68
  go_wp2
  go_loopw [7, 8, 9, 15] (fun m t o i wr => ∃ (k : Nat), k ≤ cs.length ∧ i = .int .i64 k ∧ m = .int .i64 (sumK massF xs (cs.take k)) ∧ t = .int .i64 (sumK tinF xs (cs.take k)) ∧ o = .int .i64 (sumK otherF xs (cs.take k)) ∧ Below w.heap.size w wr) (fun _ _ _ i _ => cs.length - (intOf i).toNat)
  case atStart => exact ⟨0, Nat.zero_le _, rfl, rfl, rfl, rfl, Below.refl _ _⟩
  case round =>
    obtain ⟨k, hk, rfl, rfl, rfl, rfl, hb⟩ := hrel
    by_cases hlt : k < cs.length
    · obtain ⟨j, hj, hjl⟩ := choice_at HCH.out k hlt
      obtain ⟨b, off, rfl, hbB, hc⟩ := hsome (by omega)
      obtain ⟨b2, off2, rfl, hbB2, hc2⟩ := hsome2 (by omega)
      have cc : wr.cell? ⟨b2, off2 + k, none⟩ = some (.int .i64 j) := by
        rw [hb.cell (p := ⟨b2, off2 + k, none⟩) hbB2, hc2 k (by omega), putI_get cs k hlt, hj]
      have c0 : wr.cell? ⟨b, off + j * 5, none⟩ = some (.string xs[j].id) := by
        rw [show off + j * 5 = off + (j * 5 + 0) from by omega, hb.cell (p := ⟨b, off + (j * 5 + 0), none⟩) hbB, hc (j * 5 + 0) (by omega), Ingot_get0 xs j hjl]
      have c1 : wr.cell? ⟨b, off + j * 5 + 1, none⟩ = some (.int .i64 xs[j].mass) := by
        rw [show off + j * 5 + 1 = off + (j * 5 + 1) from by omega, hb.cell (p := ⟨b, off + (j * 5 + 1), none⟩) hbB, hc (j * 5 + 1) (by omega), Ingot_get1 xs j hjl]
      have c2 : wr.cell? ⟨b, off + j * 5 + 2, none⟩ = some (.int .i64 xs[j].alloy.copper) := by
        rw [show off + j * 5 + 2 = off + (j * 5 + 2) from by omega, hb.cell (p := ⟨b, off + (j * 5 + 2), none⟩) hbB, hc (j * 5 + 2) (by omega), Ingot_get2 xs j hjl]
      have c3 : wr.cell? ⟨b, off + j * 5 + 3, none⟩ = some (.int .i64 xs[j].alloy.tin) := by
        rw [show off + j * 5 + 3 = off + (j * 5 + 3) from by omega, hb.cell (p := ⟨b, off + (j * 5 + 3), none⟩) hbB, hc (j * 5 + 3) (by omega), Ingot_get3 xs j hjl]
      have c4 : wr.cell? ⟨b, off + j * 5 + 4, none⟩ = some (.int .i64 xs[j].alloy.other) := by
        rw [show off + j * 5 + 4 = off + (j * 5 + 4) from by omega, hb.cell (p := ⟨b, off + (j * 5 + 4), none⟩) hbB, hc (j * 5 + 4) (by omega), Ingot_get4 xs j hjl]
      have hnu := ingotB_nums (HV.out xs[j] (List.getElem_mem hjl))
      obtain ⟨n1, n2⟩ := part_bd _ _ hnu.1 hnu.2.1
      obtain ⟨n3, n4⟩ := part_bd _ _ hnu.1 hnu.2.2
      obtain ⟨m1, m2⟩ := HM.out k
      obtain ⟨m3, m4⟩ := HT.out k
      obtain ⟨m5, m6⟩ := HO.out k
      have E1 : Hid (sumK massF xs (cs.take (k + 1)) = sumK massF xs (cs.take k) + xs[j].mass) := sumK_succ massF xs cs k hlt j hj hjl
      have E2 : Hid (sumK tinF xs (cs.take (k + 1)) = sumK tinF xs (cs.take k) + xs[j].mass * xs[j].alloy.tin) := sumK_succ tinF xs cs k hlt j hj hjl
      have E3 : Hid (sumK otherF xs (cs.take (k + 1)) = sumK otherF xs (cs.take k) + xs[j].mass * xs[j].alloy.other) := sumK_succ otherF xs cs k hlt j hj hjl
      have hws := hb.size
      have HB := Lib.hid hb
      clear hc hc2 hsome hsome2 hnil hnil2 hj
      generalize sumK massF xs (cs.take k) = S1 at *
      generalize sumK tinF xs (cs.take k) = S2 at *
      generalize sumK otherF xs (cs.take k) = S3 at *
      go_wp2
      go_roundw
      case rel => exact ⟨k + 1, by omega, by go_num, by rw [E1.out], by rw [E2.out], by rw [E3.out], by have hb := HB.out; (repeat' (first | (with_reducible exact Below.refl _ _) | (with_reducible assumption) | (with_reducible refine below_dn ?_ _) | (with_reducible refine Below.drew ?_) | (with_reducible refine Below.alloc ?_ ?_ _) | (with_reducible refine Below.setCell ?_ ?_ _) | go_size))⟩
      case measure => simp [intOf]; omega
    · have e1 : Hid (cs.take k = cs) := (take_all (by omega) : cs.take k = cs)
      have HB := Lib.hid hb
      clear hb
      go_wp2
      go_ret3
      exact ⟨by rw [e1.out]; rfl, HB.out⟩
end Go.Proofs.YtnbodmbagendnaaGreatDoor
