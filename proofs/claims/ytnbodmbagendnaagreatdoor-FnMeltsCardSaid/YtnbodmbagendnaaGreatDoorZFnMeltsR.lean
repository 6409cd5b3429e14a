/- Contracts and plain facts, joined: Metal. -/
import Derived.Test.YtnbodmbagendnaaGreatDoorRows
import Derived.Test.YtnbodmbagendnaaGreatDoorZFnMeltsP
import Derived.Test.YtnbodmbagendnaaGreatDoorZFnMeltsQ
namespace Go.Proofs.YtnbodmbagendnaaGreatDoor
open Go.ChangeShapes Go.WideShapes Go.ChangeAt Go.RowKit Go.Deep Go.Joins
set_option linter.unusedVariables false
set_option maxRecDepth 100000
set_option linter.unusedSimpArgs false
set_option maxHeartbeats 2000000 in
theorem spec_l14Metal (w : World) (v : Value) (xs : List Ingot) (ids : List ByteArray) (cs : List Int) (a1 o1 : Nat) (v1 : Value) (h : Rd w.heap.size w v 5 xs.length (xs.flatMap Ingot.put)) (hn : xs.length ≤ 16) (hr : Rises xs) (hv : ∀ x ∈ xs, ingotB x = true)
    (g1 : w.cell? ⟨a1, o1 + 1, none⟩ = some v1) (ha1 : a1 < w.heap.size) (h2 : Rd w.heap.size w v1 1 ids.length (ids.flatMap putStr)) (hn2 : ids.length ≤ 1048576) (hc : chosenL xs ids = some cs) (hch : choiceB xs.length cs = true) :
    Calls Tryz.prog 48 #[v, .pointer (some ⟨a1, o1, none⟩)] w fun e w' => e = .returned (.int .i64 (sumK massF xs cs)) ∧ Below w.heap.size w w' := by
  have hcl : cs.length ≤ 16 := Nat.le_trans (choice_len hch) hn
  have HM := Lib.hid (massF_bd hv hcl)
  have HV := Lib.hid hv; clear hv
  have HCH := Lib.hid hch; clear hch
  have HC := Lib.hid (spec_l14Chosen w v xs ids a1 o1 v1 h (by omega) hr g1 ha1 h2 hn2)
  have Hc := Lib.hid hc; clear hc
  obtain ⟨hL, ao, cap, rfl, hcap, hmax, hnil, hsome⟩ := h
  clear hr h2 g1 hnil
  go_enter Tryz.func48, Tryz.ntmps48
  go_wp2_with fail
  refine HC.out.mono ?_; rintro e w1 ⟨⟨u, rfl, hu⟩, b1⟩
  have HU := Lib.hid (hu cs Hc.out)
  obtain ⟨hL2, ao2, cap2, rfl, hcap2, hmax2, hnil2, hsome2⟩ := hu cs Hc.out
  clear hu HC hnil2
  have hb1 := b1.size
  have HB1 := Lib.hid b1
  clear b1
  generalize (chosenL xs ids).isSome = ok at *
  go_wp2
  go_loopw [7, 8] (fun m i wr => ∃ (k : Nat), k ≤ cs.length ∧ i = .int .i64 k ∧ m = .int .i64 (sumK massF xs (cs.take k)) ∧ Below w1.heap.size w1 wr) (fun _ i _ => cs.length - (intOf i).toNat)
  case atStart => exact ⟨0, Nat.zero_le _, rfl, rfl, Below.refl _ _⟩
  case round =>
    obtain ⟨k, hk, rfl, rfl, hb⟩ := hrel
    by_cases hlt : k < cs.length
    · obtain ⟨j, hj, hjl⟩ := choice_at HCH.out k hlt
      obtain ⟨b, off, rfl, hbB, hc⟩ := hsome (by omega)
      obtain ⟨b2, off2, rfl, hbB2, hc2⟩ := hsome2 (by omega)
      have cc : wr.cell? ⟨b2, off2 + k, none⟩ = some (.int .i64 j) := by
        rw [hb.cell (p := ⟨b2, off2 + k, none⟩) hbB2, hc2 k (by omega), putI_get cs k hlt, hj]
      have c1 : wr.cell? ⟨b, off + j * 5 + 1, none⟩ = some (.int .i64 xs[j].mass) := by
        rw [show off + j * 5 + 1 = off + (j * 5 + 1) from by omega, hb.cell (p := ⟨b, off + (j * 5 + 1), none⟩) (Nat.lt_of_lt_of_le hbB hb1), HB1.out.cell (p := ⟨b, off + (j * 5 + 1), none⟩) hbB, hc (j * 5 + 1) (by omega), Ingot_get1 xs j hjl]
      have hnu := (ingotB_nums (HV.out xs[j] (List.getElem_mem hjl))).1
      obtain ⟨m1, m2⟩ := HM.out k
      have E1 : Hid (sumK massF xs (cs.take (k + 1)) = sumK massF xs (cs.take k) + xs[j].mass) := sumK_succ massF xs cs k hlt j hj hjl
      have HB := Lib.hid hb
      clear hc hc2 hsome hsome2 hj hb
      generalize sumK massF xs (cs.take k) = S1 at *
      go_wp2
      go_roundw
      case rel => exact ⟨k + 1, by omega, by go_num, by rw [E1.out], HB.out⟩
      case measure => simp [intOf]; omega
    · have e1 : Hid (cs.take k = cs) := (take_all (by omega) : cs.take k = cs)
      have HB := Lib.hid hb
      clear hb hsome hsome2
      go_wp2
      go_ret
      exact ⟨by rw [e1.out]; rfl, HB1.out.trans (HB.out.mono hb1)⟩

set_option maxHeartbeats 2000000 in
theorem impl_metalOf (w : World) (v : Value) (xs : List Ingot) (x : Melt) (lo : Option Addr) (lc : Nat) (cs : List Int) (h : Rd w.heap.size w v 5 xs.length (xs.flatMap Ingot.put)) (hn : xs.length ≤ 16) (hr : Rises xs) (hv : ∀ x ∈ xs, ingotB x = true)
    (h2 : Rd w.heap.size w (.slice lo x.ingots.length lc) 1 x.ingots.length (x.ingots.flatMap putStr)) (hn2 : x.ingots.length ≤ 1048576) (hc : chosenL xs x.ingots = some cs) (hch : choiceB xs.length cs = true) :
    Calls Tryz.prog 32 #[v, .agg #[.string x.id, .slice lo x.ingots.length lc, .int .i64 x.mass]] w fun e w' => e = .returned (.int .i64 (sumK massF xs cs)) ∧ Below w.heap.size w w' := by
  have H1 := Lib.hid h
  obtain ⟨vo, vc, rfl⟩ := h.form
  clear h
  have H2 := Lib.hid h2; clear h2
  have HV := Lib.hid hv; clear hv
  have HR := Lib.hid hr; clear hr
  have HCH := Lib.hid hch; clear hch
  have Hc := Lib.hid hc; clear hc
  go_enter Tryz.func32, Tryz.ntmps32
  go_wp2_with fail
  refine (impl_choiceOf _ _ xs x lo lc (by exact H1.out.up (by (repeat' (first | (with_reducible exact Below.refl _ _) | (with_reducible assumption) | (with_reducible refine below_dn ?_ _) | (with_reducible refine Below.drew ?_) | (with_reducible refine Below.alloc ?_ ?_ _) | (with_reducible refine Below.setCell ?_ ?_ _) | go_size)))) (by omega) HR.out (by exact H2.out.up (by (repeat' (first | (with_reducible exact Below.refl _ _) | (with_reducible assumption) | (with_reducible refine below_dn ?_ _) | (with_reducible refine Below.drew ?_) | (with_reducible refine Below.alloc ?_ ?_ _) | (with_reducible refine Below.setCell ?_ ?_ _) | go_size)))) hn2).mono ?_; rintro e w1 ⟨⟨u, rfl, hu⟩, b1⟩
  have HU := Lib.hid (hu cs Hc.out)
  obtain ⟨uo, uc, rfl⟩ := HU.out.form
  clear hu
  have HB1 := Lib.hid (show Below w.heap.size w w1 from Below.trans (by (repeat' (first | (with_reducible exact Below.refl _ _) | (with_reducible assumption) | (with_reducible refine below_dn ?_ _) | (with_reducible refine Below.drew ?_) | (with_reducible refine Below.alloc ?_ ?_ _) | (with_reducible refine Below.setCell ?_ ?_ _) | go_size))) (b1.mono (by simp <;> omega))); clear b1
  generalize (chosenL xs x.ingots).isSome = ok at *
  go_wp2_with fail
  refine (impl_sums _ _ _ xs cs (by exact H1.out.up HB1.out) HU.out hn HV.out HCH.out).mono ?_; rintro e w2 ⟨rfl, b2⟩
  have HB2 := Lib.hid (bnext HB1.out b2); clear b2
  go_wp2_with fail
  go_ret
  exact ⟨rfl, HB2.out⟩

set_option maxHeartbeats 4000000 in
theorem spec_l14Ask (w : World) (v : Value) (xs : List Ingot) (x : Melt) (a1 o1 : Nat) (lo : Option Addr) (lc : Nat) (h : Rd w.heap.size w v 5 xs.length (xs.flatMap Ingot.put)) (hn : xs.length ≤ 1048576) (hok : ∀ x ∈ xs, x.ok)
    (g0 : w.cell? ⟨a1, o1, none⟩ = some (.string x.id)) (g1 : w.cell? ⟨a1, o1 + 1, none⟩ = some (.slice lo x.ingots.length lc)) (g2 : w.cell? ⟨a1, o1 + 2, none⟩ = some (.int .i64 x.mass)) (ha1 : a1 < w.heap.size) (h2 : Rd w.heap.size w (.slice lo x.ingots.length lc) 1 x.ingots.length (x.ingots.flatMap putStr)) (hf : x.fine) :
    Calls Tryz.prog 103 #[v, .pointer (some ⟨a1, o1, none⟩)] w fun e w' => e = .returned (.int .i64 (askS xs x)) ∧ Below w.heap.size w w' := by
  have H1 := Lib.hid h
  obtain ⟨vo, vc, rfl⟩ := h.form
  clear h
  have H2 := Lib.hid h2; clear h2
  have Hok := Lib.hid hok; clear hok
  have Hf := Lib.hid hf; clear hf
  have HC : Hid (∀ w', Below w.heap.size w w' → w'.cell? ⟨a1, o1, none⟩ = some (.string x.id) ∧ w'.cell? ⟨a1, o1 + 1, none⟩ = some (.slice lo x.ingots.length lc) ∧ w'.cell? ⟨a1, o1 + 2, none⟩ = some (.int .i64 x.mass) ∧ a1 < w'.heap.size) :=
    fun w' hb => ⟨(hb.cell (p := ⟨a1, _, none⟩) ha1).trans g0, (hb.cell (p := ⟨a1, _, none⟩) ha1).trans g1, (hb.cell (p := ⟨a1, _, none⟩) ha1).trans g2, Nat.lt_of_lt_of_le ha1 hb.size⟩
  clear g0 g1 g2
  cases hV : validIngotS xs
  case false =>
    have e : Hid (askS xs x = 1) := (by unfold askS; rw [hV]; rfl : askS xs x = 1)
    have HV := Lib.hid hV; clear hV
    go_enter Tryz.func103, Tryz.ntmps103
    go_wp2_with fail
    refine (spec_l13Ok_is _ _ xs H1.out hn Hok.out HV.out).mono ?_; rintro e1 w1 ⟨rfl, b1⟩
    go_wp2_with fail
    go_ret
    exact ⟨by rw [e.out]; rfl, b1⟩
  have hR := rises_of hV
  have HR := Lib.hid hR; clear hR
  cases hM : meltB x
  case false =>
    have e : Hid (askS xs x = 1) := (by unfold askS; rw [hM, Bool.and_false]; rfl : askS xs x = 1)
    have HV := Lib.hid hV; clear hV
    have HM := Lib.hid hM; clear hM
    go_enter Tryz.func103, Tryz.ntmps103
    go_wp2_with fail
    refine (spec_l13Ok_is _ _ xs H1.out hn Hok.out HV.out).mono ?_; rintro e1 w1 ⟨rfl, b1⟩
    have HB1 := Lib.hid b1; clear b1
    go_wp2_with fail
    refine (spec_l14One_is ⟨x.id, .slice lo x.ingots.length lc, x.ingots, x.mass⟩ a1 o1 _ ⟨Hf.out.1, ⟨H2.out.up HB1.out, Nat.le_trans Hf.out.2.2.2 (by unfold maxLen; omega), Hf.out.2.1⟩, Hf.out.2.2.1⟩ Hf.out.2.2.2 (HC.out _ HB1.out).1 (HC.out _ HB1.out).2.1 (HC.out _ HB1.out).2.2.1 (HC.out _ HB1.out).2.2.2 HM.out).mono ?_; rintro e2 w2 ⟨rfl, b2⟩
    have HB2 := Lib.hid (bnext HB1.out b2); clear b2
    go_wp2_with fail
    go_ret
    exact ⟨by rw [e.out]; rfl, HB2.out⟩
  have e : Hid (askS xs x = if (chosenL xs x.ingots).isSome then 0 else 3) := (by unfold askS; rw [hV, hM]; rfl : askS xs x = if (chosenL xs x.ingots).isSome then 0 else 3)
  have HV := Lib.hid hV; clear hV
  have HM := Lib.hid hM; clear hM
  go_enter Tryz.func103, Tryz.ntmps103
  go_wp2_with fail
  refine (spec_l13Ok_is _ _ xs H1.out hn Hok.out HV.out).mono ?_; rintro e1 w1 ⟨rfl, b1⟩
  have HB1 := Lib.hid b1; clear b1
  go_wp2_with fail
  refine (spec_l14One_is ⟨x.id, .slice lo x.ingots.length lc, x.ingots, x.mass⟩ a1 o1 _ ⟨Hf.out.1, ⟨H2.out.up HB1.out, Nat.le_trans Hf.out.2.2.2 (by unfold maxLen; omega), Hf.out.2.1⟩, Hf.out.2.2.1⟩ Hf.out.2.2.2 (HC.out _ HB1.out).1 (HC.out _ HB1.out).2.1 (HC.out _ HB1.out).2.2.1 (HC.out _ HB1.out).2.2.2 HM.out).mono ?_; rintro e2 w2 ⟨rfl, b2⟩
  have HB2 := Lib.hid (bnext HB1.out b2); clear b2
  go_wp2_with fail
  refine (spec_l14Chosen _ _ xs x.ingots a1 o1 _ (by exact H1.out.up HB2.out) hn HR.out (HC.out _ HB2.out).2.1 (HC.out _ HB2.out).2.2.2 (by exact H2.out.up HB2.out) Hf.out.2.2.2).mono ?_; rintro e3 w3 ⟨⟨u, rfl, _⟩, b3⟩
  have HB3 := Lib.hid (bnext HB2.out b3); clear b3
  cases hS : (chosenL xs x.ingots).isSome
  all_goals
    rw [hS] at e
    clear hS
    go_wp2_with fail
    go_ret
    exact ⟨by rw [e.out]; rfl, HB3.out⟩

set_option maxHeartbeats 4000000 in
theorem impl_melted (w : World) (v : Value) (xs : List Ingot) (x : Melt) (lo : Option Addr) (lc : Nat) (h : Rd w.heap.size w v 5 xs.length (xs.flatMap Ingot.put)) (hn : xs.length ≤ 1048576) (hok : ∀ x ∈ xs, x.ok)
    (h2 : Rd w.heap.size w (.slice lo x.ingots.length lc) 1 x.ingots.length (x.ingots.flatMap putStr)) (hf : x.fine) :
    Calls Tryz.prog 31 #[v, .agg #[.string x.id, .slice lo x.ingots.length lc, .int .i64 x.mass]] w fun e w' => e = .returned (.int .i64 (askS xs x)) ∧ Below w.heap.size w w' := by
  have H1 := Lib.hid h
  obtain ⟨vo, vc, rfl⟩ := h.form
  clear h
  have H2 := Lib.hid h2; clear h2
  have Hok := Lib.hid hok; clear hok
  have Hf := Lib.hid hf; clear hf
  have HX := Lib.hid (Own.new w 28 [.string x.id, .slice lo x.ingots.length lc, .int .i64 x.mass])
  cases hV : validIngotS xs
  case false =>
    have e : Hid (askS xs x = 1) := (by unfold askS; rw [hV]; rfl : askS xs x = 1)
    have HV := Lib.hid hV; clear hV
    go_enter Tryz.func31, Tryz.ntmps31
    go_wp2_with fail
    refine (impl_ValidIngots_is _ _ xs (by exact H1.out.up (by (repeat' (first | (with_reducible exact Below.refl _ _) | (with_reducible assumption) | (with_reducible refine below_dn ?_ _) | (with_reducible refine Below.drew ?_) | (with_reducible refine Below.alloc ?_ ?_ _) | (with_reducible refine Below.setCell ?_ ?_ _) | go_size)))) hn Hok.out HV.out).mono ?_; rintro e1 w1 ⟨rfl, b1⟩
    go_wp2_with fail
    go_ret
    exact ⟨by rw [e.out]; rfl, Below.trans (by (repeat' (first | (with_reducible exact Below.refl _ _) | (with_reducible assumption) | (with_reducible refine below_dn ?_ _) | (with_reducible refine Below.drew ?_) | (with_reducible refine Below.alloc ?_ ?_ _) | (with_reducible refine Below.setCell ?_ ?_ _) | go_size))) (b1.mono (by simp <;> omega))⟩
  have hR := rises_of hV
  have HR := Lib.hid hR; clear hR
  cases hM : meltB x
  case false =>
    have e : Hid (askS xs x = 1) := (by unfold askS; rw [hM, Bool.and_false]; rfl : askS xs x = 1)
    have HV := Lib.hid hV; clear hV
    have HM := Lib.hid hM; clear hM
    go_enter Tryz.func31, Tryz.ntmps31
    go_wp2_with fail
    refine (impl_ValidIngots_is _ _ xs (by exact H1.out.up (by (repeat' (first | (with_reducible exact Below.refl _ _) | (with_reducible assumption) | (with_reducible refine below_dn ?_ _) | (with_reducible refine Below.drew ?_) | (with_reducible refine Below.alloc ?_ ?_ _) | (with_reducible refine Below.setCell ?_ ?_ _) | go_size)))) hn Hok.out HV.out).mono ?_; rintro e1 w1 ⟨rfl, b1⟩
    have O1 := Lib.hid (HX.out.below b1 HX.out.lt)
    have HB1 := Lib.hid (show Below w.heap.size w w1 from Below.trans (by (repeat' (first | (with_reducible exact Below.refl _ _) | (with_reducible assumption) | (with_reducible refine below_dn ?_ _) | (with_reducible refine Below.drew ?_) | (with_reducible refine Below.alloc ?_ ?_ _) | (with_reducible refine Below.setCell ?_ ?_ _) | go_size))) (b1.mono (by simp <;> omega))); clear b1
    have q0 : w1.cell? ⟨w.heap.size, 0, none⟩ = some (.string x.id) := O1.out.cell 0
    have q1 : w1.cell? ⟨w.heap.size, 1, none⟩ = some (.slice lo x.ingots.length lc) := O1.out.cell 1
    have q2 : w1.cell? ⟨w.heap.size, 2, none⟩ = some (.int .i64 x.mass) := O1.out.cell 2
    go_wp2_with fail
    refine (impl_ValidMelt_is ⟨x.id, .slice lo x.ingots.length lc, x.ingots, x.mass⟩ _ ⟨Hf.out.1, ⟨H2.out.up HB1.out, Nat.le_trans Hf.out.2.2.2 (by unfold maxLen; omega), Hf.out.2.1⟩, Hf.out.2.2.1⟩ Hf.out.2.2.2 HM.out).mono ?_; rintro e2 w2 ⟨rfl, b2⟩
    have HB2 := Lib.hid (bnext HB1.out b2); clear b2
    go_wp2_with fail
    go_ret
    exact ⟨by rw [e.out]; rfl, HB2.out⟩
  have e : Hid (askS xs x = if (chosenL xs x.ingots).isSome then 0 else 3) := (by unfold askS; rw [hV, hM]; rfl : askS xs x = if (chosenL xs x.ingots).isSome then 0 else 3)
  have e5 : Hid (existB xs [x] = (chosenL xs x.ingots).isSome) := (by simp [existB, noneB] : existB xs [x] = (chosenL xs x.ingots).isSome)
  have HV := Lib.hid hV; clear hV
  have HM := Lib.hid hM; clear hM
  go_enter Tryz.func31, Tryz.ntmps31
  go_wp2_with fail
  refine (impl_ValidIngots_is _ _ xs (by exact H1.out.up (by (repeat' (first | (with_reducible exact Below.refl _ _) | (with_reducible assumption) | (with_reducible refine below_dn ?_ _) | (with_reducible refine Below.drew ?_) | (with_reducible refine Below.alloc ?_ ?_ _) | (with_reducible refine Below.setCell ?_ ?_ _) | go_size)))) hn Hok.out HV.out).mono ?_; rintro e1 w1 ⟨rfl, b1⟩
  have O1 := Lib.hid (HX.out.below b1 HX.out.lt)
  have HB1 := Lib.hid (show Below w.heap.size w w1 from Below.trans (by (repeat' (first | (with_reducible exact Below.refl _ _) | (with_reducible assumption) | (with_reducible refine below_dn ?_ _) | (with_reducible refine Below.drew ?_) | (with_reducible refine Below.alloc ?_ ?_ _) | (with_reducible refine Below.setCell ?_ ?_ _) | go_size))) (b1.mono (by simp <;> omega))); clear b1
  have q0 : w1.cell? ⟨w.heap.size, 0, none⟩ = some (.string x.id) := O1.out.cell 0
  have q1 : w1.cell? ⟨w.heap.size, 1, none⟩ = some (.slice lo x.ingots.length lc) := O1.out.cell 1
  have q2 : w1.cell? ⟨w.heap.size, 2, none⟩ = some (.int .i64 x.mass) := O1.out.cell 2
  go_wp2_with fail
  refine (impl_ValidMelt_is ⟨x.id, .slice lo x.ingots.length lc, x.ingots, x.mass⟩ _ ⟨Hf.out.1, ⟨H2.out.up HB1.out, Nat.le_trans Hf.out.2.2.2 (by unfold maxLen; omega), Hf.out.2.1⟩, Hf.out.2.2.1⟩ Hf.out.2.2.2 HM.out).mono ?_; rintro e2 w2 ⟨rfl, b2⟩
  have HB2 := Lib.hid (bnext HB1.out b2)
  have O2 := Lib.hid (O1.out.below b2 O1.out.lt); clear b2 q0 q1 q2
  have q0 : w2.cell? ⟨w.heap.size, 0, none⟩ = some (.string x.id) := O2.out.cell 0
  have q1 : w2.cell? ⟨w.heap.size, 1, none⟩ = some (.slice lo x.ingots.length lc) := O2.out.cell 1
  have q2 : w2.cell? ⟨w.heap.size, 2, none⟩ = some (.int .i64 x.mass) := O2.out.cell 2
  go_wp2_with fail
  refine (impl_exist _ _ _ xs [x] (by exact (H1.out.up HB2.out).up (by (repeat' (first | (with_reducible exact Below.refl _ _) | (with_reducible assumption) | (with_reducible refine below_dn ?_ _) | (with_reducible refine Below.drew ?_) | (with_reducible refine Below.alloc ?_ ?_ _) | (with_reducible refine Below.setCell ?_ ?_ _) | go_size)))) hn HR.out (by exact rdm_one w2 x lo lc (H2.out.up HB2.out)) (by simp) (by intro m hm; simp at hm; subst hm; exact Hf.out.2.2.2)).mono ?_; rintro e3 w3 ⟨rfl, b3⟩
  rw [e5.out]
  have HB3 := Lib.hid (show Below w.heap.size w w3 from HB2.out.trans (Below.trans (show Below w.heap.size w2 _ from (Below.refl _ _).alloc HB2.out.size _) (b3.mono (by have := HB2.out.size; simp <;> omega)))); clear b3 q0 q1 q2
  cases hS : (chosenL xs x.ingots).isSome
  all_goals
    rw [hS] at e
    clear hS
    go_wp2_with fail
    go_ret
    exact ⟨by rw [e.out]; rfl, HB3.out⟩
end Go.Proofs.YtnbodmbagendnaaGreatDoor
