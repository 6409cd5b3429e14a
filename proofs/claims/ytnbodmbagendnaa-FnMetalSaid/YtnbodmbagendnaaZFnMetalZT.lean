/- Contracts and plain facts, joined: LWFnMetal. -/
import Derived.Test.YtnbodmbagendnaaRows
import Derived.Test.YtnbodmbagendnaaZFnMetalD
import Derived.Test.YtnbodmbagendnaaZFnMetalG
import Derived.Test.YtnbodmbagendnaaZFnMetalZO
import Derived.Test.YtnbodmbagendnaaZFnMetalZS
namespace Go.Proofs.Ytnbodmbagendnaa
open Go.ChangeShapes Go.WideShapes Go.ChangeAt Go.RowKit Go.Deep Go.Joins
set_option linter.unusedVariables false
set_option maxRecDepth 100000
set_option linter.unusedSimpArgs false
def massS (ms : List Melt) : Int := (ms.map Melt.mass).sum
theorem massS_succ (ms : List Melt) (k : Nat) (hk : k < ms.length) : massS (ms.take (k + 1)) = massS (ms.take k) + ms[k].mass := by
  unfold massS
  rw [List.take_succ_eq_append_getElem hk, List.map_append, List.sum_append]; simp
theorem sumP_succ (p : Ingot → Bool) (xs : List Ingot) (k : Nat) (hk : k < xs.length) : sumP p (xs.take (k + 1)) = sumP p (xs.take k) + (if p xs[k] = true then xs[k].mass else 0) := by
  rw [List.take_succ_eq_append_getElem hk, sumP_append]
  simp [sumP]
theorem massI_succ (xs : List Ingot) (k : Nat) (hk : k < xs.length) : ((xs.take (k + 1)).map massF).sum = ((xs.take k).map massF).sum + xs[k].mass := by
  rw [List.take_succ_eq_append_getElem hk, List.map_append, List.sum_append]
  simp [massF]
theorem lossV_bdM {xs : List Ingot} : ∀ {ms : List Melt}, (∀ m ∈ ms, 0 ≤ metalS xs m.ingots - m.mass ∧ metalS xs m.ingots - m.mass ≤ 320000000) → 0 ≤ lossV xs ms ∧ lossV xs ms ≤ (ms.length : Int) * 320000000
  | [], _ => by simp [lossV]
  | m :: ms, h => by
    have ih := lossV_bdM (ms := ms) (fun y hy => h y (List.mem_cons_of_mem _ hy))
    have h0 := h m (List.mem_cons_self ..)
    unfold lossV at *
    simp only [List.map_cons, List.sum_cons, List.length_cons]
    push_cast
    omega
theorem massS_bd : ∀ {ms : List Melt}, (∀ m ∈ ms, 0 ≤ m.mass ∧ m.mass ≤ 320000000) → 0 ≤ massS ms ∧ massS ms ≤ (ms.length : Int) * 320000000
  | [], _ => by simp [massS]
  | m :: ms, h => by
    have ih := massS_bd (ms := ms) (fun y hy => h y (List.mem_cons_of_mem _ hy))
    have h0 := h m (List.mem_cons_self ..)
    unfold massS at *
    simp only [List.map_cons, List.sum_cons, List.length_cons]
    push_cast
    omega
theorem sumP_bd (p : Ingot → Bool) : ∀ {xs : List Ingot}, (∀ x ∈ xs, 0 ≤ x.mass ∧ x.mass ≤ 20000001) → 0 ≤ sumP p xs ∧ sumP p xs ≤ (xs.length : Int) * 20000001
  | [], _ => by simp [sumP]
  | m :: ms, h => by
    have ih := sumP_bd p (xs := ms) (fun y hy => h y (List.mem_cons_of_mem _ hy))
    have h0 := h m (List.mem_cons_self ..)
    rw [sumP_cons]
    simp only [List.length_cons]
    push_cast
    split <;> omega
theorem massI_bd {xs : List Ingot} (h : ∀ x ∈ xs, 0 ≤ x.mass ∧ x.mass ≤ 20000001) : 0 ≤ (xs.map massF).sum ∧ (xs.map massF).sum ≤ (xs.length : Int) * 20000001 := by
  rw [← sumP_all]; exact sumP_bd _ h
theorem take_mem {α : Type} {xs : List α} {k : Nat} {p : α → Prop} (h : ∀ x ∈ xs, p x) : ∀ x ∈ xs.take k, p x := fun x hx => h x (List.mem_of_mem_take hx)
theorem laws_b10Long (w : World) (v : Value) (n : Nat) (vo : Option Addr) (vc : Nat) (hv : v = .slice vo n vc) :
    Calls Try.prog 38 #[v] w fun e w' => e = .returned (.bool (decide ((1048576 : Int) < n))) ∧ w = w' := by
  subst hv
  go_enter Try.func38, Try.ntmps38
  go_wp2_with fail
  go_ret
  exact ⟨rfl, rfl⟩
set_option maxHeartbeats 1000000 in
theorem laws_b10In (w : World) (v : Value) (xs : List ByteArray) (a : ByteArray) (h : Rd w.heap.size w v 1 xs.length (xs.flatMap putStr)) (hn : xs.length ≤ 1048576) :
    Calls Try.prog 45 #[v, .string a] w fun e w' => e = .returned (.bool (hasB xs a)) ∧ Below w.heap.size w w' := by
  obtain ⟨hL, ao, cap, rfl, hcap, hmax, hnil, hsome⟩ := h
  go_enter Try.func45, Try.ntmps45
  go_wp2
  go_loopw [5] (fun i wr => ∃ (k : Nat), k ≤ xs.length ∧ i = .int .i64 k ∧ (xs.take k).any (strEq a) = false ∧ Below w.heap.size w wr) (fun i _ => xs.length - (intOf i).toNat)
  case atStart => exact ⟨0, Nat.zero_le _, rfl, rfl, Below.refl _ _⟩
  case round =>
    obtain ⟨k, hk, rfl, hall, hb⟩ := hrel
    have Hall := Lib.hid hall; clear hall
    by_cases hlt : k < xs.length
    · obtain ⟨b, off, rfl, hbB, hc⟩ := hsome (by omega)
      have c0 : wr.cell? ⟨b, off + k, none⟩ = some (.string xs[k]) := by
        rw [hb.cell (p := ⟨b, off + k, none⟩) hbB, hc k (by omega), putStr_get xs k hlt]
      have hbr : b < wr.heap.size := Nat.lt_of_lt_of_le hbB hb.size
      have HB := Lib.hid hb
      clear hc hsome hnil hb
      cases hE : strEq a xs[k]
      · have e : Hid ((xs.take (k + 1)).any (strEq a) = false) := (by rw [any_take xs k hlt, Hall.out, hE]; rfl : (xs.take (k + 1)).any (strEq a) = false)
        have t1 := strEq_f (x := xs[k]) (y := a) (by rw [strEq_comm]; exact hE)
        clear hE
        go_wp2_with fail
        have HB1 := HB
        go_wp2_with fail
        go_roundw
        case rel => exact ⟨k + 1, by omega, by go_num, e.out, HB1.out⟩
        case measure => simp [intOf]; omega
      · have e : Hid (hasB xs a = true) := (any_at xs k hlt hE : hasB xs a = true)
        have t1 := strEq_t (x := xs[k]) (y := a) (by rw [strEq_comm]; exact hE)
        clear hE
        go_wp2_with fail
        have HB1 := HB
        go_wp2_with fail
        go_ret
        exact ⟨by rw [e.out]; try rfl, HB1.out⟩
    · have e : Hid (hasB xs a = false) := (any_full Hall.out (by omega) : hasB xs a = false)
      have HB := Lib.hid hb; clear hb
      go_wp2
      go_ret
      exact ⟨by rw [e.out]; try rfl, HB.out⟩
set_option maxHeartbeats 4000000 in
theorem FnMetal_walk (w : World) (v0 : Value) (xs : List UInt8) (k0 : Rd w.heap.size w v0 1 xs.length (xs.flatMap putB) ∧ xs.length ≤ maxLen ∧ ∀ x ∈ xs, True) :
    Calls Try.prog 6 #[v0] w fun e w' => e = .returned (.bool true) ∧ Below w.heap.size w w' := by
  obtain ⟨h0, hm0, _⟩ := k0
  have H0 := Lib.hid h0
  obtain ⟨o0, c0, rfl⟩ := h0.form
  have HLG := Lib.hid (laws_b10Long w _ xs.length o0 c0 rfl)
  clear h0
  by_cases hn : xs.length ≤ 1048576
  case neg =>
    have tl : decide ((1048576 : Int) < (xs.length : Int)) = true := decide_eq_true (by omega)
    rw [tl] at HLG
    clear tl H0
    go_enter Try.func6, Try.ntmps6
    go_wp2_with fail
    refine HLG.out.mono ?_; rintro e w1 ⟨rfl, rfl⟩
    go_wp2_with fail
    go_ret
    exact ⟨rfl, Below.refl _ _⟩
  have tl : decide ((1048576 : Int) < (xs.length : Int)) = false := decide_eq_false (by omega)
  rw [tl] at HLG
  have HDR := Lib.hid (draw_LossOf w _ xs H0.out hm0)
  clear tl hm0 H0
  go_enter Try.func6, Try.ntmps6
  go_wp2_with fail
  refine HLG.out.mono ?_; rintro e w1 ⟨rfl, rfl⟩
  go_wp2_with fail
  refine HDR.out.mono ?_; rintro e w1 ⟨rv, uv, rfl, ⟨ys, ms, hfi, hri, hrm, hml, hmf⟩, b1⟩
  have hyl : ys.length ≤ 20 := hfi.1
  have HOK := Lib.hid (fun y hy => (hfi.2 y hy).1)
  have HMM := Lib.hid (fun y hy => (hfi.2 y hy).2)
  have HF := Lib.hid hmf
  have RI := Lib.hid hri
  have RM := Lib.hid hrm
  have B1 := Lib.hid b1
  obtain ⟨io, ic, ei⟩ := hri.form
  obtain ⟨mo, mc, em, _⟩ := hrm
  subst ei em
  have HLO := Lib.hid (impl_LossOf w1 _ _ ys ms RI.out (by omega) HOK.out RM.out (by omega) HF.out)
  clear hfi hri hmf b1 HLG HDR
  by_cases hA : allS ys ms = 0
  case neg =>
    have e2 : lossS ys ms = (0, allS ys ms) := if_neg hA
    rw [e2] at HLO
    obtain ⟨cc, hcc⟩ : ∃ cc, allS ys ms = cc := ⟨_, rfl⟩
    rw [hcc] at HLO hA
    have tn : (cc != 0) = true := bne_iff_ne.2 hA
    clear e2
    go_wp2_with fail
    refine HLO.out.mono ?_; rintro e w2 ⟨rfl, b2⟩
    have B2 := Lib.hid (bnext B1.out b2)
    have HU := Lib.hid (impl_UnusedIngots w2 _ _ ys ms (RI.out.up b2) (by omega) HOK.out (RM.out.up b2) (by omega) HF.out)
    clear b2 HLO
    go_wp2_with fail
    refine HU.out.mono ?_; rintro e w3 ⟨r3, rfl, o3, b3⟩
    obtain ⟨ro, rc, er⟩ := (own_rd o3).form
    have B3 := Lib.hid (bnext B2.out b3)
    clear o3 b3 HU
    subst er
    go_wp2_with fail
    go_ret
    exact ⟨rfl, B3.out⟩
  cases hP : mayAll ys ms with
  | false =>
    have e2 : lossS ys ms = (0, 6) := by unfold lossS; rw [if_pos hA, hP]; rfl
    rw [e2] at HLO
    clear e2 hP hA
    go_wp2_with fail
    refine HLO.out.mono ?_; rintro e w2 ⟨rfl, b2⟩
    have B2 := Lib.hid (bnext B1.out b2)
    have HU := Lib.hid (impl_UnusedIngots w2 _ _ ys ms (RI.out.up b2) (by omega) HOK.out (RM.out.up b2) (by omega) HF.out)
    clear b2 HLO
    generalize allS ys ms = cc at *
    go_wp2_with fail
    refine HU.out.mono ?_; rintro e w3 ⟨r3, rfl, o3, b3⟩
    obtain ⟨ro, rc, er⟩ := (own_rd o3).form
    have B3 := Lib.hid (bnext B2.out b3)
    clear o3 b3 HU
    subst er
    go_wp2_with fail
    go_ret
    exact ⟨rfl, B3.out⟩
  | true =>
    have e2 : lossS ys ms = (lossV ys ms, 0) := by unfold lossS; rw [if_pos hA, hP]; rfl
    have e3 : unusedS ys ms = freeL ys ms := if_pos hA
    have HEA := Lib.hid (fun m hm => metal_each hA hP (m := m) hm)
    have HMF := Lib.hid (fun m (hm : m ∈ ms) => (by have q := metal_each hA hP hm; omega : 0 ≤ m.mass ∧ m.mass ≤ 320000000))
    have hlb := lossV_bdM (xs := ys) (ms := ms) (fun m hm => by have q := metal_each hA hP hm; omega)
    have HLAW := Lib.hid (metal_law hA)
    have hfl : (freeL ys ms).length ≤ 1048576 := by
      have := unused_len ys ms; rw [e3] at this; omega
    rw [e2] at HLO
    have hlb2 : 0 ≤ lossV ys ms ∧ lossV ys ms ≤ 5000000000 := by
      have : (ms.length : Int) * 320000000 ≤ 13 * 320000000 := by omega
      omega
    have HA := Lib.hid hA
    obtain ⟨LV, hLV⟩ : ∃ LV, lossV ys ms = LV := ⟨_, rfl⟩
    rw [hLV] at HLO hlb2 HLAW
    clear e2 hP hlb hA hLV
    go_wp2_with fail
    refine HLO.out.mono ?_; rintro e w2 ⟨rfl, b2⟩
    have B2 := Lib.hid (bnext B1.out b2)
    have HU : Hid (Calls Try.prog 41 #[.slice io ys.length ic, .slice mo ms.length mc] w2 fun e w' => ∃ r : Value, e = .returned (.tuple #[r, .int .i64 0]) ∧ w'.ownsRow w2.heap.size 9 1 r (freeL ys ms).length ((freeL ys ms).flatMap putStr) ∧ Below w2.heap.size w2 w') := Lib.hid (by
      have q := impl_UnusedIngots w2 _ _ ys ms (RI.out.up b2) (by omega) HOK.out (RM.out.up b2) (by omega) HF.out
      rw [e3, HA.out] at q; exact q)
    have RI2 := Lib.hid (RI.out.up b2)
    have RM2 := Lib.hid (RM.out.up b2)
    clear b2 HLO RI RM B1 e3 HA
    go_wp2_with fail
    refine HU.out.mono ?_; rintro e w3 ⟨r3, rfl, o3, b3⟩
    obtain ⟨ro, rc, er⟩ := (own_rd o3).form
    subst er
    have B3 := Lib.hid (bnext B2.out b3)
    have RU := Lib.hid (own_rd o3)
    have RI3 := Lib.hid (RI2.out.up b3)
    have RM3 := Lib.hid (RM2.out.up b3)
    obtain ⟨_, _, em3, _, _, hsM⟩ := RM2.out.up b3
    injection em3 with q1 q2 q3
    subst q1 q3
    have HSM := Lib.hid hsM
    clear o3 b3 HU RI2 RM2 B2 hsM q2
    go_wp2_with fail
    go_loopw [9, 10, 11, 12, 13, 14] (fun s i _ _ _ _ wr => ∃ (k : Nat), k ≤ ms.length ∧ i = .int .i64 k ∧ s = .int .i64 (LV + massS (ms.take k)) ∧ Below w3.heap.size w3 wr) (fun _ i _ _ _ _ _ => ms.length - (intOf i).toNat)
    case atStart => exact ⟨0, Nat.zero_le _, rfl, by simp [massS], Below.refl _ _⟩
    case round =>
      obtain ⟨k, hk, rfl, rfl, hb⟩ := hrel
      have hmsb := massS_bd (ms := ms.take k) (take_mem HMF.out)
      rw [List.length_take] at hmsb
      have hmsb2 : 0 ≤ massS (ms.take k) ∧ massS (ms.take k) ≤ 5000000000 := by omega
      have HB := Lib.hid hb
      clear hmsb
      by_cases hlt : k < ms.length
      · obtain ⟨bb, off, rfl, hbb, hcc⟩ := HSM.out (by omega)
        obtain ⟨l, p0, p1, p2, hrd⟩ := hcc k hlt
        obtain ⟨lo, lc, rfl⟩ := hrd.form
        have c0 := (hb.cell (p := ⟨bb, off + k * 3, none⟩) hbb).trans p0
        have c1 := (hb.cell (p := ⟨bb, off + k * 3 + 1, none⟩) hbb).trans p1
        have c2 := (hb.cell (p := ⟨bb, off + k * 3 + 2, none⟩) hbb).trans p2
        have hbr : bb < wr.heap.size := Nat.lt_of_lt_of_le hbb hb.size
        have hmem := List.getElem_mem hlt
        obtain ⟨g1, g2, g3, g4, g5, g6⟩ := HEA.out ms[k] hmem
        have HMC := Lib.hid (fun w' (b : Below w3.heap.size w3 w') => (by have q := impl_MetalOf w' _ ys ms[k] lo lc (RI3.out.up b) (by omega) HOK.out (hrd.up b) (HF.out ms[k] hmem); rw [g1] at q; exact q : Calls Try.prog 42 #[.slice io ys.length ic, .agg #[.string ms[k].id, .slice lo ms[k].ingots.length lc, .int .i64 ms[k].mass]] w' fun e w'' => e = .returned (.tuple #[.int .i64 (metalS ys ms[k].ingots), .int .i64 0]) ∧ Below w'.heap.size w' w''))
        have HAL := Lib.hid (fun w' (b : Below w3.heap.size w3 w') => (by have q := impl_AlloyOfMelt w' _ ys ms[k] lo lc (RI3.out.up b) (by omega) HOK.out (hrd.up b) (HF.out ms[k] hmem); rw [g4] at q; exact q : Calls Try.prog 43 #[.slice io ys.length ic, .agg #[.string ms[k].id, .slice lo ms[k].ingots.length lc, .int .i64 ms[k].mass]] w' fun e w'' => e = .returned (.tuple #[.agg #[.int .i64 (alloyOfS ys ms[k]).1.copper, .int .i64 (alloyOfS ys ms[k]).1.tin, .int .i64 (alloyOfS ys ms[k]).1.other], .int .i64 0]) ∧ Below w'.heap.size w' w''))
        have HVA := Lib.hid (fun w' => (by have q := spec_ValidAlloy (alloyOfS ys ms[k]).1 w'; rw [g5] at q; exact q : Calls Try.prog 44 #[.agg #[.int .i64 (alloyOfS ys ms[k]).1.copper, .int .i64 (alloyOfS ys ms[k]).1.tin, .int .i64 (alloyOfS ys ms[k]).1.other]] w' fun e w'' => e = .returned (.bool true) ∧ Below w'.heap.size w' w''))
        have HES := Lib.hid (massS_succ ms k hlt)
        have hmm := HMF.out ms[k] hmem
        clear hb hcc p0 p1 p2 hrd g1 g4 g5 hmem
        generalize (alloyOfS ys ms[k]).1 = AL at *
        obtain ⟨ac, at_, ao⟩ := AL
        obtain ⟨MT, hMT⟩ : ∃ MT, metalS ys ms[k].ingots = MT := ⟨_, rfl⟩
        obtain ⟨SM, hSM⟩ : ∃ SM, massS (ms.take k) = SM := ⟨_, rfl⟩
        rw [hMT] at HMC g2 g3
        rw [hSM] at HES hmsb2
        have t1 : decide (MT < ms[k].mass) = false := decide_eq_false (by omega)
        rw [hSM]
        clear hMT hSM
        go_wp2_with fail
        refine (HMC.out _ HB.out).mono ?_; rintro e w5 ⟨rfl, b5⟩
        have HB5 := Lib.hid (HB.out.trans (b5.mono HB.out.size))
        have d0 := (b5.cell (p := ⟨bb, off + k * 3, none⟩) hbr).trans c0
        have d1 := (b5.cell (p := ⟨bb, off + k * 3 + 1, none⟩) hbr).trans c1
        have d2 := (b5.cell (p := ⟨bb, off + k * 3 + 2, none⟩) hbr).trans c2
        have hbr5 : bb < w5.heap.size := Nat.lt_of_lt_of_le hbr b5.size
        clear b5 HB c0 c1 c2 HMC
        go_wp2_with fail
        refine (HAL.out _ HB5.out).mono ?_; rintro e w6 ⟨rfl, b6⟩
        have HB6 := Lib.hid (HB5.out.trans (b6.mono HB5.out.size))
        have f0 := (b6.cell (p := ⟨bb, off + k * 3, none⟩) hbr5).trans d0
        have f1 := (b6.cell (p := ⟨bb, off + k * 3 + 1, none⟩) hbr5).trans d1
        have f2 := (b6.cell (p := ⟨bb, off + k * 3 + 2, none⟩) hbr5).trans d2
        have hbr6 : bb < w6.heap.size := Nat.lt_of_lt_of_le hbr5 b6.size
        clear b6 HB5 d0 d1 d2 HAL
        go_wp2_with fail
        refine (HVA.out _).mono ?_; rintro e w7 ⟨rfl, b7⟩
        have HB7 : Hid (Below w3.heap.size w3 w7) := Lib.hid (HB6.out.trans (Below.mono (Below.trans (show Below w6.heap.size w6 _ by (repeat' (first | (with_reducible exact Below.refl _ _) | (with_reducible assumption) | (with_reducible refine below_dn ?_ _) | (with_reducible refine Below.drew ?_) | (with_reducible refine Below.alloc ?_ ?_ _) | (with_reducible refine Below.setCell ?_ ?_ _) | go_size))) (b7.mono (by first | omega | (simp <;> omega)))) HB6.out.size))
        clear b7 HB6 f0 f1 f2 HVA
        go_wp2_with fail
        go_roundw
        case rel => exact ⟨k + 1, by omega, by go_num, by rw [HES.out]; congr 1; omega, HB7.out⟩
        case measure => simp [intOf]; omega
      · obtain rfl : k = ms.length := by omega
        rw [List.take_length] at hmsb2 ⊢
        obtain ⟨w4, rfl⟩ : ∃ w4 : World, w4 = wr := ⟨_, rfl⟩
        obtain ⟨SA, hSA⟩ : ∃ SA, LV + massS ms = SA := ⟨_, rfl⟩
        rw [hSA]
        have hsa : 0 ≤ SA ∧ SA ≤ 10000000000 := by omega
        have HLW : Hid (SA + sumP (fun x => !(ms.any (namesB x.id))) ys = (ys.map massF).sum) := Lib.hid (by rw [← hSA]; exact HLAW.out)
        have RI4 := Lib.hid (RI3.out.up HB.out)
        have RU4 := Lib.hid (RU.out.up HB.out)
        have B4 := Lib.hid (B3.out.trans (HB.out.mono B3.out.size))
        obtain ⟨_, _, _, ei4, _, _, _, hsI⟩ := RI3.out.up HB.out
        injection ei4 with q1 q2 q3
        subst q1 q3
        have HSI := Lib.hid hsI
        clear hb HB RI3 RU B3 HSM RM3 hsI q2 hSA HLAW HEA HMF hmsb2 hlb2 HF HOK
        go_wp2_with fail
        go_loopw [9, 15, 16] (fun s a i wr => ∃ (k : Nat), k ≤ ys.length ∧ i = .int .i64 k ∧ a = .int .i64 (((ys.take k).map massF).sum) ∧ s = .int .i64 (SA + sumP (fun x => !(ms.any (namesB x.id))) (ys.take k)) ∧ Below w4.heap.size w4 wr) (fun _ _ i _ => ys.length - (intOf i).toNat)
        case atStart => exact ⟨0, Nat.zero_le _, rfl, by simp, by simp [sumP], Below.refl _ _⟩
        case round =>
          obtain ⟨k, hk, rfl, rfl, rfl, hb⟩ := hrel
          have z1 := massI_bd (xs := ys.take k) (take_mem HMM.out)
          have z2 := sumP_bd (fun x => !(ms.any (namesB x.id))) (xs := ys.take k) (take_mem HMM.out)
          rw [List.length_take] at z1 z2
          have HB := Lib.hid hb
          by_cases hlt : k < ys.length
          · obtain ⟨bb, off, rfl, hbb, hcc⟩ := HSI.out (by omega)
            have c0 : wr.cell? ⟨bb, off + k * 5, none⟩ = some (.string ys[k].id) := (hb.cell (p := ⟨bb, off + k * 5, none⟩) hbb).trans ((hcc (k * 5) (by omega)).trans (Ingot_get0 ys k hlt))
            have c1 : wr.cell? ⟨bb, off + k * 5 + 1, none⟩ = some (.int .i64 ys[k].mass) := by rw [Nat.add_assoc]; exact (hb.cell (p := ⟨bb, off + (k * 5 + 1), none⟩) hbb).trans ((hcc (k * 5 + 1) (by omega)).trans (Ingot_get1 ys k hlt))
            have hbr : bb < wr.heap.size := Nat.lt_of_lt_of_le hbb hb.size
            have hmem := List.getElem_mem hlt
            have hmk := HMM.out ys[k] hmem
            have HES := Lib.hid (sumP_succ (fun x => !(ms.any (namesB x.id))) ys k hlt)
            have HEA := Lib.hid (massI_succ ys k hlt)
            have hfr := free_has (ms := ms) hmem
            have HIN := Lib.hid (laws_b10In wr _ (freeL ys ms) ys[k].id (RU4.out.up hb) hfl)
            rw [hfr] at HIN
            clear hb hcc hmem hfr
            generalize (!(ms.any (namesB ys[k].id))) = yes at *
            generalize sumP (fun x => !(ms.any (namesB x.id))) (ys.take k) = SP at *
            generalize ((ys.take k).map massF).sum = AP at *
            generalize ys[k].mass = MK at *
            generalize ys[k].id = IK at *
            cases yes with
            | false =>
              go_wp2_with fail
              refine HIN.out.mono ?_; rintro e w5 ⟨rfl, b5⟩
              have HB5 := Lib.hid (HB.out.trans (b5.mono HB.out.size))
              clear b5 HB HIN c0 c1
              go_wp2_with fail
              go_roundw
              case rel => exact ⟨k + 1, by omega, by go_num, by rw [HEA.out], by rw [HES.out]; simp, HB5.out⟩
              case measure => simp [intOf]; omega
            | true =>
              go_wp2_with fail
              refine HIN.out.mono ?_; rintro e w5 ⟨rfl, b5⟩
              have HB5 := Lib.hid (HB.out.trans (b5.mono HB.out.size))
              have d1 := (b5.cell (p := ⟨bb, off + k * 5 + 1, none⟩) hbr).trans c1
              have hbr5 : bb < w5.heap.size := Nat.lt_of_lt_of_le hbr b5.size
              clear b5 HB HIN c0 c1
              go_wp2_with fail
              go_roundw
              case rel => exact ⟨k + 1, by omega, by go_num, by rw [HEA.out], by rw [HES.out]; congr 1; simp; omega, HB5.out⟩
              case measure => simp [intOf]; omega
          · obtain rfl : k = ys.length := by omega
            have B5 := Lib.hid (B4.out.trans (HB.out.mono B4.out.size))
            have hlw := HLW.out
            rw [List.take_length] at *
            obtain ⟨AP, hAP⟩ : ∃ AP, (ys.map massF).sum = AP := ⟨_, rfl⟩
            rw [hlw, hAP]
            have tq : (AP == AP) = true := beq_self_eq_true _
            clear hlw hAP HLW hb HB
            go_wp2_with fail
            go_ret
            exact ⟨by simp, B5.out⟩
end Go.Proofs.Ytnbodmbagendnaa
