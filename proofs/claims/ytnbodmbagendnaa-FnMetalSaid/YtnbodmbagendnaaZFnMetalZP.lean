/- Contracts and plain facts, joined: LossOf. -/
import Derived.Test.YtnbodmbagendnaaRows
import Derived.Test.YtnbodmbagendnaaZFnMetalZL
namespace Go.Proofs.Ytnbodmbagendnaa
open Go.ChangeShapes Go.WideShapes Go.ChangeAt Go.RowKit Go.Deep Go.Joins
set_option linter.unusedVariables false
set_option maxRecDepth 100000
set_option linter.unusedSimpArgs false
def lossV (xs : List Ingot) (ms : List Melt) : Int := (ms.map fun m => metalS xs m.ingots - m.mass).sum
theorem lossV_succ (xs : List Ingot) (ms : List Melt) (k : Nat) (hk : k < ms.length) : lossV xs (ms.take (k + 1)) = lossV xs (ms.take k) + (metalS xs ms[k].ingots - ms[k].mass) := by
  unfold lossV
  rw [List.take_succ_eq_append_getElem hk, List.map_append, List.sum_append]
  simp
theorem lossV_bd {xs : List Ingot} : ∀ {ms : List Melt}, (∀ m ∈ ms, 0 ≤ metalS xs m.ingots ∧ metalS xs m.ingots ≤ 320000000 ∧ 1 ≤ m.mass ∧ m.mass ≤ 320000000) → -(ms.length * 320000000 : Int) ≤ lossV xs ms ∧ lossV xs ms ≤ (ms.length : Int) * 320000000
  | [], _ => by simp [lossV]
  | m :: ms, h => by
    have h1 := lossV_bd (ms := ms) (fun x hx => h x (List.mem_cons_of_mem _ hx))
    have h2 := h m List.mem_cons_self
    have e : lossV xs (m :: ms) = (metalS xs m.ingots - m.mass) + lossV xs ms := by simp [lossV]
    rw [e, List.length_cons]
    omega
def lossS (xs : List Ingot) (ms : List Melt) : Int × Int := if allS xs ms = 0 then (if mayAll xs ms then (lossV xs ms, 0) else (0, 6)) else (0, allS xs ms)

theorem spec_l14Metal_above {m : Int} (W x0 : World) (v : Value) (xs : List Ingot) (ids : List ByteArray) (cs : List Int) (a1 o1 : Nat) (v1 : Value) (h : Rd W.heap.size W v 5 xs.length (xs.flatMap Ingot.put)) (hn : xs.length ≤ 16) (hr : Rises xs) (hv : ∀ x ∈ xs, ingotB x = true)
    (g1 : W.cell? ⟨a1, o1 + 1, none⟩ = some v1) (ha1 : a1 < W.heap.size) (h2 : Rd W.heap.size W v1 1 ids.length (ids.flatMap putStr)) (hn2 : ids.length ≤ 1048576) (hc : chosenL xs ids = some cs) (hch : choiceB xs.length cs = true) (hm : metalS xs ids = m) :
    Calls Try.prog 120 #[v, .pointer (some ⟨a1, o1, none⟩)] (above W x0) fun e w' => e = .returned (.int .i64 m) ∧ ∃ y, w' = above W y := by
  subst hm
  rw [metalS_some hc]
  exact aboveC (spec_l14Metal _ v xs ids cs a1 o1 v1 (h.up (above_below _ _)) hn hr hv ((above_cell ha1).trans g1) (Nat.lt_of_lt_of_le ha1 (above_below _ _).size) (h2.up (above_below _ _)) hn2 hc hch)
theorem impl_possible_is {b0 : Bool} (w : World) (v u : Value) (xs : List Ingot) (ms : List Melt) (h : Rd w.heap.size w v 5 xs.length (xs.flatMap Ingot.put)) (hn : xs.length ≤ 16) (hr : Rises xs) (hv : ∀ x ∈ xs, ingotB x = true)
    (h2 : RdM w.heap.size w u ms) (hn2 : ms.length ≤ 12) (hf : ∀ m ∈ ms, m.fine) (hm : ∀ m ∈ ms, meltB m = true) (hb : mayAll xs ms = b0) :
    Calls Try.prog 94 #[v, u] w fun e w' => e = .returned (.bool b0) ∧ Below w.heap.size w w' := by
  subst hb; exact impl_possible w v u xs ms h hn hr hv h2 hn2 hf hm

set_option maxHeartbeats 4000000 in
theorem impl_LossOf (w : World) (v u : Value) (xs : List Ingot) (ms : List Melt) (h : Rd w.heap.size w v 5 xs.length (xs.flatMap Ingot.put)) (hn : xs.length ≤ 1048576) (hok : ∀ x ∈ xs, x.ok) (h2 : RdM w.heap.size w u ms) (hn2 : ms.length ≤ 1048576) (hf : ∀ m ∈ ms, m.fine) :
    Calls Try.prog 40 #[v, u] w fun e w' => e = .returned (.tuple #[.int .i64 (lossS xs ms).1, .int .i64 (lossS xs ms).2]) ∧ Below w.heap.size w w' := by
  have H2' := h2
  obtain ⟨vo, vc, rfl⟩ := h.form
  obtain ⟨ao, cap, rfl, hcap, hmax, hsome⟩ := h2
  have h2 := H2'; clear H2'
  have H1 := Lib.hid h; clear h
  have H2 := Lib.hid h2; clear h2
  have Hok := Lib.hid hok; clear hok
  have Hf := Lib.hid hf; clear hf
  by_cases h0 : allS xs ms = 0
  case neg =>
    have e : Hid (lossS xs ms = (0, allS xs ms)) := (if_neg h0 : lossS xs ms = (0, allS xs ms))
    have t0 : (allS xs ms != 0) = true := bne_iff_ne.2 h0
    clear h0 hsome
    go_enter Try.func40, Try.ntmps40
    go_wp2_with fail
    refine (impl_meltsOf_is _ _ _ xs ms H1.out hn Hok.out H2.out hn2 Hf.out rfl).mono ?_; rintro e1 w1 ⟨rfl, b1⟩
    go_wp2_with fail
    go_ret2
    exact ⟨by rw [e.out]; rfl, b1⟩
  obtain ⟨hV, hM, hE⟩ := allS_zero h0
  obtain ⟨h16, hall⟩ := validIngotS_true hV
  obtain ⟨h12, hma⟩ := meltsB_true hM
  have HR := Lib.hid (rises_of hV)
  have HA := Lib.hid hall
  have HMA := Lib.hid hma
  have HEX := Lib.hid (exist_all hE)
  have H0 := Lib.hid h0
  clear hV hM hE hall hma
  cases hP : mayAll xs ms
  · have e : Hid (lossS xs ms = (0, 6)) := (by unfold lossS; rw [if_pos h0, hP]; rfl : lossS xs ms = (0, 6))
    have HP := Lib.hid hP
    clear h0 hsome hP
    go_enter Try.func40, Try.ntmps40
    go_wp2_with fail
    refine (impl_meltsOf_is _ _ _ xs ms H1.out hn Hok.out H2.out hn2 Hf.out H0.out).mono ?_; rintro e1 w1 ⟨rfl, b1⟩
    have HB1 := Lib.hid b1; clear b1
    go_wp2_with fail
    refine (impl_possible_is _ _ _ xs ms (by exact H1.out.up HB1.out) h16 HR.out HA.out (by exact H2.out.up HB1.out) h12 Hf.out HMA.out HP.out).mono ?_; rintro e2 w2 ⟨rfl, b2⟩
    have HB2 := Lib.hid (bnext HB1.out b2); clear b2
    go_wp2_with fail
    go_ret2
    exact ⟨by rw [e.out]; rfl, HB2.out⟩
  have e : Hid (lossS xs ms = (lossV xs ms, 0)) := (by unfold lossS; rw [if_pos h0, hP]; rfl : lossS xs ms = (lossV xs ms, 0))
  have HP := Lib.hid hP
  have HBD := Lib.hid (fun m (hm : m ∈ ms) => (by
    obtain ⟨cs, hc⟩ := HEX.out m hm
    have h1 := metal_bd h16 HA.out (ask_choice2 HR.out (HMA.out m hm) hc)
    have h2 := (meltB_parts (HMA.out m hm)).2.2.2.2
    rw [metalS_some hc]
    exact ⟨h1.1, h1.2, h2.1, h2.2⟩ : 0 ≤ metalS xs m.ingots ∧ metalS xs m.ingots ≤ 320000000 ∧ 1 ≤ m.mass ∧ m.mass ≤ 320000000))
  clear h0 hP
  go_enter Try.func40, Try.ntmps40
  go_wp2_with fail
  refine (impl_meltsOf_is _ _ _ xs ms H1.out hn Hok.out H2.out hn2 Hf.out H0.out).mono ?_; rintro e1 w1 ⟨rfl, b1⟩
  have HB1 := Lib.hid b1; clear b1
  go_wp2_with fail
  refine (impl_possible_is _ _ _ xs ms (by exact H1.out.up HB1.out) h16 HR.out HA.out (by exact H2.out.up HB1.out) h12 Hf.out HMA.out HP.out).mono ?_; rintro e2 w2 ⟨rfl, b2⟩
  have HB2 := Lib.hid (bnext HB1.out b2); clear b2 HB1
  have hs2 := HB2.out.size
  go_wp2_with fail
  go_loopw [7, 22] (fun s i wr => ∃ (k : Nat), k ≤ ms.length ∧ i = .int .i64 k ∧ s = .int .i64 (lossV xs (ms.take k)) ∧ Below w2.heap.size w2 wr) (fun _ i _ => ms.length - (intOf i).toNat)
  case atStart => exact ⟨0, Nat.zero_le _, rfl, rfl, Below.refl _ _⟩
  case round =>
    obtain ⟨k, hk, rfl, rfl, hb0⟩ := hrel
    have hb : Below w.heap.size w wr := HB2.out.trans (hb0.mono hs2)
    have HB0 := Lib.hid hb0; clear hb0
    by_cases hlt : k < ms.length
    · obtain ⟨b, off, rfl, hbB, hc⟩ := hsome (by omega)
      obtain ⟨l, p0, p1, p2, hrd⟩ := hc k hlt
      obtain ⟨lo, lc, rfl⟩ := hrd.form
      have c0 := (hb.cell (p := ⟨b, off + k * 3, none⟩) hbB).trans p0
      have c1 := (hb.cell (p := ⟨b, off + k * 3 + 1, none⟩) hbB).trans p1
      have c2 := (hb.cell (p := ⟨b, off + k * 3 + 2, none⟩) hbB).trans p2
      have hbr : b < wr.heap.size := Nat.lt_of_lt_of_le hbB hb.size
      have hin : ms[k].ingots.length ≤ 1048576 := (Hf.out ms[k] (List.getElem_mem hlt)).2.2.2
      obtain ⟨cs, hcs⟩ := HEX.out ms[k] (List.getElem_mem hlt)
      have HCS := Lib.hid hcs
      have HCC := Lib.hid (ask_choice2 HR.out (HMA.out ms[k] (List.getElem_mem hlt)) hcs)
      obtain ⟨m1, m2, m3, m4⟩ := HBD.out ms[k] (List.getElem_mem hlt)
      have hl := lossV_bd (xs := xs) (ms := ms.take k) (fun m hm => HBD.out m (List.mem_of_mem_take hm))
      rw [List.length_take, Nat.min_eq_left (by omega)] at hl
      obtain ⟨l1, l2⟩ := hl
      have E1 : Hid (lossV xs (ms.take (k + 1)) = lossV xs (ms.take k) + (metalS xs ms[k].ingots - ms[k].mass)) := lossV_succ xs ms k hlt
      have HU := Lib.hid (H1.out.up hb)
      have HRD := Lib.hid (hrd.up hb)
      have HMM : Hid (metalS xs ms[k].ingots = metalS xs ms[k].ingots) := rfl
      have HMX := Lib.hid (metalS_some hcs)
      clear hc hsome hb p0 p1 p2 hrd hcs
      generalize hmv : metalS xs ms[k].ingots = mv at m1 m2 E1
      have HMV := Lib.hid hmv; clear hmv HMM
      generalize lossV xs (ms.take k) = S0 at *
      have HX := Lib.hid (fun (w' : World) (hb' : Below wr.heap.size wr w') => impl_metalOf w' (.slice vo xs.length vc) xs ms[k] lo lc cs (HU.out.up hb') h16 HR.out HA.out (HRD.out.up hb') hin HCS.out HCC.out)
      have HXE : Hid (sumK massF xs cs = mv) := (HMX.out.symm.trans HMV.out : sumK massF xs cs = mv)
      rw [HXE.out] at HX
      clear HXE HMX HMV HCS HCC
      go_wp2_with fail
      refine wp_region_above (by kernel_rfl) (by kernel_rfl) ?_
      repeat (go_big_quiet_step (((go_at_call 95; exact aboveC (HX.out _ (Below.trans (by (repeat' (first | (with_reducible exact Below.refl _ _) | (with_reducible assumption) | (with_reducible refine below_dn ?_ _) | (with_reducible refine Below.drew ?_) | (with_reducible refine Below.alloc ?_ ?_ _) | (with_reducible refine Below.setCell ?_ ?_ _) | go_size))) ((above_below _ _).mono (by simp <;> omega))))))))
      refine wpQuiet_nil ?_
      intro w3 b3
      have HB3 := Lib.hid (HB0.out.trans (Below.trans (by (repeat' (first | (with_reducible exact Below.refl _ _) | (with_reducible assumption) | (with_reducible refine below_dn ?_ _) | (with_reducible refine Below.drew ?_) | (with_reducible refine Below.alloc ?_ ?_ _) | (with_reducible refine Below.setCell ?_ ?_ _) | go_size))) (b3.mono (by simp <;> omega)) |>.mono HB0.out.size)); clear b3
      go_wp2_with fail
      go_roundw
      case rel => exact ⟨k + 1, by omega, by go_num, by rw [E1.out], HB3.out⟩
      case measure => simp [intOf]; omega
    · have e1 : Hid (ms.take k = ms) := (take_all (by omega) : ms.take k = ms)
      clear hsome
      have HB := Lib.hid hb; clear hb
      go_wp2
      go_ret2
      exact ⟨by rw [e.out, e1.out]; rfl, HB.out⟩
end Go.Proofs.Ytnbodmbagendnaa
