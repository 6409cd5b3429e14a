/- Contracts and plain facts, joined: Possible. -/
import Derived.Test.YtnbodmbagendnaaGreatDoorRows
import Derived.Test.YtnbodmbagendnaaGreatDoorZFnMeltsZA
namespace Go.Proofs.YtnbodmbagendnaaGreatDoor
open Go.ChangeShapes Go.WideShapes Go.ChangeAt Go.RowKit Go.Deep Go.Joins
set_option linter.unusedVariables false
set_option maxRecDepth 100000
set_option linter.unusedSimpArgs false
/-- all exist, and none is too great -/
def mayB (xs : List Ingot) (m : Melt) : Bool := (chosenL xs m.ingots).isSome && decide (m.mass ≤ mostS xs m.ingots)
def mayAll (xs : List Ingot) (ms : List Melt) : Bool := !(ms.any fun m => !mayB xs m)
theorem meltsB_true {ms : List Melt} (h : meltsB ms = true) : ms.length ≤ 12 ∧ ∀ m ∈ ms, meltB m = true := by
  simp only [meltsB, Bool.and_eq_true, decide_eq_true_eq] at h
  refine ⟨h.2, fun m hm => ?_⟩
  obtain ⟨i, hi, rfl⟩ := List.mem_iff_getElem.1 hm
  have := allK_true h.1 i hi
  rw [meltsAt_eq hi] at this
  simp only [Bool.and_eq_true] at this
  exact this.1
theorem mostS_some {xs : List Ingot} {ids : List ByteArray} {cs : List Int} (h : chosenL xs ids = some cs) : mostS xs ids = mostV (sumK massF xs cs) := by unfold mostS; rw [metalS_some h]; rfl
theorem mayB_none {xs : List Ingot} {m : Melt} (h : chosenL xs m.ingots = none) : mayB xs m = false := by unfold mayB; rw [h]; rfl
theorem mayB_some {xs : List Ingot} {m : Melt} {cs : List Int} (h : chosenL xs m.ingots = some cs) : mayB xs m = decide (m.mass ≤ mostV (sumK massF xs cs)) := by unfold mayB; rw [mostS_some h, h]; rfl
theorem ask_choice2 {xs : List Ingot} {m : Melt} {cs : List Int} (hr : Rises xs) (hM : meltB m = true) (hc : chosenL xs m.ingots = some cs) : choiceB xs.length cs = true :=
  choice_of hr (risesT_of (meltB_parts hM).2.2.2.1) hc

theorem spec_l14Most_above {m : Int} (W x0 : World) (v : Value) (xs : List Ingot) (ids : List ByteArray) (cs : List Int) (a1 o1 : Nat) (v1 : Value) (h : Rd W.heap.size W v 5 xs.length (xs.flatMap Ingot.put)) (hn : xs.length ≤ 16) (hr : Rises xs) (hv : ∀ x ∈ xs, ingotB x = true)
    (g1 : W.cell? ⟨a1, o1 + 1, none⟩ = some v1) (ha1 : a1 < W.heap.size) (h2 : Rd W.heap.size W v1 1 ids.length (ids.flatMap putStr)) (hn2 : ids.length ≤ 1048576) (hc : chosenL xs ids = some cs) (hch : choiceB xs.length cs = true) (hm : mostV (sumK massF xs cs) = m) :
    Calls Tryz.prog 104 #[v, .pointer (some ⟨a1, o1, none⟩)] (above W x0) fun e w' => e = .returned (.int .i64 m) ∧ ∃ y, w' = above W y := by
  subst hm
  exact aboveC (spec_l14Most _ v xs ids cs a1 o1 v1 (h.up (above_below _ _)) hn hr hv ((above_cell ha1).trans g1) (Nat.lt_of_lt_of_le ha1 (above_below _ _).size) (h2.up (above_below _ _)) hn2 hc hch)

/-- the program's closure: a mass that is too great -/
def overB (xs : List Ingot) (m : Melt) : Bool := decide (mostS xs m.ingots < m.mass)
set_option maxHeartbeats 1000000 in
theorem impl_possible1 (x : Melt) (lo : Option Addr) (lc : Nat) (g : Nat) (v : Value) (xs : List Ingot) (cs : List Int) (w : World) (g0 : w.cell? ⟨g, 0, none⟩ = some v) (hg : g < w.heap.size) (h : Rd w.heap.size w v 5 xs.length (xs.flatMap Ingot.put)) (hn : xs.length ≤ 16) (hr : Rises xs) (hv : ∀ x ∈ xs, ingotB x = true)
    (h2 : Rd w.heap.size w (.slice lo x.ingots.length lc) 1 x.ingots.length (x.ingots.flatMap putStr)) (hn2 : x.ingots.length ≤ 1048576) (hc : chosenL xs x.ingots = some cs) (hch : choiceB xs.length cs = true) :
    Calls Tryz.prog 78 #[.agg #[.string x.id, .slice lo x.ingots.length lc, .int .i64 x.mass], .pointer (some ⟨g, 0, none⟩)] w fun e w' => e = .returned (.bool (overB xs x)) ∧ Below w.heap.size w w' := by
  have em : Hid (overB xs x = decide (mostV (sumK massF xs cs) < x.mass)) := (by unfold overB; rw [mostS_some hc] : overB xs x = decide (mostV (sumK massF xs cs) < x.mass))
  have HX := Lib.hid (fun w' (hb : Below w.heap.size w w') => impl_mostFrom w' v xs x lo lc cs (h.up hb) hn hr hv (h2.up hb) hn2 hc hch)
  obtain ⟨vo, vc, rfl⟩ := h.form
  clear h hr hv h2 hc hch
  generalize mostV (sumK massF xs cs) = mv at *
  go_enter Tryz.func78, Tryz.ntmps78
  go_wp2_with fail
  refine wp_region_above (by kernel_rfl) (by kernel_rfl) ?_
  repeat (go_big_quiet_step (((go_at_call 24; exact aboveC (HX.out _ (Below.trans (by (repeat' (first | (with_reducible exact Below.refl _ _) | (with_reducible assumption) | (with_reducible refine below_dn ?_ _) | (with_reducible refine Below.drew ?_) | (with_reducible refine Below.alloc ?_ ?_ _) | (with_reducible refine Below.setCell ?_ ?_ _) | go_size))) ((above_below _ _).mono (by simp <;> omega))))))))
  refine wpQuiet_nil ?_
  intro w1 b1
  go_wp2_with fail
  go_ret
  exact ⟨by rw [em.out]; rfl, Below.trans (by (repeat' (first | (with_reducible exact Below.refl _ _) | (with_reducible assumption) | (with_reducible refine below_dn ?_ _) | (with_reducible refine Below.drew ?_) | (with_reducible refine Below.alloc ?_ ?_ _) | (with_reducible refine Below.setCell ?_ ?_ _) | go_size))) (b1.mono (by simp <;> omega))⟩

set_option maxHeartbeats 1000000 in
theorem IndexFunc_possible1 (g : Nat) (w : World) (v : Value) (xs : List Melt) (p : Melt → Bool) (h : RdM w.heap.size w v xs) (hn : xs.length ≤ 1048576)
    (H : ∀ (wr : World) (hb : Below w.heap.size w wr) (k : Nat) (hk : k < xs.length) (lo : Option Addr) (lc : Nat) (hr : Rd wr.heap.size wr (.slice lo xs[k].ingots.length lc) 1 xs[k].ingots.length (xs[k].ingots.flatMap putStr)), Calls Tryz.prog 78 #[.agg #[.string xs[k].id, .slice lo xs[k].ingots.length lc, .int .i64 xs[k].mass], .pointer (some ⟨g, 0, none⟩)] wr fun e w' => e = .returned (.bool (p xs[k])) ∧ Below wr.heap.size wr w') :
    Calls Tryz.prog 61 #[v, .func (.func 78) #[] #[.pointer (some ⟨g, 0, none⟩)]] w fun e w' => (∃ r : Int, e = .returned (.int .i64 r) ∧ decide (0 ≤ r) = xs.any p) ∧ Below w.heap.size w w' := by
  obtain ⟨ao, cap, rfl, hcap, hmax, hsome⟩ := h
  go_enter Tryz.func61, Tryz.ntmps61
  have HH := Lib.hid H; clear H
  go_wp2
  go_loopw [8] (fun i wr => ∃ (k : Nat), k ≤ xs.length ∧ i = .int .i64 k ∧ (xs.take k).any p = false ∧ Below w.heap.size w wr) (fun i _ => xs.length - (intOf i).toNat)
  case atStart => exact ⟨0, Nat.zero_le _, rfl, rfl, Below.refl _ _⟩
  case round =>
    obtain ⟨k, hk, rfl, hall, hb⟩ := hrel
    have Hall := Lib.hid hall; clear hall
    by_cases hlt : k < xs.length
    · obtain ⟨b, off, rfl, hbB, hc⟩ := hsome (by omega)
      obtain ⟨l, p0, p1, p2, hr⟩ := hc k hlt
      obtain ⟨lo, lc, rfl⟩ := hr.form
      have c0 := (hb.cell (p := ⟨b, off + k * 3, none⟩) hbB).trans p0
      have c1 := (hb.cell (p := ⟨b, off + k * 3 + 1, none⟩) hbB).trans p1
      have c2 := (hb.cell (p := ⟨b, off + k * 3 + 2, none⟩) hbB).trans p2
      have hbr : b < wr.heap.size := Nat.lt_of_lt_of_le hbB hb.size
      have HC := Lib.hid (HH.out wr hb k hlt lo lc (hr.up hb)); clear HH
      have HB := Lib.hid hb
      clear hc hsome hb p0 p1 p2 hr
      cases hO : p xs[k]
      all_goals rw [hO] at HC
      · have e : Hid ((xs.take (k + 1)).any p = false) := (by rw [any_take xs k hlt, Hall.out, hO]; rfl : (xs.take (k + 1)).any p = false)
        clear hO
        go_wp2_with fail
        go_at_call 78
        refine HC.out.mono ?_; rintro e1 w1 ⟨rfl, b1⟩
        have HB1 := Lib.hid (HB.out.trans (b1.mono HB.out.size)); clear b1 HB
        go_wp2_with fail
        go_roundw
        case rel => exact ⟨k + 1, by omega, by go_num, e.out, HB1.out⟩
        case measure => simp [intOf]; omega
      · have e : Hid (xs.any p = true) := (any_at xs k hlt hO : xs.any p = true)
        clear hO
        go_wp2_with fail
        go_at_call 78
        refine HC.out.mono ?_; rintro e1 w1 ⟨rfl, b1⟩
        have HB1 := Lib.hid (HB.out.trans (b1.mono HB.out.size)); clear b1 HB
        go_wp2_with fail
        go_ret
        exact ⟨⟨_, rfl, by rw [e.out]; simp⟩, HB1.out⟩
    · have e : Hid (xs.any p = false) := (by
        have := Hall.out
        rwa [List.take_of_length_le (by omega)] at this : xs.any p = false)
      clear HH
      go_wp2
      go_ret
      exact ⟨⟨_, rfl, by rw [e.out]; rfl⟩, hb⟩

theorem ContainsFunc_possible1 (g : Nat) (w : World) (v : Value) (xs : List Melt) (p : Melt → Bool) (h : RdM w.heap.size w v xs) (hn : xs.length ≤ 1048576)
    (H : ∀ (wr : World) (hb : Below w.heap.size w wr) (k : Nat) (hk : k < xs.length) (lo : Option Addr) (lc : Nat) (hr : Rd wr.heap.size wr (.slice lo xs[k].ingots.length lc) 1 xs[k].ingots.length (xs[k].ingots.flatMap putStr)), Calls Tryz.prog 78 #[.agg #[.string xs[k].id, .slice lo xs[k].ingots.length lc, .int .i64 xs[k].mass], .pointer (some ⟨g, 0, none⟩)] wr fun e w' => e = .returned (.bool (p xs[k])) ∧ Below wr.heap.size wr w') :
    Calls Tryz.prog 25 #[v, .func (.func 78) #[] #[.pointer (some ⟨g, 0, none⟩)]] w fun e w' => e = .returned (.bool (xs.any p)) ∧ Below w.heap.size w w' := by
  have H2 := Lib.hid (IndexFunc_possible1 g w v xs p h hn H)
  clear h H
  go_enter Tryz.func25, Tryz.ntmps25
  go_wp2_with fail
  refine H2.out.mono ?_; rintro e w1 ⟨⟨r, rfl, hr⟩, b1⟩
  have Hr := Lib.hid hr; clear hr
  go_wp2_with fail
  go_ret
  exact ⟨by rw [← Hr.out]; rfl, b1⟩

set_option maxHeartbeats 2000000 in
theorem impl_possible (w : World) (v u : Value) (xs : List Ingot) (ms : List Melt) (h : Rd w.heap.size w v 5 xs.length (xs.flatMap Ingot.put)) (hn : xs.length ≤ 16) (hr : Rises xs) (hv : ∀ x ∈ xs, ingotB x = true)
    (h2 : RdM w.heap.size w u ms) (hn2 : ms.length ≤ 12) (hf : ∀ m ∈ ms, m.fine) (hm : ∀ m ∈ ms, meltB m = true) :
    Calls Tryz.prog 41 #[v, u] w fun e w' => e = .returned (.bool (mayAll xs ms)) ∧ Below w.heap.size w w' := by
  have HM := Lib.hid (Own.new w 24 [v])
  have HE := Lib.hid (fun w' (hb : Below w.heap.size w w') => impl_exist w' v u xs ms (h.up hb) (by omega) hr (h2.up hb) (by omega) (fun m hm => (hf m hm).2.2.2))
  have H1 := Lib.hid h
  obtain ⟨vo, vc, rfl⟩ := h.form
  have H2 := Lib.hid h2
  obtain ⟨uo, uc, rfl, _⟩ := h2
  clear h
  cases hE : existB xs ms
  · have e : Hid (mayAll xs ms = false) := (by
      unfold existB at hE
      have hE2 : ms.any (noneB xs) = true := by simpa using hE
      obtain ⟨m, hm1, hm2⟩ := List.any_eq_true.1 hE2
      have : ms.any (fun m => !mayB xs m) = true := List.any_eq_true.2 ⟨m, hm1, by unfold noneB at hm2; unfold mayB; simp at hm2; rw [hm2]; rfl⟩
      unfold mayAll; rw [this]; rfl : mayAll xs ms = false)
    rw [hE] at HE
    clear hE hr hv hf hm
    go_enter Tryz.func41, Tryz.ntmps41
    go_wp2_with fail
    refine (HE.out _ (by (repeat' (first | (with_reducible exact Below.refl _ _) | (with_reducible assumption) | (with_reducible refine below_dn ?_ _) | (with_reducible refine Below.drew ?_) | (with_reducible refine Below.alloc ?_ ?_ _) | (with_reducible refine Below.setCell ?_ ?_ _) | go_size)))).mono ?_; rintro e1 w1 ⟨rfl, b1⟩
    go_wp2_with fail
    go_ret
    exact ⟨by rw [e.out]; rfl, Below.trans (by (repeat' (first | (with_reducible exact Below.refl _ _) | (with_reducible assumption) | (with_reducible refine below_dn ?_ _) | (with_reducible refine Below.drew ?_) | (with_reducible refine Below.alloc ?_ ?_ _) | (with_reducible refine Below.setCell ?_ ?_ _) | go_size))) (b1.mono (by simp <;> omega))⟩
  have hall : ∀ m ∈ ms, ∃ cs, chosenL xs m.ingots = some cs := fun m hm => by
    unfold existB at hE
    have hE2 : ms.any (noneB xs) = false := by simpa using hE
    have := List.any_eq_false.1 hE2 m hm
    unfold noneB at this
    cases hc : chosenL xs m.ingots with
    | none => rw [hc] at this; exact absurd rfl this
    | some cs => exact ⟨cs, rfl⟩
  have e : Hid (mayAll xs ms = !(ms.any (overB xs))) := (by
    unfold mayAll
    congr 1
    rw [Bool.eq_iff_iff, List.any_eq_true, List.any_eq_true]
    constructor
    · rintro ⟨m, h1, h2⟩
      obtain ⟨cs, hc⟩ := hall m h1
      refine ⟨m, h1, ?_⟩
      rw [mayB_some hc] at h2
      unfold overB; rw [mostS_some hc]
      simp at h2 ⊢; omega
    · rintro ⟨m, h1, h2⟩
      obtain ⟨cs, hc⟩ := hall m h1
      refine ⟨m, h1, ?_⟩
      unfold overB at h2; rw [mostS_some hc] at h2
      rw [mayB_some hc]
      simp at h2 ⊢; omega : mayAll xs ms = !(ms.any (overB xs)))
  rw [hE] at HE
  have HCF := Lib.hid (fun (w1 : World) (b1 : Below (w.alloc (.cells #[.slice vo xs.length vc] 24)).heap.size (w.alloc (.cells #[.slice vo xs.length vc] 24)) w1) =>
    ContainsFunc_possible1 w.heap.size w1 (.slice uo ms.length uc) ms (overB xs) (H2.out.up (Below.trans (by (repeat' (first | (with_reducible exact Below.refl _ _) | (with_reducible assumption) | (with_reducible refine below_dn ?_ _) | (with_reducible refine Below.drew ?_) | (with_reducible refine Below.alloc ?_ ?_ _) | (with_reducible refine Below.setCell ?_ ?_ _) | go_size))) (b1.mono (by simp <;> omega)))) (by omega) (fun wr hb k hk lo lc hr2 => by
      have hO := (HM.out.below b1 HM.out.lt).below hb (HM.out.below b1 HM.out.lt).lt
      obtain ⟨cs, hc⟩ := hall ms[k] (List.getElem_mem hk)
      exact impl_possible1 ms[k] lo lc _ _ xs cs wr (hO.cell 0) hO.lt ((H1.out.up (Below.trans (by (repeat' (first | (with_reducible exact Below.refl _ _) | (with_reducible assumption) | (with_reducible refine below_dn ?_ _) | (with_reducible refine Below.drew ?_) | (with_reducible refine Below.alloc ?_ ?_ _) | (with_reducible refine Below.setCell ?_ ?_ _) | go_size))) (b1.mono (by simp <;> omega)))).up hb) hn hr hv hr2 (hf _ (List.getElem_mem hk)).2.2.2 hc (ask_choice2 hr (hm _ (List.getElem_mem hk)) hc)))
  clear hE hr hv hf hm hall
  go_enter Tryz.func41, Tryz.ntmps41
  go_wp2_with fail
  refine (HE.out _ (by (repeat' (first | (with_reducible exact Below.refl _ _) | (with_reducible assumption) | (with_reducible refine below_dn ?_ _) | (with_reducible refine Below.drew ?_) | (with_reducible refine Below.alloc ?_ ?_ _) | (with_reducible refine Below.setCell ?_ ?_ _) | go_size)))).mono ?_; rintro e1 w1 ⟨rfl, b1⟩
  have HB1 := Lib.hid (show Below w.heap.size w w1 from Below.trans (by (repeat' (first | (with_reducible exact Below.refl _ _) | (with_reducible assumption) | (with_reducible refine below_dn ?_ _) | (with_reducible refine Below.drew ?_) | (with_reducible refine Below.alloc ?_ ?_ _) | (with_reducible refine Below.setCell ?_ ?_ _) | go_size))) (b1.mono (by simp <;> omega)))
  have HC1 := Lib.hid (HCF.out w1 b1)
  clear b1 HCF HE
  go_wp2_with fail
  refine HC1.out.mono ?_; rintro e2 w2 ⟨rfl, b2⟩
  have HB2 := Lib.hid (bnext HB1.out b2); clear b2
  go_wp2_with fail
  go_ret
  exact ⟨by rw [e.out]; rfl, HB2.out⟩

def possibleS (xs : List Ingot) (ms : List Melt) : Bool := validIngotS xs && (meltsB ms && mayAll xs ms)

theorem spec_l14Ok_is {b0 : Bool} (w : World) (v : Value) (ms : List Melt) (h : RdM w.heap.size w v ms) (hn : ms.length ≤ 1048576) (hf : ∀ x ∈ ms, x.fine) (hb : meltsB ms = b0) :
    Calls Tryz.prog 40 #[v] w fun e w' => e = .returned (.bool b0) ∧ Below w.heap.size w w' := by
  subst hb; exact spec_l14Ok w v ms h hn hf
theorem impl_ValidMelts_is {b0 : Bool} (w : World) (v : Value) (ms : List Melt) (h : RdM w.heap.size w v ms) (hn : ms.length ≤ 1048576) (hf : ∀ x ∈ ms, x.fine) (hb : meltsB ms = b0) :
    Calls Tryz.prog 21 #[v] w fun e w' => e = .returned (.bool b0) ∧ Below w.heap.size w w' := by
  subst hb; exact impl_ValidMelts w v ms h hn hf

set_option maxHeartbeats 1000000 in
theorem impl_PossibleMelts (w : World) (v u : Value) (xs : List Ingot) (ms : List Melt) (h : Rd w.heap.size w v 5 xs.length (xs.flatMap Ingot.put)) (hn : xs.length ≤ 1048576) (hok : ∀ x ∈ xs, x.ok) (h2 : RdM w.heap.size w u ms) (hn2 : ms.length ≤ 1048576) (hf : ∀ m ∈ ms, m.fine) :
    Calls Tryz.prog 14 #[v, u] w fun e w' => e = .returned (.bool (possibleS xs ms)) ∧ Below w.heap.size w w' := by
  have H1 := Lib.hid h; clear h
  have H2 := Lib.hid h2; clear h2
  have Hok := Lib.hid hok; clear hok
  have Hf := Lib.hid hf; clear hf
  unfold possibleS
  cases hV : validIngotS xs
  · have HV := Lib.hid hV; clear hV
    go_enter Tryz.func14, Tryz.ntmps14
    go_wp2_with fail
    refine (impl_ValidIngots_is _ _ xs H1.out hn Hok.out HV.out).mono ?_; rintro e1 w1 ⟨rfl, b1⟩
    go_wp2_with fail
    go_ret
    exact ⟨rfl, b1⟩
  obtain ⟨h16, hall⟩ := validIngotS_true hV
  have HR := Lib.hid (rises_of hV)
  have HA := Lib.hid hall; clear hall
  cases hM : meltsB ms
  · have HV := Lib.hid hV; clear hV
    have HM := Lib.hid hM; clear hM
    go_enter Tryz.func14, Tryz.ntmps14
    go_wp2_with fail
    refine (impl_ValidIngots_is _ _ xs H1.out hn Hok.out HV.out).mono ?_; rintro e1 w1 ⟨rfl, b1⟩
    have HB1 := Lib.hid b1; clear b1
    go_wp2_with fail
    refine (impl_ValidMelts_is (b0 := meltsB ms) _ _ ms (by exact H2.out.up HB1.out) hn2 Hf.out rfl).mono ?_; rw [HM.out]; rintro e2 w2 ⟨rfl, b2⟩
    have HB2 := Lib.hid (bnext HB1.out b2); clear b2
    go_wp2_with fail
    go_ret
    exact ⟨rfl, HB2.out⟩
  obtain ⟨h12, hma⟩ := meltsB_true hM
  have HMA := Lib.hid hma; clear hma
  have HV := Lib.hid hV; clear hV
  have HM := Lib.hid hM; clear hM
  go_enter Tryz.func14, Tryz.ntmps14
  go_wp2_with fail
  refine (impl_ValidIngots_is _ _ xs H1.out hn Hok.out HV.out).mono ?_; rintro e1 w1 ⟨rfl, b1⟩
  have HB1 := Lib.hid b1; clear b1
  go_wp2_with fail
  refine (impl_ValidMelts_is (b0 := meltsB ms) _ _ ms (by exact H2.out.up HB1.out) hn2 Hf.out rfl).mono ?_; rw [HM.out]; rintro e2 w2 ⟨rfl, b2⟩
  have HB2 := Lib.hid (bnext HB1.out b2); clear b2
  go_wp2_with fail
  refine (impl_possible _ _ _ xs ms (by exact H1.out.up HB2.out) h16 HR.out HA.out (by exact H2.out.up HB2.out) h12 Hf.out HMA.out).mono ?_; rintro e3 w3 ⟨rfl, b3⟩
  have HB3 := Lib.hid (bnext HB2.out b3); clear b3
  go_wp2_with fail
  go_ret
  exact ⟨rfl, HB3.out⟩
end Go.Proofs.YtnbodmbagendnaaGreatDoor
