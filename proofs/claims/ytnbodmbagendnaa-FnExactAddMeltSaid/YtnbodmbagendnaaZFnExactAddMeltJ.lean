/- Contracts and plain facts, joined: Possible, AddML, OwnK, OwnMelt, DropM, AllOf, AddMB. -/
import Derived.Test.YtnbodmbagendnaaRows
import Derived.Test.YtnbodmbagendnaaZFnExactAddMeltI
import Derived.Deep.RegionLaw
namespace Go.Proofs.Ytnbodmbagendnaa
open Go.ChangeShapes Go.WideShapes Go.ChangeAt Go.RowKit Go.Deep Go.Joins
set_option linter.unusedVariables false
set_option maxRecDepth 100000
set_option linter.unusedSimpArgs false
/-- all exist, and none is too great -/
def mayB (xs : List Ingot) (m : Melt) : Bool := (chosenL xs m.ingots).isSome && decide (m.mass ≤ mostS xs m.ingots)
def mayAll (xs : List Ingot) (ms : List Melt) : Bool := !(ms.any fun m => !mayB xs m)
theorem meltsB_true {ms : List Melt} (h : meltsB ms = true) : ms.length ≤ 12 ∧ ∀ m ∈ ms, meltB m = true := by
  simp only [meltsB, Bool.and_eq_true, decide_eq_true_eq] at h
  refine ⟨h.2, fun m hm => ?_⟩
  obtain ⟨i, hi, rfl⟩ := List.mem_iff_getElem.1 hm
  have := allK_true h.1 i hi
  rw [meltsAt_eq hi] at this
  simp only [Bool.and_eq_true] at this
  exact this.1
theorem mostS_some {xs : List Ingot} {ids : List ByteArray} {cs : List Int} (h : chosenL xs ids = some cs) : mostS xs ids = mostV (sumK massF xs cs) := by unfold mostS; rw [metalS_some h]; rfl
theorem mayB_none {xs : List Ingot} {m : Melt} (h : chosenL xs m.ingots = none) : mayB xs m = false := by unfold mayB; rw [h]; rfl
theorem mayB_some {xs : List Ingot} {m : Melt} {cs : List Int} (h : chosenL xs m.ingots = some cs) : mayB xs m = decide (m.mass ≤ mostV (sumK massF xs cs)) := by unfold mayB; rw [mostS_some h, h]; rfl
theorem ask_choice2 {xs : List Ingot} {m : Melt} {cs : List Int} (hr : Rises xs) (hM : meltB m = true) (hc : chosenL xs m.ingots = some cs) : choiceB xs.length cs = true :=
  choice_of hr (risesT_of (meltB_parts hM).2.2.2.1) hc

theorem spec_l14Most_above {m : Int} (W x0 : World) (v : Value) (xs : List Ingot) (ids : List ByteArray) (cs : List Int) (a1 o1 : Nat) (v1 : Value) (h : Rd W.heap.size W v 5 xs.length (xs.flatMap Ingot.put)) (hn : xs.length ≤ 16) (hr : Rises xs) (hv : ∀ x ∈ xs, ingotB x = true)
    (g1 : W.cell? ⟨a1, o1 + 1, none⟩ = some v1) (ha1 : a1 < W.heap.size) (h2 : Rd W.heap.size W v1 1 ids.length (ids.flatMap putStr)) (hn2 : ids.length ≤ 1048576) (hc : chosenL xs ids = some cs) (hch : choiceB xs.length cs = true) (hm : mostV (sumK massF xs cs) = m) :
    Calls Try.prog 71 #[v, .pointer (some ⟨a1, o1, none⟩)] (above W x0) fun e w' => e = .returned (.int .i64 m) ∧ ∃ y, w' = above W y := by
  subst hm
  exact aboveC (spec_l14Most _ v xs ids cs a1 o1 v1 (h.up (above_below _ _)) hn hr hv ((above_cell ha1).trans g1) (Nat.lt_of_lt_of_le ha1 (above_below _ _).size) (h2.up (above_below _ _)) hn2 hc hch)

/-- the program's closure: a mass that is too great -/
def overB (xs : List Ingot) (m : Melt) : Bool := decide (mostS xs m.ingots < m.mass)
set_option maxHeartbeats 1000000 in
theorem impl_possible1 (x : Melt) (lo : Option Addr) (lc : Nat) (g : Nat) (v : Value) (xs : List Ingot) (cs : List Int) (w : World) (g0 : w.cell? ⟨g, 0, none⟩ = some v) (hg : g < w.heap.size) (h : Rd w.heap.size w v 5 xs.length (xs.flatMap Ingot.put)) (hn : xs.length ≤ 16) (hr : Rises xs) (hv : ∀ x ∈ xs, ingotB x = true)
    (h2 : Rd w.heap.size w (.slice lo x.ingots.length lc) 1 x.ingots.length (x.ingots.flatMap putStr)) (hn2 : x.ingots.length ≤ 1048576) (hc : chosenL xs x.ingots = some cs) (hch : choiceB xs.length cs = true) :
    Calls Try.prog 141 #[.agg #[.string x.id, .slice lo x.ingots.length lc, .int .i64 x.mass], .pointer (some ⟨g, 0, none⟩)] w fun e w' => e = .returned (.bool (overB xs x)) ∧ Below w.heap.size w w' := by
  have em : Hid (overB xs x = decide (mostV (sumK massF xs cs) < x.mass)) := (by unfold overB; rw [mostS_some hc] : overB xs x = decide (mostV (sumK massF xs cs) < x.mass))
  have HX := Lib.hid (fun w' (hb : Below w.heap.size w w') => impl_mostFrom w' v xs x lo lc cs (h.up hb) hn hr hv (h2.up hb) hn2 hc hch)
  obtain ⟨vo, vc, rfl⟩ := h.form
  clear h hr hv h2 hc hch
  generalize mostV (sumK massF xs cs) = mv at *
  go_enter Try.func141, Try.ntmps141
  go_wp2_with fail
  refine wp_region_above (by kernel_rfl) (by kernel_rfl) ?_
  repeat (go_big_quiet_step (((go_at_call 81; exact aboveC (HX.out _ (Below.trans (by (repeat' (first | (with_reducible exact Below.refl _ _) | (with_reducible assumption) | (with_reducible refine below_dn ?_ _) | (with_reducible refine Below.drew ?_) | (with_reducible refine Below.alloc ?_ ?_ _) | (with_reducible refine Below.setCell ?_ ?_ _) | go_size))) ((above_below _ _).mono (by simp <;> omega))))))))
  refine wpQuiet_nil ?_
  intro w1 b1
  go_wp2_with fail
  go_ret
  exact ⟨by rw [em.out]; rfl, Below.trans (by (repeat' (first | (with_reducible exact Below.refl _ _) | (with_reducible assumption) | (with_reducible refine below_dn ?_ _) | (with_reducible refine Below.drew ?_) | (with_reducible refine Below.alloc ?_ ?_ _) | (with_reducible refine Below.setCell ?_ ?_ _) | go_size))) (b1.mono (by simp <;> omega))⟩

set_option maxHeartbeats 1000000 in
theorem IndexFunc_possible1 (g : Nat) (w : World) (v : Value) (xs : List Melt) (p : Melt → Bool) (h : RdM w.heap.size w v xs) (hn : xs.length ≤ 1048576)
    (H : ∀ (wr : World) (hb : Below w.heap.size w wr) (k : Nat) (hk : k < xs.length) (lo : Option Addr) (lc : Nat) (hr : Rd wr.heap.size wr (.slice lo xs[k].ingots.length lc) 1 xs[k].ingots.length (xs[k].ingots.flatMap putStr)), Calls Try.prog 141 #[.agg #[.string xs[k].id, .slice lo xs[k].ingots.length lc, .int .i64 xs[k].mass], .pointer (some ⟨g, 0, none⟩)] wr fun e w' => e = .returned (.bool (p xs[k])) ∧ Below wr.heap.size wr w') :
    Calls Try.prog 131 #[v, .func (.func 141) #[] #[.pointer (some ⟨g, 0, none⟩)]] w fun e w' => (∃ r : Int, e = .returned (.int .i64 r) ∧ decide (0 ≤ r) = xs.any p) ∧ Below w.heap.size w w' := by
  obtain ⟨ao, cap, rfl, hcap, hmax, hsome⟩ := h
  go_enter Try.func131, Try.ntmps131
  have HH := Lib.hid H; clear H
  go_wp2
  go_loopw [8] (fun i wr => ∃ (k : Nat), k ≤ xs.length ∧ i = .int .i64 k ∧ (xs.take k).any p = false ∧ Below w.heap.size w wr) (fun i _ => xs.length - (intOf i).toNat)
  case atStart => exact ⟨0, Nat.zero_le _, rfl, rfl, Below.refl _ _⟩
  case round =>
    obtain ⟨k, hk, rfl, hall, hb⟩ := hrel
    have Hall := Lib.hid hall; clear hall
    by_cases hlt : k < xs.length
    · obtain ⟨b, off, rfl, hbB, hc⟩ := hsome (by omega)
      obtain ⟨l, p0, p1, p2, hr⟩ := hc k hlt
      obtain ⟨lo, lc, rfl⟩ := hr.form
      have c0 := (hb.cell (p := ⟨b, off + k * 3, none⟩) hbB).trans p0
      have c1 := (hb.cell (p := ⟨b, off + k * 3 + 1, none⟩) hbB).trans p1
      have c2 := (hb.cell (p := ⟨b, off + k * 3 + 2, none⟩) hbB).trans p2
      have hbr : b < wr.heap.size := Nat.lt_of_lt_of_le hbB hb.size
      have HC := Lib.hid (HH.out wr hb k hlt lo lc (hr.up hb)); clear HH
      have HB := Lib.hid hb
      clear hc hsome hb p0 p1 p2 hr
      cases hO : p xs[k]
      all_goals rw [hO] at HC
      · have e : Hid ((xs.take (k + 1)).any p = false) := (by rw [any_take xs k hlt, Hall.out, hO]; rfl : (xs.take (k + 1)).any p = false)
        clear hO
        go_wp2_with fail
        go_at_call 141
        refine HC.out.mono ?_; rintro e1 w1 ⟨rfl, b1⟩
        have HB1 := Lib.hid (HB.out.trans (b1.mono HB.out.size)); clear b1 HB
        go_wp2_with fail
        go_roundw
        case rel => exact ⟨k + 1, by omega, by go_num, e.out, HB1.out⟩
        case measure => simp [intOf]; omega
      · have e : Hid (xs.any p = true) := (any_at xs k hlt hO : xs.any p = true)
        clear hO
        go_wp2_with fail
        go_at_call 141
        refine HC.out.mono ?_; rintro e1 w1 ⟨rfl, b1⟩
        have HB1 := Lib.hid (HB.out.trans (b1.mono HB.out.size)); clear b1 HB
        go_wp2_with fail
        go_ret
        exact ⟨⟨_, rfl, by rw [e.out]; simp⟩, HB1.out⟩
    · have e : Hid (xs.any p = false) := (by
        have := Hall.out
        rwa [List.take_of_length_le (by omega)] at this : xs.any p = false)
      clear HH
      go_wp2
      go_ret
      exact ⟨⟨_, rfl, by rw [e.out]; rfl⟩, hb⟩

theorem ContainsFunc_possible1 (g : Nat) (w : World) (v : Value) (xs : List Melt) (p : Melt → Bool) (h : RdM w.heap.size w v xs) (hn : xs.length ≤ 1048576)
    (H : ∀ (wr : World) (hb : Below w.heap.size w wr) (k : Nat) (hk : k < xs.length) (lo : Option Addr) (lc : Nat) (hr : Rd wr.heap.size wr (.slice lo xs[k].ingots.length lc) 1 xs[k].ingots.length (xs[k].ingots.flatMap putStr)), Calls Try.prog 141 #[.agg #[.string xs[k].id, .slice lo xs[k].ingots.length lc, .int .i64 xs[k].mass], .pointer (some ⟨g, 0, none⟩)] wr fun e w' => e = .returned (.bool (p xs[k])) ∧ Below wr.heap.size wr w') :
    Calls Try.prog 82 #[v, .func (.func 141) #[] #[.pointer (some ⟨g, 0, none⟩)]] w fun e w' => e = .returned (.bool (xs.any p)) ∧ Below w.heap.size w w' := by
  have H2 := Lib.hid (IndexFunc_possible1 g w v xs p h hn H)
  clear h H
  go_enter Try.func82, Try.ntmps82
  go_wp2_with fail
  refine H2.out.mono ?_; rintro e w1 ⟨⟨r, rfl, hr⟩, b1⟩
  have Hr := Lib.hid hr; clear hr
  go_wp2_with fail
  go_ret
  exact ⟨by rw [← Hr.out]; rfl, b1⟩

set_option maxHeartbeats 2000000 in
theorem impl_possible (w : World) (v u : Value) (xs : List Ingot) (ms : List Melt) (h : Rd w.heap.size w v 5 xs.length (xs.flatMap Ingot.put)) (hn : xs.length ≤ 16) (hr : Rises xs) (hv : ∀ x ∈ xs, ingotB x = true)
    (h2 : RdM w.heap.size w u ms) (hn2 : ms.length ≤ 12) (hf : ∀ m ∈ ms, m.fine) (hm : ∀ m ∈ ms, meltB m = true) :
    Calls Try.prog 94 #[v, u] w fun e w' => e = .returned (.bool (mayAll xs ms)) ∧ Below w.heap.size w w' := by
  have HM := Lib.hid (Own.new w 60 [v])
  have HE := Lib.hid (fun w' (hb : Below w.heap.size w w') => impl_exist w' v u xs ms (h.up hb) (by omega) hr (h2.up hb) (by omega) (fun m hm => (hf m hm).2.2.2))
  have H1 := Lib.hid h
  obtain ⟨vo, vc, rfl⟩ := h.form
  have H2 := Lib.hid h2
  obtain ⟨uo, uc, rfl, _⟩ := h2
  clear h
  cases hE : existB xs ms
  · have e : Hid (mayAll xs ms = false) := (by
      unfold existB at hE
      have hE2 : ms.any (noneB xs) = true := by simpa using hE
      obtain ⟨m, hm1, hm2⟩ := List.any_eq_true.1 hE2
      have : ms.any (fun m => !mayB xs m) = true := List.any_eq_true.2 ⟨m, hm1, by unfold noneB at hm2; unfold mayB; simp at hm2; rw [hm2]; rfl⟩
      unfold mayAll; rw [this]; rfl : mayAll xs ms = false)
    rw [hE] at HE
    clear hE hr hv hf hm
    go_enter Try.func94, Try.ntmps94
    go_wp2_with fail
    refine (HE.out _ (by (repeat' (first | (with_reducible exact Below.refl _ _) | (with_reducible assumption) | (with_reducible refine below_dn ?_ _) | (with_reducible refine Below.drew ?_) | (with_reducible refine Below.alloc ?_ ?_ _) | (with_reducible refine Below.setCell ?_ ?_ _) | go_size)))).mono ?_; rintro e1 w1 ⟨rfl, b1⟩
    go_wp2_with fail
    go_ret
    exact ⟨by rw [e.out]; rfl, Below.trans (by (repeat' (first | (with_reducible exact Below.refl _ _) | (with_reducible assumption) | (with_reducible refine below_dn ?_ _) | (with_reducible refine Below.drew ?_) | (with_reducible refine Below.alloc ?_ ?_ _) | (with_reducible refine Below.setCell ?_ ?_ _) | go_size))) (b1.mono (by simp <;> omega))⟩
  have hall : ∀ m ∈ ms, ∃ cs, chosenL xs m.ingots = some cs := fun m hm => by
    unfold existB at hE
    have hE2 : ms.any (noneB xs) = false := by simpa using hE
    have := List.any_eq_false.1 hE2 m hm
    unfold noneB at this
    cases hc : chosenL xs m.ingots with
    | none => rw [hc] at this; exact absurd rfl this
    | some cs => exact ⟨cs, rfl⟩
  have e : Hid (mayAll xs ms = !(ms.any (overB xs))) := (by
    unfold mayAll
    congr 1
    rw [Bool.eq_iff_iff, List.any_eq_true, List.any_eq_true]
    constructor
    · rintro ⟨m, h1, h2⟩
      obtain ⟨cs, hc⟩ := hall m h1
      refine ⟨m, h1, ?_⟩
      rw [mayB_some hc] at h2
      unfold overB; rw [mostS_some hc]
      simp at h2 ⊢; omega
    · rintro ⟨m, h1, h2⟩
      obtain ⟨cs, hc⟩ := hall m h1
      refine ⟨m, h1, ?_⟩
      unfold overB at h2; rw [mostS_some hc] at h2
      rw [mayB_some hc]
      simp at h2 ⊢; omega : mayAll xs ms = !(ms.any (overB xs)))
  rw [hE] at HE
  have HCF := Lib.hid (fun (w1 : World) (b1 : Below (w.alloc (.cells #[.slice vo xs.length vc] 60)).heap.size (w.alloc (.cells #[.slice vo xs.length vc] 60)) w1) =>
    ContainsFunc_possible1 w.heap.size w1 (.slice uo ms.length uc) ms (overB xs) (H2.out.up (Below.trans (by (repeat' (first | (with_reducible exact Below.refl _ _) | (with_reducible assumption) | (with_reducible refine below_dn ?_ _) | (with_reducible refine Below.drew ?_) | (with_reducible refine Below.alloc ?_ ?_ _) | (with_reducible refine Below.setCell ?_ ?_ _) | go_size))) (b1.mono (by simp <;> omega)))) (by omega) (fun wr hb k hk lo lc hr2 => by
      have hO := (HM.out.below b1 HM.out.lt).below hb (HM.out.below b1 HM.out.lt).lt
      obtain ⟨cs, hc⟩ := hall ms[k] (List.getElem_mem hk)
      exact impl_possible1 ms[k] lo lc _ _ xs cs wr (hO.cell 0) hO.lt ((H1.out.up (Below.trans (by (repeat' (first | (with_reducible exact Below.refl _ _) | (with_reducible assumption) | (with_reducible refine below_dn ?_ _) | (with_reducible refine Below.drew ?_) | (with_reducible refine Below.alloc ?_ ?_ _) | (with_reducible refine Below.setCell ?_ ?_ _) | go_size))) (b1.mono (by simp <;> omega)))).up hb) hn hr hv hr2 (hf _ (List.getElem_mem hk)).2.2.2 hc (ask_choice2 hr (hm _ (List.getElem_mem hk)) hc)))
  clear hE hr hv hf hm hall
  go_enter Try.func94, Try.ntmps94
  go_wp2_with fail
  refine (HE.out _ (by (repeat' (first | (with_reducible exact Below.refl _ _) | (with_reducible assumption) | (with_reducible refine below_dn ?_ _) | (with_reducible refine Below.drew ?_) | (with_reducible refine Below.alloc ?_ ?_ _) | (with_reducible refine Below.setCell ?_ ?_ _) | go_size)))).mono ?_; rintro e1 w1 ⟨rfl, b1⟩
  have HB1 := Lib.hid (show Below w.heap.size w w1 from Below.trans (by (repeat' (first | (with_reducible exact Below.refl _ _) | (with_reducible assumption) | (with_reducible refine below_dn ?_ _) | (with_reducible refine Below.drew ?_) | (with_reducible refine Below.alloc ?_ ?_ _) | (with_reducible refine Below.setCell ?_ ?_ _) | go_size))) (b1.mono (by simp <;> omega)))
  have HC1 := Lib.hid (HCF.out w1 b1)
  clear b1 HCF HE
  go_wp2_with fail
  refine HC1.out.mono ?_; rintro e2 w2 ⟨rfl, b2⟩
  have HB2 := Lib.hid (bnext HB1.out b2); clear b2
  go_wp2_with fail
  go_ret
  exact ⟨by rw [e.out]; rfl, HB2.out⟩

def possibleS (xs : List Ingot) (ms : List Melt) : Bool := validIngotS xs && (meltsB ms && mayAll xs ms)

theorem spec_l14Ok_is {b0 : Bool} (w : World) (v : Value) (ms : List Melt) (h : RdM w.heap.size w v ms) (hn : ms.length ≤ 1048576) (hf : ∀ x ∈ ms, x.fine) (hb : meltsB ms = b0) :
    Calls Try.prog 117 #[v] w fun e w' => e = .returned (.bool b0) ∧ Below w.heap.size w w' := by
  subst hb; exact spec_l14Ok w v ms h hn hf
theorem impl_ValidMelts_is {b0 : Bool} (w : World) (v : Value) (ms : List Melt) (h : RdM w.heap.size w v ms) (hn : ms.length ≤ 1048576) (hf : ∀ x ∈ ms, x.fine) (hb : meltsB ms = b0) :
    Calls Try.prog 78 #[v] w fun e w' => e = .returned (.bool b0) ∧ Below w.heap.size w w' := by
  subst hb; exact impl_ValidMelts w v ms h hn hf
end Go.Proofs.Ytnbodmbagendnaa
namespace Go.Proofs.Ytnbodmbagendnaa
open Go.ChangeShapes Go.WideShapes Go.ChangeAt Go.RowKit Go.Deep Go.Joins
set_option linter.unusedVariables false
set_option maxRecDepth 100000
set_option linter.unusedSimpArgs false
/-- the place of an id -/
def posM (ms : List Melt) (t : ByteArray) : Nat := ms.findIdx fun y => !(ltName y.id t)
theorem posM_le (ms : List Melt) (t : ByteArray) : posM ms t ≤ ms.length := List.findIdx_le_length
theorem posM_lt {ms : List Melt} {t : ByteArray} {j : Nat} (h : j < posM ms t) (hj : j < ms.length) : ltName ms[j].id t = true := by
  have := List.not_of_lt_findIdx h
  simpa using this
theorem posM_ge {ms : List Melt} (hr : RisesM ms) {t : ByteArray} (hn : idM ms t = none) {j : Nat} (h : posM ms t ≤ j) (hj : j < ms.length) : ltName t ms[j].id = true := by
  have hp : posM ms t < ms.length := by omega
  have h1 : (!(ltName ms[posM ms t].id t)) = true := List.findIdx_getElem (w := hp)
  have h2 : ltName ms[posM ms t].id t = false := by simpa using h1
  have h3 : ltName t ms[posM ms t].id = true := ltName_total h2 (idM_none hn _ hp)
  rcases Nat.lt_or_ge (posM ms t) j with q | q
  · exact ltName_trans h3 (hr _ _ q hj)
  · have : posM ms t = j := by omega
    subst this
    exact h3
theorem posM_eq {ms : List Melt} (hr : RisesM ms) {t : ByteArray} (hn : idM ms t = none) {i : Nat} (hi : i ≤ ms.length) (h1 : ∀ j (hj : j < ms.length), j < i → ltName ms[j].id t = true) (h2 : ∀ j (hj : j < ms.length), i ≤ j → ltName t ms[j].id = true) : i = posM ms t := by
  have hp := posM_le ms t
  rcases Nat.lt_trichotomy i (posM ms t) with q | q | q
  · have a := posM_lt q (by omega)
    have b := h2 i (by omega) (Nat.le_refl _)
    have := ltName_trans a b
    rw [ltName_irrefl] at this; cases this
  · exact q
  · have a := posM_ge hr hn (Nat.le_refl _) (show posM ms t < ms.length by omega)
    have b := h1 _ (by omega) q
    have := ltName_trans a b
    rw [ltName_irrefl] at this; cases this
def insM (x : Melt) (ms : List Melt) : List Melt := ms.take (posM ms x.id) ++ x :: ms.drop (posM ms x.id)
/-- the list so far, and whether the new melt is in it -/
def runM (x : Melt) (ms : List Melt) (i : Nat) : List Melt × Bool := if i ≤ posM ms x.id then (ms.take i, false) else (ms.take (posM ms x.id) ++ x :: (ms.drop (posM ms x.id)).take (i - posM ms x.id), true)
theorem runM_zero (x : Melt) (ms : List Melt) : runM x ms 0 = ([], false) := by unfold runM; rw [if_pos (Nat.zero_le _)]; rfl
theorem runM_before {x : Melt} {ms : List Melt} (hr : RisesM ms) (hn : idM ms x.id = none) {i : Nat} (hi : i < ms.length) (h : ltName x.id ms[i].id = false) : runM x ms i = (ms.take i, false) ∧ runM x ms (i + 1) = (ms.take i ++ [ms[i]], false) := by
  have hp : i < posM ms x.id := by
    rcases Nat.lt_or_ge i (posM ms x.id) with q | q
    · exact q
    · have := posM_ge hr hn q hi
      rw [h] at this; cases this
  refine ⟨if_pos (by omega), ?_⟩
  unfold runM
  rw [if_pos (by omega), List.take_succ_eq_append_getElem hi]
theorem runM_at {x : Melt} {ms : List Melt} {i : Nat} (hi : i < ms.length) (h : ltName x.id ms[i].id = true) (hd : (runM x ms i).2 = false) : runM x ms i = (ms.take i, false) ∧ runM x ms (i + 1) = (ms.take i ++ [x] ++ [ms[i]], true) := by
  have hp : posM ms x.id ≤ i := by
    rcases Nat.lt_or_ge i (posM ms x.id) with q | q
    · have a := posM_lt q hi
      have := ltName_trans h a
      rw [ltName_irrefl] at this; cases this
    · exact q
  have hp2 : i ≤ posM ms x.id := by
    rcases Nat.lt_or_ge (posM ms x.id) i with q | q
    · have e : runM x ms i = (ms.take (posM ms x.id) ++ x :: (ms.drop (posM ms x.id)).take (i - posM ms x.id), true) := if_neg (by omega)
      rw [e] at hd; cases hd
    · exact q
  have e : posM ms x.id = i := by omega
  refine ⟨if_pos (by omega), ?_⟩
  unfold runM
  have e1 : (ms.drop i).take 1 = [ms[i]] := by rw [List.drop_eq_getElem_cons hi]; rfl
  rw [if_neg (by omega), e, show i + 1 - i = 1 from by omega, e1]
  simp
theorem runM_past {x : Melt} {ms : List Melt} {i : Nat} (hi : i < ms.length) (hd : (runM x ms i).2 = true) : runM x ms (i + 1) = ((runM x ms i).1 ++ [ms[i]], true) := by
  have hp : posM ms x.id < i := by
    rcases Nat.lt_or_ge (posM ms x.id) i with q | q
    · exact q
    · have e : runM x ms i = (ms.take i, false) := if_pos q
      rw [e] at hd; cases hd
  unfold runM
  rw [if_neg (by omega), if_neg (by omega), show i + 1 - posM ms x.id = (i - posM ms x.id) + 1 from by omega, List.take_succ_eq_append_getElem (by rw [List.length_drop]; omega), List.getElem_drop]
  simp only [List.append_assoc, List.cons_append]
  congr 6
  omega
theorem runM_end_no {x : Melt} {ms : List Melt} (hd : (runM x ms ms.length).2 = false) : (runM x ms ms.length).1 ++ [x] = insM x ms := by
  have hp : ms.length ≤ posM ms x.id := by
    rcases Nat.lt_or_ge (posM ms x.id) ms.length with q | q
    · have e : runM x ms ms.length = (ms.take (posM ms x.id) ++ x :: (ms.drop (posM ms x.id)).take (ms.length - posM ms x.id), true) := if_neg (by omega)
      rw [e] at hd; cases hd
    · exact q
  have e : posM ms x.id = ms.length := by have := posM_le ms x.id; omega
  unfold runM insM
  rw [if_pos hp, e, List.drop_length]
theorem runM_end_yes {x : Melt} {ms : List Melt} (hd : (runM x ms ms.length).2 = true) : (runM x ms ms.length).1 = insM x ms := by
  have hp : posM ms x.id < ms.length := by
    rcases Nat.lt_or_ge (posM ms x.id) ms.length with q | q
    · exact q
    · have e : runM x ms ms.length = (ms.take ms.length, false) := if_pos q
      rw [e] at hd; cases hd
  have e1 : (ms.drop (posM ms x.id)).take (ms.length - posM ms x.id) = ms.drop (posM ms x.id) := List.take_of_length_le (by rw [List.length_drop]; exact Nat.le_refl _)
  unfold runM insM
  rw [if_neg (by omega), e1]
theorem runM_len (x : Melt) (ms : List Melt) (i : Nat) : (runM x ms i).1.length ≤ i + 1 := by
  unfold runM
  split
  · simp only [List.length_take]; omega
  · simp only [List.length_append, List.length_cons, List.length_take, List.length_drop]; omega
def addM (xs : List Ingot) (ms : List Melt) (x : Melt) : List Melt × Int :=
  if (validIngotS xs && (meltsB ms && meltB x)) = true then
    if (existB xs ms && (chosenL xs x.ingots).isSome) = true then
      if mostS xs x.ingots < x.mass then ([], 6)
      else if (idM ms x.id).isSome = true then ([], 4)
      else if (ms.any fun y => commonB y.ingots x.ingots) = true then ([], 7)
      else if ms.length = 12 then ([], 5)
      else (insM x ms, 0)
    else ([], 3)
  else ([], 1)
section
variable {xs : List Ingot} {ms : List Melt} {x : Melt}
theorem addM_bad (h : (validIngotS xs && (meltsB ms && meltB x)) = false) : addM xs ms x = ([], 1) := if_neg (by rw [h]; simp)
theorem addM_no (h : (validIngotS xs && (meltsB ms && meltB x)) = true) (h2 : (existB xs ms && (chosenL xs x.ingots).isSome) = false) : addM xs ms x = ([], 3) := by unfold addM; rw [if_pos h, if_neg (by rw [h2]; simp)]
theorem addM_much (h : (validIngotS xs && (meltsB ms && meltB x)) = true) (h2 : (existB xs ms && (chosenL xs x.ingots).isSome) = true) (h3 : mostS xs x.ingots < x.mass) : addM xs ms x = ([], 6) := by unfold addM; rw [if_pos h, if_pos h2, if_pos h3]
theorem addM_has (h : (validIngotS xs && (meltsB ms && meltB x)) = true) (h2 : (existB xs ms && (chosenL xs x.ingots).isSome) = true) (h3 : ¬ mostS xs x.ingots < x.mass) (h4 : (idM ms x.id).isSome = true) : addM xs ms x = ([], 4) := by unfold addM; rw [if_pos h, if_pos h2, if_neg h3, if_pos h4]
theorem addM_com (h : (validIngotS xs && (meltsB ms && meltB x)) = true) (h2 : (existB xs ms && (chosenL xs x.ingots).isSome) = true) (h3 : ¬ mostS xs x.ingots < x.mass) (h4 : (idM ms x.id).isSome = false) (h5 : (ms.any fun y => commonB y.ingots x.ingots) = true) : addM xs ms x = ([], 7) := by unfold addM; rw [if_pos h, if_pos h2, if_neg h3, if_neg (by rw [h4]; simp), if_pos h5]
theorem addM_full (h : (validIngotS xs && (meltsB ms && meltB x)) = true) (h2 : (existB xs ms && (chosenL xs x.ingots).isSome) = true) (h3 : ¬ mostS xs x.ingots < x.mass) (h4 : (idM ms x.id).isSome = false) (h5 : (ms.any fun y => commonB y.ingots x.ingots) = false) (h6 : ms.length = 12) : addM xs ms x = ([], 5) := by unfold addM; rw [if_pos h, if_pos h2, if_neg h3, if_neg (by rw [h4]; simp), if_neg (by rw [h5]; simp), if_pos h6]
theorem addM_ok (h : (validIngotS xs && (meltsB ms && meltB x)) = true) (h2 : (existB xs ms && (chosenL xs x.ingots).isSome) = true) (h3 : ¬ mostS xs x.ingots < x.mass) (h4 : (idM ms x.id).isSome = false) (h5 : (ms.any fun y => commonB y.ingots x.ingots) = false) (h6 : ¬ ms.length = 12) : addM xs ms x = (insM x ms, 0) := by unfold addM; rw [if_pos h, if_pos h2, if_neg h3, if_neg (by rw [h4]; simp), if_neg (by rw [h5]; simp), if_neg h6]
end
end Go.Proofs.Ytnbodmbagendnaa
namespace Go.Proofs.Ytnbodmbagendnaa
open Go.ChangeShapes Go.WideShapes Go.ChangeAt Go.RowKit Go.Deep Go.Joins
set_option linter.unusedVariables false
set_option maxRecDepth 100000
set_option linter.unusedSimpArgs false
theorem own_block {w : World} {base g cap n s : Nat} {E : TypeId} {L : List Value} (h : w.ownsRow base E s (.slice (some ⟨g, 0, none⟩) n cap) n L) : ∃ U, Own w g E (L ++ U) := by
  obtain ⟨h1, h2⟩ := h
  rcases h2 with ⟨e, _⟩ | ⟨g', cap', cur, e, hb, hg, hn, hm, hs, ht⟩
  · cases e
  · injection e with q1 q2 q3
    injection q1 with q4
    injection q4 with q5
    subst q5
    refine ⟨cur.toList.drop (n * s), ?_⟩
    rw [← ht, List.take_append_drop]
    unfold Own
    simpa using hg
/-- blocks of two types are two blocks -/
theorem own_apart_type {w : World} {base s n g : Nat} {E E' : TypeId} {v : Value} {L L' : List Value} (h : w.ownsRow base E s v n L) (o : Own w g E' L') (hne : E ≠ E') : ∀ g', v.ownBlock = some g' → g' ≠ g := by
  rintro g' hg rfl
  obtain ⟨h1, h2⟩ := h
  rcases h2 with ⟨rfl, _⟩ | ⟨g2, cap, cur, rfl, hb, hg2, rest⟩
  · cases hg
  · obtain rfl : g2 = g' := by injection hg
    unfold Own at o
    rw [hg2] at o
    injection o with o
    injection o with _ q _
    exact hne q
theorem own_rdU {w : World} {g n : Nat} {E : TypeId} {L U : List Value} (h : Own w g E (L ++ U)) (hl : L.length = n * 1) (k : Nat) (hk : k < n) : w.cell? ⟨g, k, none⟩ = L[k]? := by
  rw [h.cell, List.getElem?_append_left (by omega)]
theorem dash_list : (⟨#[45]⟩ : ByteArray).toList = [45] := by rw [ByteArray.toList_eq]
theorem two_of {α : Type} {l : List α} (h : l.length = 2) : ∃ a b, l = [a, b] := by
  match l, h with
  | [a, b], _ => exact ⟨a, b, rfl⟩
end Go.Proofs.Ytnbodmbagendnaa
namespace Go.Proofs.Ytnbodmbagendnaa
open Go.ChangeShapes Go.WideShapes Go.ChangeAt Go.RowKit Go.Deep Go.Joins
set_option linter.unusedVariables false
set_option maxRecDepth 100000
set_option linter.unusedSimpArgs false
theorem sapp_slE {P : Program} {w1 : World} {ops : Array Oper} {o : Oper} {a : Act} {K : Act → World → Prop} {Q : Exit → Act → World → Prop} {X : Prop} (hgd : o.guard = none) (s x : Operand) (T E : TypeId)
    (ho : o.op = .call { callee := .builtin .append, args := #[s, x], argTypes := #[T, T] }) (i : TypeInfo) (z : Value) (sz bytes : Nat)
    (hT : P.underlying T = some (.slice E)) (hi : P.info? E = some i) (hz : i.zero = some z) (h1 : i.size = sz) (h2 : i.bytes = bytes) (hzs : z.cells.size = sz) (hsz : 0 < sz)
    (w0 : World) (hs : a.eval s = .slice (some ⟨w0.heap.size, 0, none⟩) 0 0) (xv : Value) (m : Nat) (cs : List Value) (hx : a.eval x = xv) (hr : Rd w0.heap.size w0 xv sz m cs) (hone : ∀ u ∈ cs, u.oneCell' = true) (hm : 0 < m) (hn : m ≤ 2097152) (hby : bytes ≤ 64)
    (hw : w1 = w0.alloc (.cells #[] E))
    (h : ∀ g cap w', Hid (w'.ownsRow w0.heap.size E sz (.slice (some ⟨g, 0, none⟩) m cap) m cs) → Hid (Below w0.heap.size w0 w') → K (a.put o.dst (.slice (some ⟨g, 0, none⟩) m cap)) w') :
    if Region.wanted o (yielded ops a.tmps) = true then Oper.wp P o a w1 K Q else X := by
  have hwt : Region.wanted o (yielded ops a.tmps) = true := by simp [Region.wanted, hgd]
  rw [if_pos hwt]
  subst hw
  have hb : (0 + m) * bytes ≤ 140737488355328 := by
    have := Nat.mul_le_mul hn hby
    rw [Nat.zero_add]
    omega
  have b0 : Below w0.heap.size w0 (w0.alloc (.cells #[] E)) := (Below.refl _ w0).alloc (Nat.le_refl _) _
  obtain ⟨hl, ao, cap, rfl, hc, hmx, hnil, hsome⟩ := hr
  obtain ⟨b, off, rfl, hbB, hcell⟩ := hsome hm
  refine wp_append_lies _ s x T ho w0.heap.size E i z sz bytes hT hi hz h1 h2 hzs hsz _ 0 [] hs (own_empty w0 w0.heap.size E sz (Nat.le_refl _)) ⟨b, off, none⟩ m cap cs hx hl (fun j u hj => ?_) hone hm (by unfold maxLen; omega) hb b0.size _ rfl ?_
  · have hj' := (List.getElem?_eq_some_iff.1 hj).1
    rw [Addr.add_lit, b0.cell (p := ⟨b, off + j, none⟩) hbB, hcell j (by omega), hj]
  · intro g cap' w' hown hgrow _ _
    rw [Nat.zero_add, List.nil_append] at hown
    rw [Nat.zero_add]
    exact h g cap' w' (Lib.hid hown) (Lib.hid (grown_below b0 (own_empty w0 w0.heap.size E sz (Nat.le_refl _)) b0.size hgrow))
theorem infoOM : (Try.prog.info? 9).map (fun i => (i.zero, i.size, i.bytes)) = some (some (.string ByteArray.empty), 1, 16) := by kernel_rfl
theorem putStr_one (xs : List ByteArray) : ∀ u ∈ xs.flatMap putStr, u.oneCell' = true := by
  intro u hu
  obtain ⟨x, _, hx⟩ := List.mem_flatMap.1 hu
  obtain rfl : u = .string x := by simpa [putStr] using hx
  rfl
/-- a list of one's own that is not empty: its block -/
theorem own_kid {w : World} {base : Nat} {n : Nat} {v : Value} {E : TypeId} {L : List Value} (h : w.ownsRow base E 1 v n L) (h0 : 0 < n) : ∃ g c V, v = .slice (some ⟨g, 0, none⟩) n c ∧ n ≤ c ∧ c ≤ maxLen ∧ base ≤ g ∧ Own w g E (L ++ V) := by
  rcases own_form h with ⟨_, q⟩ | ⟨g, cap, rfl⟩
  · omega
  obtain ⟨U, ou⟩ := own_block h
  obtain ⟨_, ao, c2, e, h2, h3, _⟩ := own_rd h
  injection e with _ _ e3
  subst e3
  have hb : base ≤ g := (h.lt g rfl).1
  exact ⟨g, cap, U, rfl, h2, h3, hb, ou⟩
set_option maxHeartbeats 4000000 in
theorem spec_l14Own (w : World) (a o : Nat) (id : ByteArray) (ids : List ByteArray) (mass : Int) (v : Value) (c0 : w.cell? ⟨a, o, none⟩ = some (.string id)) (c1 : w.cell? ⟨a, o + 1, none⟩ = some v) (c2 : w.cell? ⟨a, o + 2, none⟩ = some (.int .i64 mass)) (ha : a < w.heap.size)
    (h : Rd w.heap.size w v 1 ids.length (ids.flatMap putStr)) (h0 : 1 ≤ ids.length) (hn : ids.length ≤ 1048576) :
    Calls Try.prog 73 #[.pointer (some ⟨a, o, none⟩)] w fun e w' => ∃ g c V, e = .returned (.agg #[.string id, .slice (some ⟨g, 0, none⟩) ids.length c, .int .i64 mass]) ∧ ids.length ≤ c ∧ c ≤ maxLen ∧ w.heap.size ≤ g ∧ Own w' g 9 (ids.flatMap putStr ++ V) ∧ Below w.heap.size w w' := by
  obtain ⟨i0, hi, hz0, hz1, hz2⟩ := info_parts infoOM
  have hR0 : Hid (Own (w.alloc (.cells #[.string ⟨#[]⟩, .slice none 0 0, .int .i64 0] 63)) w.heap.size 63 [.string ⟨#[]⟩, .slice none 0 0, .int .i64 0]) := Lib.hid (Own.new w _ _)
  have HB0 : Hid (Below w.heap.size w (w.alloc (.cells #[.string ⟨#[]⟩, .slice none 0 0, .int .i64 0] 63)).drew) := Lib.hid (((Below.refl _ _).alloc (Nat.le_refl _) _).drew)
  have HR := Lib.hid (h.up ((Below.refl _ w).alloc (Nat.le_refl _) (.cells #[.string ⟨#[]⟩, .slice none 0 0, .int .i64 0] 63)))
  obtain ⟨lo, lc, rfl⟩ := h.form
  have h1 := putStr_one ids
  have mixed : Try.prog.follows .mixedOrders = true := by kernel_rfl
  clear h
  go_enter Try.func73, Try.ntmps73
  go_wp2_with fail
  go_region_law_o (refine sapp_slE rfl _ _ 51 9 rfl i0 (.string ByteArray.empty) 1 16 Try.underlying51 hi hz0 hz1 hz2 (by rfl) (by decide) (w.alloc (.cells #[.string ⟨#[]⟩, .slice none 0 0, .int .i64 0] 63)).drew (by simp [Act.eval, Act.put]) _ ids.length (ids.flatMap putStr) (by simp [Act.eval, Act.put]; try rfl) HR.out h1 (by omega) (by omega) (by decide) (by rfl) ?_; intro g cap w1 HO1 HB1; have HBW : Hid (Below w.heap.size w w1) := Lib.hid (HB0.out.trans (HB1.out.mono HB0.out.size)); have R1 : Hid (Own w1 w.heap.size 63 [.string ⟨#[]⟩, .slice none 0 0, .int .i64 0]) := Lib.hid (Own.below (w := (w.alloc (.cells #[.string ⟨#[]⟩, .slice none 0 0, .int .i64 0] 63)).drew) hR0.out HB1.out hR0.out.lt); have d0 := (HBW.out.cell (p := ⟨a, o, none⟩) ha).trans c0; have d1 := (HBW.out.cell (p := ⟨a, o + 1, none⟩) ha).trans c1; have d2 := (HBW.out.cell (p := ⟨a, o + 2, none⟩) ha).trans c2; have q0 : w1.cell? ⟨w.heap.size, 0, none⟩ = some (.string ⟨#[]⟩) := R1.out.cell 0; have q1 : w1.cell? ⟨w.heap.size, 1, none⟩ = some (.slice none 0 0) := R1.out.cell 1; have q2 : w1.cell? ⟨w.heap.size, 2, none⟩ = some (.int .i64 0) := R1.out.cell 2; have f0 := R1.out.free 0; have f1 := R1.out.free 1; have f2 := R1.out.free 2; have hlt := R1.out.lt; have hne : ¬ w.heap.size = w1.heap.size := (by omega))
  all_goals go_wp2_with fail
  all_goals obtain ⟨g', c', V, e1, k2, k3, k4, k5⟩ := own_kid HO1.out (by omega)
  all_goals cases e1
  all_goals have hgs : w.heap.size + 1 ≤ g := by simpa using k4
  all_goals have hb := HBW.out
  all_goals refine bodyPost_ret (v := .agg #[.string id, .slice (some ⟨g, 0, none⟩) ids.length cap, .int .i64 mass]) (by simp [results, Try.results73, go_sem, q0, q1, q2, hlt, hne]) rfl ?_
  all_goals exact ⟨g, cap, V, rfl, k2, k3, by omega, ((k5.other (by show w.heap.size ≠ g; omega) _).other (by show w.heap.size ≠ g; omega) _).other (by show w.heap.size ≠ g; omega) _, by (repeat' (first | (with_reducible exact Below.refl _ _) | (with_reducible assumption) | (with_reducible refine below_dn ?_ _) | (with_reducible refine Below.drew ?_) | (with_reducible refine Below.alloc ?_ ?_ _) | (with_reducible refine Below.setCell ?_ ?_ _) | go_size))⟩
end Go.Proofs.Ytnbodmbagendnaa
namespace Go.Proofs.Ytnbodmbagendnaa
open Go.ChangeShapes Go.WideShapes Go.ChangeAt Go.RowKit Go.Deep Go.Joins
set_option linter.unusedVariables false
set_option maxRecDepth 100000
set_option linter.unusedSimpArgs false
theorem Melt_info1 : (Try.prog.info? 63).map (fun i => (i.zero, i.size, i.bytes)) = some (some (.agg #[.string ByteArray.empty, .slice none 0 0, .int .i64 0]), 3, 48) := by kernel_rfl
theorem melt_one (a : ByteArray) (g n c : Nat) (m : Int) : ∀ u ∈ [Value.string a, Value.slice (some ⟨g, 0, none⟩) n c, Value.int .i64 m], u.oneCell' = true := by
  intro u hu
  simp at hu
  rcases hu with rfl | rfl | rfl <;> rfl
theorem melt_snoc (xs : List Melt) (x : Melt) : (xs ++ [x]).flatMap Melt.put = xs.flatMap Melt.put ++ [.string x.id, x.list, .int .i64 x.mass] := by rw [List.flatMap_append]; rfl
theorem kids_app {base : Nat} {w w' : World} {v : Value} {n : Nat} {L : List Value} {os : List Melt} {gs : List Nat} (h : Kids base w os gs) (ho : w.ownsRow base 63 3 v n L) (hK : ∀ b E' L', Own w b E' L' → (∀ g', v.ownBlock = some g' → g' ≠ b) → Own w' b E' L') : Kids base w' os gs :=
  h.kept fun b L o => hK b _ L o (own_apart_type ho o (by decide))
theorem idM_isSome_take {xs : List Melt} {a : ByteArray} {k : Nat} (hk : k < xs.length) (h : xs[k].id = a) : (idM xs a).isSome = true := by
  unfold idM
  rw [List.findIdx?_isSome, List.any_eq_true]
  exact ⟨xs[k], List.getElem_mem hk, strEq_iff.2 h⟩
theorem text_eqD {a b : ByteArray} (h : a = b) : (a.toList == b.toList) = true := by rw [h]; simp
theorem text_neD {a b : ByteArray} (h : a ≠ b) : (a.toList == b.toList) = false := by
  rw [beq_eq_false_iff_ne, ByteArray.toList_eq, ByteArray.toList_eq]
  intro q
  apply h
  cases a; cases b
  simpa using q
theorem said_snoc {os ys : List Melt} {x y : Melt} (h : os.map Melt.said = ys.map Melt.said) (h2 : x.said = y.said) : (os ++ [x]).map Melt.said = (ys ++ [y]).map Melt.said := by
  rw [List.map_append, List.map_append, h]
  simp [h2]
theorem kids_snoc2 {base : Nat} {w : World} {os : List Melt} {gs : List Nat} (h : Kids base w os gs) {id : ByteArray} {ids : List ByteArray} {m : Int} {g c : Nat} {V : List Value} (hg : ∀ g' ∈ gs, g' ≠ g) (e2 : ids.length ≤ c) (e3 : c ≤ maxLen) (e4 : base ≤ g) (e5 : Own w g 9 (ids.flatMap putStr ++ V)) :
    Kids base w (os ++ [⟨id, .slice (some ⟨g, 0, none⟩) ids.length c, ids, m⟩]) (gs ++ [g]) := h.snoc hg rfl e2 e3 e4 e5
theorem nest_nil (w : World) (base hi : Nat) : Nest base hi w (.slice none 0 0) [] := ⟨⟨rfl, none, 0, rfl, Nat.le_refl _, Nat.zero_le _, fun _ => ⟨rfl, rfl⟩, fun h => by simp at h⟩, [], Kids.nil _ _, fun g h => by cases h⟩
end Go.Proofs.Ytnbodmbagendnaa
namespace Go.Proofs.Ytnbodmbagendnaa
open Go.ChangeShapes Go.WideShapes Go.ChangeAt Go.RowKit Go.Deep Go.Joins
set_option linter.unusedVariables false
set_option maxRecDepth 100000
set_option linter.unusedSimpArgs false
def allS (xs : List Ingot) (ms : List Melt) : Int := if validIngotS xs && meltsB ms then (if existB xs ms then 0 else 3) else 1
theorem allS_zero {xs : List Ingot} {ms : List Melt} (h : allS xs ms = 0) : validIngotS xs = true ∧ meltsB ms = true ∧ existB xs ms = true := by
  unfold allS at h
  cases hV : validIngotS xs <;> cases hM : meltsB ms <;> cases hE : existB xs ms <;> rw [hV, hM, hE] at h <;> simp at h
  exact ⟨rfl, rfl, rfl⟩
theorem exist_all {xs : List Ingot} {ms : List Melt} (hE : existB xs ms = true) : ∀ m ∈ ms, ∃ cs, chosenL xs m.ingots = some cs := fun m hm => by
  unfold existB at hE
  have hE2 : ms.any (noneB xs) = false := by simpa using hE
  have := List.any_eq_false.1 hE2 m hm
  unfold noneB at this
  cases hc : chosenL xs m.ingots with
  | none => rw [hc] at this; exact absurd rfl this
  | some cs => exact ⟨cs, rfl⟩

set_option maxHeartbeats 2000000 in
theorem spec_l14All (w : World) (v u : Value) (xs : List Ingot) (ms : List Melt) (h : Rd w.heap.size w v 5 xs.length (xs.flatMap Ingot.put)) (hn : xs.length ≤ 1048576) (hok : ∀ x ∈ xs, x.ok) (h2 : RdM w.heap.size w u ms) (hn2 : ms.length ≤ 1048576) (hf : ∀ m ∈ ms, m.fine) :
    Calls Try.prog 68 #[v, u] w fun e w' => e = .returned (.int .i64 (allS xs ms)) ∧ Below w.heap.size w w' := by
  have H1 := Lib.hid h; clear h
  have H2 := Lib.hid h2; clear h2
  have Hok := Lib.hid hok; clear hok
  have Hf := Lib.hid hf; clear hf
  cases hV : validIngotS xs
  · have e : Hid (allS xs ms = 1) := (by unfold allS; rw [hV]; rfl : allS xs ms = 1)
    have HV := Lib.hid hV; clear hV
    go_enter Try.func68, Try.ntmps68
    go_wp2_with fail
    refine (spec_l13Ok_is _ _ xs H1.out hn Hok.out HV.out).mono ?_; rintro e1 w1 ⟨rfl, b1⟩
    go_wp2_with fail
    go_ret
    exact ⟨by rw [e.out]; rfl, b1⟩
  obtain ⟨h16, hall⟩ := validIngotS_true hV
  have HR := Lib.hid (rises_of hV)
  clear hall
  cases hM : meltsB ms
  · have e : Hid (allS xs ms = 1) := (by unfold allS; rw [hV, hM]; rfl : allS xs ms = 1)
    have HV := Lib.hid hV; clear hV
    have HM := Lib.hid hM; clear hM
    go_enter Try.func68, Try.ntmps68
    go_wp2_with fail
    refine (spec_l13Ok_is _ _ xs H1.out hn Hok.out HV.out).mono ?_; rintro e1 w1 ⟨rfl, b1⟩
    have HB1 := Lib.hid b1; clear b1
    go_wp2_with fail
    refine (spec_l14Ok_is _ _ ms (by exact H2.out.up HB1.out) hn2 Hf.out HM.out).mono ?_; rintro e2 w2 ⟨rfl, b2⟩
    have HB2 := Lib.hid (bnext HB1.out b2); clear b2
    go_wp2_with fail
    go_ret
    exact ⟨by rw [e.out]; rfl, HB2.out⟩
  obtain ⟨vo, vc, rfl⟩ := H1.out.form
  have H2' := H2.out
  obtain ⟨ao, cap, rfl, hcap, hmax, hsome⟩ := H2'
  obtain ⟨h12, hma⟩ := meltsB_true hM
  clear hma
  have EX := Lib.hid (show allS xs ms = (if existB xs ms = true then 0 else 3) by unfold allS; rw [hV, hM]; rfl)
  have HV := Lib.hid hV; clear hV
  have HM := Lib.hid hM; clear hM
  go_enter Try.func68, Try.ntmps68
  go_wp2_with fail
  refine (spec_l13Ok_is _ _ xs H1.out hn Hok.out HV.out).mono ?_; rintro e1 w1 ⟨rfl, b1⟩
  have HB1 := Lib.hid b1; clear b1
  go_wp2_with fail
  refine (spec_l14Ok_is _ _ ms (by exact H2.out.up HB1.out) hn2 Hf.out HM.out).mono ?_; rintro e2 w2 ⟨rfl, b2⟩
  have HB2 := Lib.hid (bnext HB1.out b2); clear b2 HB1
  have hs2 := HB2.out.size
  go_wp2_with fail
  go_loopw [5, 6, 7] (fun i _ _ wr => ∃ (k : Nat), k ≤ ms.length ∧ i = .int .i64 k ∧ (ms.take k).any (noneB xs) = false ∧ Below w2.heap.size w2 wr) (fun i _ _ _ => ms.length - (intOf i).toNat)
  case atStart => exact ⟨0, Nat.zero_le _, rfl, rfl, Below.refl _ _⟩
  case round =>
    obtain ⟨k, hk, rfl, hall, hb0⟩ := hrel
    have hb : Below w.heap.size w wr := HB2.out.trans (hb0.mono hs2)
    have Hall := Lib.hid hall; clear hall
    have HB0 := Lib.hid hb0; clear hb0
    by_cases hlt : k < ms.length
    · obtain ⟨b, off, rfl, hbB, hc⟩ := hsome (by omega)
      obtain ⟨l, p0, p1, p2, hrd⟩ := hc k hlt
      obtain ⟨lo, lc, rfl⟩ := hrd.form
      have c1 := (hb.cell (p := ⟨b, off + k * 3 + 1, none⟩) hbB).trans p1
      have hbr : b < wr.heap.size := Nat.lt_of_lt_of_le hbB hb.size
      have hin : ms[k].ingots.length ≤ 1048576 := (Hf.out ms[k] (List.getElem_mem hlt)).2.2.2
      have HCH := Lib.hid (spec_l14Chosen wr (.slice vo xs.length vc) xs ms[k].ingots b (off + k * 3) _ (H1.out.up hb) (by omega) HR.out c1 hbr (hrd.up hb) hin)
      clear hc hsome hb p0 p1 p2 hrd
      have em : noneB xs ms[k] = !(chosenL xs ms[k].ingots).isSome := rfl
      cases hC : (chosenL xs ms[k].ingots).isSome
      all_goals rw [hC] at HCH em
      · have e0 : existB xs ms = false := by unfold existB; rw [any_at ms k hlt em]; rfl
        have e : Hid (allS xs ms = 3) := (by rw [EX.out, e0]; rfl : allS xs ms = 3)
        clear e0
        clear hC em
        go_wp2_with fail
        refine HCH.out.mono ?_; rintro e1 w3 ⟨⟨u1, rfl, _⟩, b3⟩
        have HB3 := Lib.hid (HB0.out.trans (b3.mono HB0.out.size)); clear b3
        go_wp2_with fail
        go_ret
        exact ⟨by rw [e.out]; rfl, HB2.out.trans (HB3.out.mono hs2)⟩
      · have e : Hid ((ms.take (k + 1)).any (noneB xs) = false) := (by rw [any_take ms k hlt, Hall.out, em]; rfl : (ms.take (k + 1)).any (noneB xs) = false)
        clear hC em
        go_wp2_with fail
        refine HCH.out.mono ?_; rintro e1 w3 ⟨⟨u1, rfl, _⟩, b3⟩
        have HB3 := Lib.hid (HB0.out.trans (b3.mono HB0.out.size)); clear b3
        go_wp2_with fail
        go_roundw
        case rel => exact ⟨k + 1, by omega, by go_num, e.out, HB3.out⟩
        case measure => simp [intOf]; omega
    · have e0 : existB xs ms = true := by unfold existB; rw [any_full Hall.out (by omega)]; rfl
      have e : Hid (allS xs ms = 0) := (by rw [EX.out, e0]; rfl : allS xs ms = 0)
      clear e0
      clear hsome
      have HB := Lib.hid hb; clear hb
      go_wp2
      go_ret
      exact ⟨by rw [e.out]; rfl, HB.out⟩

theorem impl_exist_is {b0 : Bool} (w : World) (v u : Value) (xs : List Ingot) (ms : List Melt) (h : Rd w.heap.size w v 5 xs.length (xs.flatMap Ingot.put)) (hn : xs.length ≤ 1048576) (hr : Rises xs) (h2 : RdM w.heap.size w u ms) (hn2 : ms.length ≤ 1048576) (hin : ∀ m ∈ ms, m.ingots.length ≤ 1048576) (hb : existB xs ms = b0) :
    Calls Try.prog 80 #[v, u] w fun e w' => e = .returned (.bool b0) ∧ Below w.heap.size w w' := by
  subst hb; exact impl_exist w v u xs ms h hn hr h2 hn2 hin
set_option maxHeartbeats 2000000 in
theorem impl_meltsOf (w : World) (v u : Value) (xs : List Ingot) (ms : List Melt) (h : Rd w.heap.size w v 5 xs.length (xs.flatMap Ingot.put)) (hn : xs.length ≤ 1048576) (hok : ∀ x ∈ xs, x.ok) (h2 : RdM w.heap.size w u ms) (hn2 : ms.length ≤ 1048576) (hf : ∀ m ∈ ms, m.fine) :
    Calls Try.prog 93 #[v, u] w fun e w' => e = .returned (.int .i64 (allS xs ms)) ∧ Below w.heap.size w w' := by
  have H1 := Lib.hid h; clear h
  have H2 := Lib.hid h2; clear h2
  have Hok := Lib.hid hok; clear hok
  have Hf := Lib.hid hf; clear hf
  cases hV : validIngotS xs
  · have e : Hid (allS xs ms = 1) := (by unfold allS; rw [hV]; rfl : allS xs ms = 1)
    have HV := Lib.hid hV; clear hV
    go_enter Try.func93, Try.ntmps93
    go_wp2_with fail
    refine (impl_ValidIngots_is _ _ xs H1.out hn Hok.out HV.out).mono ?_; rintro e1 w1 ⟨rfl, b1⟩
    go_wp2_with fail
    go_ret
    exact ⟨by rw [e.out]; rfl, b1⟩
  have HR := Lib.hid (rises_of hV)
  cases hM : meltsB ms
  · have e : Hid (allS xs ms = 1) := (by unfold allS; rw [hV, hM]; rfl : allS xs ms = 1)
    have HV := Lib.hid hV; clear hV
    have HM := Lib.hid hM; clear hM
    go_enter Try.func93, Try.ntmps93
    go_wp2_with fail
    refine (impl_ValidIngots_is _ _ xs H1.out hn Hok.out HV.out).mono ?_; rintro e1 w1 ⟨rfl, b1⟩
    have HB1 := Lib.hid b1; clear b1
    go_wp2_with fail
    refine (impl_ValidMelts_is _ _ ms (by exact H2.out.up HB1.out) hn2 Hf.out HM.out).mono ?_; rintro e2 w2 ⟨rfl, b2⟩
    have HB2 := Lib.hid (bnext HB1.out b2); clear b2
    go_wp2_with fail
    go_ret
    exact ⟨by rw [e.out]; rfl, HB2.out⟩
  have EX := Lib.hid (show allS xs ms = (if existB xs ms = true then 0 else 3) by unfold allS; rw [hV, hM]; rfl)
  have HV := Lib.hid hV; clear hV
  have HM := Lib.hid hM; clear hM
  cases hE : existB xs ms
  all_goals
    have e := Lib.hid EX.out
    rw [hE] at e
    have HE := Lib.hid hE; clear hE
    go_enter Try.func93, Try.ntmps93
    go_wp2_with fail
    refine (impl_ValidIngots_is _ _ xs H1.out hn Hok.out HV.out).mono ?_; rintro e1 w1 ⟨rfl, b1⟩
    have HB1 := Lib.hid b1; clear b1
    go_wp2_with fail
    refine (impl_ValidMelts_is _ _ ms (by exact H2.out.up HB1.out) hn2 Hf.out HM.out).mono ?_; rintro e2 w2 ⟨rfl, b2⟩
    have HB2 := Lib.hid (bnext HB1.out b2); clear b2
    go_wp2_with fail
    refine (impl_exist_is _ _ _ xs ms (by exact H1.out.up HB2.out) hn HR.out (by exact H2.out.up HB2.out) hn2 (fun m hm => (Hf.out m hm).2.2.2) HE.out).mono ?_; rintro e3 w3 ⟨rfl, b3⟩
    have HB3 := Lib.hid (bnext HB2.out b3); clear b3
    go_wp2_with fail
    go_ret
    exact ⟨by rw [e.out]; rfl, HB3.out⟩

theorem spec_l14All_is {c0 : Int} (w : World) (v u : Value) (xs : List Ingot) (ms : List Melt) (h : Rd w.heap.size w v 5 xs.length (xs.flatMap Ingot.put)) (hn : xs.length ≤ 1048576) (hok : ∀ x ∈ xs, x.ok) (h2 : RdM w.heap.size w u ms) (hn2 : ms.length ≤ 1048576) (hf : ∀ m ∈ ms, m.fine) (hc : allS xs ms = c0) :
    Calls Try.prog 68 #[v, u] w fun e w' => e = .returned (.int .i64 c0) ∧ Below w.heap.size w w' := by
  subst hc; exact spec_l14All w v u xs ms h hn hok h2 hn2 hf

theorem impl_meltsOf_is {c0 : Int} (w : World) (v u : Value) (xs : List Ingot) (ms : List Melt) (h : Rd w.heap.size w v 5 xs.length (xs.flatMap Ingot.put)) (hn : xs.length ≤ 1048576) (hok : ∀ x ∈ xs, x.ok) (h2 : RdM w.heap.size w u ms) (hn2 : ms.length ≤ 1048576) (hf : ∀ m ∈ ms, m.fine) (hc : allS xs ms = c0) :
    Calls Try.prog 93 #[v, u] w fun e w' => e = .returned (.int .i64 c0) ∧ Below w.heap.size w w' := by
  subst hc; exact impl_meltsOf w v u xs ms h hn hok h2 hn2 hf
end Go.Proofs.Ytnbodmbagendnaa
namespace Go.Proofs.Ytnbodmbagendnaa
open Go.ChangeShapes Go.WideShapes Go.ChangeAt Go.RowKit Go.Deep Go.Joins
set_option linter.unusedVariables false
set_option maxRecDepth 100000
set_option linter.unusedSimpArgs false
theorem gt_spell (a b : ByteArray) : (!(Op.bytesLess a.toList b.toList) && !(a.toList == b.toList)) = ltName b a := by
  have h := not_less a.toList b.toList
  unfold ltName
  rw [← Bool.not_or, ← h, Bool.not_not]
theorem idM_none_of {ms : List Melt} {t : ByteArray} (h : ∀ j (hj : j < ms.length), ms[j].id ≠ t) : idM ms t = none := by
  cases hi : idM ms t with
  | none => rfl
  | some j =>
    obtain ⟨hj, he⟩ := idM_some hi
    exact absurd he (h j hj)
theorem any_common {ms : List Melt} {ids : List ByteArray} (h : ∀ j (hj : j < ms.length), commonB ms[j].ingots ids = false) : (ms.any fun y => commonB y.ingots ids) = false := by
  rw [List.any_eq_false]
  intro y hy
  obtain ⟨j, hj, rfl⟩ := List.mem_iff_getElem.1 hy
  rw [h j hj]; simp
/-- the melt that is put in, as its box shows it -/
def BoxM (w' : World) (g : Nat) (x : Melt) (v : Value) : Prop := Own w' g 63 [.string x.id, v, .int .i64 x.mass] ∧ Rd w'.heap.size w' v 1 x.ingots.length (x.ingots.flatMap putStr)
theorem BoxM.up {w w' : World} {g : Nat} {x : Melt} {v : Value} (h : BoxM w g x v) (b : Below w.heap.size w w') : BoxM w' g x v := ⟨h.1.below b h.1.lt, h.2.up b⟩
theorem BoxM.ok {w : World} {g : Nat} {x : Melt} {v : Value} (h : BoxM w g x v) (hf : x.fine) (hv : x.list = v) : x.ok w := by
  subst hv
  exact ⟨hf.1, ⟨h.2, by have := hf.2.2.2; unfold maxLen; omega, hf.2.1⟩, hf.2.2.1⟩
end Go.Proofs.Ytnbodmbagendnaa
