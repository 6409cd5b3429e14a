/- Valid lists of measurements: both sides compute the same. -/
import Derived.Test.YtmkemjfbmnnflaaRows
import Derived.Test.YtmkemjfbmnnflaaHMeasure
import Derived.Test.YtmkemjfbmnnflaaOneMeasure
import Derived.Test.YtmkemjfbmnnflaaSteps
namespace Go.Proofs.Ytmkemjfbmnnflaa
open Go.ChangeShapes Go.WideShapes Go.ChangeAt Go.RowKit Go.Deep Go.Joins
set_option linter.unusedVariables false
set_option maxRecDepth 100000
set_option linter.unusedSimpArgs false
def oneB {α : Type} (ok : α → Bool) (xs : List α) (k : Nat) : Bool := match xs[k]? with | some x => ok x | none => true
theorem oneB_eq {α : Type} {ok : α → Bool} {xs : List α} {k : Nat} {b : Bool} (h : k < xs.length) (hO : ok xs[k] = b) : oneB ok xs k = b := by
  unfold oneB; rw [List.getElem?_eq_getElem h]; exact hO
def validMeasureS (xs : List Measure) : Bool := allK (oneB measureB xs) xs.length && decide (xs.length ≤ 64)

set_option maxHeartbeats 1000000 in
theorem spec_validMeasure (w : World) (v : Value) (xs : List Measure) (h : Rd w.heap.size w v 3 xs.length (xs.flatMap Measure.put)) (hn : xs.length ≤ 1048576) (hok : ∀ x ∈ xs, x.ok) :
    Calls Try.prog 52 #[v] w fun e w' => e = .returned (.bool (validMeasureS xs)) ∧ Below w.heap.size w w' := by
  obtain ⟨hL, ao, cap, rfl, hcap, hmax, hnil, hsome⟩ := h
  have Hok := Lib.hid hok; clear hok
  go_enter Try.func52, Try.ntmps52
  go_wp2
  go_loopw [3] (fun i wr => ∃ (k : Nat), k ≤ xs.length ∧ i = .int .i64 k ∧ allK (oneB measureB xs) k = true ∧ Below w.heap.size w wr) (fun i _ => xs.length - (intOf i).toNat)
  case atStart => exact ⟨0, Nat.zero_le _, rfl, rfl, Below.refl _ _⟩
  case round =>
    obtain ⟨k, hk, rfl, hall, hb⟩ := hrel
    have Hall := Lib.hid hall; clear hall
    by_cases hlt : k < xs.length
    · obtain ⟨b, off, rfl, hbB, hc⟩ := hsome (by omega)
      have c0 : wr.cell? ⟨b, off + k * 3, none⟩ = some (.string xs[k].bell) := by
        rw [show off + k * 3 = off + (k * 3 + 0) from by omega, hb.cell (p := ⟨b, off + (k * 3 + 0), none⟩) hbB, hc (k * 3 + 0) (by omega), Measure_get0 xs k hlt]
      have c1 : wr.cell? ⟨b, off + k * 3 + 1, none⟩ = some (.int .i64 xs[k].part) := by
        rw [show off + k * 3 + 1 = off + (k * 3 + 1) from by omega, hb.cell (p := ⟨b, off + (k * 3 + 1), none⟩) hbB, hc (k * 3 + 1) (by omega), Measure_get1 xs k hlt]
      have c2 : wr.cell? ⟨b, off + k * 3 + 2, none⟩ = some (.int .i64 xs[k].value) := by
        rw [show off + k * 3 + 2 = off + (k * 3 + 2) from by omega, hb.cell (p := ⟨b, off + (k * 3 + 2), none⟩) hbB, hc (k * 3 + 2) (by omega), Measure_get2 xs k hlt]
      have hbr : b < wr.heap.size := Nat.lt_of_lt_of_le hbB hb.size
      have hokk := Hok.out _ (List.getElem_mem hlt)
      have HS := Lib.hid (allK_succ (oneB measureB xs) k)
      have HF := Lib.hid (allK_false (oneB measureB xs) xs.length k hlt)
      have HB := Lib.hid hb
      have HK := Lib.hid hokk
      clear hc hsome hnil hb hokk
      cases hO : measureB xs[k]
      · have e : Hid (validMeasureS xs = false) := (by unfold validMeasureS; rw [HF.out (oneB_eq hlt hO)]; rfl : validMeasureS xs = false)
        go_wp2_with fail
        refine (spec_l11One_is xs[k] _ _ _ (by assumption) (by assumption) (by assumption) (by assumption) HK.out).mono ?_; rintro e1 w1 ⟨rfl, b1⟩
        have HB1 := Lib.hid (HB.out.trans (b1.mono HB.out.size)); clear b1 HB
        go_wp2_with fail
        go_ret
        exact ⟨by rw [e.out]; rfl, HB1.out⟩
      · have e : Hid (allK (oneB measureB xs) (k + 1) = true) := (by rw [HS.out, Hall.out, oneB_eq hlt hO]; rfl : allK (oneB measureB xs) (k + 1) = true)
        go_wp2_with fail
        refine (spec_l11One_is xs[k] _ _ _ (by assumption) (by assumption) (by assumption) (by assumption) HK.out).mono ?_; rintro e1 w1 ⟨rfl, b1⟩
        have HB1 := Lib.hid (HB.out.trans (b1.mono HB.out.size)); clear b1 HB
        go_wp2_with fail
        go_roundw
        case rel => exact ⟨k + 1, by omega, by go_num, e.out, HB1.out⟩
        case measure => simp [intOf]; omega
    · have e : Hid (validMeasureS xs = decide (xs.length ≤ 64)) := (by
        unfold validMeasureS
        obtain rfl : k = xs.length := by omega
        rw [Hall.out]; rfl : validMeasureS xs = decide (xs.length ≤ 64))
      go_wp2
      go_ret
      exact ⟨by rw [e.out]; congr 2; simp; try omega, hb⟩

set_option maxHeartbeats 1000000 in
theorem slices_IndexFunc_Measure (w : World) (v : Value) (xs : List Measure) (h : Rd w.heap.size w v 3 xs.length (xs.flatMap Measure.put)) (hn : xs.length ≤ 1048576) (hok : ∀ x ∈ xs, x.ok) :
    Calls Try.prog 87 #[v, .func (.func 67) #[] #[]] w fun e w' => (∃ r : Int, e = .returned (.int .i64 r) ∧ decide (0 ≤ r) = !(allK (oneB measureB xs) xs.length)) ∧ Below w.heap.size w w' := by
  obtain ⟨hL, ao, cap, rfl, hcap, hmax, hnil, hsome⟩ := h
  have Hok := Lib.hid hok; clear hok
  go_enter Try.func87, Try.ntmps87
  go_wp2
  go_loopw [8] (fun i wr => ∃ (k : Nat), k ≤ xs.length ∧ i = .int .i64 k ∧ allK (oneB measureB xs) k = true ∧ Below w.heap.size w wr) (fun i _ => xs.length - (intOf i).toNat)
  case atStart => exact ⟨0, Nat.zero_le _, rfl, rfl, Below.refl _ _⟩
  case round =>
    obtain ⟨k, hk, rfl, hall, hb⟩ := hrel
    have Hall := Lib.hid hall; clear hall
    by_cases hlt : k < xs.length
    · obtain ⟨b, off, rfl, hbB, hc⟩ := hsome (by omega)
      have c0 : wr.cell? ⟨b, off + k * 3, none⟩ = some (.string xs[k].bell) := by
        rw [show off + k * 3 = off + (k * 3 + 0) from by omega, hb.cell (p := ⟨b, off + (k * 3 + 0), none⟩) hbB, hc (k * 3 + 0) (by omega), Measure_get0 xs k hlt]
      have c1 : wr.cell? ⟨b, off + k * 3 + 1, none⟩ = some (.int .i64 xs[k].part) := by
        rw [show off + k * 3 + 1 = off + (k * 3 + 1) from by omega, hb.cell (p := ⟨b, off + (k * 3 + 1), none⟩) hbB, hc (k * 3 + 1) (by omega), Measure_get1 xs k hlt]
      have c2 : wr.cell? ⟨b, off + k * 3 + 2, none⟩ = some (.int .i64 xs[k].value) := by
        rw [show off + k * 3 + 2 = off + (k * 3 + 2) from by omega, hb.cell (p := ⟨b, off + (k * 3 + 2), none⟩) hbB, hc (k * 3 + 2) (by omega), Measure_get2 xs k hlt]
      have hbr : b < wr.heap.size := Nat.lt_of_lt_of_le hbB hb.size
      have hokk := Hok.out _ (List.getElem_mem hlt)
      have HS := Lib.hid (allK_succ (oneB measureB xs) k)
      have HF := Lib.hid (allK_false (oneB measureB xs) xs.length k hlt)
      have HB := Lib.hid hb
      have HK := Lib.hid hokk
      clear hc hsome hnil hb hokk
      cases hO : measureB xs[k]
      · have e : Hid (allK (oneB measureB xs) xs.length = false) := (HF.out (oneB_eq hlt hO) : allK (oneB measureB xs) xs.length = false)
        go_wp2_with fail
        go_at_call 67
        refine (impl_ValidMeasures1_is xs[k] _ (by assumption) HK.out).mono ?_; rintro e1 w1 ⟨rfl, b1⟩
        have HB1 := Lib.hid (HB.out.trans (b1.mono HB.out.size)); clear b1 HB
        go_wp2_with fail
        go_ret
        exact ⟨⟨_, rfl, by rw [e.out]; simp⟩, HB1.out⟩
      · have e : Hid (allK (oneB measureB xs) (k + 1) = true) := (by rw [HS.out, Hall.out, oneB_eq hlt hO]; rfl : allK (oneB measureB xs) (k + 1) = true)
        go_wp2_with fail
        go_at_call 67
        refine (impl_ValidMeasures1_is xs[k] _ (by assumption) HK.out).mono ?_; rintro e1 w1 ⟨rfl, b1⟩
        have HB1 := Lib.hid (HB.out.trans (b1.mono HB.out.size)); clear b1 HB
        go_wp2_with fail
        go_roundw
        case rel => exact ⟨k + 1, by omega, by go_num, e.out, HB1.out⟩
        case measure => simp [intOf]; omega
    · have e : Hid (allK (oneB measureB xs) xs.length = true) := (by
        obtain rfl : k = xs.length := by omega
        exact Hall.out : allK (oneB measureB xs) xs.length = true)
      go_wp2
      go_ret
      exact ⟨⟨_, rfl, by rw [e.out]; rfl⟩, hb⟩

theorem slices_ContainsFunc_Measure (w : World) (v : Value) (xs : List Measure) (h : Rd w.heap.size w v 3 xs.length (xs.flatMap Measure.put)) (hn : xs.length ≤ 1048576) (hok : ∀ x ∈ xs, x.ok) :
    Calls Try.prog 66 #[v, .func (.func 67) #[] #[]] w fun e w' => e = .returned (.bool (!(allK (oneB measureB xs) xs.length))) ∧ Below w.heap.size w w' := by
  have H := Lib.hid (slices_IndexFunc_Measure w v xs h hn hok)
  clear h hok
  go_enter Try.func66, Try.ntmps66
  go_wp2_with fail
  refine H.out.mono ?_; rintro e w1 ⟨⟨r, rfl, hr⟩, b1⟩
  have Hr := Lib.hid hr; clear hr
  go_wp2_with fail
  go_ret
  exact ⟨by rw [← Hr.out]; rfl, b1⟩

theorem impl_validMeasure (w : World) (v : Value) (xs : List Measure) (h : Rd w.heap.size w v 3 xs.length (xs.flatMap Measure.put)) (hn : xs.length ≤ 1048576) (hok : ∀ x ∈ xs, x.ok) :
    Calls Try.prog 43 #[v] w fun e w' => e = .returned (.bool (validMeasureS xs)) ∧ Below w.heap.size w w' := by
  have H := Lib.hid (slices_ContainsFunc_Measure w v xs h hn hok)
  obtain ⟨hL, ao, cap, rfl, hcap, hmax, hnil, hsome⟩ := h
  clear hsome hnil hok
  by_cases h64 : xs.length ≤ 64
  case neg =>
    have e : Hid (validMeasureS xs = false) := (by unfold validMeasureS; rw [decide_eq_false h64, Bool.and_false] : validMeasureS xs = false)
    have hz : decide ((xs.length : Int) ≤ 64) = false := decide_eq_false (by omega)
    have h64' := Lib.hid h64; clear h64
    go_enter Try.func43, Try.ntmps43
    go_wp2
    go_ret
    exact ⟨by rw [e.out]; rfl, Below.refl _ _⟩
  have e : Hid (validMeasureS xs = allK (oneB measureB xs) xs.length) := (by unfold validMeasureS; rw [decide_eq_true h64, Bool.and_true] : validMeasureS xs = allK (oneB measureB xs) xs.length)
  have hz : decide ((xs.length : Int) ≤ 64) = true := decide_eq_true (by omega)
  have h64' := Lib.hid h64; clear h64
  go_enter Try.func43, Try.ntmps43
  go_wp2_with fail
  refine H.out.mono ?_; rintro e1 w1 ⟨rfl, b1⟩
  go_wp2_with fail
  go_ret
  exact ⟨by rw [e.out]; simp, b1⟩
end Go.Proofs.Ytmkemjfbmnnflaa
