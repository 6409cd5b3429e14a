/- The code of measurements of a partial, and their values: both sides. -/
import Derived.Test.YtmkemjfbmnnflaaRows
import Derived.Test.YtmkemjfbmnnflaaValuesS
import Derived.Test.YtmkemjfbmnnflaaVMeasure
import Derived.Test.YtmkemjfbmnnflaaRound
namespace Go.Proofs.Ytmkemjfbmnnflaa
open Go.ChangeShapes Go.WideShapes Go.ChangeAt Go.RowKit Go.Deep Go.Joins
set_option linter.unusedVariables false
set_option maxRecDepth 100000
set_option linter.unusedSimpArgs false
def askM (xs : List Measure) (bell : ByteArray) (p : Int) : Int := if validMeasureS xs = true then if inB p 1 5 = true then if (valF xs bell p).length = 0 then 3 else 0 else 2 else 1
def valsS (xs : List Measure) (bell : ByteArray) (p : Int) : List Int := if askM xs bell p = 0 then sortI (valF xs bell p) else []
theorem validMeasureS_parts {xs : List Measure} (h : validMeasureS xs = true) : xs.length ≤ 64 ∧ ∀ x ∈ xs, measureB x = true := by
  simp only [validMeasureS, Bool.and_eq_true, decide_eq_true_eq] at h
  refine ⟨h.2, fun x hx => ?_⟩
  obtain ⟨i, hi, rfl⟩ := List.mem_iff_getElem.1 hx
  have := allK_true h.1 i hi
  unfold oneB at this
  rw [List.getElem?_eq_getElem hi] at this
  exact this
theorem valF_all {xs : List Measure} (h : validMeasureS xs = true) (bell : ByteArray) (p : Int) : (valF xs bell p).length ≤ 64 ∧ ∀ z ∈ valF xs bell p, 10000 ≤ z ∧ z ≤ 20000000 := by
  obtain ⟨h1, h2⟩ := validMeasureS_parts h
  refine ⟨?_, fun z hz => ?_⟩
  · have := valF_len xs bell p xs.length
    rw [List.take_length] at this
    omega
  · unfold valF at hz
    obtain ⟨x, hx, rfl⟩ := List.mem_map.1 hz
    have := h2 x (List.mem_filter.1 hx).1
    simp only [measureB, Bool.and_eq_true] at this
    exact inB_true this.2.2
theorem askM_bad {xs : List Measure} (h : validMeasureS xs = false) (bell : ByteArray) (p : Int) : askM xs bell p = 1 := by unfold askM; rw [h]; rfl
theorem askM_part {xs : List Measure} (h : validMeasureS xs = true) (bell : ByteArray) {p : Int} (hp : inB p 1 5 = false) : askM xs bell p = 2 := by unfold askM; rw [h, hp]; rfl
theorem askM_none {xs : List Measure} (h : validMeasureS xs = true) {bell : ByteArray} {p : Int} (hp : inB p 1 5 = true) (hz : (valF xs bell p).length = 0) : askM xs bell p = 3 := by unfold askM; rw [h, hp, hz]; rfl
theorem askM_some {xs : List Measure} (h : validMeasureS xs = true) {bell : ByteArray} {p : Int} (hp : inB p 1 5 = true) (hz : ¬ (valF xs bell p).length = 0) : askM xs bell p = 0 := by unfold askM; rw [h, hp, if_pos rfl, if_pos rfl, if_neg hz]
theorem askM_ok {xs : List Measure} {bell : ByteArray} {p : Int} (h : askM xs bell p = 0) : validMeasureS xs = true ∧ inB p 1 5 = true ∧ 0 < (valF xs bell p).length := by
  unfold askM at h
  split at h
  · split at h
    · split at h
      · omega
      · exact ⟨by assumption, by assumption, by omega⟩
    · omega
  · omega
theorem valsS_no {xs : List Measure} {bell : ByteArray} {p : Int} (h : ¬ askM xs bell p = 0) : valsS xs bell p = [] := if_neg h
theorem valsS_yes {xs : List Measure} {bell : ByteArray} {p : Int} (h : askM xs bell p = 0) : valsS xs bell p = sortI (valF xs bell p) := if_pos h
theorem valsS_all (xs : List Measure) (bell : ByteArray) (p : Int) : (valsS xs bell p).length ≤ 64 ∧ ∀ z ∈ valsS xs bell p, 10000 ≤ z ∧ z ≤ 20000000 := by
  by_cases h : askM xs bell p = 0
  · rw [valsS_yes h]
    obtain ⟨h1, h2⟩ := valF_all (askM_ok h).1 bell p
    exact ⟨by rw [sortI_len]; exact h1, fun z hz => h2 z ((sortI_perm _).mem_iff.1 hz)⟩
  · rw [valsS_no h]; simp
theorem spec_l11Ok_is {b : Bool} (w : World) (v : Value) (xs : List Measure) (h : Rd w.heap.size w v 3 xs.length (xs.flatMap Measure.put)) (hn : xs.length ≤ 1048576) (hok : ∀ x ∈ xs, x.ok) (hb : validMeasureS xs = b) :
    Calls Try.prog 52 #[v] w fun e w' => e = .returned (.bool b) ∧ Below w.heap.size w w' := by rw [← hb]; exact spec_validMeasure w v xs h hn hok
theorem impl_ValidMeasures_is {b : Bool} (w : World) (v : Value) (xs : List Measure) (h : Rd w.heap.size w v 3 xs.length (xs.flatMap Measure.put)) (hn : xs.length ≤ 1048576) (hok : ∀ x ∈ xs, x.ok) (hb : validMeasureS xs = b) :
    Calls Try.prog 43 #[v] w fun e w' => e = .returned (.bool b) ∧ Below w.heap.size w w' := by rw [← hb]; exact impl_validMeasure w v xs h hn hok

set_option maxHeartbeats 2000000 in
theorem spec_l11Ask (w : World) (v : Value) (xs : List Measure) (bell : ByteArray) (p : Int) (h : Rd w.heap.size w v 3 xs.length (xs.flatMap Measure.put)) (hn : xs.length ≤ 1048576) (hok : ∀ x ∈ xs, x.ok) :
    Calls Try.prog 40 #[v, .string bell, .int .i64 p] w fun e w' => e = .returned (.int .i64 (askM xs bell p)) ∧ Below w.heap.size w w' := by
  cases hV : validMeasureS xs
  · have e := Lib.hid (askM_bad hV bell p)
    have H := Lib.hid (spec_l11Ok_is w v xs h hn hok hV)
    clear h hok hV
    go_enter Try.func40, Try.ntmps40
    go_wp2_with fail
    refine H.out.mono ?_; rintro e1 w1 ⟨rfl, b1⟩
    go_wp2_with fail
    go_ret
    exact ⟨by rw [e.out]; try rfl, b1⟩
  have h64 := (validMeasureS_parts hV).1
  have H := Lib.hid (spec_l11Ok_is w v xs h hn hok hV)
  cases hp : inB p 1 5
  · have e := Lib.hid (askM_part hV bell hp)
    have HP := Lib.hid hp
    clear h hok hV hp
    go_enter Try.func40, Try.ntmps40
    go_wp2_with fail
    refine H.out.mono ?_; rintro e1 w1 ⟨rfl, b1⟩
    go_wp2_with (go_at_call 65; refine (spec_l04Partial_is _ _ HP.out).mono ?_; rintro e w' ⟨rfl, rfl⟩)
    go_ret
    exact ⟨by rw [e.out]; try rfl, b1⟩
  have HX := Lib.hid (fun w' (hb : Below w.heap.size w w') => spec_l11Values w' v xs bell p (h.up hb) h64)
  have HP := Lib.hid hp
  have hl := valF_all hV bell p
  by_cases hz : (valF xs bell p).length = 0
  · have e := Lib.hid (askM_none hV hp hz)
    have HZ := Lib.hid hz
    clear h hok hV hp hz hl
    go_enter Try.func40, Try.ntmps40
    go_wp2_with fail
    refine H.out.mono ?_; rintro e1 w1 ⟨rfl, b1⟩
    go_wp2_with (go_at_call 65; refine (spec_l04Partial_is _ _ HP.out).mono ?_; rintro e w' ⟨rfl, rfl⟩)
    refine (HX.out w1 b1).mono ?_; rintro e2 w2 ⟨r, rfl, hown, b2⟩
    obtain ⟨ao, cap, rfl⟩ := (own_rd hown).form
    have B := Lib.hid (bnext b1 b2)
    clear hown b1 b2 HX
    rw [HZ.out]
    go_wp2_with fail
    go_ret
    exact ⟨by rw [e.out]; try rfl, B.out⟩
  · have e := Lib.hid (askM_some hV hp hz)
    have hl1 := hl.1
    clear h hok hV hp hl
    go_enter Try.func40, Try.ntmps40
    go_wp2_with fail
    refine H.out.mono ?_; rintro e1 w1 ⟨rfl, b1⟩
    go_wp2_with (go_at_call 65; refine (spec_l04Partial_is _ _ HP.out).mono ?_; rintro e w' ⟨rfl, rfl⟩)
    refine (HX.out w1 b1).mono ?_; rintro e2 w2 ⟨r, rfl, hown, b2⟩
    obtain ⟨ao, cap, rfl⟩ := (own_rd hown).form
    have B := Lib.hid (bnext b1 b2)
    clear hown b1 b2 HX
    generalize (valF xs bell p).length = n at *
    have t1 : ((n : Int) == 0) = false := beq_eq_false_iff_ne.2 (by omega)
    have t2 : decide (n = 0) = false := decide_eq_false hz
    clear hz
    go_wp2_with fail
    go_ret
    exact ⟨by rw [e.out]; try rfl, B.out⟩

set_option maxHeartbeats 2000000 in
theorem spec_ValuesOf (w : World) (v : Value) (xs : List Measure) (bell : ByteArray) (p : Int) (h : Rd w.heap.size w v 3 xs.length (xs.flatMap Measure.put)) (hn : xs.length ≤ 1048576) (hok : ∀ x ∈ xs, x.ok) :
    Calls Try.prog 12 #[v, .string bell, .int .i64 p] w fun e w' => ∃ r : Value, e = .returned (.tuple #[r, .int .i64 (askM xs bell p)]) ∧ w'.ownsRow w.heap.size 2 1 r (valsS xs bell p).length ((valsS xs bell p).flatMap putI) ∧ Below w.heap.size w w' := by
  have H := Lib.hid (spec_l11Ask w v xs bell p h hn hok)
  by_cases h0 : askM xs bell p = 0
  · have HX := Lib.hid (fun w' (hb : Below w.heap.size w w') => spec_l11Values w' v xs bell p (h.up hb) (validMeasureS_parts (askM_ok h0).1).1)
    have e := Lib.hid (valsS_yes h0)
    have H0 := Lib.hid h0
    rw [h0] at H
    clear h hok h0
    go_enter Try.func12, Try.ntmps12
    go_wp2_with fail
    refine H.out.mono ?_; rintro e1 w1 ⟨rfl, b1⟩
    go_wp2_with fail
    refine (HX.out w1 b1).mono ?_; rintro e2 w2 ⟨r, rfl, hown, b2⟩
    have B := Lib.hid (bnext b1 b2)
    have HO := Lib.hid (ownsRow_le hown b1.size)
    clear hown b1 b2 HX
    go_wp2_with fail
    go_ret2
    exact ⟨_, by rw [H0.out]; rfl, by rw [e.out, sortI_len]; exact HO.out, B.out⟩
  · have e := Lib.hid (valsS_no h0)
    have t0 : (askM xs bell p != 0) = true := bne_iff_ne.2 h0
    clear h hok h0
    go_enter Try.func12, Try.ntmps12
    go_wp2_with fail
    refine H.out.mono ?_; rintro e1 w1 ⟨rfl, b1⟩
    go_wp2_with fail
    go_ret2
    exact ⟨_, rfl, by rw [e.out]; exact own_nil _ _ _ _, b1⟩

set_option maxHeartbeats 2000000 in
theorem impl_ValuesOf (w : World) (v : Value) (xs : List Measure) (bell : ByteArray) (p : Int) (h : Rd w.heap.size w v 3 xs.length (xs.flatMap Measure.put)) (hn : xs.length ≤ 1048576) (hok : ∀ x ∈ xs, x.ok) :
    Calls Try.prog 14 #[v, .string bell, .int .i64 p] w fun e w' => ∃ r : Value, e = .returned (.tuple #[r, .int .i64 (askM xs bell p)]) ∧ w'.ownsRow w.heap.size 2 1 r (valsS xs bell p).length ((valsS xs bell p).flatMap putI) ∧ Below w.heap.size w w' := by
  cases hV : validMeasureS xs
  · have ea := Lib.hid (askM_bad hV bell p)
    have e := Lib.hid (valsS_no (xs := xs) (bell := bell) (p := p) (by rw [ea.out]; decide))
    have H := Lib.hid (impl_ValidMeasures_is w v xs h hn hok hV)
    clear h hok hV
    go_enter Try.func14, Try.ntmps14
    go_wp2_with fail
    refine H.out.mono ?_; rintro e1 w1 ⟨rfl, b1⟩
    go_wp2_with fail
    go_ret2
    exact ⟨_, by rw [ea.out]; try rfl, by rw [e.out]; exact own_nil _ _ _ _, b1⟩
  have h64 := (validMeasureS_parts hV).1
  have H := Lib.hid (impl_ValidMeasures_is w v xs h hn hok hV)
  cases hp : inB p 1 5
  · have ea := Lib.hid (askM_part hV bell hp)
    have e := Lib.hid (valsS_no (xs := xs) (bell := bell) (p := p) (by rw [ea.out]; decide))
    have HP := Lib.hid hp
    clear h hok hV hp
    go_enter Try.func14, Try.ntmps14
    go_wp2_with fail
    refine H.out.mono ?_; rintro e1 w1 ⟨rfl, b1⟩
    go_wp2_with (go_at_call 44; refine (impl_isPartial_is _ _ HP.out).mono ?_; rintro e w' ⟨rfl, rfl⟩)
    go_ret2
    exact ⟨_, by rw [ea.out]; try rfl, by rw [e.out]; exact own_nil _ _ _ _, b1⟩
  have HX := Lib.hid (fun w' (hb : Below w.heap.size w w') => impl_values w' v xs bell p (h.up hb) h64)
  have HP := Lib.hid hp
  have hl := valF_all hV bell p
  by_cases hz : (valF xs bell p).length = 0
  · have ea := Lib.hid (askM_none hV hp hz)
    have e := Lib.hid (valsS_no (xs := xs) (bell := bell) (p := p) (by rw [ea.out]; decide))
    have HZ := Lib.hid hz
    clear h hok hV hp hz hl
    go_enter Try.func14, Try.ntmps14
    go_wp2_with fail
    refine H.out.mono ?_; rintro e1 w1 ⟨rfl, b1⟩
    go_wp2_with (go_at_call 44; refine (impl_isPartial_is _ _ HP.out).mono ?_; rintro e w' ⟨rfl, rfl⟩)
    refine (HX.out w1 b1).mono ?_; rintro e2 w2 ⟨r, rfl, hown, b2⟩
    obtain ⟨ao, cap, rfl⟩ := (own_rd hown).form
    have B := Lib.hid (bnext b1 b2)
    clear hown b1 b2 HX
    rw [HZ.out]
    go_wp2_with fail
    go_ret2
    exact ⟨_, by rw [ea.out]; try rfl, by rw [e.out]; exact own_nil _ _ _ _, B.out⟩
  · have ea := Lib.hid (askM_some hV hp hz)
    have e := Lib.hid ((valsS_yes ea.out).symm)
    have hl1 := hl.1
    clear h hok hV hp hl
    go_enter Try.func14, Try.ntmps14
    go_wp2_with fail
    refine H.out.mono ?_; rintro e1 w1 ⟨rfl, b1⟩
    go_wp2_with (go_at_call 44; refine (impl_isPartial_is _ _ HP.out).mono ?_; rintro e w' ⟨rfl, rfl⟩)
    refine (HX.out w1 b1).mono ?_; rintro e2 w2 ⟨r, rfl, hown, b2⟩
    obtain ⟨ao, cap, rfl⟩ := (own_rd hown).form
    have B := Lib.hid (bnext b1 b2)
    have HO : Hid (w2.ownsRow w.heap.size 2 1 _ (valsS xs bell p).length ((valsS xs bell p).flatMap putI)) := Lib.hid (by have := ownsRow_le hown b1.size; rw [← e.out, sortI_len]; exact this)
    clear hown b1 b2 HX
    generalize (valF xs bell p).length = n at *
    have t1 : ((n : Int) == 0) = false := beq_eq_false_iff_ne.2 (by omega)
    have t2 : decide (n = 0) = false := decide_eq_false hz
    clear hz
    go_wp2_with fail
    go_ret2
    exact ⟨_, by rw [ea.out]; try rfl, HO.out, B.out⟩

/-- the middle one -/
def medI (zs : List Int) : Int := zs[(zs.length - 1) / 2]?.getD 0

theorem spec_median (w : World) (v : Value) (zs : List Int) (h : Rd w.heap.size w v 1 zs.length (zs.flatMap putI)) (h0 : 0 < zs.length) (hn : zs.length ≤ 1048576) :
    Calls Try.prog 48 #[v] w fun e w' => e = .returned (.int .i64 (medI zs)) ∧ Below w.heap.size w w' := by
  obtain ⟨hL, vo, vc, rfl, hcap1, hmax1, hnil1, hsome1⟩ := h
  obtain ⟨b, off, rfl, hb, hc⟩ := hsome1 h0
  have hlt : (zs.length - 1) / 2 < zs.length := by omega
  have c : w.cell? ⟨b, off + (zs.length - 1) / 2, none⟩ = some (.int .i64 (medI zs)) := by
    rw [hc _ (by omega), putI_get zs _ hlt]
    unfold medI
    rw [List.getElem?_eq_getElem hlt]; rfl
  clear hc hsome1 hnil1
  generalize medI zs = m at *
  have q : ((zs.length : Int) - 1) / 2 = (((zs.length - 1) / 2 : Nat) : Int) := by omega
  go_enter Try.func48, Try.ntmps48
  go_wp2_with fail
  go_ret
  exact ⟨rfl, Below.refl _ _⟩

theorem impl_median (w : World) (v : Value) (zs : List Int) (h : Rd w.heap.size w v 1 zs.length (zs.flatMap putI)) (h0 : 0 < zs.length) (hn : zs.length ≤ 1048576) :
    Calls Try.prog 49 #[v] w fun e w' => e = .returned (.int .i64 (medI zs)) ∧ Below w.heap.size w w' := by
  obtain ⟨hL, vo, vc, rfl, hcap1, hmax1, hnil1, hsome1⟩ := h
  obtain ⟨b, off, rfl, hb, hc⟩ := hsome1 h0
  have hlt : (zs.length - 1) / 2 < zs.length := by omega
  have c : w.cell? ⟨b, off + (zs.length - 1) / 2, none⟩ = some (.int .i64 (medI zs)) := by
    rw [hc _ (by omega), putI_get zs _ hlt]
    unfold medI
    rw [List.getElem?_eq_getElem hlt]; rfl
  clear hc hsome1 hnil1
  generalize medI zs = m at *
  have q : ((zs.length : Int) - 1) / 2 = (((zs.length - 1) / 2 : Nat) : Int) := by omega
  go_enter Try.func49, Try.ntmps49
  go_wp2_with fail
  go_ret
  exact ⟨rfl, Below.refl _ _⟩
end Go.Proofs.Ytmkemjfbmnnflaa
