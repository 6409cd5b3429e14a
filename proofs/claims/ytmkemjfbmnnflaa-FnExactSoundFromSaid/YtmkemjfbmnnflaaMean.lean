/- Sums and means of numbers, and the results of MedianOf and MeanOf. -/
import Derived.Test.YtmkemjfbmnnflaaRows
import Derived.Test.YtmkemjfbmnnflaaAsk
namespace Go.Proofs.Ytmkemjfbmnnflaa
open Go.ChangeShapes Go.WideShapes Go.ChangeAt Go.RowKit Go.Deep Go.Joins
set_option linter.unusedVariables false
set_option maxRecDepth 100000
set_option linter.unusedSimpArgs false
theorem sum_succ (zs : List Int) (k : Nat) (h : k < zs.length) : (zs.take (k + 1)).sum = (zs.take k).sum + zs[k] := by
  rw [List.take_succ_eq_append_getElem h, List.sum_append]; simp
theorem sum_bd (zs : List Int) (h : ∀ z ∈ zs, 10000 ≤ z ∧ z ≤ 20000000) : ∀ k, k ≤ zs.length → 0 ≤ (zs.take k).sum ∧ (zs.take k).sum ≤ k * 20000000
  | 0, _ => by simp
  | k + 1, hk => by
    have h1 := sum_bd zs h k (by omega)
    have h2 := h zs[k] (List.getElem_mem (by omega))
    rw [sum_succ zs k (by omega)]
    constructor <;> push_cast <;> omega
def meanI (zs : List Int) : Int := divR zs.sum zs.length

set_option maxHeartbeats 2000000 in
theorem spec_l11Mean (w : World) (v : Value) (zs : List Int) (h : Rd w.heap.size w v 1 zs.length (zs.flatMap putI)) (h0 : 0 < zs.length) (hn : zs.length ≤ 64) (hz : ∀ z ∈ zs, 10000 ≤ z ∧ z ≤ 20000000) :
    Calls Try.prog 50 #[v] w fun e w' => e = .returned (.int .i64 (meanI zs)) ∧ Below w.heap.size w w' := by
  obtain ⟨hL, vo, vc, rfl, hcap1, hmax1, hnil1, hsome1⟩ := h
  have Hz := Lib.hid hz; clear hz
  go_enter Try.func50, Try.ntmps50
  go_wp2
  go_loopw [3, 4] (fun s i wr => ∃ (k : Nat), k ≤ zs.length ∧ i = .int .i64 k ∧ s = .int .i64 (zs.take k).sum ∧ Below w.heap.size w wr) (fun _ i _ => zs.length - (intOf i).toNat)
  case atStart => exact ⟨0, Nat.zero_le _, rfl, rfl, Below.refl _ _⟩
  case round =>
    obtain ⟨k, hk, rfl, rfl, hb⟩ := hrel
    by_cases hlt : k < zs.length
    · obtain ⟨b, off, rfl, hbB, hc⟩ := hsome1 (by omega)
      have c1 : wr.cell? ⟨b, off + k, none⟩ = some (.int .i64 zs[k]) := by rw [hb.cell (p := ⟨b, off + k, none⟩) hbB, hc k (by omega), putI_get zs k hlt]
      have hs := Lib.hid (sum_succ zs k hlt)
      have hbd := sum_bd zs Hz.out k (by omega)
      have hzk := Hz.out zs[k] (List.getElem_mem hlt)
      have HB := Lib.hid hb
      clear hc hsome1 hnil1 hb
      generalize (zs.take k).sum = S at *
      go_wp2_with fail
      go_roundw
      case rel => exact ⟨k + 1, by omega, by go_num, by rw [hs.out], HB.out⟩
      case measure => simp [intOf]; omega
    · have em : Hid (zs.take k = zs) := (List.take_of_length_le (by omega) : zs.take k = zs)
      have hbd := sum_bd zs Hz.out zs.length (Nat.le_refl _)
      rw [List.take_length] at hbd
      have HB := Lib.hid hb; clear hb hsome1 hnil1
      rw [em.out]
      have e : Hid (meanI zs = divR zs.sum zs.length) := (rfl : meanI zs = divR zs.sum zs.length)
      generalize zs.sum = S at *
      go_wp2_with (first | (go_at_call 71; refine (spec_l01Div _ _ _ (by omega) (by omega) (by omega) (by omega)).mono ?_; rintro e w' ⟨rfl, rfl⟩))
      go_ret
      exact ⟨by rw [e.out]; try rfl, HB.out⟩

set_option maxHeartbeats 2000000 in
theorem impl_sumOf (w : World) (v : Value) (zs : List Int) (h : Rd w.heap.size w v 1 zs.length (zs.flatMap putI)) (h0 : 0 < zs.length) (hn : zs.length ≤ 64) (hz : ∀ z ∈ zs, 10000 ≤ z ∧ z ≤ 20000000) :
    Calls Try.prog 73 #[v] w fun e w' => e = .returned (.int .i64 zs.sum) ∧ Below w.heap.size w w' := by
  obtain ⟨hL, vo, vc, rfl, hcap1, hmax1, hnil1, hsome1⟩ := h
  have Hz := Lib.hid hz; clear hz
  go_enter Try.func73, Try.ntmps73
  go_wp2
  go_loopw [3, 8] (fun s i wr => ∃ (k : Nat), k ≤ zs.length ∧ i = .int .i64 k ∧ s = .int .i64 (zs.take k).sum ∧ Below w.heap.size w wr) (fun _ i _ => zs.length - (intOf i).toNat)
  case atStart => exact ⟨0, Nat.zero_le _, rfl, rfl, Below.refl _ _⟩
  case round =>
    obtain ⟨k, hk, rfl, rfl, hb⟩ := hrel
    by_cases hlt : k < zs.length
    · obtain ⟨b, off, rfl, hbB, hc⟩ := hsome1 (by omega)
      have c1 : wr.cell? ⟨b, off + k, none⟩ = some (.int .i64 zs[k]) := by rw [hb.cell (p := ⟨b, off + k, none⟩) hbB, hc k (by omega), putI_get zs k hlt]
      have hs := Lib.hid (sum_succ zs k hlt)
      have hbd := sum_bd zs Hz.out k (by omega)
      have hzk := Hz.out zs[k] (List.getElem_mem hlt)
      have HB := Lib.hid hb
      clear hc hsome1 hnil1 hb
      generalize (zs.take k).sum = S at *
      go_wp2_with fail
      go_roundw
      case rel => exact ⟨k + 1, by omega, by go_num, by rw [hs.out], HB.out⟩
      case measure => simp [intOf]; omega
    · have em : Hid (zs.take k = zs) := (List.take_of_length_le (by omega) : zs.take k = zs)
      have HB := Lib.hid hb; clear hb hsome1 hnil1
      rw [em.out]
      go_wp2_with fail
      go_ret
      exact ⟨rfl, HB.out⟩
theorem impl_size_i64 (w : World) (ao : Option Addr) (n cap : Nat) (hn : n ≤ 1048576) : Calls Try.prog 74 #[.slice ao n cap] w fun e w' => e = .returned (.int .i64 n) ∧ w = w' := by
  go_enter Try.func74, Try.ntmps74
  go_wp2
  go_ret
  exact ⟨rfl, rfl⟩
set_option maxHeartbeats 2000000 in
theorem impl_mean (w : World) (v : Value) (zs : List Int) (h : Rd w.heap.size w v 1 zs.length (zs.flatMap putI)) (h0 : 0 < zs.length) (hn : zs.length ≤ 64) (hz : ∀ z ∈ zs, 10000 ≤ z ∧ z ≤ 20000000) :
    Calls Try.prog 51 #[v] w fun e w' => e = .returned (.int .i64 (meanI zs)) ∧ Below w.heap.size w w' := by
  have H := Lib.hid (impl_sumOf w v zs h h0 hn hz)
  obtain ⟨vo, vc, rfl⟩ := h.form
  have hbd := sum_bd zs hz zs.length (Nat.le_refl _)
  rw [List.take_length] at hbd
  have e : Hid (meanI zs = divR zs.sum zs.length) := (rfl : meanI zs = divR zs.sum zs.length)
  clear h hz
  generalize zs.sum = S at *
  go_enter Try.func51, Try.ntmps51
  go_wp2_with fail
  refine H.out.mono ?_; rintro e1 w1 ⟨rfl, b1⟩
  go_wp2_with (first | (go_at_call 74; refine (impl_size_i64 _ _ _ _ (by omega)).mono ?_; rintro e1 w1 ⟨rfl, rfl⟩) | (go_at_call 72; refine (impl_nearest _ _ _ (by omega) (by omega) (by omega) (by omega)).mono ?_; rintro e w' ⟨rfl, n, rfl⟩))
  go_ret
  exact ⟨by rw [e.out]; try rfl, below_dn b1 _⟩

def medS (xs : List Measure) (bell : ByteArray) (p : Int) : Int := if askM xs bell p = 0 then medI (sortI (valF xs bell p)) else 0
def meanS (xs : List Measure) (bell : ByteArray) (p : Int) : Int := if askM xs bell p = 0 then meanI (sortI (valF xs bell p)) else 0

set_option maxHeartbeats 2000000 in
theorem spec_MedianOf (w : World) (v : Value) (xs : List Measure) (bell : ByteArray) (p : Int) (h : Rd w.heap.size w v 3 xs.length (xs.flatMap Measure.put)) (hn : xs.length ≤ 1048576) (hok : ∀ x ∈ xs, x.ok) :
    Calls Try.prog 20 #[v, .string bell, .int .i64 p] w fun e w' => e = .returned (.tuple #[.int .i64 (medS xs bell p), .int .i64 (askM xs bell p)]) ∧ Below w.heap.size w w' := by
  have H := Lib.hid (spec_l11Ask w v xs bell p h hn hok)
  by_cases h0 : askM xs bell p = 0
  · have ho := askM_ok h0
    have HX := Lib.hid (fun w' (hb : Below w.heap.size w w') => spec_l11Values w' v xs bell p (h.up hb) (validMeasureS_parts ho.1).1)
    have hv := valF_all ho.1 bell p
    have hl1 := hv.1
    have hl0 := ho.2.2
    have Hv := Lib.hid (fun z (hz : z ∈ sortI (valF xs bell p)) => hv.2 z ((sortI_perm _).mem_iff.1 hz))
    have e : Hid (medS xs bell p = medI (sortI (valF xs bell p))) := (if_pos h0 : medS xs bell p = medI (sortI (valF xs bell p)))
    have H0 := Lib.hid h0
    rw [h0] at H
    clear h hok h0 ho hv
    go_enter Try.func20, Try.ntmps20
    go_wp2_with fail
    refine H.out.mono ?_; rintro e1 w1 ⟨rfl, b1⟩
    go_wp2_with fail
    refine (HX.out w1 b1).mono ?_; rintro e2 w2 ⟨r, rfl, hown, b2⟩
    have hrd := own_rd hown
    have B := Lib.hid (bnext b1 b2)
    rw [← sortI_len (valF xs bell p)] at hrd
    have HRD := Lib.hid hrd
    clear hown b1 b2 HX hrd
    go_wp2_with fail
    refine (spec_median _ _ _ HRD.out (by rw [sortI_len]; exact hl0) (by rw [sortI_len]; omega)).mono ?_; rintro e3 w3 ⟨rfl, b3⟩
    have B3 := Lib.hid (bnext B.out b3)
    clear b3 HRD
    go_wp2_with fail
    go_ret2
    exact ⟨by rw [H0.out, e.out]; try rfl, B3.out⟩
  · have e : Hid (medS xs bell p = 0) := (if_neg h0 : medS xs bell p = 0)
    have t0 : (askM xs bell p != 0) = true := bne_iff_ne.2 h0
    clear h hok h0
    go_enter Try.func20, Try.ntmps20
    go_wp2_with fail
    refine H.out.mono ?_; rintro e1 w1 ⟨rfl, b1⟩
    go_wp2_with fail
    go_ret2
    exact ⟨by rw [e.out]; try rfl, b1⟩

set_option maxHeartbeats 2000000 in
theorem impl_MedianOf (w : World) (v : Value) (xs : List Measure) (bell : ByteArray) (p : Int) (h : Rd w.heap.size w v 3 xs.length (xs.flatMap Measure.put)) (hn : xs.length ≤ 1048576) (hok : ∀ x ∈ xs, x.ok) :
    Calls Try.prog 21 #[v, .string bell, .int .i64 p] w fun e w' => e = .returned (.tuple #[.int .i64 (medS xs bell p), .int .i64 (askM xs bell p)]) ∧ Below w.heap.size w w' := by
  have H := Lib.hid (impl_ValuesOf w v xs bell p h hn hok)
  by_cases h0 : askM xs bell p = 0
  · have ho := askM_ok h0
    have hv := valF_all ho.1 bell p
    have hl1 := hv.1
    have hl0 := ho.2.2
    have Hv := Lib.hid (fun z (hz : z ∈ sortI (valF xs bell p)) => hv.2 z ((sortI_perm _).mem_iff.1 hz))
    have e : Hid (medS xs bell p = medI (sortI (valF xs bell p))) := (if_pos h0 : medS xs bell p = medI (sortI (valF xs bell p)))
    have ev := valsS_yes h0
    have H0 := Lib.hid h0
    rw [ev, h0] at H
    clear h hok h0 ho hv ev
    go_enter Try.func21, Try.ntmps21
    go_wp2_with fail
    refine H.out.mono ?_; rintro e2 w2 ⟨r, rfl, hown, b2⟩
    have hrd := own_rd hown
    have B := Lib.hid b2
    have HRD := Lib.hid hrd
    clear hown b2 hrd
    go_wp2_with fail
    refine (impl_median _ _ _ HRD.out (by rw [sortI_len]; exact hl0) (by rw [sortI_len]; omega)).mono ?_; rintro e3 w3 ⟨rfl, b3⟩
    have B3 := Lib.hid (bnext B.out b3)
    clear b3 HRD
    go_wp2_with fail
    go_ret2
    exact ⟨by rw [H0.out, e.out]; try rfl, B3.out⟩
  · have e : Hid (medS xs bell p = 0) := (if_neg h0 : medS xs bell p = 0)
    have t0 : (askM xs bell p != 0) = true := bne_iff_ne.2 h0
    clear h hok h0
    go_enter Try.func21, Try.ntmps21
    go_wp2_with fail
    refine H.out.mono ?_; rintro e1 w1 ⟨r, rfl, _, b1⟩
    go_wp2_with fail
    go_ret2
    exact ⟨by rw [e.out]; try rfl, b1⟩

set_option maxHeartbeats 2000000 in
theorem spec_MeanOf (w : World) (v : Value) (xs : List Measure) (bell : ByteArray) (p : Int) (h : Rd w.heap.size w v 3 xs.length (xs.flatMap Measure.put)) (hn : xs.length ≤ 1048576) (hok : ∀ x ∈ xs, x.ok) :
    Calls Try.prog 22 #[v, .string bell, .int .i64 p] w fun e w' => e = .returned (.tuple #[.int .i64 (meanS xs bell p), .int .i64 (askM xs bell p)]) ∧ Below w.heap.size w w' := by
  have H := Lib.hid (spec_l11Ask w v xs bell p h hn hok)
  by_cases h0 : askM xs bell p = 0
  · have ho := askM_ok h0
    have HX := Lib.hid (fun w' (hb : Below w.heap.size w w') => spec_l11Values w' v xs bell p (h.up hb) (validMeasureS_parts ho.1).1)
    have hv := valF_all ho.1 bell p
    have hl1 := hv.1
    have hl0 := ho.2.2
    have Hv := Lib.hid (fun z (hz : z ∈ sortI (valF xs bell p)) => hv.2 z ((sortI_perm _).mem_iff.1 hz))
    have e : Hid (meanS xs bell p = meanI (sortI (valF xs bell p))) := (if_pos h0 : meanS xs bell p = meanI (sortI (valF xs bell p)))
    have H0 := Lib.hid h0
    rw [h0] at H
    clear h hok h0 ho hv
    go_enter Try.func22, Try.ntmps22
    go_wp2_with fail
    refine H.out.mono ?_; rintro e1 w1 ⟨rfl, b1⟩
    go_wp2_with fail
    refine (HX.out w1 b1).mono ?_; rintro e2 w2 ⟨r, rfl, hown, b2⟩
    have hrd := own_rd hown
    have B := Lib.hid (bnext b1 b2)
    rw [← sortI_len (valF xs bell p)] at hrd
    have HRD := Lib.hid hrd
    clear hown b1 b2 HX hrd
    go_wp2_with fail
    refine (spec_l11Mean _ _ _ HRD.out (by rw [sortI_len]; exact hl0) (by rw [sortI_len]; omega) Hv.out).mono ?_; rintro e3 w3 ⟨rfl, b3⟩
    have B3 := Lib.hid (bnext B.out b3)
    clear b3 HRD
    go_wp2_with fail
    go_ret2
    exact ⟨by rw [H0.out, e.out]; try rfl, B3.out⟩
  · have e : Hid (meanS xs bell p = 0) := (if_neg h0 : meanS xs bell p = 0)
    have t0 : (askM xs bell p != 0) = true := bne_iff_ne.2 h0
    clear h hok h0
    go_enter Try.func22, Try.ntmps22
    go_wp2_with fail
    refine H.out.mono ?_; rintro e1 w1 ⟨rfl, b1⟩
    go_wp2_with fail
    go_ret2
    exact ⟨by rw [e.out]; try rfl, b1⟩

set_option maxHeartbeats 2000000 in
theorem impl_MeanOf (w : World) (v : Value) (xs : List Measure) (bell : ByteArray) (p : Int) (h : Rd w.heap.size w v 3 xs.length (xs.flatMap Measure.put)) (hn : xs.length ≤ 1048576) (hok : ∀ x ∈ xs, x.ok) :
    Calls Try.prog 23 #[v, .string bell, .int .i64 p] w fun e w' => e = .returned (.tuple #[.int .i64 (meanS xs bell p), .int .i64 (askM xs bell p)]) ∧ Below w.heap.size w w' := by
  have H := Lib.hid (impl_ValuesOf w v xs bell p h hn hok)
  by_cases h0 : askM xs bell p = 0
  · have ho := askM_ok h0
    have hv := valF_all ho.1 bell p
    have hl1 := hv.1
    have hl0 := ho.2.2
    have Hv := Lib.hid (fun z (hz : z ∈ sortI (valF xs bell p)) => hv.2 z ((sortI_perm _).mem_iff.1 hz))
    have e : Hid (meanS xs bell p = meanI (sortI (valF xs bell p))) := (if_pos h0 : meanS xs bell p = meanI (sortI (valF xs bell p)))
    have ev := valsS_yes h0
    have H0 := Lib.hid h0
    rw [ev, h0] at H
    clear h hok h0 ho hv ev
    go_enter Try.func23, Try.ntmps23
    go_wp2_with fail
    refine H.out.mono ?_; rintro e2 w2 ⟨r, rfl, hown, b2⟩
    have hrd := own_rd hown
    have B := Lib.hid b2
    have HRD := Lib.hid hrd
    clear hown b2 hrd
    go_wp2_with fail
    refine (impl_mean _ _ _ HRD.out (by rw [sortI_len]; exact hl0) (by rw [sortI_len]; omega) Hv.out).mono ?_; rintro e3 w3 ⟨rfl, b3⟩
    have B3 := Lib.hid (bnext B.out b3)
    clear b3 HRD
    go_wp2_with fail
    go_ret2
    exact ⟨by rw [H0.out, e.out]; try rfl, B3.out⟩
  · have e : Hid (meanS xs bell p = 0) := (if_neg h0 : meanS xs bell p = 0)
    have t0 : (askM xs bell p != 0) = true := bne_iff_ne.2 h0
    clear h hok h0
    go_enter Try.func23, Try.ntmps23
    go_wp2_with fail
    refine H.out.mono ?_; rintro e1 w1 ⟨r, rfl, _, b1⟩
    go_wp2_with fail
    go_ret2
    exact ⟨by rw [e.out]; try rfl, b1⟩
end Go.Proofs.Ytmkemjfbmnnflaa
