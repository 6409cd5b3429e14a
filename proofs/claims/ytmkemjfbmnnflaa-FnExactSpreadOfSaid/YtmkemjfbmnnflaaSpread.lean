/- SpreadOf: both sides compute the same. -/
import Derived.Test.YtmkemjfbmnnflaaRows
import Derived.Test.YtmkemjfbmnnflaaAsk
import Derived.Test.YtmkemjfbmnnflaaCents
namespace Go.Proofs.Ytmkemjfbmnnflaa
open Go.ChangeShapes Go.WideShapes Go.ChangeAt Go.RowKit Go.Deep Go.Joins
set_option linter.unusedVariables false
set_option maxRecDepth 100000
set_option linter.unusedSimpArgs false
def spI (zs : List Int) : Int := centI (zs[0]?.getD 0) (zs[zs.length - 1]?.getD 0)
def spreadS (xs : List Measure) (bell : ByteArray) (p : Int) : Int := if askM xs bell p = 0 then spI (sortI (valF xs bell p)) else 0
/-- what a list of numbers in memory shows at two places -/
theorem ends_of {w : World} {r : Value} {zs : List Int} (h : Rd w.heap.size w r 1 zs.length (zs.flatMap putI)) (h0 : 0 < zs.length) (hz : ∀ z ∈ zs, 10000 ≤ z ∧ z ≤ 20000000) :
    ∃ b off cap x y, r = .slice (some ⟨b, off, none⟩) zs.length cap ∧ b < w.heap.size ∧ w.cell? ⟨b, off, none⟩ = some (.int .i64 x) ∧ w.cell? ⟨b, off + (zs.length - 1), none⟩ = some (.int .i64 y) ∧ spI zs = centI x y ∧ (10000 ≤ x ∧ x ≤ 20000000) ∧ 10000 ≤ y ∧ y ≤ 20000000 := by
  obtain ⟨hL, vo, vc, rfl, hcap1, hmax1, hnil1, hsome1⟩ := h
  obtain ⟨b, off, rfl, hb, hc⟩ := hsome1 h0
  have hl : zs.length - 1 < zs.length := by omega
  refine ⟨b, off, vc, zs[0], zs[zs.length - 1], rfl, hb, ?_, ?_, ?_, hz _ (List.getElem_mem h0), hz _ (List.getElem_mem hl)⟩
  · have := hc 0 (by omega)
    rw [Nat.add_zero, putI_get zs 0 h0] at this
    exact this
  · rw [hc (zs.length - 1) (by omega), putI_get zs (zs.length - 1) hl]
  · unfold spI
    rw [List.getElem?_eq_getElem h0, List.getElem?_eq_getElem hl]; rfl

set_option maxHeartbeats 2000000 in
theorem spec_SpreadOf (w : World) (v : Value) (xs : List Measure) (bell : ByteArray) (p : Int) (h : Rd w.heap.size w v 3 xs.length (xs.flatMap Measure.put)) (hn : xs.length ≤ 1048576) (hok : ∀ x ∈ xs, x.ok) :
    Calls Try.prog 29 #[v, .string bell, .int .i64 p] w fun e w' => e = .returned (.tuple #[.int .i64 (spreadS xs bell p), .int .i64 (askM xs bell p)]) ∧ Below w.heap.size w w' := by
  have H := Lib.hid (spec_l11Ask w v xs bell p h hn hok)
  by_cases h0 : askM xs bell p = 0
  · have ho := askM_ok h0
    have HX := Lib.hid (fun w' (hb : Below w.heap.size w w') => spec_l11Values w' v xs bell p (h.up hb) (validMeasureS_parts ho.1).1)
    have hv := valF_all ho.1 bell p
    have hl1 := hv.1
    have hl0 := ho.2.2
    rw [h0] at H
    clear h hok
    go_enter Try.func29, Try.ntmps29
    go_wp2_with fail
    refine H.out.mono ?_; rintro e1 w1 ⟨rfl, b1⟩
    go_wp2_with fail
    refine (HX.out w1 b1).mono ?_; rintro e2 w2 ⟨r, rfl, hown, b2⟩
    have hrd := own_rd hown
    have B := Lib.hid (bnext b1 b2)
    clear b1 HX
    rw [← sortI_len (valF xs bell p)] at hrd
    have hzl : 0 < (sortI (valF xs bell p)).length := by rw [sortI_len]; exact hl0
    obtain ⟨b, off, cap, x, y, rfl, hb, c0, c1, es, hx, hy⟩ := ends_of hrd hzl (fun z hz => hv.2 z ((sortI_perm _).mem_iff.1 hz))
    have HC := Lib.hid (fun w' => spec_cents x y w' hx hy)
    have HE : Hid (spreadS xs bell p = centI x y) := Lib.hid (by rw [← es]; exact if_pos h0)
    have H0 := Lib.hid h0
    have hn64 : (sortI (valF xs bell p)).length ≤ 64 := by rw [sortI_len]; exact hv.1
    generalize (sortI (valF xs bell p)).length = n at *
    generalize centI x y = C at *
    clear hown hrd es hx hy h0 ho hv b2 hl0 hl1
    go_wp2_with fail
    refine wp_region_above (by kernel_rfl) (by kernel_rfl) ?_
    repeat (go_big_quiet_step (((go_at_call 55; exact aboveC (HC.out _)))))
    refine wpQuiet_nil ?_
    intro w3 b3
    have B3 := Lib.hid (bnext B.out b3); clear b3
    go_wp2_with fail
    go_ret2
    exact ⟨by rw [H0.out, HE.out]; try rfl, B3.out⟩
  · have e : Hid (spreadS xs bell p = 0) := (if_neg h0 : spreadS xs bell p = 0)
    have t0 : (askM xs bell p != 0) = true := bne_iff_ne.2 h0
    clear h hok h0
    go_enter Try.func29, Try.ntmps29
    go_wp2_with fail
    refine H.out.mono ?_; rintro e1 w1 ⟨rfl, b1⟩
    go_wp2_with fail
    go_ret2
    exact ⟨by rw [e.out]; try rfl, b1⟩

set_option maxHeartbeats 2000000 in
theorem impl_SpreadOf (w : World) (v : Value) (xs : List Measure) (bell : ByteArray) (p : Int) (h : Rd w.heap.size w v 3 xs.length (xs.flatMap Measure.put)) (hn : xs.length ≤ 1048576) (hok : ∀ x ∈ xs, x.ok) :
    Calls Try.prog 30 #[v, .string bell, .int .i64 p] w fun e w' => e = .returned (.tuple #[.int .i64 (spreadS xs bell p), .int .i64 (askM xs bell p)]) ∧ Below w.heap.size w w' := by
  have H := Lib.hid (impl_ValuesOf w v xs bell p h hn hok)
  by_cases h0 : askM xs bell p = 0
  · have ho := askM_ok h0
    have hv := valF_all ho.1 bell p
    have hl1 := hv.1
    have hl0 := ho.2.2
    rw [valsS_yes h0, h0] at H
    clear h hok
    go_enter Try.func30, Try.ntmps30
    go_wp2_with fail
    refine H.out.mono ?_; rintro e2 w2 ⟨r, rfl, hown, b2⟩
    have hrd := own_rd hown
    have B := Lib.hid b2
    have hzl : 0 < (sortI (valF xs bell p)).length := by rw [sortI_len]; exact hl0
    obtain ⟨b, off, cap, x, y, rfl, hb, c0, c1, es, hx, hy⟩ := ends_of hrd hzl (fun z hz => hv.2 z ((sortI_perm _).mem_iff.1 hz))
    have HC := Lib.hid (fun w' => impl_cents x y w' hx hy)
    have HE : Hid (spreadS xs bell p = centI x y) := Lib.hid (by rw [← es]; exact if_pos h0)
    have H0 := Lib.hid h0
    have hn64 : (sortI (valF xs bell p)).length ≤ 64 := by rw [sortI_len]; exact hv.1
    generalize (sortI (valF xs bell p)).length = n at *
    generalize centI x y = C at *
    clear hown hrd es hx hy h0 ho hv b2 hl0 hl1
    go_wp2_with fail
    refine wp_region_above (by kernel_rfl) (by kernel_rfl) ?_
    repeat (go_big_quiet_step (((go_at_call 56; exact aboveC (HC.out _)))))
    refine wpQuiet_nil ?_
    intro w3 b3
    have B3 := Lib.hid (bnext B.out b3); clear b3
    go_wp2_with fail
    go_ret2
    exact ⟨by rw [H0.out, HE.out]; try rfl, B3.out⟩
  · have e : Hid (spreadS xs bell p = 0) := (if_neg h0 : spreadS xs bell p = 0)
    have t0 : (askM xs bell p != 0) = true := bne_iff_ne.2 h0
    clear h hok h0
    go_enter Try.func30, Try.ntmps30
    go_wp2_with fail
    refine H.out.mono ?_; rintro e1 w1 ⟨_, rfl, _, b1⟩
    go_wp2_with fail
    go_ret2
    exact ⟨by rw [e.out]; try rfl, b1⟩
end Go.Proofs.Ytmkemjfbmnnflaa
