/- Measurements far from the middle one of theirs: both sides compute the same. -/
import Derived.Test.YtmkemjfbmnnflaaRows
import Derived.Test.YtmkemjfbmnnflaaAsk
import Derived.Test.YtmkemjfbmnnflaaCents
import Derived.Deep.RegionHeld3
namespace Go.Proofs.Ytmkemjfbmnnflaa
open Go.ChangeShapes Go.WideShapes Go.ChangeAt Go.RowKit Go.Deep Go.Joins
set_option linter.unusedVariables false
set_option maxRecDepth 100000
set_option linter.unusedSimpArgs false
def absI (d : Int) : Int := if 0 ≤ d then d else -d
def midI (xs : List Measure) (m : Measure) : Int := medI (sortI (valF xs m.bell m.part))
def farB (xs : List Measure) (limit : Int) (m : Measure) : Bool := decide (limit < absI (centI (midI xs m) m.value))
def limS (xs : List Measure) (limit : Int) : Int := if validMeasureS xs = true then if inB limit 0 120000 = true then 0 else 2 else 1
theorem limS_bad {xs : List Measure} (h : validMeasureS xs = false) (l : Int) : limS xs l = 1 := by unfold limS; rw [h]; rfl
theorem limS_range {xs : List Measure} (h : validMeasureS xs = true) {l : Int} (hp : inB l 0 120000 = false) : limS xs l = 2 := by unfold limS; rw [h, hp]; rfl
theorem limS_yes {xs : List Measure} (h : validMeasureS xs = true) {l : Int} (hp : inB l 0 120000 = true) : limS xs l = 0 := by unfold limS; rw [h, hp]; rfl
theorem limS_ok {xs : List Measure} {l : Int} (h : limS xs l = 0) : validMeasureS xs = true := by
  unfold limS at h
  split at h
  · assumption
  · omega
theorem valF_mem {xs : List Measure} {m : Measure} (h : m ∈ xs) : m.value ∈ valF xs m.bell m.part := by
  unfold valF
  refine List.mem_map.2 ⟨m, List.mem_filter.2 ⟨h, ?_⟩, rfl⟩
  unfold isV
  have e : strEq m.bell m.bell = true := by unfold strEq; simp
  rw [e, decide_eq_true rfl]; rfl
theorem medI_mem {zs : List Int} (h : 0 < zs.length) : medI zs ∈ zs := by
  unfold medI
  have hl : (zs.length - 1) / 2 < zs.length := by omega
  rw [List.getElem?_eq_getElem hl]
  exact List.getElem_mem hl
theorem far_facts {xs : List Measure} (hV : validMeasureS xs = true) {m : Measure} (h : m ∈ xs) :
    0 < (valF xs m.bell m.part).length ∧ (valF xs m.bell m.part).length ≤ 64 ∧ (10000 ≤ midI xs m ∧ midI xs m ≤ 20000000) ∧ 10000 ≤ m.value ∧ m.value ≤ 20000000 := by
  obtain ⟨h1, h2⟩ := valF_all hV m.bell m.part
  have hm := valF_mem h
  have h0 : 0 < (valF xs m.bell m.part).length := List.length_pos_of_mem hm
  exact ⟨h0, h1, h2 _ ((sortI_perm _).mem_iff.1 (medI_mem (by rw [sortI_len]; exact h0))), h2 _ hm⟩
theorem l00Max_is (d : Int) (w : World) (h : -312000 ≤ d ∧ d ≤ 312000) : Calls Try.prog 81 #[.int .i64 d, .int .i64 (-d)] w fun e w' => e = .returned (.int .i64 (absI d)) ∧ w = w' := by
  unfold absI
  by_cases h0 : 0 ≤ d
  · rw [if_pos h0]
    go_enter Try.func81, Try.ntmps81
    go_wp2
    all_goals go_ret
    all_goals exact ⟨congrArg (fun z => Ending.returned (.int .i64 z)) (by omega), rfl⟩
  · rw [if_neg h0]
    go_enter Try.func81, Try.ntmps81
    go_wp2
    all_goals go_ret
    all_goals exact ⟨congrArg (fun z => Ending.returned (.int .i64 z)) (by omega), rfl⟩
theorem impl_abs_is (d : Int) (w : World) (h : -312000 ≤ d ∧ d ≤ 312000) : Calls Try.prog 82 #[.int .i64 d] w fun e w' => e = .returned (.int .i64 (absI d)) ∧ w = w' := by
  unfold absI
  by_cases h0 : 0 ≤ d
  · rw [if_pos h0]
    go_enter Try.func82, Try.ntmps82
    go_wp2
    all_goals go_ret
    all_goals exact ⟨congrArg (fun z => Ending.returned (.int .i64 z)) (by omega), rfl⟩
  · rw [if_neg h0]
    go_enter Try.func82, Try.ntmps82
    go_wp2
    all_goals go_ret
    all_goals exact ⟨congrArg (fun z => Ending.returned (.int .i64 z)) (by omega), rfl⟩

set_option maxHeartbeats 4000000 in
theorem spec_l11Far (w : World) (v : Value) (xs : List Measure) (k : Nat) (hk : k < xs.length) (l : Int) (h : Rd w.heap.size w v 3 xs.length (xs.flatMap Measure.put)) (hV : validMeasureS xs = true) :
    Calls Try.prog 58 #[v, .int .i64 k, .int .i64 l] w fun e w' => e = .returned (.bool (farB xs l xs[k])) ∧ Below w.heap.size w w' := by
  have HR := Lib.hid h
  obtain ⟨hf0, hf1, hf2, hf3⟩ := far_facts hV (List.getElem_mem hk)
  have h64 := (validMeasureS_parts hV).1
  have hcb := centI_bd _ _ hf2 hf3
  have e : Hid (farB xs l xs[k] = decide (l < absI (centI (midI xs xs[k]) xs[k].value))) := (rfl : farB xs l xs[k] = decide (l < absI (centI (midI xs xs[k]) xs[k].value)))
  obtain ⟨hL, vo, vc, rfl, hcap1, hmax1, hnil1, hsome1⟩ := h
  obtain ⟨b3, off3, rfl, hbB3, hc3⟩ := hsome1 (by omega)
  have c0 : w.cell? ⟨b3, off3 + k * 3, none⟩ = some (.string xs[k].bell) := by rw [show off3 + k * 3 = off3 + (k * 3 + 0) from by omega, hc3 (k * 3 + 0) (by omega), Measure_get0 xs k hk]
  have c1 : w.cell? ⟨b3, off3 + k * 3 + 1, none⟩ = some (.int .i64 xs[k].part) := by rw [show off3 + k * 3 + 1 = off3 + (k * 3 + 1) from by omega, hc3 (k * 3 + 1) (by omega), Measure_get1 xs k hk]
  have c2 : w.cell? ⟨b3, off3 + k * 3 + 2, none⟩ = some (.int .i64 xs[k].value) := by rw [show off3 + k * 3 + 2 = off3 + (k * 3 + 2) from by omega, hc3 (k * 3 + 2) (by omega), Measure_get2 xs k hk]
  clear hc3 hsome1 hnil1
  have HM := Lib.hid (fun (w' : World) (r : Value) (q : Rd w'.heap.size w' r 1 (sortI (valF xs xs[k].bell xs[k].part)).length ((sortI (valF xs xs[k].bell xs[k].part)).flatMap putI)) => spec_median w' r _ q (by rw [sortI_len]; exact hf0) (by rw [sortI_len]; omega))
  have HVv := Lib.hid (fun (w' : World) (hb : Below w.heap.size w w') => spec_l11Values w' _ xs xs[k].bell xs[k].part (HR.out.up hb) h64)
  change Hid (∀ (w' : World) (r : Value), Rd w'.heap.size w' r 1 (sortI (valF xs xs[k].bell xs[k].part)).length ((sortI (valF xs xs[k].bell xs[k].part)).flatMap putI) → Calls Try.prog 48 #[r] w' fun e w'' => e = .returned (.int .i64 (midI xs xs[k])) ∧ Below w'.heap.size w' w'') at HM
  generalize midI xs xs[k] = M at *
  have HC := Lib.hid (fun w' => spec_cents M xs[k].value w' hf2 hf3)
  generalize centI M xs[k].value = C at *
  have hsl := Lib.hid (sortI_len (valF xs xs[k].bell xs[k].part))
  clear hf0 hf1 hf2 hf3 HR
  go_enter Try.func58, Try.ntmps58
  go_wp2_with fail
  go_region_held3 (fun w' => w'.cell? ⟨b3, off3 + k * 3, none⟩ = some (.string xs[k].bell) ∧ w'.cell? ⟨b3, off3 + k * 3 + 1, none⟩ = some (.int .i64 xs[k].part) ∧ w'.cell? ⟨b3, off3 + k * 3 + 2, none⟩ = some (.int .i64 xs[k].value)) (first | assumption | go_keep) (first
    | (go_at_call 41
       refine (HVv.out _ (by (repeat' (first | (with_reducible exact Below.refl _ _) | (with_reducible assumption) | (with_reducible refine below_dn ?_ _) | (with_reducible refine Below.drew ?_) | (with_reducible refine Below.alloc ?_ ?_ _) | (with_reducible refine Below.setCell ?_ ?_ _) | go_size)))).mono ?_; rintro e1 w1 ⟨r, rfl, o1, b1⟩
       have HRD := Lib.hid (own_rd o1); clear o1
       rw [← hsl.out] at HRD
       have B1 : Below w.heap.size w w1 := Below.trans (by (repeat' (first | (with_reducible exact Below.refl _ _) | (with_reducible assumption) | (with_reducible refine below_dn ?_ _) | (with_reducible refine Below.drew ?_) | (with_reducible refine Below.alloc ?_ ?_ _) | (with_reducible refine Below.setCell ?_ ?_ _) | go_size))) (b1.mono (by simp <;> omega))
       have HS1 : w1.cell? ⟨b3, off3 + k * 3, none⟩ = some (.string xs[k].bell) ∧ w1.cell? ⟨b3, off3 + k * 3 + 1, none⟩ = some (.int .i64 xs[k].part) ∧ w1.cell? ⟨b3, off3 + k * 3 + 2, none⟩ = some (.int .i64 xs[k].value) := ⟨(B1.cell (p := ⟨b3, off3 + k * 3, none⟩) hbB3).trans c0, (B1.cell (p := ⟨b3, off3 + k * 3 + 1, none⟩) hbB3).trans c1, (B1.cell (p := ⟨b3, off3 + k * 3 + 2, none⟩) hbB3).trans c2⟩
       clear b1)
    | (go_at_call 48
       refine (HM.out _ _ HRD.out).mono ?_; rintro e1 w2 ⟨rfl, b2⟩
       have B2 := bnext B1 b2
       have HS2 : w2.cell? ⟨b3, off3 + k * 3, none⟩ = some (.string xs[k].bell) ∧ w2.cell? ⟨b3, off3 + k * 3 + 1, none⟩ = some (.int .i64 xs[k].part) ∧ w2.cell? ⟨b3, off3 + k * 3 + 2, none⟩ = some (.int .i64 xs[k].value) := ⟨(B2.cell (p := ⟨b3, off3 + k * 3, none⟩) hbB3).trans c0, (B2.cell (p := ⟨b3, off3 + k * 3 + 1, none⟩) hbB3).trans c1, (B2.cell (p := ⟨b3, off3 + k * 3 + 2, none⟩) hbB3).trans c2⟩
       clear b2)
    | (go_at_call 55
       refine (HC.out _).mono ?_; rintro e1 w3 ⟨rfl, b3'⟩
       have B3 := bnext B2 b3'
       have HS3 : w3.cell? ⟨b3, off3 + k * 3, none⟩ = some (.string xs[k].bell) ∧ w3.cell? ⟨b3, off3 + k * 3 + 1, none⟩ = some (.int .i64 xs[k].part) ∧ w3.cell? ⟨b3, off3 + k * 3 + 2, none⟩ = some (.int .i64 xs[k].value) := ⟨(B3.cell (p := ⟨b3, off3 + k * 3, none⟩) hbB3).trans c0, (B3.cell (p := ⟨b3, off3 + k * 3 + 1, none⟩) hbB3).trans c1, (B3.cell (p := ⟨b3, off3 + k * 3 + 2, none⟩) hbB3).trans c2⟩
       clear b3'))
  go_wp2_with (go_at_call 81; refine (l00Max_is _ _ hcb).mono ?_; rintro e1 w1 ⟨rfl, rfl⟩)
  go_ret
  exact ⟨by rw [e.out]; try rfl, B3⟩

set_option maxHeartbeats 4000000 in
theorem impl_isOutlier (w : World) (v : Value) (xs : List Measure) (m : Measure) (hm : m ∈ xs) (l : Int) (h : Rd w.heap.size w v 3 xs.length (xs.flatMap Measure.put)) (hV : validMeasureS xs = true) :
    Calls Try.prog 60 #[v, .agg #[.string m.bell, .int .i64 m.part, .int .i64 m.value], .int .i64 l] w fun e w' => e = .returned (.bool (farB xs l m)) ∧ Below w.heap.size w w' := by
  have HR := Lib.hid h
  obtain ⟨hf0, hf1, hf2, hf3⟩ := far_facts hV hm
  have h64 := (validMeasureS_parts hV).1
  have hcb := centI_bd _ _ hf2 hf3
  have e : Hid (farB xs l m = decide (l < absI (centI (midI xs m) m.value))) := (rfl : farB xs l m = decide (l < absI (centI (midI xs m) m.value)))
  obtain ⟨vo, vc, rfl⟩ := h.form
  have VB := Lib.hid (Own.new w 57 [.string m.bell, .int .i64 m.part, .int .i64 m.value])
  have c0 := VB.out.cell 0
  have c1 := VB.out.cell 1
  have c2 := VB.out.cell 2
  clear h hm
  have HM := Lib.hid (fun (w' : World) (r : Value) (q : Rd w'.heap.size w' r 1 (sortI (valF xs m.bell m.part)).length ((sortI (valF xs m.bell m.part)).flatMap putI)) => impl_median w' r _ q (by rw [sortI_len]; exact hf0) (by rw [sortI_len]; omega))
  have HVv := Lib.hid (fun (w' : World) (hb : Below w.heap.size w w') => impl_values w' _ xs m.bell m.part (HR.out.up hb) h64)
  change Hid (∀ (w' : World) (r : Value), Rd w'.heap.size w' r 1 (sortI (valF xs m.bell m.part)).length ((sortI (valF xs m.bell m.part)).flatMap putI) → Calls Try.prog 49 #[r] w' fun e w'' => e = .returned (.int .i64 (midI xs m)) ∧ Below w'.heap.size w' w'') at HM
  generalize midI xs m = M at *
  have HC := Lib.hid (fun w' => impl_cents M m.value w' hf2 hf3)
  generalize centI M m.value = C at *
  have hsl := Lib.hid (sortI_len (valF xs m.bell m.part))
  clear hf0 hf1 hf2 hf3 HR
  go_enter Try.func60, Try.ntmps60
  go_wp2_with fail
  go_region_held3 (fun w' => w'.cell? ⟨w.heap.size, 0, none⟩ = some (.string m.bell) ∧ w'.cell? ⟨w.heap.size, 1, none⟩ = some (.int .i64 m.part) ∧ w'.cell? ⟨w.heap.size, 2, none⟩ = some (.int .i64 m.value)) (first | assumption | go_keep | exact ⟨VB.out.cell 0, VB.out.cell 1, VB.out.cell 2⟩) (first
    | (go_at_call 45
       refine (HVv.out _ (by (repeat' (first | (with_reducible exact Below.refl _ _) | (with_reducible assumption) | (with_reducible refine below_dn ?_ _) | (with_reducible refine Below.drew ?_) | (with_reducible refine Below.alloc ?_ ?_ _) | (with_reducible refine Below.setCell ?_ ?_ _) | go_size)))).mono ?_; rintro e1 w1 ⟨r, rfl, o1, b1⟩
       have HRD := Lib.hid (own_rd o1); clear o1
       rw [← hsl.out] at HRD
       have B1 : Below w.heap.size w w1 := Below.trans (by (repeat' (first | (with_reducible exact Below.refl _ _) | (with_reducible assumption) | (with_reducible refine below_dn ?_ _) | (with_reducible refine Below.drew ?_) | (with_reducible refine Below.alloc ?_ ?_ _) | (with_reducible refine Below.setCell ?_ ?_ _) | go_size))) (b1.mono (by simp <;> omega))
       have V1 := Lib.hid ((Own.drew1 VB.out).below b1 (by simp <;> omega))
       have HS1 : w1.cell? ⟨w.heap.size, 0, none⟩ = some (.string m.bell) ∧ w1.cell? ⟨w.heap.size, 1, none⟩ = some (.int .i64 m.part) ∧ w1.cell? ⟨w.heap.size, 2, none⟩ = some (.int .i64 m.value) := ⟨V1.out.cell 0, V1.out.cell 1, V1.out.cell 2⟩
       clear b1)
    | (go_at_call 49
       refine (HM.out _ _ HRD.out).mono ?_; rintro e1 w2 ⟨rfl, b2⟩
       have B2 := bnext B1 b2
       have V2 := Lib.hid (V1.out.below b2 V1.out.lt)
       have HS2 : w2.cell? ⟨w.heap.size, 0, none⟩ = some (.string m.bell) ∧ w2.cell? ⟨w.heap.size, 1, none⟩ = some (.int .i64 m.part) ∧ w2.cell? ⟨w.heap.size, 2, none⟩ = some (.int .i64 m.value) := ⟨V2.out.cell 0, V2.out.cell 1, V2.out.cell 2⟩
       clear b2)
    | (go_at_call 56
       refine (HC.out _).mono ?_; rintro e1 w3 ⟨rfl, b3'⟩
       have B3 := bnext B2 b3'
       have V3 := Lib.hid (V2.out.below b3' V2.out.lt)
       have HS3 : w3.cell? ⟨w.heap.size, 0, none⟩ = some (.string m.bell) ∧ w3.cell? ⟨w.heap.size, 1, none⟩ = some (.int .i64 m.part) ∧ w3.cell? ⟨w.heap.size, 2, none⟩ = some (.int .i64 m.value) := ⟨V3.out.cell 0, V3.out.cell 1, V3.out.cell 2⟩
       clear b3')
    | (go_at_call 82
       refine (impl_abs_is _ _ hcb).mono ?_; rintro e1 w4 ⟨rfl, rfl⟩))
  go_wp2_with fail
  go_ret
  exact ⟨by rw [e.out]; try rfl, B3⟩

theorem spec_limit (w : World) (v : Value) (xs : List Measure) (l : Int) (h : Rd w.heap.size w v 3 xs.length (xs.flatMap Measure.put)) (hn : xs.length ≤ 1048576) (hok : ∀ x ∈ xs, x.ok) :
    Calls Try.prog 57 #[v, .int .i64 l] w fun e w' => e = .returned (.int .i64 (limS xs l)) ∧ Below w.heap.size w w' := by
  cases hV : validMeasureS xs
  · have e := Lib.hid (limS_bad hV l)
    have H := Lib.hid (spec_l11Ok_is w v xs h hn hok hV)
    clear h hok hV
    go_enter Try.func57, Try.ntmps57
    go_wp2_with fail
    refine H.out.mono ?_; rintro e1 w1 ⟨rfl, b1⟩
    go_wp2_with fail
    go_ret
    exact ⟨by rw [e.out]; try rfl, b1⟩
  have H := Lib.hid (spec_l11Ok_is w v xs h hn hok hV)
  cases hp : inB l 0 120000
  · have e := Lib.hid (limS_range hV hp)
    have HP := Lib.hid hp
    clear h hok hV hp
    go_enter Try.func57, Try.ntmps57
    go_wp2_with fail
    refine H.out.mono ?_; rintro e1 w1 ⟨rfl, b1⟩
    go_wp2_with (go_at_call 80; refine (l00In_is _ _ _ _ HP.out).mono ?_; rintro e w' ⟨rfl, rfl⟩)
    go_ret
    exact ⟨by rw [e.out]; try rfl, b1⟩
  · have e := Lib.hid (limS_yes hV hp)
    have HP := Lib.hid hp
    clear h hok hV hp
    go_enter Try.func57, Try.ntmps57
    go_wp2_with fail
    refine H.out.mono ?_; rintro e1 w1 ⟨rfl, b1⟩
    go_wp2_with (go_at_call 80; refine (l00In_is _ _ _ _ HP.out).mono ?_; rintro e w' ⟨rfl, rfl⟩)
    go_ret
    exact ⟨by rw [e.out]; try rfl, b1⟩

theorem impl_limit (w : World) (v : Value) (xs : List Measure) (l : Int) (h : Rd w.heap.size w v 3 xs.length (xs.flatMap Measure.put)) (hn : xs.length ≤ 1048576) (hok : ∀ x ∈ xs, x.ok) :
    Calls Try.prog 59 #[v, .int .i64 l] w fun e w' => e = .returned (.int .i64 (limS xs l)) ∧ Below w.heap.size w w' := by
  cases hV : validMeasureS xs
  · have e := Lib.hid (limS_bad hV l)
    have H := Lib.hid (impl_ValidMeasures_is w v xs h hn hok hV)
    clear h hok hV
    go_enter Try.func59, Try.ntmps59
    go_wp2_with fail
    refine H.out.mono ?_; rintro e1 w1 ⟨rfl, b1⟩
    go_wp2_with fail
    go_ret
    exact ⟨by rw [e.out]; try rfl, b1⟩
  have H := Lib.hid (impl_ValidMeasures_is w v xs h hn hok hV)
  cases hp : inB l 0 120000
  · have e := Lib.hid (limS_range hV hp)
    have HP := Lib.hid hp
    clear h hok hV hp
    go_enter Try.func59, Try.ntmps59
    go_wp2_with fail
    refine H.out.mono ?_; rintro e1 w1 ⟨rfl, b1⟩
    go_wp2_with (go_at_call 69; refine (within_is _ _ _ _ HP.out).mono ?_; rintro e w' ⟨rfl, rfl⟩)
    go_ret
    exact ⟨by rw [e.out]; try rfl, b1⟩
  · have e := Lib.hid (limS_yes hV hp)
    have HP := Lib.hid hp
    clear h hok hV hp
    go_enter Try.func59, Try.ntmps59
    go_wp2_with fail
    refine H.out.mono ?_; rintro e1 w1 ⟨rfl, b1⟩
    go_wp2_with (go_at_call 69; refine (within_is _ _ _ _ HP.out).mono ?_; rintro e w' ⟨rfl, rfl⟩)
    go_ret
    exact ⟨by rw [e.out]; try rfl, b1⟩
end Go.Proofs.Ytmkemjfbmnnflaa
