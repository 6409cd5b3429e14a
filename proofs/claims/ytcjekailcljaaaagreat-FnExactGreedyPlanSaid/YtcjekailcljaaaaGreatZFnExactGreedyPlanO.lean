/- Contracts and plain facts, joined: SndZ, OneRing. -/
import Derived.Test.YtcjekailcljaaaaGreatRows
import Derived.Test.YtcjekailcljaaaaGreatZFnExactGreedyPlanB
import Derived.Test.YtcjekailcljaaaaGreatZFnExactGreedyPlanC
import Derived.Test.YtcjekailcljaaaaGreatZFnExactGreedyPlanF
import Derived.Test.YtcjekailcljaaaaGreatZFnExactGreedyPlanJ
import Derived.Test.YtcjekailcljaaaaGreatZFnExactGreedyPlanN
namespace Go.Proofs.YtcjekailcljaaaaGreat
open Go.ChangeShapes Go.WideShapes Go.ChangeAt Go.RowKit Go.Deep Go.Joins
set_option linter.unusedVariables false
set_option maxRecDepth 100000
set_option linter.unusedSimpArgs false
def hzZ (f : Int) : Bool := inB f 10000 20000000
def sndP (a b c d e : Int) : Bool := riseG 10000 20000000 [a, b, c, d, e]
theorem sndP_eq (a b c d e : Int) : sndP a b c d e = ([a, b, c, d, e].all hzZ && rise5 a b c d e) := by
  rw [Bool.eq_iff_iff]
  simp only [sndP, riseG, allK, stepB, okG, ltI, rise5, hzZ, inB, List.length_cons, List.length_nil, List.getElem?_cons_zero, List.getElem?_cons_succ, List.all_cons, List.all_nil, Bool.and_eq_true, Bool.and_true, Bool.true_and, decide_eq_true_eq]
  omega
theorem sndP_parts {a b c d e : Int} (h : sndP a b c d e = true) : (∀ z ∈ [a, b, c, d, e], 10000 ≤ z ∧ z ≤ 20000000) ∧ rise5 a b c d e = true := by
  rw [sndP_eq, Bool.and_eq_true] at h
  exact ⟨fun z hz => inB_true (List.all_eq_true.1 h.1 z hz), h.2⟩
theorem spec_l04ListZ (w : World) (g : Nat) (a b c d e : Int) (c0 : w.cell? ⟨g, 0, none⟩ = some (.int .i64 a)) (c1 : w.cell? ⟨g, 1, none⟩ = some (.int .i64 b)) (c2 : w.cell? ⟨g, 2, none⟩ = some (.int .i64 c)) (c3 : w.cell? ⟨g, 3, none⟩ = some (.int .i64 d)) (c4 : w.cell? ⟨g, 4, none⟩ = some (.int .i64 e)) (hl : g < w.heap.size) :
    Calls Tryz.prog 65 #[.pointer (some ⟨g, 0, none⟩)] w fun r w' => r = .returned (.slice (some ⟨w.heap.size, 0, none⟩) 5 5) ∧ Own w' w.heap.size 2 (L5 a b c d e) ∧ Below w.heap.size w w' := by
  go_enter Tryz.func65, Tryz.ntmps65
  go_wp2_with fail
  go_region
  go_wp2_with fail
  go_ret
  exact ⟨rfl, by first | exact Own.drew1 (Own.new w _ (L5 a b c d e)) | exact Own.new w _ (L5 a b c d e) | exact Own.new w.drew _ (L5 a b c d e), by (repeat' (first | (with_reducible exact Below.refl _ _) | (with_reducible assumption) | (with_reducible refine below_dn ?_ _) | (with_reducible refine Below.drew ?_) | (with_reducible refine Below.alloc ?_ ?_ _) | (with_reducible refine Below.setCell ?_ ?_ _) | go_size))⟩
theorem spec_l04OkZ (w : World) (g : Nat) (a b c d e : Int) (c0 : w.cell? ⟨g, 0, none⟩ = some (.int .i64 a)) (c1 : w.cell? ⟨g, 1, none⟩ = some (.int .i64 b)) (c2 : w.cell? ⟨g, 2, none⟩ = some (.int .i64 c)) (c3 : w.cell? ⟨g, 3, none⟩ = some (.int .i64 d)) (c4 : w.cell? ⟨g, 4, none⟩ = some (.int .i64 e)) (hl : g < w.heap.size) :
    Calls Tryz.prog 64 #[.pointer (some ⟨g, 0, none⟩)] w fun r w' => r = .returned (.bool (sndP a b c d e)) ∧ Below w.heap.size w w' := by
  have H := Lib.hid (spec_l04ListZ w g a b c d e c0 c1 c2 c3 c4 hl)
  have HR := Lib.hid (fun (w' : World) (o : Own w' w.heap.size 2 (L5 a b c d e)) => (by
    exact spec_rises w' _ 10000 20000000 [a, b, c, d, e] (rd5 o) (by simp) : Calls Tryz.prog 104 #[.slice (some ⟨w.heap.size, 0, none⟩) 5 5, .int .i64 10000, .int .i64 20000000] w' fun e' w'' => e' = .returned (.bool (sndP a b c d e)) ∧ Below w'.heap.size w' w''))
  clear c0 c1 c2 c3 c4
  generalize sndP a b c d e = R at *
  go_enter Tryz.func64, Tryz.ntmps64
  go_wp2_with fail
  refine H.out.mono ?_; rintro r1 w1 ⟨rfl, o1, b1⟩
  have HB1 := Lib.hid b1
  have HO1 := Lib.hid o1
  clear b1 o1
  go_wp2_with fail
  refine (HR.out _ HO1.out).mono ?_; rintro r2 w2 ⟨rfl, b2⟩
  have HB2 := Lib.hid (bnext HB1.out b2); clear b2
  go_wp2_with fail
  go_ret
  exact ⟨rfl, HB2.out⟩
set_option maxHeartbeats 2000000 in
theorem impl_areFreqZ (w : World) (v : Value) (zs : List Int) (h : Rd w.heap.size w v 1 zs.length (zs.flatMap putI)) (hn : zs.length ≤ 64) (hb : zs.all hzZ = false) :
    Calls Tryz.prog 114 #[v] w fun e w' => e = .returned (.bool false) ∧ Below w.heap.size w w' := by
  obtain ⟨hL, ao, cap, rfl, hcap, hmax, hnil, hsome⟩ := h
  have HB := Lib.hid hb; clear hb
  go_enter Tryz.func114, Tryz.ntmps114
  go_wp2
  go_loopw [7] (fun i wr => ∃ (k : Nat), k ≤ zs.length ∧ i = .int .i64 k ∧ (zs.take k).all hzZ = true ∧ Below w.heap.size w wr) (fun i _ => zs.length - (intOf i).toNat)
  case atStart => exact ⟨0, Nat.zero_le _, rfl, rfl, Below.refl _ _⟩
  case round =>
    obtain ⟨k, hk, rfl, hal, hb⟩ := hrel
    have HA := Lib.hid hal; clear hal
    have HBW := Lib.hid hb
    by_cases hlt : k < zs.length
    · obtain ⟨b, off, rfl, hbB, hc⟩ := hsome (by omega)
      have c0 : wr.cell? ⟨b, off + k, none⟩ = some (.int .i64 zs[k]) := by rw [hb.cell (p := ⟨b, off + k, none⟩) hbB, hc k (by omega), putI_get zs k hlt]
      clear hc hsome hnil hb
      cases hz : hzZ zs[k] with
      | false =>
        have hin := Lib.hid (show inB zs[k] 10000 20000000 = false from hz)
        go_wp2_with (go_at_call 134; refine (impl_IsFrequency_is _ _ hin.out).mono ?_; rintro e w' ⟨rfl, rfl⟩)
        go_ret
        exact ⟨rfl, HBW.out⟩
      | true =>
        have hin := Lib.hid (show inB zs[k] 10000 20000000 = true from hz)
        have e : Hid ((zs.take (k + 1)).all hzZ = true) := Lib.hid (by rw [List.take_succ_eq_append_getElem hlt, List.all_append, HA.out]; simp [hz])
        go_wp2_with (go_at_call 134; refine (impl_IsFrequency_is _ _ hin.out).mono ?_; rintro e w' ⟨rfl, rfl⟩)
        go_roundw
        case rel => exact ⟨k + 1, by omega, by go_num, e.out, HBW.out⟩
        case measure => simp [intOf]; omega
    · exfalso
      have h1 := HA.out
      rw [List.take_of_length_le (by omega), HB.out] at h1
      cases h1
theorem impl_ValidSoundNZ (w : World) (a b c d e : Int) (hb : [a, b, c, d, e].all hzZ = false) :
    Calls Tryz.prog 86 #[.agg #[.int .i64 a, .int .i64 b, .int .i64 c, .int .i64 d, .int .i64 e]] w fun r w' => r = .returned (.bool false) ∧ Below w.heap.size w w' := by
  have H := Lib.hid (fun w' => impl_listOf w' a b c d e)
  have HR := Lib.hid (fun (w' : World) (g : Nat) (o : Own w' g 2 (L5 a b c d e)) => impl_areFreqZ w' _ [a, b, c, d, e] (rd5 o) (by simp) hb)
  have HB0 := Lib.hid (show Below w.heap.size w (w.alloc (.cells (L5 a b c d e).toArray 45)) from by (repeat' (first | (with_reducible exact Below.refl _ _) | (with_reducible assumption) | (with_reducible refine below_dn ?_ _) | (with_reducible refine Below.drew ?_) | (with_reducible refine Below.alloc ?_ ?_ _) | (with_reducible refine Below.setCell ?_ ?_ _) | go_size)))
  clear hb
  go_enter Tryz.func86, Tryz.ntmps86
  go_wp2_with fail
  refine (H.out _).mono ?_; rintro r1 w1 ⟨g1, rfl, o1, b1⟩
  have HB1 := Lib.hid (bnext HB0.out b1)
  have HO1 := Lib.hid o1
  clear b1 o1
  go_wp2_with fail
  refine (HR.out _ _ HO1.out).mono ?_; rintro r2 w2 ⟨rfl, b2⟩
  have HB2 := Lib.hid (bnext HB1.out b2)
  clear b2
  go_wp2_with fail
  go_ret
  exact ⟨rfl, HB2.out⟩
theorem impl_sndP (w : World) (a b c d e : Int) {r0 : Bool} (hr : sndP a b c d e = r0) :
    Calls Tryz.prog 86 #[.agg #[.int .i64 a, .int .i64 b, .int .i64 c, .int .i64 d, .int .i64 e]] w fun r w' => r = .returned (.bool r0) ∧ Below w.heap.size w w' := by
  subst hr
  rw [sndP_eq]
  cases h : [a, b, c, d, e].all hzZ with
  | false => exact impl_ValidSoundNZ w a b c d e h
  | true => exact impl_ValidSound w a b c d e (fun z hz => inB_true (List.all_eq_true.1 h z hz))

def goalB (x : GoalX) : Bool := sndP x.a x.b x.c x.d x.e && (inB x.tol 0 20000 && inB x.most 0 20)
theorem goalB_parts {x : GoalX} (h : goalB x = true) : sndP x.a x.b x.c x.d x.e = true ∧ (0 ≤ x.tol ∧ x.tol ≤ 20000) ∧ (0 ≤ x.most ∧ x.most ≤ 20) := by
  simp only [goalB, Bool.and_eq_true] at h
  exact ⟨h.1, inB_true h.2.1, inB_true h.2.2⟩
/-- block g is a goal -/
def GoalAt (w : World) (g : Nat) (x : GoalX) : Prop := w.cell? ⟨g, 0, none⟩ = some (.int .i64 x.a) ∧ w.cell? ⟨g, 1, none⟩ = some (.int .i64 x.b) ∧ w.cell? ⟨g, 2, none⟩ = some (.int .i64 x.c) ∧ w.cell? ⟨g, 3, none⟩ = some (.int .i64 x.d) ∧ w.cell? ⟨g, 4, none⟩ = some (.int .i64 x.e) ∧ w.cell? ⟨g, 5, none⟩ = some (.int .i64 x.tol) ∧ w.cell? ⟨g, 6, none⟩ = some (.int .i64 x.most) ∧ g < w.heap.size
theorem GoalAt.of {w : World} {g : Nat} {x : GoalX} {E : TypeId} (h : Own w g E x.put) : GoalAt w g x := ⟨h.cell 0, h.cell 1, h.cell 2, h.cell 3, h.cell 4, h.cell 5, h.cell 6, h.lt⟩
theorem GoalAt.below {B : Nat} {w w' : World} {g : Nat} {x : GoalX} (h : GoalAt w g x) (hb : Below B w w') (hg : g < B) : GoalAt w' g x := by
  obtain ⟨h0, h1, h2, h3, h4, h5, h6, h7⟩ := h
  exact ⟨(hb.cell (p := ⟨g, 0, none⟩) hg).trans h0, (hb.cell (p := ⟨g, 1, none⟩) hg).trans h1, (hb.cell (p := ⟨g, 2, none⟩) hg).trans h2, (hb.cell (p := ⟨g, 3, none⟩) hg).trans h3, (hb.cell (p := ⟨g, 4, none⟩) hg).trans h4, (hb.cell (p := ⟨g, 5, none⟩) hg).trans h5, (hb.cell (p := ⟨g, 6, none⟩) hg).trans h6, Nat.lt_of_lt_of_le h7 hb.size⟩
theorem spec_l10GoalZ (w : World) (g : Nat) (x : GoalX) (h : GoalAt w g x) :
    Calls Tryz.prog 56 #[.pointer (some ⟨g, 0, none⟩)] w fun r w' => r = .returned (.bool (goalB x)) ∧ Below w.heap.size w w' := by
  obtain ⟨h0, h1, h2, h3, h4, h5, h6, h7⟩ := h
  have HS := Lib.hid (spec_l04OkZ w g x.a x.b x.c x.d x.e h0 h1 h2 h3 h4 h7)
  have H5 := Lib.hid h5
  have H6 := Lib.hid h6
  clear h0 h1 h2 h3 h4 h5 h6
  cases hs : sndP x.a x.b x.c x.d x.e
  · have e : Hid (goalB x = false) := Lib.hid (by unfold goalB; rw [hs]; rfl)
    rw [hs] at HS
    clear hs
    go_enter Tryz.func56, Tryz.ntmps56
    go_wp2_with fail
    refine HS.out.mono ?_; rintro r1 w1 ⟨rfl, b1⟩
    go_wp2_with fail
    go_ret
    exact ⟨by rw [e.out]; rfl, b1⟩
  rw [hs] at HS
  cases ht : inB x.tol 0 20000
  · have e : Hid (goalB x = false) := Lib.hid (by unfold goalB; rw [hs, ht]; rfl)
    have HI := Lib.hid (fun w' => l00In_is x.tol 0 20000 w' ht)
    clear hs ht
    go_enter Tryz.func56, Tryz.ntmps56
    go_wp2_with fail
    refine HS.out.mono ?_; rintro r1 w1 ⟨rfl, b1⟩
    have h5 := (b1.cell (p := ⟨g, 5, none⟩) h7).trans H5.out
    have h7' : g < w1.heap.size := Nat.lt_of_lt_of_le h7 b1.size
    go_wp2_with fail
    refine (HI.out _).mono ?_; rintro r2 w2 ⟨rfl, rfl⟩
    go_wp2_with fail
    go_ret
    exact ⟨by rw [e.out]; rfl, b1⟩
  have HI := Lib.hid (fun w' => l00In_is x.tol 0 20000 w' ht)
  have HI2 := Lib.hid (fun w' => l00In x.most 0 20 w')
  have e : Hid (goalB x = inB x.most 0 20) := Lib.hid (by unfold goalB; rw [hs, ht]; rfl)
  clear hs ht
  go_enter Tryz.func56, Tryz.ntmps56
  go_wp2_with fail
  refine HS.out.mono ?_; rintro r1 w1 ⟨rfl, b1⟩
  have h5 := (b1.cell (p := ⟨g, 5, none⟩) h7).trans H5.out
  have h6 := (b1.cell (p := ⟨g, 6, none⟩) h7).trans H6.out
  have h7' : g < w1.heap.size := Nat.lt_of_lt_of_le h7 b1.size
  go_wp2_with fail
  refine (HI.out _).mono ?_; rintro r2 w2 ⟨rfl, rfl⟩
  go_wp2_with fail
  refine (HI2.out _).mono ?_; rintro r2 w2 ⟨rfl, rfl⟩
  go_wp2_with fail
  go_ret
  exact ⟨by rw [e.out]; rfl, b1⟩
theorem impl_ValidGoalZ (w : World) (x : GoalX) :
    Calls Tryz.prog 75 #[.agg #[.int .i64 x.a, .int .i64 x.b, .int .i64 x.c, .int .i64 x.d, .int .i64 x.e, .int .i64 x.tol, .int .i64 x.most]] w fun r w' => r = .returned (.bool (goalB x)) ∧ Below w.heap.size w w' := by
  have OG := Own.new w 47 x.put
  have B0 := Lib.hid (show Below w.heap.size w (w.alloc (.cells x.put.toArray 47)) from (Below.refl _ _).alloc (Nat.le_refl _) _)
  have V := Lib.hid OG
  clear OG
  cases hs : sndP x.a x.b x.c x.d x.e
  · have e : Hid (goalB x = false) := Lib.hid (by unfold goalB; rw [hs]; rfl)
    have HS := Lib.hid (fun w' => impl_sndP w' x.a x.b x.c x.d x.e hs)
    clear hs
    go_enter Tryz.func75, Tryz.ntmps75
    go_wp2_with fail
    refine (HS.out _).mono ?_; rintro r1 w1 ⟨rfl, b1⟩
    go_wp2_with fail
    go_ret
    exact ⟨by rw [e.out]; rfl, bnext B0.out b1⟩
  have HS := Lib.hid (fun w' => impl_sndP w' x.a x.b x.c x.d x.e hs)
  cases ht : inB x.tol 0 20000
  · have e : Hid (goalB x = false) := Lib.hid (by unfold goalB; rw [hs, ht]; rfl)
    have HI := Lib.hid (fun w' => within_is x.tol 0 20000 w' ht)
    clear hs ht
    go_enter Tryz.func75, Tryz.ntmps75
    go_wp2_with fail
    refine (HS.out _).mono ?_; rintro r1 w1 ⟨rfl, b1⟩
    have V1 := V.out.below b1 V.out.lt
    have h5 : w1.cell? ⟨w.heap.size, 5, none⟩ = some (.int .i64 x.tol) := V1.cell 5
    have h7' := V1.lt
    have B1 := Lib.hid (bnext B0.out b1)
    clear V1 b1
    go_wp2_with fail
    refine (HI.out _).mono ?_; rintro r2 w2 ⟨rfl, rfl⟩
    go_wp2_with fail
    go_ret
    exact ⟨by rw [e.out]; rfl, B1.out⟩
  have HI := Lib.hid (fun w' => within_is x.tol 0 20000 w' ht)
  have HI2 := Lib.hid (fun w' => within x.most 0 20 w')
  have e : Hid (goalB x = inB x.most 0 20) := Lib.hid (by unfold goalB; rw [hs, ht]; rfl)
  clear hs ht
  go_enter Tryz.func75, Tryz.ntmps75
  go_wp2_with fail
  refine (HS.out _).mono ?_; rintro r1 w1 ⟨rfl, b1⟩
  have V1 := V.out.below b1 V.out.lt
  have h5 : w1.cell? ⟨w.heap.size, 5, none⟩ = some (.int .i64 x.tol) := V1.cell 5
  have h6 : w1.cell? ⟨w.heap.size, 6, none⟩ = some (.int .i64 x.most) := V1.cell 6
  have h7' := V1.lt
  have B1 := Lib.hid (bnext B0.out b1)
  clear V1 b1
  go_wp2_with fail
  refine (HI.out _).mono ?_; rintro r2 w2 ⟨rfl, rfl⟩
  go_wp2_with fail
  refine (HI2.out _).mono ?_; rintro r2 w2 ⟨rfl, rfl⟩
  go_wp2_with fail
  go_ret
  exact ⟨by rw [e.out]; rfl, B1.out⟩
end Go.Proofs.YtcjekailcljaaaaGreat
namespace Go.Proofs.YtcjekailcljaaaaGreat
open Go.ChangeShapes Go.WideShapes Go.ChangeAt Go.RowKit Go.Deep Go.Joins
set_option linter.unusedVariables false
set_option maxRecDepth 100000
set_option linter.unusedSimpArgs false
def ringB (r : Ring) : Bool := inB r.outer 500 150000 && (inB r.inner 0 (r.outer - 100) && inB r.height 10 300000)
def joinB (a b : Ring) : Bool := decide (a.inner < b.outer) && decide (b.inner < a.outer)
theorem ringB_nums {r : Ring} (h : ringB r = true) : (500 ≤ r.outer ∧ r.outer ≤ 150000) ∧ (0 ≤ r.inner ∧ r.inner ≤ r.outer - 100) ∧ (10 ≤ r.height ∧ r.height ≤ 300000) := by
  simp only [ringB, Bool.and_eq_true] at h
  exact ⟨inB_true h.1, inB_true h.2.1, inB_true h.2.2⟩

set_option maxHeartbeats 1000000 in
theorem spec_l05Ring_is {b : Bool} (r : Ring) (a o : Nat) (w : World) (h0 : w.cell? ⟨a, o, none⟩ = some (.int .i64 r.outer)) (h1 : w.cell? ⟨a, o + 1, none⟩ = some (.int .i64 r.inner)) (h2 : w.cell? ⟨a, o + 2, none⟩ = some (.int .i64 r.height)) (ha : a < w.heap.size) (hb : ringB r = b) :
    Calls Tryz.prog 125 #[.pointer (some ⟨a, o, none⟩)] w fun e w' => e = .returned (.bool b) ∧ Below w.heap.size w w' := by
  subst hb
  cases hA : inB r.outer 500 150000
  · have e : Hid (ringB r = false) := (by unfold ringB; rw [hA]; rfl : ringB r = false)
    have HA := Lib.hid hA; clear hA
    go_enter Tryz.func125, Tryz.ntmps125
    go_wp2_with fail
    refine wp_region_above (by kernel_rfl) (by kernel_rfl) ?_
    repeat (go_big_quiet_step ((first | (go_at_call 58; exact aboveE (l00In_is _ _ _ _ HA.out)))))
    refine wpQuiet_nil ?_
    intro w1 b1
    go_wp2_with fail
    go_ret
    exact ⟨by rw [e.out]; rfl, b1⟩
  obtain ⟨a1, a2⟩ := inB_true hA
  cases hB : inB r.inner 0 (r.outer - 100)
  · have e : Hid (ringB r = false) := (by unfold ringB; rw [hB]; simp : ringB r = false)
    have HA := Lib.hid hA; clear hA
    have HB := Lib.hid hB; clear hB
    go_enter Tryz.func125, Tryz.ntmps125
    go_wp2_with fail
    refine wp_region_above (by kernel_rfl) (by kernel_rfl) ?_
    repeat (go_big_quiet_step ((first | (go_at_call 58; exact aboveE (l00In_is _ _ _ _ HA.out)) | (go_at_call 58; exact aboveE (l00In_is _ _ _ _ HB.out)))))
    refine wpQuiet_nil ?_
    intro w1 b1
    go_wp2_with fail
    go_ret
    exact ⟨by rw [e.out]; rfl, b1⟩
  have e : Hid (ringB r = inB r.height 10 300000) := (by unfold ringB; rw [hA, hB]; rfl : ringB r = inB r.height 10 300000)
  have HA := Lib.hid hA; clear hA
  have HB := Lib.hid hB; clear hB
  go_enter Tryz.func125, Tryz.ntmps125
  go_wp2_with fail
  refine wp_region_above (by kernel_rfl) (by kernel_rfl) ?_
  repeat (go_big_quiet_step ((first | (go_at_call 58; exact aboveE (l00In_is _ _ _ _ HA.out)) | (go_at_call 58; exact aboveE (l00In_is _ _ _ _ HB.out)) | (go_at_call 58; exact aboveE (l00In r.height 10 300000 _)))))
  refine wpQuiet_nil ?_
  intro w1 b1
  go_wp2_with fail
  go_ret
  exact ⟨by rw [e.out]; rfl, b1⟩

theorem spec_l05Joined_is {b : Bool} (x y : Ring) (a o a2 o2 : Nat) (w : World) (h0 : w.cell? ⟨a, o, none⟩ = some (.int .i64 x.outer)) (h1 : w.cell? ⟨a, o + 1, none⟩ = some (.int .i64 x.inner)) (k0 : w.cell? ⟨a2, o2, none⟩ = some (.int .i64 y.outer)) (k1 : w.cell? ⟨a2, o2 + 1, none⟩ = some (.int .i64 y.inner)) (ha : a < w.heap.size) (ha2 : a2 < w.heap.size) (hb : joinB x y = b) :
    Calls Tryz.prog 126 #[.pointer (some ⟨a, o, none⟩), .pointer (some ⟨a2, o2, none⟩)] w fun e w' => e = .returned (.bool b) ∧ Below w.heap.size w w' := by
  subst hb
  by_cases hA : x.inner < y.outer
  · have e : Hid (joinB x y = decide (y.inner < x.outer)) := (by unfold joinB; rw [decide_eq_true hA]; rfl : joinB x y = decide (y.inner < x.outer))
    have hd : decide (x.inner < y.outer) = true := decide_eq_true hA
    clear hA
    go_enter Tryz.func126, Tryz.ntmps126
    go_wp2_with fail
    refine wp_region_above (by kernel_rfl) (by kernel_rfl) ?_
    repeat (go_big_quiet_step (fail))
    refine wpQuiet_nil ?_
    intro w1 b1
    go_wp2_with fail
    go_ret
    exact ⟨by rw [e.out]; rfl, b1⟩
  · have e : Hid (joinB x y = false) := (by unfold joinB; rw [decide_eq_false hA]; rfl : joinB x y = false)
    have hd : decide (x.inner < y.outer) = false := decide_eq_false hA
    clear hA
    go_enter Tryz.func126, Tryz.ntmps126
    go_wp2_with fail
    refine wp_region_above (by kernel_rfl) (by kernel_rfl) ?_
    repeat (go_big_quiet_step (fail))
    refine wpQuiet_nil ?_
    intro w1 b1
    go_wp2_with fail
    go_ret
    exact ⟨by rw [e.out]; rfl, b1⟩

theorem impl_ValidRing_is {b : Bool} (r : Ring) (w : World) (hb : ringB r = b) :
    Calls Tryz.prog 121 #[.agg #[.int .i64 r.outer, .int .i64 r.inner, .int .i64 r.height]] w fun e w' => e = .returned (.bool b) ∧ Below w.heap.size w w' := by
  subst hb
  cases hA : inB r.outer 500 150000
  · have e : Hid (ringB r = false) := (by unfold ringB; rw [hA]; rfl : ringB r = false)
    have HA := Lib.hid hA; clear hA
    go_enter Tryz.func121, Tryz.ntmps121
    go_wp2_with (first | (go_at_call 74; (with_reducible refine (within_is _ _ _ _ HA.out).mono ?_); rintro e w' ⟨rfl, rfl⟩))
    go_ret
    exact ⟨by rw [e.out]; rfl, by (repeat' (first | (with_reducible exact Below.refl _ _) | (with_reducible assumption) | (with_reducible refine below_dn ?_ _) | (with_reducible refine Below.drew ?_) | (with_reducible refine Below.alloc ?_ ?_ _) | (with_reducible refine Below.setCell ?_ ?_ _) | go_size))⟩
  obtain ⟨a1, a2⟩ := inB_true hA
  cases hB : inB r.inner 0 (r.outer - 100)
  · have e : Hid (ringB r = false) := (by unfold ringB; rw [hB]; simp : ringB r = false)
    have HA := Lib.hid hA; clear hA
    have HB := Lib.hid hB; clear hB
    go_enter Tryz.func121, Tryz.ntmps121
    go_wp2_with (first | (go_at_call 74; (with_reducible refine (within_is _ _ _ _ HA.out).mono ?_); rintro e w' ⟨rfl, rfl⟩) | (go_at_call 74; (with_reducible refine (within_is _ _ _ _ HB.out).mono ?_); rintro e w' ⟨rfl, rfl⟩))
    go_ret
    exact ⟨by rw [e.out]; rfl, by (repeat' (first | (with_reducible exact Below.refl _ _) | (with_reducible assumption) | (with_reducible refine below_dn ?_ _) | (with_reducible refine Below.drew ?_) | (with_reducible refine Below.alloc ?_ ?_ _) | (with_reducible refine Below.setCell ?_ ?_ _) | go_size))⟩
  have e : Hid (ringB r = inB r.height 10 300000) := (by unfold ringB; rw [hA, hB]; rfl : ringB r = inB r.height 10 300000)
  have HA := Lib.hid hA; clear hA
  have HB := Lib.hid hB; clear hB
  go_enter Tryz.func121, Tryz.ntmps121
  go_wp2_with (first | (go_at_call 74; (with_reducible refine (within_is _ _ _ _ HA.out).mono ?_); rintro e w' ⟨rfl, rfl⟩) | (go_at_call 74; (with_reducible refine (within_is _ _ _ _ HB.out).mono ?_); rintro e w' ⟨rfl, rfl⟩) | (go_at_call 74; (with_reducible refine (within r.height 10 300000 _).mono ?_); rintro e w' ⟨rfl, rfl⟩))
  go_ret
  exact ⟨by rw [e.out]; rfl, by (repeat' (first | (with_reducible exact Below.refl _ _) | (with_reducible assumption) | (with_reducible refine below_dn ?_ _) | (with_reducible refine Below.drew ?_) | (with_reducible refine Below.alloc ?_ ?_ _) | (with_reducible refine Below.setCell ?_ ?_ _) | go_size))⟩
end Go.Proofs.YtcjekailcljaaaaGreat
