/- Contracts and plain facts, joined: SoundV. -/
import Derived.Test.YtcjekailcljaaaaGreatRows
import Derived.Test.YtcjekailcljaaaaGreatZFnExactDeviationsAfterQ
namespace Go.Proofs.YtcjekailcljaaaaGreat
open Go.ChangeShapes Go.WideShapes Go.ChangeAt Go.RowKit Go.Deep Go.Joins
set_option linter.unusedVariables false
set_option maxRecDepth 100000
set_option linter.unusedSimpArgs false
theorem spec_l04Ok (w : World) (g : Nat) (a b c d e : Int) (hv : Own w g 45 (L5 a b c d e)) (hz : ∀ z ∈ [a, b, c, d, e], 10000 ≤ z ∧ z ≤ 20000000) :
    Calls Tryz.prog 64 #[.pointer (some ⟨g, 0, none⟩)] w fun r w' => r = .returned (.bool (rise5 a b c d e)) ∧ Below w.heap.size w w' := by
  have H := Lib.hid (spec_l04List w g a b c d e hv)
  have HR := Lib.hid (fun (w' : World) (o : Own w' w.heap.size 2 (L5 a b c d e)) => by
    have q := spec_l00Rises w' _ [a, b, c, d, e] (rd5 o) (by simp) hz
    rw [show [a, b, c, d, e].length = 5 from rfl, rise5_eq] at q
    exact q)
  clear hv hz
  generalize rise5 a b c d e = R at *
  go_enter Tryz.func64, Tryz.ntmps64
  go_wp2_with fail
  refine H.out.mono ?_; rintro r1 w1 ⟨rfl, o1, b1⟩
  have HB1 := Lib.hid b1
  have HO1 := Lib.hid o1
  clear b1 o1
  go_wp2_with fail
  refine (HR.out _ HO1.out).mono ?_; rintro r2 w2 ⟨rfl, b2⟩
  have HB2 := Lib.hid (bnext HB1.out b2); clear b2
  go_wp2_with fail
  go_ret
  exact ⟨rfl, HB2.out⟩
set_option maxHeartbeats 800000 in
theorem impl_ValidSound (w : World) (a b c d e : Int) (hz : ∀ z ∈ [a, b, c, d, e], 10000 ≤ z ∧ z ≤ 20000000) :
    Calls Tryz.prog 86 #[.agg #[.int .i64 a, .int .i64 b, .int .i64 c, .int .i64 d, .int .i64 e]] w fun r w' => r = .returned (.bool (rise5 a b c d e)) ∧ Below w.heap.size w w' := by
  have H := Lib.hid (fun w' => impl_listOf w' a b c d e)
  have HR := Lib.hid (fun (w' : World) (g : Nat) (o : Own w' g 2 (L5 a b c d e)) => impl_areFreq w' _ [a, b, c, d, e] (rd5 o) (by simp) hz)
  have V := Lib.hid (Own.new w 45 (L5 a b c d e))
  have HB0 := Lib.hid (show Below w.heap.size w (w.alloc (.cells (L5 a b c d e).toArray 45)) from by (repeat' (first | (with_reducible exact Below.refl _ _) | (with_reducible assumption) | (with_reducible refine below_dn ?_ _) | (with_reducible refine Below.drew ?_) | (with_reducible refine Below.alloc ?_ ?_ _) | (with_reducible refine Below.setCell ?_ ?_ _) | go_size)))
  clear hz
  by_cases h0 : a < b
  case neg =>
    have t0 : decide (a < b) = false := decide_eq_false h0
    have er : Hid (rise5 a b c d e = false) := Lib.hid (by unfold rise5; simp [*])
    clear h0
    go_enter Tryz.func86, Tryz.ntmps86
    go_wp2_with fail
    refine (H.out _).mono ?_; rintro r1 w1 ⟨g1, rfl, o1, b1⟩
    have HB1 := Lib.hid (bnext HB0.out b1)
    have V1 := Lib.hid (V.out.below b1 V.out.lt)
    have HO1 := Lib.hid o1
    clear b1 o1
    go_wp2_with fail
    refine (HR.out _ _ HO1.out).mono ?_; rintro r2 w2 ⟨rfl, b2⟩
    have HB2 := Lib.hid (bnext HB1.out b2)
    have V2 := V1.out.below b2 V1.out.lt
    clear b2
    have v0 := V2.cell 0
    have v1 := V2.cell 1
    have v2 := V2.cell 2
    have v3 := V2.cell 3
    have v4 := V2.cell 4
    have vl := V2.lt
    unfold L5 at v0 v1 v2 v3 v4
    clear V2
    go_wp2_with fail
    go_ret
    exact ⟨by rw [er.out]; try rfl, HB2.out⟩
  have t0 : decide (a < b) = true := decide_eq_true h0
  by_cases h1 : b < c
  case neg =>
    have t1 : decide (b < c) = false := decide_eq_false h1
    have er : Hid (rise5 a b c d e = false) := Lib.hid (by unfold rise5; simp [*])
    clear h0 h1
    go_enter Tryz.func86, Tryz.ntmps86
    go_wp2_with fail
    refine (H.out _).mono ?_; rintro r1 w1 ⟨g1, rfl, o1, b1⟩
    have HB1 := Lib.hid (bnext HB0.out b1)
    have V1 := Lib.hid (V.out.below b1 V.out.lt)
    have HO1 := Lib.hid o1
    clear b1 o1
    go_wp2_with fail
    refine (HR.out _ _ HO1.out).mono ?_; rintro r2 w2 ⟨rfl, b2⟩
    have HB2 := Lib.hid (bnext HB1.out b2)
    have V2 := V1.out.below b2 V1.out.lt
    clear b2
    have v0 := V2.cell 0
    have v1 := V2.cell 1
    have v2 := V2.cell 2
    have v3 := V2.cell 3
    have v4 := V2.cell 4
    have vl := V2.lt
    unfold L5 at v0 v1 v2 v3 v4
    clear V2
    go_wp2_with fail
    go_ret
    exact ⟨by rw [er.out]; try rfl, HB2.out⟩
  have t1 : decide (b < c) = true := decide_eq_true h1
  by_cases h2 : c < d
  case neg =>
    have t2 : decide (c < d) = false := decide_eq_false h2
    have er : Hid (rise5 a b c d e = false) := Lib.hid (by unfold rise5; simp [*])
    clear h0 h1 h2
    go_enter Tryz.func86, Tryz.ntmps86
    go_wp2_with fail
    refine (H.out _).mono ?_; rintro r1 w1 ⟨g1, rfl, o1, b1⟩
    have HB1 := Lib.hid (bnext HB0.out b1)
    have V1 := Lib.hid (V.out.below b1 V.out.lt)
    have HO1 := Lib.hid o1
    clear b1 o1
    go_wp2_with fail
    refine (HR.out _ _ HO1.out).mono ?_; rintro r2 w2 ⟨rfl, b2⟩
    have HB2 := Lib.hid (bnext HB1.out b2)
    have V2 := V1.out.below b2 V1.out.lt
    clear b2
    have v0 := V2.cell 0
    have v1 := V2.cell 1
    have v2 := V2.cell 2
    have v3 := V2.cell 3
    have v4 := V2.cell 4
    have vl := V2.lt
    unfold L5 at v0 v1 v2 v3 v4
    clear V2
    go_wp2_with fail
    go_ret
    exact ⟨by rw [er.out]; try rfl, HB2.out⟩
  have t2 : decide (c < d) = true := decide_eq_true h2
  by_cases h3 : d < e
  case neg =>
    have t3 : decide (d < e) = false := decide_eq_false h3
    have er : Hid (rise5 a b c d e = false) := Lib.hid (by unfold rise5; simp [*])
    clear h0 h1 h2 h3
    go_enter Tryz.func86, Tryz.ntmps86
    go_wp2_with fail
    refine (H.out _).mono ?_; rintro r1 w1 ⟨g1, rfl, o1, b1⟩
    have HB1 := Lib.hid (bnext HB0.out b1)
    have V1 := Lib.hid (V.out.below b1 V.out.lt)
    have HO1 := Lib.hid o1
    clear b1 o1
    go_wp2_with fail
    refine (HR.out _ _ HO1.out).mono ?_; rintro r2 w2 ⟨rfl, b2⟩
    have HB2 := Lib.hid (bnext HB1.out b2)
    have V2 := V1.out.below b2 V1.out.lt
    clear b2
    have v0 := V2.cell 0
    have v1 := V2.cell 1
    have v2 := V2.cell 2
    have v3 := V2.cell 3
    have v4 := V2.cell 4
    have vl := V2.lt
    unfold L5 at v0 v1 v2 v3 v4
    clear V2
    go_wp2_with fail
    go_ret
    exact ⟨by rw [er.out]; try rfl, HB2.out⟩
  have t3 : decide (d < e) = true := decide_eq_true h3
  have er : Hid (rise5 a b c d e = true) := Lib.hid (by unfold rise5; simp [*])
  clear h0 h1 h2 h3
  go_enter Tryz.func86, Tryz.ntmps86
  go_wp2_with fail
  refine (H.out _).mono ?_; rintro r1 w1 ⟨g1, rfl, o1, b1⟩
  have HB1 := Lib.hid (bnext HB0.out b1)
  have V1 := Lib.hid (V.out.below b1 V.out.lt)
  have HO1 := Lib.hid o1
  clear b1 o1
  go_wp2_with fail
  refine (HR.out _ _ HO1.out).mono ?_; rintro r2 w2 ⟨rfl, b2⟩
  have HB2 := Lib.hid (bnext HB1.out b2)
  have V2 := V1.out.below b2 V1.out.lt
  clear b2
  have v0 := V2.cell 0
  have v1 := V2.cell 1
  have v2 := V2.cell 2
  have v3 := V2.cell 3
  have v4 := V2.cell 4
  have vl := V2.lt
  unfold L5 at v0 v1 v2 v3 v4
  clear V2
  go_wp2_with fail
  go_ret
  exact ⟨by rw [er.out]; try rfl, HB2.out⟩

set_option maxHeartbeats 2000000 in
theorem spec_sound (w : World) (v : Value) (a b c d e : Int) (h : Rd w.heap.size w v 1 5 ([a, b, c, d, e].flatMap putI)) :
    Calls Tryz.prog 63 #[v] w fun r w' => r = .returned (.agg #[.int .i64 a, .int .i64 b, .int .i64 c, .int .i64 d, .int .i64 e]) ∧ Below w.heap.size w w' := by
  obtain ⟨hL, ao, cap, rfl, hcap, hmax, hnil, hsome⟩ := h
  obtain ⟨bk, off, rfl, hb, hc⟩ := hsome (by omega)
  have c0 : w.cell? ⟨bk, off, none⟩ = some (.int .i64 a) := hc 0 (by omega)
  have c1 : w.cell? ⟨bk, off + 1, none⟩ = some (.int .i64 b) := hc 1 (by omega)
  have c2 : w.cell? ⟨bk, off + 2, none⟩ = some (.int .i64 c) := hc 2 (by omega)
  have c3 : w.cell? ⟨bk, off + 3, none⟩ = some (.int .i64 d) := hc 3 (by omega)
  have c4 : w.cell? ⟨bk, off + 4, none⟩ = some (.int .i64 e) := hc 4 (by omega)
  have hne : ¬ w.heap.size = bk := by omega
  have hne2 : ¬ bk = w.heap.size := by omega
  clear hc hsome hnil hL
  go_enter Tryz.func63, Tryz.ntmps63
  go_wp2_with fail
  go_region
  go_wp2_with fail
  exact bodyPost_ret (v := .agg #[.int .i64 a, .int .i64 b, .int .i64 c, .int .i64 d, .int .i64 e]) (by simp [results, Tryz.results63, go_sem]) rfl ⟨rfl, by (repeat' (first | (with_reducible exact Below.refl _ _) | (with_reducible assumption) | (with_reducible refine below_dn ?_ _) | (with_reducible refine Below.drew ?_) | (with_reducible refine Below.alloc ?_ ?_ _) | (with_reducible refine Below.setCell ?_ ?_ _) | go_size))⟩

set_option maxHeartbeats 2000000 in
theorem impl_sound (w : World) (v : Value) (a b c d e : Int) (h : Rd w.heap.size w v 1 5 ([a, b, c, d, e].flatMap putI)) :
    Calls Tryz.prog 84 #[v] w fun r w' => r = .returned (.agg #[.int .i64 a, .int .i64 b, .int .i64 c, .int .i64 d, .int .i64 e]) ∧ Below w.heap.size w w' := by
  obtain ⟨hL, ao, cap, rfl, hcap, hmax, hnil, hsome⟩ := h
  obtain ⟨bk, off, rfl, hb, hc⟩ := hsome (by omega)
  have c0 : w.cell? ⟨bk, off, none⟩ = some (.int .i64 a) := hc 0 (by omega)
  have c1 : w.cell? ⟨bk, off + 1, none⟩ = some (.int .i64 b) := hc 1 (by omega)
  have c2 : w.cell? ⟨bk, off + 2, none⟩ = some (.int .i64 c) := hc 2 (by omega)
  have c3 : w.cell? ⟨bk, off + 3, none⟩ = some (.int .i64 d) := hc 3 (by omega)
  have c4 : w.cell? ⟨bk, off + 4, none⟩ = some (.int .i64 e) := hc 4 (by omega)
  have hne : ¬ w.heap.size = bk := by omega
  have hne2 : ¬ bk = w.heap.size := by omega
  clear hc hsome hnil hL
  go_enter Tryz.func84, Tryz.ntmps84
  go_wp2_with fail
  go_region
  go_wp2_with fail
  exact bodyPost_ret (v := .agg #[.int .i64 a, .int .i64 b, .int .i64 c, .int .i64 d, .int .i64 e]) (by simp [results, Tryz.results84, go_sem]) rfl ⟨rfl, by (repeat' (first | (with_reducible exact Below.refl _ _) | (with_reducible assumption) | (with_reducible refine below_dn ?_ _) | (with_reducible refine Below.drew ?_) | (with_reducible refine Below.alloc ?_ ?_ _) | (with_reducible refine Below.setCell ?_ ?_ _) | go_size))⟩
end Go.Proofs.YtcjekailcljaaaaGreat
