/- Contracts and plain facts, joined: SoundK, SoundV. -/
import Derived.Test.YtcjekailcljaaaaGreatRows
import Derived.Test.YtcjekailcljaaaaGreatZFnExactGreedyPlanB
import Derived.Test.YtcjekailcljaaaaGreatZFnExactGreedyPlanF
import Derived.Test.YtcjekailcljaaaaGreatZFnExactGreedyPlanI
import Derived.Test.YtcjekailcljaaaaGreatZFnExactGreedyPlanM
namespace Go.Proofs.YtcjekailcljaaaaGreat
open Go.ChangeShapes Go.WideShapes Go.ChangeAt Go.RowKit Go.Deep Go.Joins
set_option linter.unusedVariables false
set_option maxRecDepth 100000
set_option linter.unusedSimpArgs false
def riseK (zs : List Int) : Nat → Bool
  | 0 => true
  | j + 1 => decide (zs[j]?.getD 0 < zs[j + 1]?.getD 0)
theorem riseK_pos {zs : List Int} {k : Nat} (h0 : 0 < k) (h : k < zs.length) : riseK zs k = decide (zs[k - 1] < zs[k]) := by
  obtain ⟨j, rfl⟩ : ∃ j, k = j + 1 := ⟨k - 1, by omega⟩
  show decide (zs[j]?.getD 0 < zs[j + 1]?.getD 0) = _
  rw [List.getElem?_eq_getElem (show j < zs.length by omega), List.getElem?_eq_getElem h]; rfl
set_option maxHeartbeats 2000000 in
theorem spec_l00Rises (w : World) (v : Value) (zs : List Int) (h : Rd w.heap.size w v 1 zs.length (zs.flatMap putI)) (hn : zs.length ≤ 64) (hz : ∀ z ∈ zs, 10000 ≤ z ∧ z ≤ 20000000) :
    Calls Tryz.prog 104 #[v, .int .i64 10000, .int .i64 20000000] w fun e w' => e = .returned (.bool (allK (riseK zs) zs.length)) ∧ Below w.heap.size w w' := by
  obtain ⟨hL, ao, cap, rfl, hcap, hmax, hnil, hsome⟩ := h
  have Hz := Lib.hid hz; clear hz
  go_enter Tryz.func104, Tryz.ntmps104
  go_wp2
  go_loopw [7] (fun i wr => ∃ (k : Nat), k ≤ zs.length ∧ i = .int .i64 k ∧ allK (riseK zs) k = true ∧ Below w.heap.size w wr) (fun i _ => zs.length - (intOf i).toNat)
  case atStart => exact ⟨0, Nat.zero_le _, rfl, rfl, Below.refl _ _⟩
  case round =>
    obtain ⟨k, hk, rfl, hall, hb⟩ := hrel
    have Hall := Lib.hid hall; clear hall
    have HB := Lib.hid hb
    by_cases hlt : k < zs.length
    · obtain ⟨b, off, rfl, hbB, hc⟩ := hsome (by omega)
      have c0 : wr.cell? ⟨b, off + k, none⟩ = some (.int .i64 zs[k]) := by rw [hb.cell (p := ⟨b, off + k, none⟩) hbB, hc k (by omega), putI_get zs k hlt]
      have hin := Lib.hid (inB_mk (Hz.out zs[k] (List.getElem_mem hlt)))
      have hbr : b < wr.heap.size := Nat.lt_of_lt_of_le hbB hb.size
      have HS := Lib.hid (allK_succ (riseK zs) k)
      have HF := Lib.hid (allK_false (riseK zs) zs.length k hlt)
      by_cases hk0 : 0 < k
      · have hzz : decide (0 < k) = true := decide_eq_true hk0
        have d0 : wr.cell? ⟨b, off + (k - 1), none⟩ = some (.int .i64 zs[k - 1]) := by rw [hb.cell (p := ⟨b, off + (k - 1), none⟩) hbB, hc (k - 1) (by omega), putI_get zs (k - 1) (by omega)]
        have er := riseK_pos hk0 hlt
        clear hc hsome hnil hb
        by_cases hr : zs[k - 1] < zs[k]
        · have t1 : decide (zs[k] ≤ zs[k - 1]) = false := decide_eq_false (by omega)
          have e : Hid (allK (riseK zs) (k + 1) = true) := Lib.hid (by rw [HS.out, Hall.out, er, decide_eq_true hr]; rfl)
          clear er hr
          go_wp2_with fail
          refine wp_region_above (by kernel_rfl) (by kernel_rfl) ?_
          repeat (go_big_quiet_step (((go_at_call 58; exact aboveE (l00In_is _ _ _ _ hin.out)))))
          refine wpQuiet_nil ?_
          intro w1 b1
          have HB1 := Lib.hid (HB.out.trans (b1.mono HB.out.size)); clear b1
          go_wp2_with fail
          go_roundw
          case rel => exact ⟨k + 1, by omega, by go_num, e.out, HB1.out⟩
          case measure => simp [intOf]; omega
        · have t1 : decide (zs[k] ≤ zs[k - 1]) = true := decide_eq_true (by omega)
          have e : Hid (allK (riseK zs) zs.length = false) := Lib.hid (HF.out (by rw [er, decide_eq_false hr]))
          clear er hr
          go_wp2_with fail
          refine wp_region_above (by kernel_rfl) (by kernel_rfl) ?_
          repeat (go_big_quiet_step (((go_at_call 58; exact aboveE (l00In_is _ _ _ _ hin.out)))))
          refine wpQuiet_nil ?_
          intro w1 b1
          have HB1 := Lib.hid (HB.out.trans (b1.mono HB.out.size)); clear b1
          go_wp2_with fail
          go_ret
          exact ⟨by rw [e.out]; try rfl, HB1.out⟩
      · obtain rfl : k = 0 := by omega
        have hzz : decide ((0 : Nat) < 0) = false := by decide
        have e : Hid (allK (riseK zs) (0 + 1) = true) := Lib.hid (by rw [HS.out, Hall.out]; rfl)
        rw [Nat.add_zero] at c0
        clear hc hsome hnil hb
        go_wp2_with fail
        refine wp_region_above (by kernel_rfl) (by kernel_rfl) ?_
        repeat (go_big_quiet_step (((go_at_call 58; exact aboveE (l00In_is _ _ _ _ hin.out)))))
        refine wpQuiet_nil ?_
        intro w1 b1
        have HB1 := Lib.hid (HB.out.trans (b1.mono HB.out.size)); clear b1
        go_wp2_with fail
        go_roundw
        case rel => exact ⟨1, by omega, by go_num, e.out, HB1.out⟩
        case measure => simp [intOf]; omega
    · have e : Hid (allK (riseK zs) zs.length = true) := Lib.hid (by
        obtain rfl : k = zs.length := by omega
        exact Hall.out)
      clear hsome hnil hb
      go_wp2
      go_ret
      exact ⟨by rw [e.out]; try rfl, HB.out⟩
set_option maxHeartbeats 2000000 in
theorem impl_areFreq (w : World) (v : Value) (zs : List Int) (h : Rd w.heap.size w v 1 zs.length (zs.flatMap putI)) (hn : zs.length ≤ 64) (hz : ∀ z ∈ zs, 10000 ≤ z ∧ z ≤ 20000000) :
    Calls Tryz.prog 114 #[v] w fun e w' => e = .returned (.bool true) ∧ Below w.heap.size w w' := by
  obtain ⟨hL, ao, cap, rfl, hcap, hmax, hnil, hsome⟩ := h
  have Hz := Lib.hid hz; clear hz
  go_enter Tryz.func114, Tryz.ntmps114
  go_wp2
  go_loopw [7] (fun i wr => ∃ (k : Nat), k ≤ zs.length ∧ i = .int .i64 k ∧ Below w.heap.size w wr) (fun i _ => zs.length - (intOf i).toNat)
  case atStart => exact ⟨0, Nat.zero_le _, rfl, Below.refl _ _⟩
  case round =>
    obtain ⟨k, hk, rfl, hb⟩ := hrel
    have HB := Lib.hid hb
    by_cases hlt : k < zs.length
    · obtain ⟨b, off, rfl, hbB, hc⟩ := hsome (by omega)
      have c0 : wr.cell? ⟨b, off + k, none⟩ = some (.int .i64 zs[k]) := by rw [hb.cell (p := ⟨b, off + k, none⟩) hbB, hc k (by omega), putI_get zs k hlt]
      have hin := Lib.hid (inB_mk (Hz.out zs[k] (List.getElem_mem hlt)))
      clear hc hsome hnil hb
      go_wp2_with (go_at_call 134; refine (impl_IsFrequency_is _ _ hin.out).mono ?_; rintro e w' ⟨rfl, rfl⟩)
      go_roundw
      case rel => exact ⟨k + 1, by omega, by go_num, HB.out⟩
      case measure => simp [intOf]; omega
    · clear hsome hnil hb
      go_wp2
      go_ret
      exact ⟨rfl, HB.out⟩
def L5 (a b c d e : Int) : List Value := [.int .i64 a, .int .i64 b, .int .i64 c, .int .i64 d, .int .i64 e]
theorem rd5 {w : World} {g : Nat} {E : TypeId} {a b c d e : Int} (o : Own w g E (L5 a b c d e)) : Rd w.heap.size w (.slice (some ⟨g, 0, none⟩) 5 5) 1 [a, b, c, d, e].length ([a, b, c, d, e].flatMap putI) :=
  o.rd o.lt (n := 5) rfl (by unfold maxLen; omega) _ (Nat.le_refl _) (by unfold maxLen; omega)
theorem spec_l04List (w : World) (g : Nat) (a b c d e : Int) (hv : Own w g 45 (L5 a b c d e)) :
    Calls Tryz.prog 65 #[.pointer (some ⟨g, 0, none⟩)] w fun r w' => r = .returned (.slice (some ⟨w.heap.size, 0, none⟩) 5 5) ∧ Own w' w.heap.size 2 (L5 a b c d e) ∧ Below w.heap.size w w' := by
  have c0 := hv.cell 0
  have c1 := hv.cell 1
  have c2 := hv.cell 2
  have c3 := hv.cell 3
  have c4 := hv.cell 4
  have hl := hv.lt
  unfold L5 at c0 c1 c2 c3 c4
  clear hv
  go_enter Tryz.func65, Tryz.ntmps65
  go_wp2_with fail
  go_region
  go_wp2_with fail
  go_ret
  exact ⟨rfl, by first | exact Own.drew1 (Own.new w _ (L5 a b c d e)) | exact Own.new w _ (L5 a b c d e) | exact Own.new w.drew _ (L5 a b c d e), by (repeat' (first | (with_reducible exact Below.refl _ _) | (with_reducible assumption) | (with_reducible refine below_dn ?_ _) | (with_reducible refine Below.drew ?_) | (with_reducible refine Below.alloc ?_ ?_ _) | (with_reducible refine Below.setCell ?_ ?_ _) | go_size))⟩
theorem impl_listOf (w : World) (a b c d e : Int) :
    Calls Tryz.prog 87 #[.agg #[.int .i64 a, .int .i64 b, .int .i64 c, .int .i64 d, .int .i64 e]] w fun r w' => ∃ g, r = .returned (.slice (some ⟨g, 0, none⟩) 5 5) ∧ Own w' g 2 (L5 a b c d e) ∧ Below w.heap.size w w' := by
  go_enter Tryz.func87, Tryz.ntmps87
  go_wp2_with fail
  go_ret
  exact ⟨w.heap.size + 1, by simp, Own.newAt _ (L5 a b c d e) (by simp), by (repeat' (first | (with_reducible exact Below.refl _ _) | (with_reducible assumption) | (with_reducible refine below_dn ?_ _) | (with_reducible refine Below.drew ?_) | (with_reducible refine Below.alloc ?_ ?_ _) | (with_reducible refine Below.setCell ?_ ?_ _) | go_size))⟩
def rise5 (a b c d e : Int) : Bool := decide (a < b) && (decide (b < c) && (decide (c < d) && decide (d < e)))
theorem rise5_eq (a b c d e : Int) : allK (riseK [a, b, c, d, e]) 5 = rise5 a b c d e := by
  simp [allK, riseK, rise5, Bool.and_assoc]
end Go.Proofs.YtcjekailcljaaaaGreat
namespace Go.Proofs.YtcjekailcljaaaaGreat
open Go.ChangeShapes Go.WideShapes Go.ChangeAt Go.RowKit Go.Deep Go.Joins
set_option linter.unusedVariables false
set_option maxRecDepth 100000
set_option linter.unusedSimpArgs false
theorem spec_l04Ok (w : World) (g : Nat) (a b c d e : Int) (hv : Own w g 45 (L5 a b c d e)) (hz : ∀ z ∈ [a, b, c, d, e], 10000 ≤ z ∧ z ≤ 20000000) :
    Calls Tryz.prog 64 #[.pointer (some ⟨g, 0, none⟩)] w fun r w' => r = .returned (.bool (rise5 a b c d e)) ∧ Below w.heap.size w w' := by
  have H := Lib.hid (spec_l04List w g a b c d e hv)
  have HR := Lib.hid (fun (w' : World) (o : Own w' w.heap.size 2 (L5 a b c d e)) => by
    have q := spec_l00Rises w' _ [a, b, c, d, e] (rd5 o) (by simp) hz
    rw [show [a, b, c, d, e].length = 5 from rfl, rise5_eq] at q
    exact q)
  clear hv hz
  generalize rise5 a b c d e = R at *
  go_enter Tryz.func64, Tryz.ntmps64
  go_wp2_with fail
  refine H.out.mono ?_; rintro r1 w1 ⟨rfl, o1, b1⟩
  have HB1 := Lib.hid b1
  have HO1 := Lib.hid o1
  clear b1 o1
  go_wp2_with fail
  refine (HR.out _ HO1.out).mono ?_; rintro r2 w2 ⟨rfl, b2⟩
  have HB2 := Lib.hid (bnext HB1.out b2); clear b2
  go_wp2_with fail
  go_ret
  exact ⟨rfl, HB2.out⟩
set_option maxHeartbeats 800000 in
theorem impl_ValidSound (w : World) (a b c d e : Int) (hz : ∀ z ∈ [a, b, c, d, e], 10000 ≤ z ∧ z ≤ 20000000) :
    Calls Tryz.prog 86 #[.agg #[.int .i64 a, .int .i64 b, .int .i64 c, .int .i64 d, .int .i64 e]] w fun r w' => r = .returned (.bool (rise5 a b c d e)) ∧ Below w.heap.size w w' := by
  have H := Lib.hid (fun w' => impl_listOf w' a b c d e)
  have HR := Lib.hid (fun (w' : World) (g : Nat) (o : Own w' g 2 (L5 a b c d e)) => impl_areFreq w' _ [a, b, c, d, e] (rd5 o) (by simp) hz)
  have V := Lib.hid (Own.new w 45 (L5 a b c d e))
  have HB0 := Lib.hid (show Below w.heap.size w (w.alloc (.cells (L5 a b c d e).toArray 45)) from by (repeat' (first | (with_reducible exact Below.refl _ _) | (with_reducible assumption) | (with_reducible refine below_dn ?_ _) | (with_reducible refine Below.drew ?_) | (with_reducible refine Below.alloc ?_ ?_ _) | (with_reducible refine Below.setCell ?_ ?_ _) | go_size)))
  clear hz
  by_cases h0 : a < b
  case neg =>
    have t0 : decide (a < b) = false := decide_eq_false h0
    have er : Hid (rise5 a b c d e = false) := Lib.hid (by unfold rise5; simp [*])
    clear h0
    go_enter Tryz.func86, Tryz.ntmps86
    go_wp2_with fail
    refine (H.out _).mono ?_; rintro r1 w1 ⟨g1, rfl, o1, b1⟩
    have HB1 := Lib.hid (bnext HB0.out b1)
    have V1 := Lib.hid (V.out.below b1 V.out.lt)
    have HO1 := Lib.hid o1
    clear b1 o1
    go_wp2_with fail
    refine (HR.out _ _ HO1.out).mono ?_; rintro r2 w2 ⟨rfl, b2⟩
    have HB2 := Lib.hid (bnext HB1.out b2)
    have V2 := V1.out.below b2 V1.out.lt
    clear b2
    have v0 := V2.cell 0
    have v1 := V2.cell 1
    have v2 := V2.cell 2
    have v3 := V2.cell 3
    have v4 := V2.cell 4
    have vl := V2.lt
    unfold L5 at v0 v1 v2 v3 v4
    clear V2
    go_wp2_with fail
    go_ret
    exact ⟨by rw [er.out]; try rfl, HB2.out⟩
  have t0 : decide (a < b) = true := decide_eq_true h0
  by_cases h1 : b < c
  case neg =>
    have t1 : decide (b < c) = false := decide_eq_false h1
    have er : Hid (rise5 a b c d e = false) := Lib.hid (by unfold rise5; simp [*])
    clear h0 h1
    go_enter Tryz.func86, Tryz.ntmps86
    go_wp2_with fail
    refine (H.out _).mono ?_; rintro r1 w1 ⟨g1, rfl, o1, b1⟩
    have HB1 := Lib.hid (bnext HB0.out b1)
    have V1 := Lib.hid (V.out.below b1 V.out.lt)
    have HO1 := Lib.hid o1
    clear b1 o1
    go_wp2_with fail
    refine (HR.out _ _ HO1.out).mono ?_; rintro r2 w2 ⟨rfl, b2⟩
    have HB2 := Lib.hid (bnext HB1.out b2)
    have V2 := V1.out.below b2 V1.out.lt
    clear b2
    have v0 := V2.cell 0
    have v1 := V2.cell 1
    have v2 := V2.cell 2
    have v3 := V2.cell 3
    have v4 := V2.cell 4
    have vl := V2.lt
    unfold L5 at v0 v1 v2 v3 v4
    clear V2
    go_wp2_with fail
    go_ret
    exact ⟨by rw [er.out]; try rfl, HB2.out⟩
  have t1 : decide (b < c) = true := decide_eq_true h1
  by_cases h2 : c < d
  case neg =>
    have t2 : decide (c < d) = false := decide_eq_false h2
    have er : Hid (rise5 a b c d e = false) := Lib.hid (by unfold rise5; simp [*])
    clear h0 h1 h2
    go_enter Tryz.func86, Tryz.ntmps86
    go_wp2_with fail
    refine (H.out _).mono ?_; rintro r1 w1 ⟨g1, rfl, o1, b1⟩
    have HB1 := Lib.hid (bnext HB0.out b1)
    have V1 := Lib.hid (V.out.below b1 V.out.lt)
    have HO1 := Lib.hid o1
    clear b1 o1
    go_wp2_with fail
    refine (HR.out _ _ HO1.out).mono ?_; rintro r2 w2 ⟨rfl, b2⟩
    have HB2 := Lib.hid (bnext HB1.out b2)
    have V2 := V1.out.below b2 V1.out.lt
    clear b2
    have v0 := V2.cell 0
    have v1 := V2.cell 1
    have v2 := V2.cell 2
    have v3 := V2.cell 3
    have v4 := V2.cell 4
    have vl := V2.lt
    unfold L5 at v0 v1 v2 v3 v4
    clear V2
    go_wp2_with fail
    go_ret
    exact ⟨by rw [er.out]; try rfl, HB2.out⟩
  have t2 : decide (c < d) = true := decide_eq_true h2
  by_cases h3 : d < e
  case neg =>
    have t3 : decide (d < e) = false := decide_eq_false h3
    have er : Hid (rise5 a b c d e = false) := Lib.hid (by unfold rise5; simp [*])
    clear h0 h1 h2 h3
    go_enter Tryz.func86, Tryz.ntmps86
    go_wp2_with fail
    refine (H.out _).mono ?_; rintro r1 w1 ⟨g1, rfl, o1, b1⟩
    have HB1 := Lib.hid (bnext HB0.out b1)
    have V1 := Lib.hid (V.out.below b1 V.out.lt)
    have HO1 := Lib.hid o1
    clear b1 o1
    go_wp2_with fail
    refine (HR.out _ _ HO1.out).mono ?_; rintro r2 w2 ⟨rfl, b2⟩
    have HB2 := Lib.hid (bnext HB1.out b2)
    have V2 := V1.out.below b2 V1.out.lt
    clear b2
    have v0 := V2.cell 0
    have v1 := V2.cell 1
    have v2 := V2.cell 2
    have v3 := V2.cell 3
    have v4 := V2.cell 4
    have vl := V2.lt
    unfold L5 at v0 v1 v2 v3 v4
    clear V2
    go_wp2_with fail
    go_ret
    exact ⟨by rw [er.out]; try rfl, HB2.out⟩
  have t3 : decide (d < e) = true := decide_eq_true h3
  have er : Hid (rise5 a b c d e = true) := Lib.hid (by unfold rise5; simp [*])
  clear h0 h1 h2 h3
  go_enter Tryz.func86, Tryz.ntmps86
  go_wp2_with fail
  refine (H.out _).mono ?_; rintro r1 w1 ⟨g1, rfl, o1, b1⟩
  have HB1 := Lib.hid (bnext HB0.out b1)
  have V1 := Lib.hid (V.out.below b1 V.out.lt)
  have HO1 := Lib.hid o1
  clear b1 o1
  go_wp2_with fail
  refine (HR.out _ _ HO1.out).mono ?_; rintro r2 w2 ⟨rfl, b2⟩
  have HB2 := Lib.hid (bnext HB1.out b2)
  have V2 := V1.out.below b2 V1.out.lt
  clear b2
  have v0 := V2.cell 0
  have v1 := V2.cell 1
  have v2 := V2.cell 2
  have v3 := V2.cell 3
  have v4 := V2.cell 4
  have vl := V2.lt
  unfold L5 at v0 v1 v2 v3 v4
  clear V2
  go_wp2_with fail
  go_ret
  exact ⟨by rw [er.out]; try rfl, HB2.out⟩

set_option maxHeartbeats 2000000 in
theorem spec_sound (w : World) (v : Value) (a b c d e : Int) (h : Rd w.heap.size w v 1 5 ([a, b, c, d, e].flatMap putI)) :
    Calls Tryz.prog 63 #[v] w fun r w' => r = .returned (.agg #[.int .i64 a, .int .i64 b, .int .i64 c, .int .i64 d, .int .i64 e]) ∧ Below w.heap.size w w' := by
  obtain ⟨hL, ao, cap, rfl, hcap, hmax, hnil, hsome⟩ := h
  obtain ⟨bk, off, rfl, hb, hc⟩ := hsome (by omega)
  have c0 : w.cell? ⟨bk, off, none⟩ = some (.int .i64 a) := hc 0 (by omega)
  have c1 : w.cell? ⟨bk, off + 1, none⟩ = some (.int .i64 b) := hc 1 (by omega)
  have c2 : w.cell? ⟨bk, off + 2, none⟩ = some (.int .i64 c) := hc 2 (by omega)
  have c3 : w.cell? ⟨bk, off + 3, none⟩ = some (.int .i64 d) := hc 3 (by omega)
  have c4 : w.cell? ⟨bk, off + 4, none⟩ = some (.int .i64 e) := hc 4 (by omega)
  have hne : ¬ w.heap.size = bk := by omega
  have hne2 : ¬ bk = w.heap.size := by omega
  clear hc hsome hnil hL
  go_enter Tryz.func63, Tryz.ntmps63
  go_wp2_with fail
  go_region
  go_wp2_with fail
  exact bodyPost_ret (v := .agg #[.int .i64 a, .int .i64 b, .int .i64 c, .int .i64 d, .int .i64 e]) (by simp [results, Tryz.results63, go_sem]) rfl ⟨rfl, by (repeat' (first | (with_reducible exact Below.refl _ _) | (with_reducible assumption) | (with_reducible refine below_dn ?_ _) | (with_reducible refine Below.drew ?_) | (with_reducible refine Below.alloc ?_ ?_ _) | (with_reducible refine Below.setCell ?_ ?_ _) | go_size))⟩

set_option maxHeartbeats 2000000 in
theorem impl_sound (w : World) (v : Value) (a b c d e : Int) (h : Rd w.heap.size w v 1 5 ([a, b, c, d, e].flatMap putI)) :
    Calls Tryz.prog 84 #[v] w fun r w' => r = .returned (.agg #[.int .i64 a, .int .i64 b, .int .i64 c, .int .i64 d, .int .i64 e]) ∧ Below w.heap.size w w' := by
  obtain ⟨hL, ao, cap, rfl, hcap, hmax, hnil, hsome⟩ := h
  obtain ⟨bk, off, rfl, hb, hc⟩ := hsome (by omega)
  have c0 : w.cell? ⟨bk, off, none⟩ = some (.int .i64 a) := hc 0 (by omega)
  have c1 : w.cell? ⟨bk, off + 1, none⟩ = some (.int .i64 b) := hc 1 (by omega)
  have c2 : w.cell? ⟨bk, off + 2, none⟩ = some (.int .i64 c) := hc 2 (by omega)
  have c3 : w.cell? ⟨bk, off + 3, none⟩ = some (.int .i64 d) := hc 3 (by omega)
  have c4 : w.cell? ⟨bk, off + 4, none⟩ = some (.int .i64 e) := hc 4 (by omega)
  have hne : ¬ w.heap.size = bk := by omega
  have hne2 : ¬ bk = w.heap.size := by omega
  clear hc hsome hnil hL
  go_enter Tryz.func84, Tryz.ntmps84
  go_wp2_with fail
  go_region
  go_wp2_with fail
  exact bodyPost_ret (v := .agg #[.int .i64 a, .int .i64 b, .int .i64 c, .int .i64 d, .int .i64 e]) (by simp [results, Tryz.results84, go_sem]) rfl ⟨rfl, by (repeat' (first | (with_reducible exact Below.refl _ _) | (with_reducible assumption) | (with_reducible refine below_dn ?_ _) | (with_reducible refine Below.drew ?_) | (with_reducible refine Below.alloc ?_ ?_ _) | (with_reducible refine Below.setCell ?_ ?_ _) | go_size))⟩
end Go.Proofs.YtcjekailcljaaaaGreat
