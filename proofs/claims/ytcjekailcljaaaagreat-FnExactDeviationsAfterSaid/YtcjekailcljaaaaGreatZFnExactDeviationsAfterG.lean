/- Contracts and plain facts, joined: Rise. -/
import Derived.Test.YtcjekailcljaaaaGreatRows
import Derived.Test.YtcjekailcljaaaaGreatZFnExactDeviationsAfterB
import Derived.Test.YtcjekailcljaaaaGreatZFnExactDeviationsAfterF
namespace Go.Proofs.YtcjekailcljaaaaGreat
open Go.ChangeShapes Go.WideShapes Go.ChangeAt Go.RowKit Go.Deep Go.Joins
set_option linter.unusedVariables false
set_option maxRecDepth 100000
set_option linter.unusedSimpArgs false
def okG (lo hi : Int) (z : Int) : Bool := inB z lo hi
def ltI (a b : Int) : Bool := decide (a < b)
def riseG (lo hi : Int) (zs : List Int) : Bool := allK (stepB (okG lo hi) ltI zs) zs.length
theorem stepB_parts {α : Type} {ok : α → Bool} {lt : α → α → Bool} {xs : List α} {k : Nat} (hk : k < xs.length) (h : stepB ok lt xs k = true) : ok xs[k] = true ∧ (0 < k → lt xs[k - 1] xs[k] = true) := by
  cases hO : ok xs[k]
  · rw [stepB_no hk hO] at h; cases h
  · refine ⟨rfl, fun hp => ?_⟩
    rw [stepB_pos hk hp hO] at h; exact h
theorem riseG_at {lo hi : Int} {zs : List Int} (h : riseG lo hi zs = true) (k : Nat) (hk : k < zs.length) : lo ≤ zs[k] ∧ zs[k] ≤ hi := by
  have := (stepB_parts hk (allK_true h k hk)).1
  exact inB_true this
theorem riseG_lt {lo hi : Int} {zs : List Int} (h : riseG lo hi zs = true) (k : Nat) (hk : k < zs.length) (hp : 0 < k) : zs[k - 1] < zs[k] := by
  have := (stepB_parts hk (allK_true h k hk)).2 hp
  exact of_decide_eq_true this
set_option maxHeartbeats 1000000 in
theorem spec_rises (w : World) (v : Value) (lo hi : Int) (cs : List Int) (h : Rd w.heap.size w v 1 cs.length (cs.flatMap putI)) (hcn : cs.length ≤ 1048576) :
    Calls Tryz.prog 104 #[v, .int .i64 lo, .int .i64 hi] w fun e w' => e = .returned (.bool (riseG lo hi cs)) ∧ Below w.heap.size w w' := by
  obtain ⟨hL, ao, cap, rfl, hcap, hmax, hnil, hsome⟩ := h
  go_enter Tryz.func104, Tryz.ntmps104
  go_wp2
  go_loopw [7] (fun i wr => ∃ (k : Nat), k ≤ cs.length ∧ i = .int .i64 k ∧ allK (stepB (okG lo hi) ltI cs) k = true ∧ Below w.heap.size w wr) (fun i _ => cs.length - (intOf i).toNat)
  case atStart => exact ⟨0, Nat.zero_le _, rfl, rfl, Below.refl _ _⟩
  case round =>
    obtain ⟨k, hk, rfl, hall, hb⟩ := hrel
    have Hall := Lib.hid hall; clear hall
    by_cases hlt : k < cs.length
    · obtain ⟨b, off, rfl, hbB, hc⟩ := hsome (by omega)
      have c0 : wr.cell? ⟨b, off + k, none⟩ = some (.int .i64 cs[k]) := by
        rw [hb.cell (p := ⟨b, off + k, none⟩) hbB, hc k (by omega), putI_get cs k hlt]
      have hbr : b < wr.heap.size := Nat.lt_of_lt_of_le hbB hb.size
      have HS := Lib.hid (allK_succ (stepB (okG lo hi) ltI cs) k)
      have HF := Lib.hid (allK_false (stepB (okG lo hi) ltI cs) cs.length k hlt)
      have HB := Lib.hid hb
      have HC := Lib.hid hc
      clear hc hsome hnil hb
      cases hO : inB cs[k] lo hi
      · have e : Hid (riseG lo hi cs = false) := (HF.out (stepB_no hlt hO) : riseG lo hi cs = false)
        have HO := Lib.hid hO; clear hO
        go_wp2_with fail
        refine wp_region_above (by kernel_rfl) (by kernel_rfl) ?_
        repeat (go_big_quiet_step ((first | (go_at_call 58; exact aboveE (l00In_is _ _ _ _ HO.out)))))
        refine wpQuiet_nil ?_
        intro w1 b1
        have HB1 := Lib.hid (HB.out.trans (b1.mono HB.out.size)); clear b1 HB
        go_wp2_with fail
        go_ret
        exact ⟨by rw [e.out]; rfl, HB1.out⟩
      by_cases hk0 : k = 0
      · have e : Hid (allK (stepB (okG lo hi) ltI cs) (k + 1) = true) := (by rw [HS.out, Hall.out, stepB_k0 hlt hk0 hO]; rfl : allK (stepB (okG lo hi) ltI cs) (k + 1) = true)
        have hz : decide (0 < k) = false := decide_eq_false (by omega)
        clear hk0
        have HO := Lib.hid hO; clear hO
        go_wp2_with fail
        refine wp_region_above (by kernel_rfl) (by kernel_rfl) ?_
        repeat (go_big_quiet_step ((first | (go_at_call 58; exact aboveE (l00In_is _ _ _ _ HO.out)))))
        refine wpQuiet_nil ?_
        intro w1 b1
        have HB1 := Lib.hid (HB.out.trans (b1.mono HB.out.size)); clear b1 HB
        go_wp2_with fail
        go_roundw
        case rel => exact ⟨k + 1, by omega, by go_num, e.out, HB1.out⟩
        case measure => simp [intOf]; omega
      have hpos : 0 < k := by omega
      have hz : decide (0 < k) = true := decide_eq_true (by omega)
      have p0 : wr.cell? ⟨b, off + (k - 1), none⟩ = some (.int .i64 cs[k - 1]) := by
        rw [HB.out.cell (p := ⟨b, off + (k - 1), none⟩) hbB, HC.out (k - 1) (by omega), putI_get cs (k - 1) (by omega)]
      clear hk0
      by_cases hT : cs[k - 1] < cs[k]
      · have e : Hid (allK (stepB (okG lo hi) ltI cs) (k + 1) = true) := (by rw [HS.out, Hall.out, stepB_yes hlt hpos hO (by simpa [ltI] using hT)]; rfl : allK (stepB (okG lo hi) ltI cs) (k + 1) = true)
        have t1 : ¬ cs[k] ≤ cs[k - 1] := by omega
        clear hT
        have HO := Lib.hid hO; clear hO
        go_wp2_with fail
        refine wp_region_above (by kernel_rfl) (by kernel_rfl) ?_
        repeat (go_big_quiet_step ((first | (go_at_call 58; exact aboveE (l00In_is _ _ _ _ HO.out)))))
        refine wpQuiet_nil ?_
        intro w1 b1
        have HB1 := Lib.hid (HB.out.trans (b1.mono HB.out.size)); clear b1 HB
        go_wp2_with fail
        go_roundw
        case rel => exact ⟨k + 1, by omega, by go_num, e.out, HB1.out⟩
        case measure => simp [intOf]; omega
      · have e : Hid (riseG lo hi cs = false) := (HF.out (stepB_lt hlt hpos hO (by simpa [ltI] using hT)) : riseG lo hi cs = false)
        have t1 : cs[k] ≤ cs[k - 1] := by omega
        clear hT
        have HO := Lib.hid hO; clear hO
        go_wp2_with fail
        refine wp_region_above (by kernel_rfl) (by kernel_rfl) ?_
        repeat (go_big_quiet_step ((first | (go_at_call 58; exact aboveE (l00In_is _ _ _ _ HO.out)))))
        refine wpQuiet_nil ?_
        intro w1 b1
        have HB1 := Lib.hid (HB.out.trans (b1.mono HB.out.size)); clear b1 HB
        go_wp2_with fail
        go_ret
        exact ⟨by rw [e.out]; rfl, HB1.out⟩
    · obtain rfl : k = cs.length := by omega
      have e : Hid (riseG lo hi cs = true) := Hall.out
      have HB := Lib.hid hb
      clear hsome hnil hb
      go_wp2
      go_ret
      exact ⟨by rw [e.out]; rfl, HB.out⟩
theorem spec_rises_is {r : Bool} (w : World) (v : Value) (lo hi : Int) (cs : List Int) (h : Rd w.heap.size w v 1 cs.length (cs.flatMap putI)) (hcn : cs.length ≤ 1048576) (hr : riseG lo hi cs = r) :
    Calls Tryz.prog 104 #[v, .int .i64 lo, .int .i64 hi] w fun e w' => e = .returned (.bool r) ∧ Below w.heap.size w w' := by
  rw [← hr]; exact spec_rises w v lo hi cs h hcn
end Go.Proofs.YtcjekailcljaaaaGreat
