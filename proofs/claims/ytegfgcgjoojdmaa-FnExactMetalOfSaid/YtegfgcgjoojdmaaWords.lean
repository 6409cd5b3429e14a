/- Lists of texts compared: both sides. -/
import Derived.Test.YtegfgcgjoojdmaaRows
import Derived.Test.YtegfgcgjoojdmaaHString
import Derived.Test.YtegfgcgjoojdmaaAtB
namespace Go.Proofs.Ytegfgcgjoojdmaa
open Go.ChangeShapes Go.WideShapes Go.ChangeAt Go.RowKit Go.Deep Go.Joins
set_option linter.unusedVariables false
set_option maxRecDepth 100000
set_option linter.unusedSimpArgs false
set_option maxHeartbeats 1000000 in
theorem spec_l14Words (w : World) (v1 v2 : Value) (xs ys : List ByteArray) (h1 : Rd w.heap.size w v1 1 xs.length (xs.flatMap putStr)) (h2 : Rd w.heap.size w v2 1 ys.length (ys.flatMap putStr)) (hn : xs.length ≤ 1048576) :
    Calls Try.prog 70 #[v1, v2] w fun e w' => e = .returned (.bool (wordsS xs ys)) ∧ Below w.heap.size w w' := by
  obtain ⟨hL, ao, cap, rfl, hcap, hmax, hnil, hsome⟩ := h1
  obtain ⟨hL2, ao2, cap2, rfl, hcap2, hmax2, hnil2, hsome2⟩ := h2
  have hyx := hmax2
  unfold maxLen at hyx
  by_cases hl : xs.length = ys.length
  case neg =>
    have e : Hid (wordsS xs ys = false) := (by simp [wordsS, hl] : wordsS xs ys = false)
    have hz2 : ((xs.length : Int) != (ys.length : Int)) = true := by simp; omega
    clear hsome hsome2 hnil hnil2 hl
    go_enter Try.func70, Try.ntmps70
    go_wp2
    go_ret
    exact ⟨by rw [e.out]; rfl, by (repeat' (first | (with_reducible exact Below.refl _ _) | (with_reducible assumption) | (with_reducible refine below_dn ?_ _) | (with_reducible refine Below.drew ?_) | (with_reducible refine Below.alloc ?_ ?_ _) | (with_reducible refine Below.setCell ?_ ?_ _) | go_size))⟩
  have es : Hid (wordsS xs ys = allK (atB strEq xs ys) xs.length) := (by simp [wordsS, hl] : wordsS xs ys = allK (atB strEq xs ys) xs.length)
  have Hl := Lib.hid hl
  have hz2 : ((xs.length : Int) != (ys.length : Int)) = false := by simp [hl]
  have hle : xs.length ≤ ys.length := by omega
  have hge : ys.length ≤ xs.length := by omega
  clear hl
  go_enter Try.func70, Try.ntmps70
  go_wp2
  go_loopw [5] (fun i wr => ∃ (k : Nat), k ≤ xs.length ∧ i = .int .i64 k ∧ allK (atB strEq xs ys) k = true ∧ Below w.heap.size w wr) (fun i _ => xs.length - (intOf i).toNat)
  case atStart => exact ⟨0, Nat.zero_le _, rfl, rfl, Below.refl _ _⟩
  case round =>
    obtain ⟨k, hk, rfl, hall, hb⟩ := hrel
    have Hall := Lib.hid hall; clear hall
    by_cases hlt : k < xs.length
    · have hlt2 : k < ys.length := by omega
      obtain ⟨b, off, rfl, hbB, hc⟩ := hsome (by omega)
      obtain ⟨b2, off2, rfl, hbB2, hc2⟩ := hsome2 (by omega)
      have c0 : wr.cell? ⟨b, off + k, none⟩ = some (.string xs[k]) := by
        rw [hb.cell (p := ⟨b, off + k, none⟩) hbB, hc k (by omega), putStr_get xs k hlt]
      have d0 : wr.cell? ⟨b2, off2 + k, none⟩ = some (.string ys[k]) := by
        rw [hb.cell (p := ⟨b2, off2 + k, none⟩) hbB2, hc2 k (by omega), putStr_get ys k hlt2]
      have hbr : b < wr.heap.size := Nat.lt_of_lt_of_le hbB hb.size
      have hbr2 : b2 < wr.heap.size := Nat.lt_of_lt_of_le hbB2 hb.size
      have HS := Lib.hid (allK_succ (atB strEq xs ys) k)
      have HF := Lib.hid (allK_false (atB strEq xs ys) xs.length k hlt)
      have HB := Lib.hid hb
      clear hc hc2 hsome hsome2 hnil hnil2 hb
      cases hE : strEq xs[k] ys[k]
      · have e : Hid (wordsS xs ys = false) := (by rw [es.out]; exact HF.out (by rw [atB_eq hlt hlt2, hE]) : wordsS xs ys = false)
        have t1 := strEq_f hE
        have t2 := strEq_nf hE
        clear hE
        go_wp2_with fail
        refine wp_region_above (by kernel_rfl) (by kernel_rfl) ?_
        repeat (go_big_quiet_step (fail))
        refine wpQuiet_nil ?_
        intro w1 b1
        have HB1 := Lib.hid (HB.out.trans (b1.mono HB.out.size)); clear b1 HB
        go_wp2_with fail
        go_ret
        exact ⟨by rw [e.out]; rfl, HB1.out⟩
      · have e : Hid (allK (atB strEq xs ys) (k + 1) = true) := (by rw [HS.out, Hall.out, atB_eq hlt hlt2, hE]; rfl : allK (atB strEq xs ys) (k + 1) = true)
        have t1 := strEq_t hE
        have t2 := strEq_nt hE
        clear hE
        go_wp2_with fail
        refine wp_region_above (by kernel_rfl) (by kernel_rfl) ?_
        repeat (go_big_quiet_step (fail))
        refine wpQuiet_nil ?_
        intro w1 b1
        have HB1 := Lib.hid (HB.out.trans (b1.mono HB.out.size)); clear b1 HB
        go_wp2_with fail
        go_roundw
        case rel => exact ⟨k + 1, by omega, by go_num, e.out, HB1.out⟩
        case measure => simp [intOf]; omega
    · have e : Hid (wordsS xs ys = true) := (by
        obtain rfl : k = xs.length := by omega
        rw [es.out]; exact Hall.out : wordsS xs ys = true)
      go_wp2
      go_ret
      exact ⟨by rw [e.out]; rfl, hb⟩

set_option maxHeartbeats 1000000 in
theorem slices_Equal_str (w : World) (v1 v2 : Value) (xs ys : List ByteArray) (h1 : Rd w.heap.size w v1 1 xs.length (xs.flatMap putStr)) (h2 : Rd w.heap.size w v2 1 ys.length (ys.flatMap putStr)) (hn : xs.length ≤ 1048576) :
    Calls Try.prog 73 #[v1, v2] w fun e w' => e = .returned (.bool (wordsS xs ys)) ∧ Below w.heap.size w w' := by
  obtain ⟨hL, ao, cap, rfl, hcap, hmax, hnil, hsome⟩ := h1
  obtain ⟨hL2, ao2, cap2, rfl, hcap2, hmax2, hnil2, hsome2⟩ := h2
  have hyx := hmax2
  unfold maxLen at hyx
  by_cases hl : xs.length = ys.length
  case neg =>
    have e : Hid (wordsS xs ys = false) := (by simp [wordsS, hl] : wordsS xs ys = false)
    have hz2 : ((xs.length : Int) != (ys.length : Int)) = true := by simp; omega
    clear hsome hsome2 hnil hnil2 hl
    go_enter Try.func73, Try.ntmps73
    go_wp2
    go_ret
    exact ⟨by rw [e.out]; rfl, by (repeat' (first | (with_reducible exact Below.refl _ _) | (with_reducible assumption) | (with_reducible refine below_dn ?_ _) | (with_reducible refine Below.drew ?_) | (with_reducible refine Below.alloc ?_ ?_ _) | (with_reducible refine Below.setCell ?_ ?_ _) | go_size))⟩
  have es : Hid (wordsS xs ys = allK (atB strEq xs ys) xs.length) := (by simp [wordsS, hl] : wordsS xs ys = allK (atB strEq xs ys) xs.length)
  have Hl := Lib.hid hl
  have hz2 : ((xs.length : Int) != (ys.length : Int)) = false := by simp [hl]
  have hle : xs.length ≤ ys.length := by omega
  have hge : ys.length ≤ xs.length := by omega
  clear hl
  go_enter Try.func73, Try.ntmps73
  go_wp2
  go_loopw [13] (fun i wr => ∃ (k : Nat), k ≤ xs.length ∧ i = .int .i64 k ∧ allK (atB strEq xs ys) k = true ∧ Below w.heap.size w wr) (fun i _ => xs.length - (intOf i).toNat)
  case atStart => exact ⟨0, Nat.zero_le _, rfl, rfl, Below.refl _ _⟩
  case round =>
    obtain ⟨k, hk, rfl, hall, hb⟩ := hrel
    have Hall := Lib.hid hall; clear hall
    by_cases hlt : k < xs.length
    · have hlt2 : k < ys.length := by omega
      obtain ⟨b, off, rfl, hbB, hc⟩ := hsome (by omega)
      obtain ⟨b2, off2, rfl, hbB2, hc2⟩ := hsome2 (by omega)
      have c0 : wr.cell? ⟨b, off + k, none⟩ = some (.string xs[k]) := by
        rw [hb.cell (p := ⟨b, off + k, none⟩) hbB, hc k (by omega), putStr_get xs k hlt]
      have d0 : wr.cell? ⟨b2, off2 + k, none⟩ = some (.string ys[k]) := by
        rw [hb.cell (p := ⟨b2, off2 + k, none⟩) hbB2, hc2 k (by omega), putStr_get ys k hlt2]
      have hbr : b < wr.heap.size := Nat.lt_of_lt_of_le hbB hb.size
      have hbr2 : b2 < wr.heap.size := Nat.lt_of_lt_of_le hbB2 hb.size
      have HS := Lib.hid (allK_succ (atB strEq xs ys) k)
      have HF := Lib.hid (allK_false (atB strEq xs ys) xs.length k hlt)
      have HB := Lib.hid hb
      clear hc hc2 hsome hsome2 hnil hnil2 hb
      cases hE : strEq xs[k] ys[k]
      · have e : Hid (wordsS xs ys = false) := (by rw [es.out]; exact HF.out (by rw [atB_eq hlt hlt2, hE]) : wordsS xs ys = false)
        have t1 := strEq_f hE
        have t2 := strEq_nf hE
        clear hE
        go_wp2_with fail
        refine wp_region_above (by kernel_rfl) (by kernel_rfl) ?_
        repeat (go_big_quiet_step (fail))
        refine wpQuiet_nil ?_
        intro w1 b1
        have HB1 := Lib.hid (HB.out.trans (b1.mono HB.out.size)); clear b1 HB
        go_wp2_with fail
        go_ret
        exact ⟨by rw [e.out]; rfl, HB1.out⟩
      · have e : Hid (allK (atB strEq xs ys) (k + 1) = true) := (by rw [HS.out, Hall.out, atB_eq hlt hlt2, hE]; rfl : allK (atB strEq xs ys) (k + 1) = true)
        have t1 := strEq_t hE
        have t2 := strEq_nt hE
        clear hE
        go_wp2_with fail
        refine wp_region_above (by kernel_rfl) (by kernel_rfl) ?_
        repeat (go_big_quiet_step (fail))
        refine wpQuiet_nil ?_
        intro w1 b1
        have HB1 := Lib.hid (HB.out.trans (b1.mono HB.out.size)); clear b1 HB
        go_wp2_with fail
        go_roundw
        case rel => exact ⟨k + 1, by omega, by go_num, e.out, HB1.out⟩
        case measure => simp [intOf]; omega
    · have e : Hid (wordsS xs ys = true) := (by
        obtain rfl : k = xs.length := by omega
        rw [es.out]; exact Hall.out : wordsS xs ys = true)
      go_wp2
      go_ret
      exact ⟨by rw [e.out]; rfl, hb⟩

theorem spec_l14Words_is {b : Bool} (w : World) (v1 v2 : Value) (xs ys : List ByteArray) (h1 : Rd w.heap.size w v1 1 xs.length (xs.flatMap putStr)) (h2 : Rd w.heap.size w v2 1 ys.length (ys.flatMap putStr)) (hn : xs.length ≤ 1048576) (hb : wordsS xs ys = b) :
    Calls Try.prog 70 #[v1, v2] w fun e w' => e = .returned (.bool b) ∧ Below w.heap.size w w' := by
  subst hb; exact spec_l14Words w v1 v2 xs ys h1 h2 hn
theorem slices_Equal_str_is {b : Bool} (w : World) (v1 v2 : Value) (xs ys : List ByteArray) (h1 : Rd w.heap.size w v1 1 xs.length (xs.flatMap putStr)) (h2 : Rd w.heap.size w v2 1 ys.length (ys.flatMap putStr)) (hn : xs.length ≤ 1048576) (hb : wordsS xs ys = b) :
    Calls Try.prog 73 #[v1, v2] w fun e w' => e = .returned (.bool b) ∧ Below w.heap.size w w' := by
  subst hb; exact slices_Equal_str w v1 v2 xs ys h1 h2 hn
end Go.Proofs.Ytegfgcgjoojdmaa
