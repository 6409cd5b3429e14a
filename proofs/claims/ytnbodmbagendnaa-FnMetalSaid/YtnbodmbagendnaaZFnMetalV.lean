/- Contracts and plain facts, joined: VMeltI. -/
import Derived.Test.YtnbodmbagendnaaRows
import Derived.Test.YtnbodmbagendnaaZFnMetalN
namespace Go.Proofs.Ytnbodmbagendnaa
open Go.ChangeShapes Go.WideShapes Go.ChangeAt Go.RowKit Go.Deep Go.Joins
set_option linter.unusedVariables false
set_option maxRecDepth 100000
set_option linter.unusedSimpArgs false
set_option maxHeartbeats 1000000 in
theorem impl_areNames (w : World) (v : Value) (xs : List ByteArray) (h : Rd w.heap.size w v 1 xs.length (xs.flatMap putStr)) (hn : xs.length ≤ 1048576) (hok : ∀ s ∈ xs, s.size ≤ maxLen) :
    Calls Try.prog 128 #[v] w fun e w' => e = .returned (.bool (allK (stepB nameB ltName xs) xs.length)) ∧ Below w.heap.size w w' := by
  obtain ⟨hL, ao, cap, rfl, hcap, hmax, hnil, hsome⟩ := h
  have Hok := Lib.hid hok; clear hok
  go_enter Try.func128, Try.ntmps128
  go_wp2
  go_loopw [7] (fun i wr => ∃ (k : Nat), k ≤ xs.length ∧ i = .int .i64 k ∧ allK (stepB nameB ltName xs) k = true ∧ Below w.heap.size w wr) (fun i _ => xs.length - (intOf i).toNat)
  case atStart => exact ⟨0, Nat.zero_le _, rfl, rfl, Below.refl _ _⟩
  case round =>
    obtain ⟨k, hk, rfl, hall, hb⟩ := hrel
    have Hall := Lib.hid hall; clear hall
    by_cases hlt : k < xs.length
    · obtain ⟨b, off, rfl, hbB, hc⟩ := hsome (by omega)
      have c0 : wr.cell? ⟨b, off + k, none⟩ = some (.string xs[k]) := by
        rw [hb.cell (p := ⟨b, off + k, none⟩) hbB, hc k (by omega), putStr_get xs k hlt]
      have hbr : b < wr.heap.size := Nat.lt_of_lt_of_le hbB hb.size
      have hok : xs[k].size ≤ maxLen := Hok.out _ (List.getElem_mem hlt)
      have HK := Lib.hid hok; clear hok
      have HS := Lib.hid (allK_succ (stepB nameB ltName xs) k)
      have HF := Lib.hid (allK_false (stepB nameB ltName xs) xs.length k hlt)
      cases hO : nameB xs[k]
      · have e : Hid (allK (stepB nameB ltName xs) xs.length = false) := (HF.out (stepB_no hlt hO) : allK (stepB nameB ltName xs) xs.length = false)
        have HB := Lib.hid hb
        clear hc hsome hnil hb
        go_wp2_with fail
        refine (impl_IsName_is _ _ HK.out hO).mono ?_; rintro e1 w1 ⟨rfl, b1⟩
        have HB1 := Lib.hid (HB.out.trans (b1.mono HB.out.size)); clear b1 HB
        go_wp2_with fail
        go_ret
        exact ⟨by rw [e.out]; rfl, HB1.out⟩
      by_cases hk0 : k = 0
      · have e : Hid (allK (stepB nameB ltName xs) (k + 1) = true) := (by subst hk0; rw [HS.out, stepB_zero hlt hO]; rfl : allK (stepB nameB ltName xs) (k + 1) = true)
        have hz : decide (0 < k) = false := decide_eq_false (by omega)
        have HB := Lib.hid hb
        clear hc hsome hnil hb hk0
        go_wp2_with fail
        refine (impl_IsName_is _ _ HK.out hO).mono ?_; rintro e1 w1 ⟨rfl, b1⟩
        have HB1 := Lib.hid (HB.out.trans (b1.mono HB.out.size)); clear b1 HB
        go_wp2_with fail
        go_roundw
        case rel => exact ⟨k + 1, by omega, by go_num, e.out, HB1.out⟩
        case measure => simp [intOf]; omega
      · have hpos : 0 < k := by omega
        have hz : decide (0 < k) = true := decide_eq_true (by omega)
        have p0 : wr.cell? ⟨b, off + (k - 1), none⟩ = some (.string xs[k - 1]) := by
          rw [hb.cell (p := ⟨b, off + (k - 1), none⟩) hbB, hc (k - 1) (by omega), putStr_get xs (k - 1) (by omega)]
        cases hT : ltName xs[k - 1] xs[k]
        · have e : Hid (allK (stepB nameB ltName xs) xs.length = false) := (HF.out (stepB_lt hlt hpos hO hT) : allK (stepB nameB ltName xs) xs.length = false)
          have t1 : (Op.bytesLess xs[k].toList xs[k - 1].toList || xs[k].toList == xs[k - 1].toList) = true := ltName_impl_f hT
          have HB := Lib.hid hb
          clear hc hsome hnil hb hT
          go_wp2_with fail
          refine (impl_IsName_is _ _ HK.out hO).mono ?_; rintro e1 w1 ⟨rfl, b1⟩
          have p1 : w1.cell? ⟨b, off + (k - 1), none⟩ = some (.string xs[k - 1]) := (b1.cell (p := ⟨b, off + (k - 1), none⟩) hbr).trans p0
          have HB1 := Lib.hid (HB.out.trans (b1.mono HB.out.size)); clear b1 HB p0 c0
          go_wp2_with fail
          go_ret
          exact ⟨by rw [e.out]; rfl, HB1.out⟩
        · have e : Hid (allK (stepB nameB ltName xs) (k + 1) = true) := (by rw [HS.out, Hall.out, stepB_yes hlt hpos hO hT]; rfl : allK (stepB nameB ltName xs) (k + 1) = true)
          have t1 : (Op.bytesLess xs[k].toList xs[k - 1].toList || xs[k].toList == xs[k - 1].toList) = false := ltName_impl_t hT
          have HB := Lib.hid hb
          clear hc hsome hnil hb hT
          go_wp2_with fail
          refine (impl_IsName_is _ _ HK.out hO).mono ?_; rintro e1 w1 ⟨rfl, b1⟩
          have p1 : w1.cell? ⟨b, off + (k - 1), none⟩ = some (.string xs[k - 1]) := (b1.cell (p := ⟨b, off + (k - 1), none⟩) hbr).trans p0
          have HB1 := Lib.hid (HB.out.trans (b1.mono HB.out.size)); clear b1 HB p0 c0
          go_wp2_with fail
          go_roundw
          case rel => exact ⟨k + 1, by omega, by go_num, e.out, HB1.out⟩
          case measure => simp [intOf]; omega
    · have e : Hid (allK (stepB nameB ltName xs) xs.length = true) := (by
        obtain rfl : k = xs.length := by omega
        exact Hall.out : allK (stepB nameB ltName xs) xs.length = true)
      go_wp2
      go_ret
      exact ⟨by rw [e.out]; rfl, hb⟩

theorem impl_areNames_is {b : Bool} (w : World) (v : Value) (xs : List ByteArray) (h : Rd w.heap.size w v 1 xs.length (xs.flatMap putStr)) (hn : xs.length ≤ 1048576) (hok : ∀ s ∈ xs, s.size ≤ maxLen) (hb : allK (stepB nameB ltName xs) xs.length = b) :
    Calls Try.prog 128 #[v] w fun e w' => e = .returned (.bool b) ∧ Below w.heap.size w w' := by
  subst hb; exact impl_areNames w v xs h hn hok

set_option maxHeartbeats 1000000 in
theorem impl_ValidMelt (x : Melt) (w : World) (hx : x.ok w) (hn : x.ingots.length ≤ 1048576) :
    Calls Try.prog 79 #[.agg #[.string x.id, x.list, .int .i64 x.mass]] w fun e w' => e = .returned (.bool (meltB x)) ∧ Below w.heap.size w w' := by
  obtain ⟨hi, ⟨hr, hl, hs⟩, _⟩ := hx
  have Hi := Lib.hid hi; clear hi
  have HR := Lib.hid hr
  obtain ⟨hL, ao, cap, hlist, hcap, hmax, hnil, hsome⟩ := hr
  rw [hlist] at HR
  rw [hlist]
  clear hlist hnil hsome
  have Hok := Lib.hid hs; clear hs
  unfold meltB
  cases hN : nameB x.id
  case false =>
    go_enter Try.func79, Try.ntmps79
    go_wp2_with fail
    refine (impl_IsName_is _ _ Hi.out (by assumption)).mono ?_; rintro e w1 ⟨rfl, b1⟩
    go_wp2_with fail
    go_ret
    exact ⟨rfl, Below.trans (by (repeat' (first | (with_reducible exact Below.refl _ _) | (with_reducible assumption) | (with_reducible refine below_dn ?_ _) | (with_reducible refine Below.drew ?_) | (with_reducible refine Below.alloc ?_ ?_ _) | (with_reducible refine Below.setCell ?_ ?_ _) | go_size))) (b1.mono (by simp))⟩
  by_cases hz1 : 1 ≤ x.ingots.length
  case neg =>
    have t1 : decide ((1 : Int) ≤ x.ingots.length) = false := decide_eq_false (by omega)
    have e0 : Hid (decide (1 ≤ x.ingots.length) = false) := (decide_eq_false hz1 : decide (1 ≤ x.ingots.length) = false)
    go_enter Try.func79, Try.ntmps79
    go_wp2_with fail
    refine (impl_IsName_is _ _ Hi.out (by assumption)).mono ?_; rintro e w1 ⟨rfl, b1⟩
    obtain ⟨hc, hf⟩ := bcell b1
    go_wp2_with fail
    go_ret
    exact ⟨by rw [e0.out]; rfl, Below.trans (by (repeat' (first | (with_reducible exact Below.refl _ _) | (with_reducible assumption) | (with_reducible refine below_dn ?_ _) | (with_reducible refine Below.drew ?_) | (with_reducible refine Below.alloc ?_ ?_ _) | (with_reducible refine Below.setCell ?_ ?_ _) | go_size))) (b1.mono (by simp))⟩
  by_cases hz2 : x.ingots.length ≤ 16
  case neg =>
    have t2 : decide ((x.ingots.length : Int) ≤ 16) = false := decide_eq_false (by omega)
    have e0 : Hid (decide (x.ingots.length ≤ 16) = false) := (decide_eq_false hz2 : decide (x.ingots.length ≤ 16) = false)
    go_enter Try.func79, Try.ntmps79
    go_wp2_with fail
    refine (impl_IsName_is _ _ Hi.out (by assumption)).mono ?_; rintro e w1 ⟨rfl, b1⟩
    obtain ⟨hc, hf⟩ := bcell b1
    go_wp2_with fail
    go_ret
    exact ⟨by rw [e0.out]; simp, Below.trans (by (repeat' (first | (with_reducible exact Below.refl _ _) | (with_reducible assumption) | (with_reducible refine below_dn ?_ _) | (with_reducible refine Below.drew ?_) | (with_reducible refine Below.alloc ?_ ?_ _) | (with_reducible refine Below.setCell ?_ ?_ _) | go_size))) (b1.mono (by simp))⟩
  have e1 : Hid (decide (1 ≤ x.ingots.length) = true) := (decide_eq_true hz1 : decide (1 ≤ x.ingots.length) = true)
  have e2 : Hid (decide (x.ingots.length ≤ 16) = true) := (decide_eq_true hz2 : decide (x.ingots.length ≤ 16) = true)
  cases hA : allK (stepB nameB ltName x.ingots) x.ingots.length
  case false =>
    go_enter Try.func79, Try.ntmps79
    go_wp2_with fail
    refine (impl_IsName_is _ _ Hi.out (by assumption)).mono ?_; rintro e w1 ⟨rfl, b1⟩
    have HB := Lib.hid b1
    obtain ⟨hc, hf⟩ := bcell b1
    go_wp2_with fail
    clear hc hf b1
    refine (impl_areNames_is _ _ x.ingots (by exact HR.out.up (Below.trans (by (repeat' (first | (with_reducible exact Below.refl _ _) | (with_reducible assumption) | (with_reducible refine below_dn ?_ _) | (with_reducible refine Below.drew ?_) | (with_reducible refine Below.alloc ?_ ?_ _) | (with_reducible refine Below.setCell ?_ ?_ _) | go_size))) (HB.out.mono (by simp)))) hn Hok.out hA).mono ?_; rintro e w2 ⟨rfl, b2⟩
    have B2 := bnext HB.out b2; clear b2 HB
    go_wp2_with fail
    go_ret
    exact ⟨by rw [e1.out, e2.out]; rfl, Below.trans (by (repeat' (first | (with_reducible exact Below.refl _ _) | (with_reducible assumption) | (with_reducible refine below_dn ?_ _) | (with_reducible refine Below.drew ?_) | (with_reducible refine Below.alloc ?_ ?_ _) | (with_reducible refine Below.setCell ?_ ?_ _) | go_size))) (B2.mono (by simp))⟩
  cases hM : inB x.mass 1 320000000
  all_goals
    go_enter Try.func79, Try.ntmps79
    go_wp2_with fail
    refine (impl_IsName_is _ _ Hi.out (by assumption)).mono ?_; rintro e w1 ⟨rfl, b1⟩
    have HB := Lib.hid b1
    obtain ⟨hc, hf⟩ := bcell b1
    go_wp2_with fail
    clear hc hf b1
    refine (impl_areNames_is _ _ x.ingots (by exact HR.out.up (Below.trans (by (repeat' (first | (with_reducible exact Below.refl _ _) | (with_reducible assumption) | (with_reducible refine below_dn ?_ _) | (with_reducible refine Below.drew ?_) | (with_reducible refine Below.alloc ?_ ?_ _) | (with_reducible refine Below.setCell ?_ ?_ _) | go_size))) (HB.out.mono (by simp)))) hn Hok.out hA).mono ?_; rintro e w2 ⟨rfl, b2⟩
    have B2 := bnext HB.out b2; clear b2 HB
    have HB2 := Lib.hid B2
    obtain ⟨hc, hf⟩ := bcell B2
    clear B2
    go_wp2_with (go_at_call 56; refine (within_is _ _ _ _ (by assumption)).mono ?_; rintro e w' ⟨rfl, rfl⟩)
    go_ret
    exact ⟨by rw [e1.out, e2.out]; rfl, Below.trans (by (repeat' (first | (with_reducible exact Below.refl _ _) | (with_reducible assumption) | (with_reducible refine below_dn ?_ _) | (with_reducible refine Below.drew ?_) | (with_reducible refine Below.alloc ?_ ?_ _) | (with_reducible refine Below.setCell ?_ ?_ _) | go_size))) (HB2.out.mono (by simp))⟩

theorem impl_ValidMelt_is {b : Bool} (x : Melt) (w : World) (hx : x.ok w) (hn : x.ingots.length ≤ 1048576) (hb : meltB x = b) :
    Calls Try.prog 79 #[.agg #[.string x.id, x.list, .int .i64 x.mass]] w fun e w' => e = .returned (.bool b) ∧ Below w.heap.size w w' := by
  subst hb; exact impl_ValidMelt x w hx hn
end Go.Proofs.Ytnbodmbagendnaa
