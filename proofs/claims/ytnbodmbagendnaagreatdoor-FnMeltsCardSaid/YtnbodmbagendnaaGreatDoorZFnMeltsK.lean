/- Contracts and plain facts, joined: AtB, Words, HMelt, VMelt, CmpStr, Search. -/
import Derived.Test.YtnbodmbagendnaaGreatDoorRows
import Derived.Test.YtnbodmbagendnaaGreatDoorZFnMeltsA
import Derived.Test.YtnbodmbagendnaaGreatDoorZFnMeltsC
import Derived.Test.YtnbodmbagendnaaGreatDoorZFnMeltsD
import Derived.Test.YtnbodmbagendnaaGreatDoorZFnMeltsE
import Derived.Test.YtnbodmbagendnaaGreatDoorZFnMeltsF
import Derived.WalkLawsBesides
namespace Go.Proofs.YtnbodmbagendnaaGreatDoor
open Go.ChangeShapes Go.WideShapes Go.ChangeAt Go.RowKit Go.Deep Go.Joins
set_option linter.unusedVariables false
set_option maxRecDepth 100000
set_option linter.unusedSimpArgs false
/-- element k of both -/
def atB {α : Type} (f : α → α → Bool) (xs ys : List α) (k : Nat) : Bool :=
  match xs[k]?, ys[k]? with
  | some x, some y => f x y
  | _, _ => true
theorem atB_eq {α : Type} {f : α → α → Bool} {xs ys : List α} {k : Nat} (h : k < xs.length) (h2 : k < ys.length) : atB f xs ys k = f xs[k] ys[k] := by
  unfold atB
  rw [List.getElem?_eq_getElem h, List.getElem?_eq_getElem h2]
def strEq (x y : ByteArray) : Bool := x.toList == y.toList
theorem strEq_t {x y : ByteArray} (h : strEq x y = true) : (x.toList == y.toList) = true := h
theorem strEq_f {x y : ByteArray} (h : strEq x y = false) : (x.toList == y.toList) = false := h
theorem strEq_nt {x y : ByteArray} (h : strEq x y = true) : (!(x.toList == y.toList)) = false := by unfold strEq at h; rw [h]; rfl
theorem strEq_nf {x y : ByteArray} (h : strEq x y = false) : (!(x.toList == y.toList)) = true := by unfold strEq at h; rw [h]; rfl
/-- the same as lists of texts -/
def wordsS (xs ys : List ByteArray) : Bool := decide (xs.length = ys.length) && allK (atB strEq xs ys) xs.length
end Go.Proofs.YtnbodmbagendnaaGreatDoor
namespace Go.Proofs.YtnbodmbagendnaaGreatDoor
open Go.ChangeShapes Go.WideShapes Go.ChangeAt Go.RowKit Go.Deep Go.Joins
set_option linter.unusedVariables false
set_option maxRecDepth 100000
set_option linter.unusedSimpArgs false
set_option maxHeartbeats 1000000 in
theorem slices_Equal_str (w : World) (v1 v2 : Value) (xs ys : List ByteArray) (h1 : Rd w.heap.size w v1 1 xs.length (xs.flatMap putStr)) (h2 : Rd w.heap.size w v2 1 ys.length (ys.flatMap putStr)) (hn : xs.length ≤ 1048576) :
    Calls Tryz.prog 39 #[v1, v2] w fun e w' => e = .returned (.bool (wordsS xs ys)) ∧ Below w.heap.size w w' := by
  obtain ⟨hL, ao, cap, rfl, hcap, hmax, hnil, hsome⟩ := h1
  obtain ⟨hL2, ao2, cap2, rfl, hcap2, hmax2, hnil2, hsome2⟩ := h2
  have hyx := hmax2
  unfold maxLen at hyx
  by_cases hl : xs.length = ys.length
  case neg =>
    have e : Hid (wordsS xs ys = false) := (by simp [wordsS, hl] : wordsS xs ys = false)
    have hz2 : ((xs.length : Int) != (ys.length : Int)) = true := by simp; omega
    clear hsome hsome2 hnil hnil2 hl
    go_enter Tryz.func39, Tryz.ntmps39
    go_wp2
    go_ret
    exact ⟨by rw [e.out]; rfl, by (repeat' (first | (with_reducible exact Below.refl _ _) | (with_reducible assumption) | (with_reducible refine below_dn ?_ _) | (with_reducible refine Below.drew ?_) | (with_reducible refine Below.alloc ?_ ?_ _) | (with_reducible refine Below.setCell ?_ ?_ _) | go_size))⟩
  have es : Hid (wordsS xs ys = allK (atB strEq xs ys) xs.length) := (by simp [wordsS, hl] : wordsS xs ys = allK (atB strEq xs ys) xs.length)
  have Hl := Lib.hid hl
  have hz2 : ((xs.length : Int) != (ys.length : Int)) = false := by simp [hl]
  have hle : xs.length ≤ ys.length := by omega
  have hge : ys.length ≤ xs.length := by omega
  clear hl
  go_enter Tryz.func39, Tryz.ntmps39
  go_wp2
  go_loopw [13] (fun i wr => ∃ (k : Nat), k ≤ xs.length ∧ i = .int .i64 k ∧ allK (atB strEq xs ys) k = true ∧ Below w.heap.size w wr) (fun i _ => xs.length - (intOf i).toNat)
  case atStart => exact ⟨0, Nat.zero_le _, rfl, rfl, Below.refl _ _⟩
  case round =>
    obtain ⟨k, hk, rfl, hall, hb⟩ := hrel
    have Hall := Lib.hid hall; clear hall
    by_cases hlt : k < xs.length
    · have hlt2 : k < ys.length := by omega
      obtain ⟨b, off, rfl, hbB, hc⟩ := hsome (by omega)
      obtain ⟨b2, off2, rfl, hbB2, hc2⟩ := hsome2 (by omega)
      have c0 : wr.cell? ⟨b, off + k, none⟩ = some (.string xs[k]) := by
        rw [hb.cell (p := ⟨b, off + k, none⟩) hbB, hc k (by omega), putStr_get xs k hlt]
      have d0 : wr.cell? ⟨b2, off2 + k, none⟩ = some (.string ys[k]) := by
        rw [hb.cell (p := ⟨b2, off2 + k, none⟩) hbB2, hc2 k (by omega), putStr_get ys k hlt2]
      have hbr : b < wr.heap.size := Nat.lt_of_lt_of_le hbB hb.size
      have hbr2 : b2 < wr.heap.size := Nat.lt_of_lt_of_le hbB2 hb.size
      have HS := Lib.hid (allK_succ (atB strEq xs ys) k)
      have HF := Lib.hid (allK_false (atB strEq xs ys) xs.length k hlt)
      have HB := Lib.hid hb
      clear hc hc2 hsome hsome2 hnil hnil2 hb
      cases hE : strEq xs[k] ys[k]
      · have e : Hid (wordsS xs ys = false) := (by rw [es.out]; exact HF.out (by rw [atB_eq hlt hlt2, hE]) : wordsS xs ys = false)
        have t1 := strEq_f hE
        have t2 := strEq_nf hE
        clear hE
        go_wp2_with fail
        refine wp_region_above (by kernel_rfl) (by kernel_rfl) ?_
        repeat (go_big_quiet_step (fail))
        refine wpQuiet_nil ?_
        intro w1 b1
        have HB1 := Lib.hid (HB.out.trans (b1.mono HB.out.size)); clear b1 HB
        go_wp2_with fail
        go_ret
        exact ⟨by rw [e.out]; rfl, HB1.out⟩
      · have e : Hid (allK (atB strEq xs ys) (k + 1) = true) := (by rw [HS.out, Hall.out, atB_eq hlt hlt2, hE]; rfl : allK (atB strEq xs ys) (k + 1) = true)
        have t1 := strEq_t hE
        have t2 := strEq_nt hE
        clear hE
        go_wp2_with fail
        refine wp_region_above (by kernel_rfl) (by kernel_rfl) ?_
        repeat (go_big_quiet_step (fail))
        refine wpQuiet_nil ?_
        intro w1 b1
        have HB1 := Lib.hid (HB.out.trans (b1.mono HB.out.size)); clear b1 HB
        go_wp2_with fail
        go_roundw
        case rel => exact ⟨k + 1, by omega, by go_num, e.out, HB1.out⟩
        case measure => simp [intOf]; omega
    · have e : Hid (wordsS xs ys = true) := (by
        obtain rfl : k = xs.length := by omega
        rw [es.out]; exact Hall.out : wordsS xs ys = true)
      go_wp2
      go_ret
      exact ⟨by rw [e.out]; rfl, hb⟩

theorem slices_Equal_str_is {b : Bool} (w : World) (v1 v2 : Value) (xs ys : List ByteArray) (h1 : Rd w.heap.size w v1 1 xs.length (xs.flatMap putStr)) (h2 : Rd w.heap.size w v2 1 ys.length (ys.flatMap putStr)) (hn : xs.length ≤ 1048576) (hb : wordsS xs ys = b) :
    Calls Tryz.prog 39 #[v1, v2] w fun e w' => e = .returned (.bool b) ∧ Below w.heap.size w w' := by
  subst hb; exact slices_Equal_str w v1 v2 xs ys h1 h2 hn
end Go.Proofs.YtnbodmbagendnaaGreatDoor
namespace Go.Proofs.YtnbodmbagendnaaGreatDoor
open Go.ChangeShapes Go.WideShapes Go.ChangeAt Go.RowKit Go.Deep Go.Joins
set_option linter.unusedVariables false
set_option maxRecDepth 100000
set_option linter.unusedSimpArgs false
def Melt.val (x : Melt) : Value := .agg #[.string x.id, x.list, .int .i64 x.mass]
end Go.Proofs.YtnbodmbagendnaaGreatDoor
namespace Go.Proofs.YtnbodmbagendnaaGreatDoor
open Go.ChangeShapes Go.WideShapes Go.ChangeAt Go.RowKit Go.Deep Go.Joins
set_option linter.unusedVariables false
set_option maxRecDepth 100000
set_option linter.unusedSimpArgs false
def ltName (y x : ByteArray) : Bool := Op.bytesLess y.toList x.toList
def meltB (x : Melt) : Bool := nameB x.id && (decide (1 ≤ x.ingots.length) && (decide (x.ingots.length ≤ 16) && (allK (stepB nameB ltName x.ingots) x.ingots.length && inB x.mass 1 320000000)))

theorem ltName_spec_f {y x : ByteArray} (h : ltName y x = false) : (!(Op.bytesLess y.toList x.toList)) = true := by
  unfold ltName at h; rw [h]; rfl
theorem ltName_spec_t {y x : ByteArray} (h : ltName y x = true) : (!(Op.bytesLess y.toList x.toList)) = false := by
  unfold ltName at h; rw [h]; rfl
theorem ltName_impl_f {y x : ByteArray} (h : ltName y x = false) : (Op.bytesLess x.toList y.toList || x.toList == y.toList) = true := by
  unfold ltName at h; rw [← not_less, h]; rfl
theorem ltName_impl_t {y x : ByteArray} (h : ltName y x = true) : (Op.bytesLess x.toList y.toList || x.toList == y.toList) = false := by
  unfold ltName at h; rw [← not_less, h]; rfl

set_option maxHeartbeats 1000000 in
theorem spec_l14One (x : Melt) (a o : Nat) (w : World) (hx : x.ok w) (hn : x.ingots.length ≤ 1048576) (h0 : w.cell? ⟨a, o, none⟩ = some (.string x.id)) (h1 : w.cell? ⟨a, o + 1, none⟩ = some x.list) (h2 : w.cell? ⟨a, o + 2, none⟩ = some (.int .i64 x.mass)) (ha : a < w.heap.size) :
    Calls Tryz.prog 76 #[.pointer (some ⟨a, o, none⟩)] w fun e w' => e = .returned (.bool (meltB x)) ∧ Below w.heap.size w w' := by
  obtain ⟨hi, ⟨hr, hl, hs⟩, _⟩ := hx
  have Hi := Lib.hid hi; clear hi
  obtain ⟨hL, ao, cap, hlist, hcap, hmax, hnil, hsome⟩ := hr
  rw [hlist] at h1
  clear hlist
  have Hok := Lib.hid hs; clear hs
  cases hN : nameB x.id
  case false =>
    have e : Hid (meltB x = false) := (by unfold meltB; rw [hN]; rfl : meltB x = false)
    clear hsome hnil
    go_enter Tryz.func76, Tryz.ntmps76
    go_wp2_with (first | (go_at_call 99; refine (spec_l01Name_is _ _ Hi.out (by assumption)).mono ?_; rintro e w' ⟨rfl, rfl⟩))
    go_ret
    exact ⟨by rw [e.out]; rfl, by (repeat' (first | (with_reducible exact Below.refl _ _) | (with_reducible assumption) | (with_reducible refine below_dn ?_ _) | (with_reducible refine Below.drew ?_) | (with_reducible refine Below.alloc ?_ ?_ _) | (with_reducible refine Below.setCell ?_ ?_ _) | go_size))⟩
  by_cases hz1 : 1 ≤ x.ingots.length
  case neg =>
    have e : Hid (meltB x = false) := (by unfold meltB; rw [decide_eq_false hz1]; simp : meltB x = false)
    clear hsome hnil
    go_enter Tryz.func76, Tryz.ntmps76
    go_wp2_with (first | (go_at_call 99; refine (spec_l01Name_is _ _ Hi.out (by assumption)).mono ?_; rintro e w' ⟨rfl, rfl⟩))
    go_ret
    exact ⟨by rw [e.out]; rfl, by (repeat' (first | (with_reducible exact Below.refl _ _) | (with_reducible assumption) | (with_reducible refine below_dn ?_ _) | (with_reducible refine Below.drew ?_) | (with_reducible refine Below.alloc ?_ ?_ _) | (with_reducible refine Below.setCell ?_ ?_ _) | go_size))⟩
  by_cases hz2 : x.ingots.length ≤ 16
  case neg =>
    have e : Hid (meltB x = false) := (by unfold meltB; rw [decide_eq_false hz2]; simp : meltB x = false)
    clear hsome hnil
    go_enter Tryz.func76, Tryz.ntmps76
    go_wp2_with (first | (go_at_call 99; refine (spec_l01Name_is _ _ Hi.out (by assumption)).mono ?_; rintro e w' ⟨rfl, rfl⟩))
    go_ret
    exact ⟨by rw [e.out]; rfl, by (repeat' (first | (with_reducible exact Below.refl _ _) | (with_reducible assumption) | (with_reducible refine below_dn ?_ _) | (with_reducible refine Below.drew ?_) | (with_reducible refine Below.alloc ?_ ?_ _) | (with_reducible refine Below.setCell ?_ ?_ _) | go_size))⟩
  cases hM : inB x.mass 1 320000000
  case false =>
    have e : Hid (meltB x = false) := (by unfold meltB; rw [hM]; simp : meltB x = false)
    clear hsome hnil
    go_enter Tryz.func76, Tryz.ntmps76
    go_wp2_with (first | (go_at_call 99; refine (spec_l01Name_is _ _ Hi.out (by assumption)).mono ?_; rintro e w' ⟨rfl, rfl⟩) | (go_at_call 100; refine (l00In_is _ _ _ _ (by assumption)).mono ?_; rintro e w' ⟨rfl, rfl⟩))
    go_ret
    exact ⟨by rw [e.out]; rfl, by (repeat' (first | (with_reducible exact Below.refl _ _) | (with_reducible assumption) | (with_reducible refine below_dn ?_ _) | (with_reducible refine Below.drew ?_) | (with_reducible refine Below.alloc ?_ ?_ _) | (with_reducible refine Below.setCell ?_ ?_ _) | go_size))⟩
  have es : Hid (meltB x = allK (stepB nameB ltName x.ingots) x.ingots.length) := (by unfold meltB; rw [hN, hM, decide_eq_true hz1, decide_eq_true hz2]; simp : meltB x = allK (stepB nameB ltName x.ingots) x.ingots.length)
  have HM := Lib.hid hM
  go_enter Tryz.func76, Tryz.ntmps76
  go_wp2_with (first | (go_at_call 99; refine (spec_l01Name_is _ _ Hi.out (by assumption)).mono ?_; rintro e w' ⟨rfl, rfl⟩) | (go_at_call 100; refine (l00In_is _ _ _ _ (by assumption)).mono ?_; rintro e w' ⟨rfl, rfl⟩))
  clear hM hN
  go_loopw [3] (fun i wr => ∃ (k : Nat), k ≤ x.ingots.length ∧ i = .int .i64 k ∧ allK (stepB nameB ltName x.ingots) k = true ∧ Below w.heap.size w wr) (fun i _ => x.ingots.length - (intOf i).toNat)
  case atStart => exact ⟨0, Nat.zero_le _, rfl, rfl, by (repeat' (first | (with_reducible exact Below.refl _ _) | (with_reducible assumption) | (with_reducible refine below_dn ?_ _) | (with_reducible refine Below.drew ?_) | (with_reducible refine Below.alloc ?_ ?_ _) | (with_reducible refine Below.setCell ?_ ?_ _) | go_size))⟩
  case round =>
    obtain ⟨k, hk, rfl, hall, hb⟩ := hrel
    have Hall := Lib.hid hall; clear hall
    have r0 : wr.cell? ⟨a, o, none⟩ = some (.string x.id) := (hb.cell (p := ⟨a, o, none⟩) ha).trans h0
    have r1 : wr.cell? ⟨a, o + 1, none⟩ = some (.slice ao x.ingots.length cap) := (hb.cell (p := ⟨a, o + 1, none⟩) ha).trans h1
    by_cases hlt : k < x.ingots.length
    · obtain ⟨b, off, rfl, hbB, hc⟩ := hsome (by omega)
      have c0 : wr.cell? ⟨b, off + k, none⟩ = some (.string x.ingots[k]) := by
        rw [hb.cell (p := ⟨b, off + k, none⟩) hbB, hc k (by omega), putStr_get x.ingots k hlt]
      have hbr : b < wr.heap.size := Nat.lt_of_lt_of_le hbB hb.size
      have har : a < wr.heap.size := Nat.lt_of_lt_of_le ha hb.size
      have hok : x.ingots[k].size ≤ maxLen := Hok.out _ (List.getElem_mem hlt)
      have HK := Lib.hid hok; clear hok
      have HS := Lib.hid (allK_succ (stepB nameB ltName x.ingots) k)
      have HF := Lib.hid (allK_false (stepB nameB ltName x.ingots) x.ingots.length k hlt)
      cases hO : nameB x.ingots[k]
      · have e : Hid (meltB x = false) := (by rw [es.out]; exact HF.out (stepB_no hlt hO) : meltB x = false)
        have HB := Lib.hid hb
        clear hc hsome hnil hb h0 h1 h2
        go_wp2_with fail
        refine wp_region_above (by kernel_rfl) (by kernel_rfl) ?_
        repeat (go_big_quiet_step ((first | (go_at_call 99; exact aboveE (spec_l01Name_is _ _ HK.out (by assumption))))))
        refine wpQuiet_nil ?_
        intro w1 b1
        have HB1 := Lib.hid (HB.out.trans (b1.mono HB.out.size)); clear b1 HB
        go_wp2_with fail
        go_ret
        exact ⟨by rw [e.out]; rfl, HB1.out⟩
      by_cases hk0 : k = 0
      · have e : Hid (allK (stepB nameB ltName x.ingots) (k + 1) = true) := (by subst hk0; rw [HS.out, stepB_zero hlt hO]; rfl : allK (stepB nameB ltName x.ingots) (k + 1) = true)
        have hz : decide (0 < k) = false := decide_eq_false (by omega)
        have HB := Lib.hid hb
        clear hc hsome hnil hb hk0 h0 h1 h2
        go_wp2_with fail
        refine wp_region_above (by kernel_rfl) (by kernel_rfl) ?_
        repeat (go_big_quiet_step ((first | (go_at_call 99; exact aboveE (spec_l01Name_is _ _ HK.out (by assumption))))))
        refine wpQuiet_nil ?_
        intro w1 b1
        have HB1 := Lib.hid (HB.out.trans (b1.mono HB.out.size)); clear b1 HB
        go_wp2_with fail
        go_roundw
        case rel => exact ⟨k + 1, by omega, by go_num, e.out, HB1.out⟩
        case measure => simp [intOf]; omega
      · have hpos : 0 < k := by omega
        have hz : decide (0 < k) = true := decide_eq_true (by omega)
        have p0 : wr.cell? ⟨b, off + (k - 1), none⟩ = some (.string x.ingots[k - 1]) := by
          rw [hb.cell (p := ⟨b, off + (k - 1), none⟩) hbB, hc (k - 1) (by omega), putStr_get x.ingots (k - 1) (by omega)]
        cases hT : ltName x.ingots[k - 1] x.ingots[k]
        · have e : Hid (meltB x = false) := (by rw [es.out]; exact HF.out (stepB_lt hlt hpos hO hT) : meltB x = false)
          have t1 : (!(Op.bytesLess x.ingots[k - 1].toList x.ingots[k].toList)) = true := ltName_spec_f hT
          have HB := Lib.hid hb
          clear hc hsome hnil hb hT h0 h1 h2
          go_wp2_with fail
          refine wp_region_above (by kernel_rfl) (by kernel_rfl) ?_
          repeat (go_big_quiet_step ((first | (go_at_call 99; exact aboveE (spec_l01Name_is _ _ HK.out (by assumption))))))
          refine wpQuiet_nil ?_
          intro w1 b1
          have HB1 := Lib.hid (HB.out.trans (b1.mono HB.out.size)); clear b1 HB
          go_wp2_with fail
          go_ret
          exact ⟨by rw [e.out]; rfl, HB1.out⟩
        · have e : Hid (allK (stepB nameB ltName x.ingots) (k + 1) = true) := (by rw [HS.out, Hall.out, stepB_yes hlt hpos hO hT]; rfl : allK (stepB nameB ltName x.ingots) (k + 1) = true)
          have t1 : (!(Op.bytesLess x.ingots[k - 1].toList x.ingots[k].toList)) = false := ltName_spec_t hT
          have HB := Lib.hid hb
          clear hc hsome hnil hb hT h0 h1 h2
          go_wp2_with fail
          refine wp_region_above (by kernel_rfl) (by kernel_rfl) ?_
          repeat (go_big_quiet_step ((first | (go_at_call 99; exact aboveE (spec_l01Name_is _ _ HK.out (by assumption))))))
          refine wpQuiet_nil ?_
          intro w1 b1
          have HB1 := Lib.hid (HB.out.trans (b1.mono HB.out.size)); clear b1 HB
          go_wp2_with fail
          go_roundw
          case rel => exact ⟨k + 1, by omega, by go_num, e.out, HB1.out⟩
          case measure => simp [intOf]; omega
    · have e : Hid (meltB x = true) := (by
        obtain rfl : k = x.ingots.length := by omega
        rw [es.out]; exact Hall.out : meltB x = true)
      go_wp2
      go_ret
      exact ⟨by rw [e.out]; rfl, hb⟩
end Go.Proofs.YtnbodmbagendnaaGreatDoor
namespace Go.Proofs.YtnbodmbagendnaaGreatDoor
open Go.ChangeShapes Go.WideShapes Go.ChangeAt Go.RowKit Go.Deep Go.Joins
set_option linter.unusedVariables false
set_option maxRecDepth 100000
set_option linter.unusedSimpArgs false
/-- what a comparison of two texts gives -/
def cmpS (x y : ByteArray) : Int := if ltName x y then -1 else if strEq x y then 0 else 1
theorem cmpS_lt {x y : ByteArray} : cmpS x y < 0 ↔ ltName x y = true := by
  unfold cmpS
  cases h : ltName x y <;> simp
  cases strEq x y <;> simp
theorem ltName_irrefl (x : ByteArray) : ltName x x = false := less_irrefl _
theorem ltName_trans {x y z : ByteArray} (h1 : ltName x y = true) (h2 : ltName y z = true) : ltName x z = true := less_trans _ _ _ h1 h2
theorem strEq_iff {x y : ByteArray} : strEq x y = true ↔ x = y := by
  unfold strEq
  rw [beq_iff_eq]
  constructor
  · intro h
    have h2 : x.data.toList = y.data.toList := by
      rw [ByteArray.toList_eq, ByteArray.toList_eq] at h; exact h
    cases x; cases y
    simp only [ByteArray.mk.injEq]
    exact Array.toList_inj.1 h2
  · rintro rfl; rfl
theorem cmpS_zero {x y : ByteArray} : cmpS x y = 0 ↔ x = y := by
  unfold cmpS
  cases h : ltName x y
  · simp only [Bool.false_eq_true, if_false]
    cases h2 : strEq x y
    · simp only [Bool.false_eq_true, if_false]
      constructor
      · intro h; omega
      · rintro rfl; rw [strEq_iff.2 rfl] at h2; cases h2
    · simp [strEq_iff.1 h2]
  · simp only [if_true]
    constructor
    · intro h; omega
    · rintro rfl; rw [ltName_irrefl] at h; cases h
/-- not before it, not equal: behind it -/
theorem ltName_total {x y : ByteArray} (h1 : ltName x y = false) (h2 : x ≠ y) : ltName y x = true := by
  have h := not_less y.toList x.toList
  unfold ltName at *
  have h3 : strEq y x = false := by
    cases h4 : strEq y x with
    | false => rfl
    | true => exact absurd (strEq_iff.1 h4).symm h2
  unfold strEq at h3
  rw [h1, h3] at h
  simpa using h.symm
theorem cmp_isNaN_str (x : ByteArray) (w : World) : Calls Tryz.prog 83 #[.string x] w fun e w' => e = .returned (.bool false) ∧ w = w' := by
  have t1 : (x.toList == x.toList) = true := by simp
  go_enter Tryz.func83, Tryz.ntmps83
  go_wp2
  go_ret
  exact ⟨by first | rfl | simp, rfl⟩
theorem cmp_Compare_str (x y : ByteArray) (w : World) : Calls Tryz.prog 52 #[.string x, .string y] w fun e w' => e = .returned (.int .i64 (cmpS x y)) ∧ w = w' := by
  cases h1 : ltName x y
  · cases h2 : strEq x y
    · have e : Hid (cmpS x y = 1) := (by unfold cmpS; rw [h1, h2]; rfl : cmpS x y = 1)
      have t1 : Op.bytesLess x.toList y.toList = false := h1
      have t2 : (x.toList == y.toList) = false := h2
      clear h1 h2
      go_enter Tryz.func52, Tryz.ntmps52
      go_wp2_with (first | (go_at_call 83; refine (cmp_isNaN_str _ _).mono ?_; rintro e w' ⟨rfl, rfl⟩))
      go_ret
      exact ⟨by rw [e.out]; rfl, rfl⟩
    · have e : Hid (cmpS x y = 0) := (by unfold cmpS; rw [h1, h2]; rfl : cmpS x y = 0)
      have t1 : Op.bytesLess x.toList y.toList = false := h1
      have t2 : (x.toList == y.toList) = true := h2
      clear h1 h2
      go_enter Tryz.func52, Tryz.ntmps52
      go_wp2_with (first | (go_at_call 83; refine (cmp_isNaN_str _ _).mono ?_; rintro e w' ⟨rfl, rfl⟩))
      go_ret
      exact ⟨by rw [e.out]; rfl, rfl⟩
  · have e : Hid (cmpS x y = -1) := (by unfold cmpS; rw [h1]; rfl : cmpS x y = -1)
    have t1 : Op.bytesLess x.toList y.toList = true := h1
    clear h1
    go_enter Tryz.func52, Tryz.ntmps52
    go_wp2_with (first | (go_at_call 83; refine (cmp_isNaN_str _ _).mono ?_; rintro e w' ⟨rfl, rfl⟩))
    go_ret
    exact ⟨by rw [e.out]; rfl, rfl⟩
end Go.Proofs.YtnbodmbagendnaaGreatDoor
namespace Go.Proofs.YtnbodmbagendnaaGreatDoor
open Go.ChangeShapes Go.WideShapes Go.ChangeAt Go.RowKit Go.Deep Go.Joins
set_option linter.unusedVariables false
set_option maxRecDepth 100000
set_option linter.unusedSimpArgs false
/-- the comparisons fall: less, then not less -/
def Falls (c : Nat → Int) (n : Nat) : Prop := ∀ a b, a ≤ b → b < n → c b < 0 → c a < 0
/-- what is known of the part that is left -/
def Part (c : Nat → Int) (n a b : Nat) : Prop := Falls c n → (∀ k, k < a → c k < 0) ∧ (∀ k, b ≤ k → k < n → 0 ≤ c k)
/-- what is found: all before it are less, all from it on are not -/
def Found (c : Nat → Int) (n i : Nat) : Prop := i ≤ n ∧ Part c n i i
theorem part_start (c : Nat → Int) (n : Nat) : Part c n 0 n := fun _ => ⟨fun k h => by omega, fun k h1 h2 => by omega⟩
theorem part_up {c : Nat → Int} {n a b m : Nat} (h : Part c n a b) (hm : m < n) (hc : c m < 0) : Part c n (m + 1) b := fun hf => ⟨fun k hk => hf k m (by omega) hm hc, (h hf).2⟩
theorem part_down {c : Nat → Int} {n a b m : Nat} (h : Part c n a b) (hc : 0 ≤ c m) : Part c n a m := fun hf => ⟨(h hf).1, fun k h1 h2 => by
  rcases Int.lt_or_le (c k) 0 with h3 | h3
  · have := hf m k h1 h2 h3; omega
  · exact h3⟩
theorem part_end {c : Nat → Int} {n a : Nat} (h : Part c n a a) (ha : a ≤ n) : Found c n a := ⟨ha, h⟩
end Go.Proofs.YtnbodmbagendnaaGreatDoor
