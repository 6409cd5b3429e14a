/- Contracts and plain facts, joined: AtB, Words, HMelt, VMelt. -/
import Derived.Test.YtnbodmbagendnaaRows
import Derived.Test.YtnbodmbagendnaaZFnMetalC
import Derived.Test.YtnbodmbagendnaaZFnMetalE
import Derived.Test.YtnbodmbagendnaaZFnMetalF
import Derived.Test.YtnbodmbagendnaaZFnMetalH
namespace Go.Proofs.Ytnbodmbagendnaa
open Go.ChangeShapes Go.WideShapes Go.ChangeAt Go.RowKit Go.Deep Go.Joins
set_option linter.unusedVariables false
set_option maxRecDepth 100000
set_option linter.unusedSimpArgs false
/-- element k of both -/
def atB {α : Type} (f : α → α → Bool) (xs ys : List α) (k : Nat) : Bool :=
  match xs[k]?, ys[k]? with
  | some x, some y => f x y
  | _, _ => true
theorem atB_eq {α : Type} {f : α → α → Bool} {xs ys : List α} {k : Nat} (h : k < xs.length) (h2 : k < ys.length) : atB f xs ys k = f xs[k] ys[k] := by
  unfold atB
  rw [List.getElem?_eq_getElem h, List.getElem?_eq_getElem h2]
def strEq (x y : ByteArray) : Bool := x.toList == y.toList
theorem strEq_t {x y : ByteArray} (h : strEq x y = true) : (x.toList == y.toList) = true := h
theorem strEq_f {x y : ByteArray} (h : strEq x y = false) : (x.toList == y.toList) = false := h
theorem strEq_nt {x y : ByteArray} (h : strEq x y = true) : (!(x.toList == y.toList)) = false := by unfold strEq at h; rw [h]; rfl
theorem strEq_nf {x y : ByteArray} (h : strEq x y = false) : (!(x.toList == y.toList)) = true := by unfold strEq at h; rw [h]; rfl
/-- the same as lists of texts -/
def wordsS (xs ys : List ByteArray) : Bool := decide (xs.length = ys.length) && allK (atB strEq xs ys) xs.length
end Go.Proofs.Ytnbodmbagendnaa
namespace Go.Proofs.Ytnbodmbagendnaa
open Go.ChangeShapes Go.WideShapes Go.ChangeAt Go.RowKit Go.Deep Go.Joins
set_option linter.unusedVariables false
set_option maxRecDepth 100000
set_option linter.unusedSimpArgs false

end Go.Proofs.Ytnbodmbagendnaa
namespace Go.Proofs.Ytnbodmbagendnaa
open Go.ChangeShapes Go.WideShapes Go.ChangeAt Go.RowKit Go.Deep Go.Joins
set_option linter.unusedVariables false
set_option maxRecDepth 100000
set_option linter.unusedSimpArgs false
def Melt.val (x : Melt) : Value := .agg #[.string x.id, x.list, .int .i64 x.mass]

theorem toMelt (x : Melt) (w : World) (h : Rd w.heap.size w x.list 1 x.ingots.length (x.ingots.flatMap putStr)) (hn : x.ingots.length ≤ 1048576) :
    Calls Try.prog 29 #[.agg #[.string x.id, x.list, .int .i64 x.mass]] w fun e w' => ∃ g, e = .returned (.agg #[.string x.id, .slice (some ⟨g, 0, none⟩) x.ingots.length x.ingots.length, .int .i64 x.mass]) ∧ w.heap.size ≤ g ∧ Own w' g 9 (x.ingots.flatMap putStr) ∧ Below w.heap.size w w' := by
  have H := Lib.hid h; clear h
  go_enter Try.func29, Try.ntmps29
  go_wp2_with fail
  refine (toStringS _ _ x.ingots (by exact H.out.up (by (repeat' (first | (with_reducible exact Below.refl _ _) | (with_reducible assumption) | (with_reducible refine below_dn ?_ _) | (with_reducible refine Below.drew ?_) | (with_reducible refine Below.alloc ?_ ?_ _) | (with_reducible refine Below.setCell ?_ ?_ _) | go_size)))) hn).mono ?_; rintro e w1 ⟨g, rfl, hg, o1, b1⟩
  obtain ⟨hc, hf⟩ := bcell b1
  have O1 := Lib.hid o1; clear o1
  have M : Own w1 (w.heap.size + 1) 63 [.string ⟨#[]⟩, .slice none 0 0, .int .i64 0] := by
    refine Own.below (Own.alloc ?_ _) b1 (by simp)
    have e1 : (w.alloc (Obj.cells #[Value.string x.id, x.list, Value.int IntKind.i64 x.mass] 53)).heap.size = w.heap.size + 1 := by simp
    rw [← e1]
    exact Own.new _ _ [.string ⟨#[]⟩, .slice none 0 0, .int .i64 0]
  have c10 : w1.cell? ⟨w.heap.size + 1, 0, none⟩ = some (.string ⟨#[]⟩) := M.cell 0
  have c11 : w1.cell? ⟨w.heap.size + 1, 1, none⟩ = some (.slice none 0 0) := M.cell 1
  have c12 : w1.cell? ⟨w.heap.size + 1, 2, none⟩ = some (.int .i64 0) := M.cell 2
  have HB := Lib.hid b1; clear b1
  have HG := Lib.hid hg; clear hg
  go_wp2_with fail
  clear hc hf c10 c11 c12
  refine bodyPost_ret (v := .agg #[.string x.id, .slice (some ⟨g, 0, none⟩) x.ingots.length x.ingots.length, .int .i64 x.mass]) ?_ rfl ?_
  · have M2 := ((((((M.other (a := ⟨w.heap.size + 1 + 1, 1, none⟩) (by simp) (Value.slice (some ⟨g, 0, none⟩) x.ingots.length x.ingots.length)).other (a := ⟨w.heap.size + 1 + 1, 2, none⟩) (by simp) (Value.int .i64 x.mass)).set 0 (.string x.id)).set 1 (Value.slice (some ⟨g, 0, none⟩) x.ingots.length x.ingots.length)).set 2 (Value.int .i64 x.mass)))
    have d0 := M2.cell 0
    have d1 := M2.cell 1
    have d2 := M2.cell 2
    simp only [List.set, List.getElem?_cons_zero, List.getElem?_cons_succ] at d0 d1 d2
    clear M M2 HB O1
    simp [results, Try.results29, go_sem, d0, d1, d2]
  · refine ⟨g, rfl, ?_, ?_, ?_⟩
    · have := HG.out; simp at this; omega
    · have := HG.out
      simp at this
      exact ((((O1.out.other (by simp; omega) _).other (by simp; omega) _).other (by simp; omega) _).other (by simp; omega) _).other (by simp; omega) _
    · refine Below.setCell (Below.setCell (Below.setCell (Below.setCell (Below.setCell (Below.trans ?_ (HB.out.mono (by simp; omega))) ?_ _) ?_ _) ?_ _) ?_ _) ?_ _
      all_goals first | (simp; done) | (simp; omega) | (repeat' (first | (with_reducible exact Below.refl _ _) | (with_reducible assumption) | (with_reducible refine below_dn ?_ _) | (with_reducible refine Below.drew ?_) | (with_reducible refine Below.alloc ?_ ?_ _) | (with_reducible refine Below.setCell ?_ ?_ _) | go_size))

theorem eqMelt (x : Melt) (l1 l2 : Value) (w : World) (h1 : Rd w.heap.size w l1 1 x.ingots.length (x.ingots.flatMap putStr)) (h2 : Rd w.heap.size w l2 1 x.ingots.length (x.ingots.flatMap putStr)) (hn : x.ingots.length ≤ 1048576) :
    Calls Try.prog 33 #[.agg #[.string x.id, l1, .int .i64 x.mass], .agg #[.string x.id, l2, .int .i64 x.mass]] w fun e w' => e = .returned (.bool true) ∧ Below w.heap.size w w' := by
  have H1 := Lib.hid h1; clear h1
  have H2 := Lib.hid h2; clear h2
  go_enter Try.func33, Try.ntmps33
  go_wp2_with fail
  refine (eqStringS _ _ _ _ _ x.ingots (by exact H1.out.below (by (repeat' (first | (with_reducible exact Below.refl _ _) | (with_reducible assumption) | (with_reducible refine below_dn ?_ _) | (with_reducible refine Below.drew ?_) | (with_reducible refine Below.alloc ?_ ?_ _) | (with_reducible refine Below.setCell ?_ ?_ _) | go_size)))) (by exact H2.out.below (by (repeat' (first | (with_reducible exact Below.refl _ _) | (with_reducible assumption) | (with_reducible refine below_dn ?_ _) | (with_reducible refine Below.drew ?_) | (with_reducible refine Below.alloc ?_ ?_ _) | (with_reducible refine Below.setCell ?_ ?_ _) | go_size)))) hn).mono ?_; rintro e w1 ⟨rfl, n, rfl⟩
  go_wp2_with fail
  go_ret
  exact ⟨rfl, by (repeat' (first | (with_reducible exact Below.refl _ _) | (with_reducible assumption) | (with_reducible refine below_dn ?_ _) | (with_reducible refine Below.drew ?_) | (with_reducible refine Below.alloc ?_ ?_ _) | (with_reducible refine Below.setCell ?_ ?_ _) | go_size))⟩

theorem szMelt (x : Melt) (left : Int) (w : World) (h : x.ok w) (h0 : 0 ≤ left) (h1 : left ≤ 1048576) :
    Calls Try.prog 25 #[.agg #[.string x.id, x.list, .int .i64 x.mass], .int .i64 left] w fun e w' => e = .returned (.int .i64 (szR left (x.id.size + (x.ingots.length + wtStr x.ingots)))) ∧ Below w.heap.size w w' := by
  obtain ⟨hi, ⟨hr, hl, hs⟩, _⟩ := h
  have hi2 := hi
  unfold maxLen at hi2
  have HR := Lib.hid hr; clear hr
  have HS := Lib.hid hs; clear hs
  by_cases hq : (x.id.size : Int) ≤ left
  case neg =>
    have e : Hid (szR left (x.id.size + (x.ingots.length + wtStr x.ingots)) = -1) := (if_neg (by omega) : szR left (x.id.size + (x.ingots.length + wtStr x.ingots)) = -1)
    go_enter Try.func25, Try.ntmps25
    go_wp2
    go_ret
    exact ⟨by rw [e.out]; rfl, by (repeat' (first | (with_reducible exact Below.refl _ _) | (with_reducible assumption) | (with_reducible refine below_dn ?_ _) | (with_reducible refine Below.drew ?_) | (with_reducible refine Below.alloc ?_ ?_ _) | (with_reducible refine Below.setCell ?_ ?_ _) | go_size))⟩
  have es : Hid (szR (left - x.id.size) (x.ingots.length + wtStr x.ingots) = szR left (x.id.size + (x.ingots.length + wtStr x.ingots))) := (by
    unfold szR
    by_cases hz : ((x.ingots.length + wtStr x.ingots : Nat) : Int) ≤ left - x.id.size
    · rw [if_pos hz, if_pos (by push_cast at *; omega)]; push_cast; omega
    · rw [if_neg hz, if_neg (by push_cast at *; omega)] : szR (left - x.id.size) (x.ingots.length + wtStr x.ingots) = szR left (x.id.size + (x.ingots.length + wtStr x.ingots)))
  generalize hZ : szR left (x.id.size + (x.ingots.length + wtStr x.ingots)) = z at es
  have hzr : -1 ≤ z ∧ z ≤ left := by
    rw [← hZ]; unfold szR; split <;> omega
  clear hZ
  rcases (show z = -1 ∨ 0 ≤ z by omega) with rfl | hz0
  all_goals
    go_enter Try.func25, Try.ntmps25
    go_wp2_with fail
    refine (szStringS w.heap.size _ _ x.ingots _ (by exact HR.out.below (by (repeat' (first | (with_reducible exact Below.refl _ _) | (with_reducible assumption) | (with_reducible refine below_dn ?_ _) | (with_reducible refine Below.drew ?_) | (with_reducible refine Below.alloc ?_ ?_ _) | (with_reducible refine Below.setCell ?_ ?_ _) | go_size)))) hl HS.out (by omega) (by omega)).mono ?_; rw [es.out]; rintro e w1 ⟨rfl, rfl⟩
    go_wp2_with fail
    go_ret
    exact ⟨rfl, by (repeat' (first | (with_reducible exact Below.refl _ _) | (with_reducible assumption) | (with_reducible refine below_dn ?_ _) | (with_reducible refine Below.drew ?_) | (with_reducible refine Below.alloc ?_ ?_ _) | (with_reducible refine Below.setCell ?_ ?_ _) | go_size))⟩
end Go.Proofs.Ytnbodmbagendnaa
namespace Go.Proofs.Ytnbodmbagendnaa
open Go.ChangeShapes Go.WideShapes Go.ChangeAt Go.RowKit Go.Deep Go.Joins
set_option linter.unusedVariables false
set_option maxRecDepth 100000
set_option linter.unusedSimpArgs false
def ltName (y x : ByteArray) : Bool := Op.bytesLess y.toList x.toList
def meltB (x : Melt) : Bool := nameB x.id && (decide (1 ≤ x.ingots.length) && (decide (x.ingots.length ≤ 16) && (allK (stepB nameB ltName x.ingots) x.ingots.length && inB x.mass 1 320000000)))

theorem ltName_spec_f {y x : ByteArray} (h : ltName y x = false) : (!(Op.bytesLess y.toList x.toList)) = true := by
  unfold ltName at h; rw [h]; rfl
theorem ltName_spec_t {y x : ByteArray} (h : ltName y x = true) : (!(Op.bytesLess y.toList x.toList)) = false := by
  unfold ltName at h; rw [h]; rfl
theorem ltName_impl_f {y x : ByteArray} (h : ltName y x = false) : (Op.bytesLess x.toList y.toList || x.toList == y.toList) = true := by
  unfold ltName at h; rw [← not_less, h]; rfl
theorem ltName_impl_t {y x : ByteArray} (h : ltName y x = true) : (Op.bytesLess x.toList y.toList || x.toList == y.toList) = false := by
  unfold ltName at h; rw [← not_less, h]; rfl

set_option maxHeartbeats 1000000 in
theorem spec_l14One (x : Melt) (a o : Nat) (w : World) (hx : x.ok w) (hn : x.ingots.length ≤ 1048576) (h0 : w.cell? ⟨a, o, none⟩ = some (.string x.id)) (h1 : w.cell? ⟨a, o + 1, none⟩ = some x.list) (h2 : w.cell? ⟨a, o + 2, none⟩ = some (.int .i64 x.mass)) (ha : a < w.heap.size) :
    Calls Try.prog 69 #[.pointer (some ⟨a, o, none⟩)] w fun e w' => e = .returned (.bool (meltB x)) ∧ Below w.heap.size w w' := by
  obtain ⟨hi, ⟨hr, hl, hs⟩, _⟩ := hx
  have Hi := Lib.hid hi; clear hi
  obtain ⟨hL, ao, cap, hlist, hcap, hmax, hnil, hsome⟩ := hr
  rw [hlist] at h1
  clear hlist
  have Hok := Lib.hid hs; clear hs
  cases hN : nameB x.id
  case false =>
    have e : Hid (meltB x = false) := (by unfold meltB; rw [hN]; rfl : meltB x = false)
    clear hsome hnil
    go_enter Try.func69, Try.ntmps69
    go_wp2_with (first | (go_at_call 110; refine (spec_l01Name_is _ _ Hi.out (by assumption)).mono ?_; rintro e w' ⟨rfl, rfl⟩))
    go_ret
    exact ⟨by rw [e.out]; rfl, by (repeat' (first | (with_reducible exact Below.refl _ _) | (with_reducible assumption) | (with_reducible refine below_dn ?_ _) | (with_reducible refine Below.drew ?_) | (with_reducible refine Below.alloc ?_ ?_ _) | (with_reducible refine Below.setCell ?_ ?_ _) | go_size))⟩
  by_cases hz1 : 1 ≤ x.ingots.length
  case neg =>
    have e : Hid (meltB x = false) := (by unfold meltB; rw [decide_eq_false hz1]; simp : meltB x = false)
    clear hsome hnil
    go_enter Try.func69, Try.ntmps69
    go_wp2_with (first | (go_at_call 110; refine (spec_l01Name_is _ _ Hi.out (by assumption)).mono ?_; rintro e w' ⟨rfl, rfl⟩))
    go_ret
    exact ⟨by rw [e.out]; rfl, by (repeat' (first | (with_reducible exact Below.refl _ _) | (with_reducible assumption) | (with_reducible refine below_dn ?_ _) | (with_reducible refine Below.drew ?_) | (with_reducible refine Below.alloc ?_ ?_ _) | (with_reducible refine Below.setCell ?_ ?_ _) | go_size))⟩
  by_cases hz2 : x.ingots.length ≤ 16
  case neg =>
    have e : Hid (meltB x = false) := (by unfold meltB; rw [decide_eq_false hz2]; simp : meltB x = false)
    clear hsome hnil
    go_enter Try.func69, Try.ntmps69
    go_wp2_with (first | (go_at_call 110; refine (spec_l01Name_is _ _ Hi.out (by assumption)).mono ?_; rintro e w' ⟨rfl, rfl⟩))
    go_ret
    exact ⟨by rw [e.out]; rfl, by (repeat' (first | (with_reducible exact Below.refl _ _) | (with_reducible assumption) | (with_reducible refine below_dn ?_ _) | (with_reducible refine Below.drew ?_) | (with_reducible refine Below.alloc ?_ ?_ _) | (with_reducible refine Below.setCell ?_ ?_ _) | go_size))⟩
  cases hM : inB x.mass 1 320000000
  case false =>
    have e : Hid (meltB x = false) := (by unfold meltB; rw [hM]; simp : meltB x = false)
    clear hsome hnil
    go_enter Try.func69, Try.ntmps69
    go_wp2_with (first | (go_at_call 110; refine (spec_l01Name_is _ _ Hi.out (by assumption)).mono ?_; rintro e w' ⟨rfl, rfl⟩) | (go_at_call 119; refine (l00In_is _ _ _ _ (by assumption)).mono ?_; rintro e w' ⟨rfl, rfl⟩))
    go_ret
    exact ⟨by rw [e.out]; rfl, by (repeat' (first | (with_reducible exact Below.refl _ _) | (with_reducible assumption) | (with_reducible refine below_dn ?_ _) | (with_reducible refine Below.drew ?_) | (with_reducible refine Below.alloc ?_ ?_ _) | (with_reducible refine Below.setCell ?_ ?_ _) | go_size))⟩
  have es : Hid (meltB x = allK (stepB nameB ltName x.ingots) x.ingots.length) := (by unfold meltB; rw [hN, hM, decide_eq_true hz1, decide_eq_true hz2]; simp : meltB x = allK (stepB nameB ltName x.ingots) x.ingots.length)
  have HM := Lib.hid hM
  go_enter Try.func69, Try.ntmps69
  go_wp2_with (first | (go_at_call 110; refine (spec_l01Name_is _ _ Hi.out (by assumption)).mono ?_; rintro e w' ⟨rfl, rfl⟩) | (go_at_call 119; refine (l00In_is _ _ _ _ (by assumption)).mono ?_; rintro e w' ⟨rfl, rfl⟩))
  clear hM hN
  go_loopw [3] (fun i wr => ∃ (k : Nat), k ≤ x.ingots.length ∧ i = .int .i64 k ∧ allK (stepB nameB ltName x.ingots) k = true ∧ Below w.heap.size w wr) (fun i _ => x.ingots.length - (intOf i).toNat)
  case atStart => exact ⟨0, Nat.zero_le _, rfl, rfl, by (repeat' (first | (with_reducible exact Below.refl _ _) | (with_reducible assumption) | (with_reducible refine below_dn ?_ _) | (with_reducible refine Below.drew ?_) | (with_reducible refine Below.alloc ?_ ?_ _) | (with_reducible refine Below.setCell ?_ ?_ _) | go_size))⟩
  case round =>
    obtain ⟨k, hk, rfl, hall, hb⟩ := hrel
    have Hall := Lib.hid hall; clear hall
    have r0 : wr.cell? ⟨a, o, none⟩ = some (.string x.id) := (hb.cell (p := ⟨a, o, none⟩) ha).trans h0
    have r1 : wr.cell? ⟨a, o + 1, none⟩ = some (.slice ao x.ingots.length cap) := (hb.cell (p := ⟨a, o + 1, none⟩) ha).trans h1
    by_cases hlt : k < x.ingots.length
    · obtain ⟨b, off, rfl, hbB, hc⟩ := hsome (by omega)
      have c0 : wr.cell? ⟨b, off + k, none⟩ = some (.string x.ingots[k]) := by
        rw [hb.cell (p := ⟨b, off + k, none⟩) hbB, hc k (by omega), putStr_get x.ingots k hlt]
      have hbr : b < wr.heap.size := Nat.lt_of_lt_of_le hbB hb.size
      have har : a < wr.heap.size := Nat.lt_of_lt_of_le ha hb.size
      have hok : x.ingots[k].size ≤ maxLen := Hok.out _ (List.getElem_mem hlt)
      have HK := Lib.hid hok; clear hok
      have HS := Lib.hid (allK_succ (stepB nameB ltName x.ingots) k)
      have HF := Lib.hid (allK_false (stepB nameB ltName x.ingots) x.ingots.length k hlt)
      cases hO : nameB x.ingots[k]
      · have e : Hid (meltB x = false) := (by rw [es.out]; exact HF.out (stepB_no hlt hO) : meltB x = false)
        have HB := Lib.hid hb
        clear hc hsome hnil hb h0 h1 h2
        go_wp2_with fail
        refine wp_region_above (by kernel_rfl) (by kernel_rfl) ?_
        repeat (go_big_quiet_step ((first | (go_at_call 110; exact aboveE (spec_l01Name_is _ _ HK.out (by assumption))))))
        refine wpQuiet_nil ?_
        intro w1 b1
        have HB1 := Lib.hid (HB.out.trans (b1.mono HB.out.size)); clear b1 HB
        go_wp2_with fail
        go_ret
        exact ⟨by rw [e.out]; rfl, HB1.out⟩
      by_cases hk0 : k = 0
      · have e : Hid (allK (stepB nameB ltName x.ingots) (k + 1) = true) := (by subst hk0; rw [HS.out, stepB_zero hlt hO]; rfl : allK (stepB nameB ltName x.ingots) (k + 1) = true)
        have hz : decide (0 < k) = false := decide_eq_false (by omega)
        have HB := Lib.hid hb
        clear hc hsome hnil hb hk0 h0 h1 h2
        go_wp2_with fail
        refine wp_region_above (by kernel_rfl) (by kernel_rfl) ?_
        repeat (go_big_quiet_step ((first | (go_at_call 110; exact aboveE (spec_l01Name_is _ _ HK.out (by assumption))))))
        refine wpQuiet_nil ?_
        intro w1 b1
        have HB1 := Lib.hid (HB.out.trans (b1.mono HB.out.size)); clear b1 HB
        go_wp2_with fail
        go_roundw
        case rel => exact ⟨k + 1, by omega, by go_num, e.out, HB1.out⟩
        case measure => simp [intOf]; omega
      · have hpos : 0 < k := by omega
        have hz : decide (0 < k) = true := decide_eq_true (by omega)
        have p0 : wr.cell? ⟨b, off + (k - 1), none⟩ = some (.string x.ingots[k - 1]) := by
          rw [hb.cell (p := ⟨b, off + (k - 1), none⟩) hbB, hc (k - 1) (by omega), putStr_get x.ingots (k - 1) (by omega)]
        cases hT : ltName x.ingots[k - 1] x.ingots[k]
        · have e : Hid (meltB x = false) := (by rw [es.out]; exact HF.out (stepB_lt hlt hpos hO hT) : meltB x = false)
          have t1 : (!(Op.bytesLess x.ingots[k - 1].toList x.ingots[k].toList)) = true := ltName_spec_f hT
          have HB := Lib.hid hb
          clear hc hsome hnil hb hT h0 h1 h2
          go_wp2_with fail
          refine wp_region_above (by kernel_rfl) (by kernel_rfl) ?_
          repeat (go_big_quiet_step ((first | (go_at_call 110; exact aboveE (spec_l01Name_is _ _ HK.out (by assumption))))))
          refine wpQuiet_nil ?_
          intro w1 b1
          have HB1 := Lib.hid (HB.out.trans (b1.mono HB.out.size)); clear b1 HB
          go_wp2_with fail
          go_ret
          exact ⟨by rw [e.out]; rfl, HB1.out⟩
        · have e : Hid (allK (stepB nameB ltName x.ingots) (k + 1) = true) := (by rw [HS.out, Hall.out, stepB_yes hlt hpos hO hT]; rfl : allK (stepB nameB ltName x.ingots) (k + 1) = true)
          have t1 : (!(Op.bytesLess x.ingots[k - 1].toList x.ingots[k].toList)) = false := ltName_spec_t hT
          have HB := Lib.hid hb
          clear hc hsome hnil hb hT h0 h1 h2
          go_wp2_with fail
          refine wp_region_above (by kernel_rfl) (by kernel_rfl) ?_
          repeat (go_big_quiet_step ((first | (go_at_call 110; exact aboveE (spec_l01Name_is _ _ HK.out (by assumption))))))
          refine wpQuiet_nil ?_
          intro w1 b1
          have HB1 := Lib.hid (HB.out.trans (b1.mono HB.out.size)); clear b1 HB
          go_wp2_with fail
          go_roundw
          case rel => exact ⟨k + 1, by omega, by go_num, e.out, HB1.out⟩
          case measure => simp [intOf]; omega
    · have e : Hid (meltB x = true) := (by
        obtain rfl : k = x.ingots.length := by omega
        rw [es.out]; exact Hall.out : meltB x = true)
      go_wp2
      go_ret
      exact ⟨by rw [e.out]; rfl, hb⟩
end Go.Proofs.Ytnbodmbagendnaa
