/- Contracts and plain facts, joined: Common. -/
import Derived.Test.YtnbodmbagendnaaGreatDoorRows
import Derived.Test.YtnbodmbagendnaaGreatDoorZFnMeltsK
import Derived.Test.YtnbodmbagendnaaGreatDoorZFnMeltsM
namespace Go.Proofs.YtnbodmbagendnaaGreatDoor
open Go.ChangeShapes Go.WideShapes Go.ChangeAt Go.RowKit Go.Deep Go.Joins
set_option linter.unusedVariables false
set_option maxRecDepth 100000
set_option linter.unusedSimpArgs false
def hasB (ys : List ByteArray) (a : ByteArray) : Bool := ys.any (strEq a)
def commonB (xs ys : List ByteArray) : Bool := xs.any (hasB ys)
theorem strEq_comm (a b : ByteArray) : strEq a b = strEq b a := by
  unfold strEq
  rw [Bool.eq_iff_iff, beq_iff_eq, beq_iff_eq]
  exact eq_comm
theorem commonB_comm (xs ys : List ByteArray) : commonB xs ys = commonB ys xs := by
  unfold commonB
  show (xs.any fun a => ys.any fun b => strEq a b) = ys.any fun b => xs.any fun a => strEq b a
  exact any_two strEq strEq (fun a b => strEq_comm a b) xs ys

set_option maxHeartbeats 2000000 in
theorem spec_l14Common {b0 : Bool} (w : World) (a1 o1 a2 o2 : Nat) (v1 v2 : Value) (xs ys : List ByteArray) (g1 : w.cell? ⟨a1, o1 + 1, none⟩ = some v1) (g2 : w.cell? ⟨a2, o2 + 1, none⟩ = some v2) (ha1 : a1 < w.heap.size) (ha2 : a2 < w.heap.size)
    (h1 : Rd w.heap.size w v1 1 xs.length (xs.flatMap putStr)) (h2 : Rd w.heap.size w v2 1 ys.length (ys.flatMap putStr)) (hn : xs.length ≤ 1048576) (hn2 : ys.length ≤ 1048576) (hb0 : commonB xs ys = b0) :
    Calls Tryz.prog 77 #[.pointer (some ⟨a1, o1, none⟩), .pointer (some ⟨a2, o2, none⟩)] w fun e w' => e = .returned (.bool b0) ∧ Below w.heap.size w w' := by
  subst hb0
  obtain ⟨hL, ao, cap, rfl, hcap, hmax, hnil, hsome⟩ := h1
  obtain ⟨hL2, ao2, cap2, rfl, hcap2, hmax2, hnil2, hsome2⟩ := h2
  go_enter Tryz.func77, Tryz.ntmps77
  go_wp2
  go_loopw [5, 6] (fun i u wr => ∃ (k : Nat), k ≤ xs.length ∧ i = .int .i64 k ∧ (xs.take k).any (hasB ys) = false ∧ Below w.heap.size w wr) (fun i _ _ => xs.length - (intOf i).toNat)
  case atStart => exact ⟨0, Nat.zero_le _, rfl, rfl, Below.refl _ _⟩
  case round =>
    obtain ⟨k, hk, rfl, hall, hb⟩ := hrel
    have Hall := Lib.hid hall; clear hall
    have e1 : wr.cell? ⟨a1, o1 + 1, none⟩ = some (.slice ao xs.length cap) := (hb.cell (p := ⟨a1, o1 + 1, none⟩) ha1).trans g1
    by_cases hlt : k < xs.length
    · have hws := hb.size
      go_wp2
      obtain ⟨wo, rfl⟩ : ∃ wo : World, wo = wr := ⟨_, rfl⟩
      go_loopw [6] (fun j wr => ∃ (m : Nat), m ≤ ys.length ∧ j = .int .i64 m ∧ (ys.take m).any (strEq xs[k]) = false ∧ Below w.heap.size w wr) (fun j _ => ys.length - (intOf j).toNat)
      case atStart => exact ⟨0, Nat.zero_le _, rfl, rfl, hb⟩
      case round =>
        clear hb e1
        obtain ⟨m, hm, rfl, hall2, hb⟩ := hrel
        have Hall2 := Lib.hid hall2; clear hall2
        have e1 : wr.cell? ⟨a1, o1 + 1, none⟩ = some (.slice ao xs.length cap) := (hb.cell (p := ⟨a1, o1 + 1, none⟩) ha1).trans g1
        have e2 : wr.cell? ⟨a2, o2 + 1, none⟩ = some (.slice ao2 ys.length cap2) := (hb.cell (p := ⟨a2, o2 + 1, none⟩) ha2).trans g2
        have hw1 : a1 < wr.heap.size := Nat.lt_of_lt_of_le ha1 hb.size
        have hw2 : a2 < wr.heap.size := Nat.lt_of_lt_of_le ha2 hb.size
        by_cases hlt2 : m < ys.length
        · obtain ⟨b, off, rfl, hbB, hc⟩ := hsome (by omega)
          obtain ⟨b2, off2, rfl, hbB2, hc2⟩ := hsome2 (by omega)
          have c0 : wr.cell? ⟨b, off + k, none⟩ = some (.string xs[k]) := by
            rw [hb.cell (p := ⟨b, off + k, none⟩) hbB, hc k (by omega), putStr_get xs k hlt]
          have d0 : wr.cell? ⟨b2, off2 + m, none⟩ = some (.string ys[m]) := by
            rw [hb.cell (p := ⟨b2, off2 + m, none⟩) hbB2, hc2 m (by omega), putStr_get ys m hlt2]
          have hbr : b < wr.heap.size := Nat.lt_of_lt_of_le hbB hb.size
          have hbr2 : b2 < wr.heap.size := Nat.lt_of_lt_of_le hbB2 hb.size
          have HB := Lib.hid hb
          clear hc hc2 hsome hsome2 hnil hnil2 hb g1 g2
          cases hE : strEq xs[k] ys[m]
          · have e : Hid ((ys.take (m + 1)).any (strEq xs[k]) = false) := (by rw [any_take ys m hlt2, Hall2.out, hE]; rfl : (ys.take (m + 1)).any (strEq xs[k]) = false)
            have t1 := strEq_f hE
            clear hE
            go_wp2_with fail
            refine wp_region_above (by kernel_rfl) (by kernel_rfl) ?_
            repeat (go_big_quiet_step (fail))
            refine wpQuiet_nil ?_
            intro w1 b1
            have HB1 := Lib.hid (HB.out.trans (b1.mono HB.out.size)); clear b1 HB
            go_wp2_with fail
            go_roundw
            case rel => exact ⟨m + 1, by omega, by go_num, e.out, HB1.out⟩
            case measure => simp [intOf]; omega
          · have e : Hid (commonB xs ys = true) := (any_at xs k hlt (any_at ys m hlt2 hE) : commonB xs ys = true)
            have t1 := strEq_t hE
            clear hE
            go_wp2_with fail
            refine wp_region_above (by kernel_rfl) (by kernel_rfl) ?_
            repeat (go_big_quiet_step (fail))
            refine wpQuiet_nil ?_
            intro w1 b1
            have HB1 := Lib.hid (HB.out.trans (b1.mono HB.out.size)); clear b1 HB
            go_wp2_with fail
            go_ret
            exact ⟨by rw [e.out]; rfl, HB1.out⟩
        · have e : Hid ((xs.take (k + 1)).any (hasB ys) = false) := (by rw [any_take xs k hlt, Hall.out]; exact any_full Hall2.out (by omega) : (xs.take (k + 1)).any (hasB ys) = false)
          have HB := Lib.hid hb; clear hb
          go_wp2
          go_roundw
          case rel => exact ⟨k + 1, by omega, by go_num, e.out, HB.out⟩
          case measure => simp [intOf]; omega
    · have e : Hid (commonB xs ys = false) := (any_full Hall.out (by omega) : commonB xs ys = false)
      have HB := Lib.hid hb; clear hb
      go_wp2
      go_ret
      exact ⟨by rw [e.out]; rfl, HB.out⟩

set_option maxHeartbeats 1000000 in
theorem slices_Index_str (w : World) (v : Value) (xs : List ByteArray) (a : ByteArray) (h : Rd w.heap.size w v 1 xs.length (xs.flatMap putStr)) (hn : xs.length ≤ 1048576) :
    Calls Tryz.prog 88 #[v, .string a] w fun e w' => (∃ r : Int, e = .returned (.int .i64 r) ∧ decide (0 ≤ r) = hasB xs a) ∧ Below w.heap.size w w' := by
  obtain ⟨hL, ao, cap, rfl, hcap, hmax, hnil, hsome⟩ := h
  go_enter Tryz.func88, Tryz.ntmps88
  go_wp2
  go_loopw [8] (fun i wr => ∃ (k : Nat), k ≤ xs.length ∧ i = .int .i64 k ∧ (xs.take k).any (strEq a) = false ∧ Below w.heap.size w wr) (fun i _ => xs.length - (intOf i).toNat)
  case atStart => exact ⟨0, Nat.zero_le _, rfl, rfl, Below.refl _ _⟩
  case round =>
    obtain ⟨k, hk, rfl, hall, hb⟩ := hrel
    have Hall := Lib.hid hall; clear hall
    by_cases hlt : k < xs.length
    · obtain ⟨b, off, rfl, hbB, hc⟩ := hsome (by omega)
      have c0 : wr.cell? ⟨b, off + k, none⟩ = some (.string xs[k]) := by
        rw [hb.cell (p := ⟨b, off + k, none⟩) hbB, hc k (by omega), putStr_get xs k hlt]
      have HB := Lib.hid hb
      clear hc hsome hnil hb
      cases hE : strEq a xs[k]
      · have e : Hid ((xs.take (k + 1)).any (strEq a) = false) := (by rw [any_take xs k hlt, Hall.out, hE]; rfl : (xs.take (k + 1)).any (strEq a) = false)
        have t1 := strEq_f hE
        clear hE
        go_wp2_with fail
        go_roundw
        case rel => exact ⟨k + 1, by omega, by go_num, e.out, HB.out⟩
        case measure => simp [intOf]; omega
      · have e : Hid (hasB xs a = true) := (any_at xs k hlt hE : hasB xs a = true)
        have t1 := strEq_t hE
        clear hE
        go_wp2_with fail
        go_ret
        exact ⟨⟨_, rfl, by rw [e.out]; simp⟩, HB.out⟩
    · have e : Hid (hasB xs a = false) := (any_full Hall.out (by omega) : hasB xs a = false)
      have HB := Lib.hid hb; clear hb
      go_wp2
      go_ret
      exact ⟨⟨_, rfl, by rw [e.out]; rfl⟩, HB.out⟩

theorem slices_Contains_str (w : World) (v : Value) (xs : List ByteArray) (a : ByteArray) (h : Rd w.heap.size w v 1 xs.length (xs.flatMap putStr)) (hn : xs.length ≤ 1048576) :
    Calls Tryz.prog 64 #[v, .string a] w fun e w' => e = .returned (.bool (hasB xs a)) ∧ Below w.heap.size w w' := by
  have H2 := Lib.hid (slices_Index_str w v xs a h hn)
  clear h
  go_enter Tryz.func64, Tryz.ntmps64
  go_wp2_with fail
  refine H2.out.mono ?_; rintro e w1 ⟨⟨r, rfl, hr⟩, b1⟩
  have Hr := Lib.hid hr; clear hr
  go_wp2_with fail
  go_ret
  exact ⟨by rw [← Hr.out]; rfl, b1⟩

theorem impl_shares1 (w : World) (a : ByteArray) (g : Nat) (v : Value) (ys : List ByteArray) (hg : w.cell? ⟨g, 1, none⟩ = some v) (h : Rd w.heap.size w v 1 ys.length (ys.flatMap putStr)) (hn : ys.length ≤ 1048576) :
    Calls Tryz.prog 63 #[.string a, .pointer (some ⟨g, 0, none⟩)] w fun e w' => e = .returned (.bool (hasB ys a)) ∧ Below w.heap.size w w' := by
  have H2 := Lib.hid (slices_Contains_str w v ys a h hn)
  obtain ⟨lo, lc, rfl⟩ := h.form
  clear h
  go_enter Tryz.func63, Tryz.ntmps63
  go_wp2_with fail
  refine H2.out.mono ?_; rintro e w1 ⟨rfl, b1⟩
  go_wp2_with fail
  go_ret
  exact ⟨rfl, b1⟩

set_option maxHeartbeats 1000000 in
theorem IndexFunc_shares (g : Nat) (w : World) (v : Value) (xs : List ByteArray) (p : ByteArray → Bool) (h : Rd w.heap.size w v 1 xs.length (xs.flatMap putStr)) (hn : xs.length ≤ 1048576)
    (H : ∀ (wr : World) (hb : Below w.heap.size w wr) (k : Nat) (hk : k < xs.length), Calls Tryz.prog 63 #[.string xs[k], .pointer (some ⟨g, 0, none⟩)] wr fun e w' => e = .returned (.bool (p xs[k])) ∧ Below wr.heap.size wr w') :
    Calls Tryz.prog 87 #[v, .func (.func 63) #[] #[.pointer (some ⟨g, 0, none⟩)]] w fun e w' => (∃ r : Int, e = .returned (.int .i64 r) ∧ decide (0 ≤ r) = xs.any p) ∧ Below w.heap.size w w' := by
  obtain ⟨hL, ao, cap, rfl, hcap, hmax, hnil, hsome⟩ := h
  go_enter Tryz.func87, Tryz.ntmps87
  have HH := Lib.hid H; clear H
  go_wp2
  go_loopw [8] (fun i wr => ∃ (k : Nat), k ≤ xs.length ∧ i = .int .i64 k ∧ (xs.take k).any p = false ∧ Below w.heap.size w wr) (fun i _ => xs.length - (intOf i).toNat)
  case atStart => exact ⟨0, Nat.zero_le _, rfl, rfl, Below.refl _ _⟩
  case round =>
    obtain ⟨k, hk, rfl, hall, hb⟩ := hrel
    have Hall := Lib.hid hall; clear hall
    by_cases hlt : k < xs.length
    · obtain ⟨b, off, rfl, hbB, hc⟩ := hsome (by omega)
      have c0 : wr.cell? ⟨b, off + k, none⟩ = some (.string xs[k]) := by rw [hb.cell (p := ⟨b, off + k, none⟩) hbB, hc k (by omega), putStr_get xs k hlt]
      have hbr : b < wr.heap.size := Nat.lt_of_lt_of_le hbB hb.size
      have HC := Lib.hid (HH.out wr hb k hlt); clear HH
      have HB := Lib.hid hb
      clear hc hsome hnil hb 
      cases hO : p xs[k]
      all_goals rw [hO] at HC
      · have e : Hid ((xs.take (k + 1)).any p = false) := (by rw [any_take xs k hlt, Hall.out, hO]; rfl : (xs.take (k + 1)).any p = false)
        clear hO
        go_wp2_with fail
        go_at_call 63
        refine HC.out.mono ?_; rintro e1 w1 ⟨rfl, b1⟩
        have HB1 := Lib.hid (HB.out.trans (b1.mono HB.out.size)); clear b1 HB
        go_wp2_with fail
        go_roundw
        case rel => exact ⟨k + 1, by omega, by go_num, e.out, HB1.out⟩
        case measure => simp [intOf]; omega
      · have e : Hid (xs.any p = true) := (any_at xs k hlt hO : xs.any p = true)
        clear hO
        go_wp2_with fail
        go_at_call 63
        refine HC.out.mono ?_; rintro e1 w1 ⟨rfl, b1⟩
        have HB1 := Lib.hid (HB.out.trans (b1.mono HB.out.size)); clear b1 HB
        go_wp2_with fail
        go_ret
        exact ⟨⟨_, rfl, by rw [e.out]; simp⟩, HB1.out⟩
    · have e : Hid (xs.any p = false) := (by
        have := Hall.out
        rwa [List.take_of_length_le (by omega)] at this : xs.any p = false)
      clear HH
      go_wp2
      go_ret
      exact ⟨⟨_, rfl, by rw [e.out]; rfl⟩, hb⟩

theorem ContainsFunc_shares (g : Nat) (w : World) (v : Value) (xs : List ByteArray) (p : ByteArray → Bool) (h : Rd w.heap.size w v 1 xs.length (xs.flatMap putStr)) (hn : xs.length ≤ 1048576)
    (H : ∀ (wr : World) (hb : Below w.heap.size w wr) (k : Nat) (hk : k < xs.length), Calls Tryz.prog 63 #[.string xs[k], .pointer (some ⟨g, 0, none⟩)] wr fun e w' => e = .returned (.bool (p xs[k])) ∧ Below wr.heap.size wr w') :
    Calls Tryz.prog 62 #[v, .func (.func 63) #[] #[.pointer (some ⟨g, 0, none⟩)]] w fun e w' => e = .returned (.bool (xs.any p)) ∧ Below w.heap.size w w' := by
  have H2 := Lib.hid (IndexFunc_shares g w v xs p h hn H)
  clear h H
  go_enter Tryz.func62, Tryz.ntmps62
  go_wp2_with fail
  refine H2.out.mono ?_; rintro e w1 ⟨⟨r, rfl, hr⟩, b1⟩
  have Hr := Lib.hid hr; clear hr
  go_wp2_with fail
  go_ret
  exact ⟨by rw [← Hr.out]; rfl, b1⟩

set_option maxHeartbeats 1000000 in
theorem impl_shares {b0 : Bool} (x y : Melt) (l1 l2 : Value) (w : World) (h1 : Rd w.heap.size w l1 1 x.ingots.length (x.ingots.flatMap putStr)) (h2 : Rd w.heap.size w l2 1 y.ingots.length (y.ingots.flatMap putStr)) (hn : x.ingots.length ≤ 1048576) (hn2 : y.ingots.length ≤ 1048576) (hb0 : commonB x.ingots y.ingots = b0) :
    Calls Tryz.prog 27 #[.agg #[.string x.id, l1, .int .i64 x.mass], .agg #[.string y.id, l2, .int .i64 y.mass]] w fun e w' => e = .returned (.bool b0) ∧ Below w.heap.size w w' := by
  subst hb0
  obtain ⟨lo, lc, rfl⟩ := h1.form
  obtain ⟨lo2, lc2, rfl⟩ := h2.form
  have H1 := Lib.hid h1; clear h1
  have H2 := Lib.hid h2; clear h2
  have hM : Hid (Own ((w.alloc (Obj.cells #[Value.string x.id, Value.slice lo x.ingots.length lc, Value.int IntKind.i64 x.mass] 28)).alloc (Obj.cells #[Value.string y.id, Value.slice lo2 y.ingots.length lc2, Value.int IntKind.i64 y.mass] 28)) (w.heap.size + 1) 28 [Value.string y.id, Value.slice lo2 y.ingots.length lc2, Value.int IntKind.i64 y.mass]) :=
    Own.newAt _ _ (by simp)
  go_enter Tryz.func27, Tryz.ntmps27
  go_wp2_with fail
  refine (ContainsFunc_shares (w.heap.size + 1) _ _ x.ingots (hasB y.ingots) (by exact H1.out.up (by (repeat' (first | (with_reducible exact Below.refl _ _) | (with_reducible assumption) | (with_reducible refine below_dn ?_ _) | (with_reducible refine Below.drew ?_) | (with_reducible refine Below.alloc ?_ ?_ _) | (with_reducible refine Below.setCell ?_ ?_ _) | go_size)))) hn ?_).mono ?_
  · intro wr hb k hk
    exact impl_shares1 wr _ _ _ y.ingots ((hM.out.below hb hM.out.lt).cell 1) (by exact H2.out.up (Below.trans (by (repeat' (first | (with_reducible exact Below.refl _ _) | (with_reducible assumption) | (with_reducible refine below_dn ?_ _) | (with_reducible refine Below.drew ?_) | (with_reducible refine Below.alloc ?_ ?_ _) | (with_reducible refine Below.setCell ?_ ?_ _) | go_size))) (hb.mono (by simp <;> omega)))) hn2
  rintro e w1 ⟨rfl, b1⟩
  go_wp2_with fail
  go_ret
  exact ⟨rfl, Below.trans (by (repeat' (first | (with_reducible exact Below.refl _ _) | (with_reducible assumption) | (with_reducible refine below_dn ?_ _) | (with_reducible refine Below.drew ?_) | (with_reducible refine Below.alloc ?_ ?_ _) | (with_reducible refine Below.setCell ?_ ?_ _) | go_size))) (b1.mono (by simp <;> omega))⟩
end Go.Proofs.YtnbodmbagendnaaGreatDoor
