/- Contracts and plain facts, joined: MarkRows, HRing, MarkRing. -/
import Derived.Test.YtcjekailcljaaaaGreatRows
import Derived.Test.YtcjekailcljaaaaGreatZFnExactGreedyPlanB
import Derived.Test.YtcjekailcljaaaaGreatZFnExactGreedyPlanD
import Derived.Test.YtcjekailcljaaaaGreatZFnExactGreedyPlanH
import Derived.Test.YtcjekailcljaaaaGreatZFnExactGreedyPlanI
namespace Go.Proofs.YtcjekailcljaaaaGreat
open Go.ChangeShapes Go.WideShapes Go.ChangeAt Go.RowKit Go.Deep Go.Joins
set_option linter.unusedVariables false
set_option maxRecDepth 100000
set_option linter.unusedSimpArgs false
def RowsIn (lo hi : Nat) (w : World) (g : Nat) (ys xs : List Row) : Prop := RowsAt w g ys xs ∧ lo ≤ g ∧ g < hi ∧ ∀ y ∈ ys, ∀ b n c, y.1 = .slice (some ⟨b, 0, none⟩) n c → b < hi
theorem RowsIn.turn {lo hi lo' hi' : Nat} {w w' : World} {g : Nat} {ys xs : List Row} (h : RowsIn lo hi w g ys xs) (t : Turn lo' hi' w w') (hd : hi ≤ lo' ∨ hi' ≤ lo) : RowsIn lo hi w' g ys xs := by
  obtain ⟨⟨h1, h2, h3⟩, h4, h5, h6⟩ := h
  refine ⟨⟨h1.turn t (by omega), h2, fun y hy => ?_⟩, h4, h5, h6⟩
  obtain ⟨g', e1, e2, e3⟩ := h3 y hy
  have := h6 y hy _ _ _ e1
  exact ⟨g', e1, e2, e3.turn t (by omega)⟩
theorem wtRows_said {ys xs : List Row} (h : ys.map Prod.snd = xs.map Prod.snd) : wtRows ys = wtRows xs := by
  have e : ∀ zs : List Row, wtRows zs = ((zs.map Prod.snd).map List.length).sum := fun zs => by unfold wtRows; rw [List.map_map]; rfl
  rw [e, e, h]
set_option maxHeartbeats 2000000 in
theorem markRows (k : Int) (w : World) (lo hi g : Nat) (ys xs : List Row) (h : RowsIn lo hi w g ys xs) (hn : xs.length ≤ 1048576) (hc : wtRows xs ≤ 1048576) (h1 : 1 ≤ k) (hk : k ≤ 268435456) :
    Calls Tryz.prog 47 #[.slice (some ⟨g, 0, none⟩) xs.length xs.length, .int .i64 k] w fun e w' => e = .returned (.int .i64 (k + (wtRows xs : Int))) ∧ Turn lo hi w w' := by
  obtain ⟨⟨ho, hs, hm⟩, hlo, hhi, hin⟩ := h
  have hl := rowLen hs
  have hcs := wtRows_said hs
  rw [← hl]
  rw [← hcs] at hc ⊢
  have hn' : ys.length ≤ 1048576 := by omega
  clear hl hcs hs hn
  have HM := Lib.hid hm; clear hm
  have HIN := Lib.hid hin; clear hin
  have HO0 := Lib.hid ho; clear ho
  go_enter Tryz.func47, Tryz.ntmps47
  go_wp2
  go_loopw [1, 5] (fun q i wr => ∃ (j : Nat), j ≤ ys.length ∧ i = .int .i64 j ∧ q = .int .i64 (k + (wtRows (ys.take j) : Int)) ∧ Own wr g 22 (ys.flatMap putV) ∧ Turn lo hi w wr) (fun _ i _ => ys.length - (intOf i).toNat)
  case atStart => exact ⟨0, Nat.zero_le _, rfl, by simp [wtRows], HO0.out, Turn.refl _ _ _⟩
  case round =>
    obtain ⟨j, hj, rfl, rfl, ho, ht⟩ := hrel
    by_cases hlt : j < ys.length
    · have hct := wtRows_le ys j
      have hcn := wtRows_le ys (j + 1)
      have hcs := wtRows_succ ys j hlt
      obtain ⟨gy, y1, y2, y3⟩ := HM.out ys[j] (List.getElem_mem hlt)
      have y4 := HIN.out ys[j] (List.getElem_mem hlt) _ _ _ y1
      obtain ⟨L1, hL1, o1⟩ := ht.shape y3
      rw [putI_len] at hL1
      obtain ⟨q, hq, hq1, hq2⟩ : ∃ q : Int, k + (wtRows (ys.take j) : Int) = q ∧ 1 ≤ q ∧ q ≤ 300000000 := ⟨_, rfl, by omega, by omega⟩
      have c0 : wr.cell? ⟨g, j, none⟩ = some (.slice (some ⟨gy, 0, none⟩) ys[j].2.length ys[j].2.length) := by rw [ho.cell, putV_get ys j hlt, y1]
      obtain ⟨r, hr⟩ : ∃ r, ys[j].2.length = r := ⟨_, rfl⟩
      rw [hr] at c0 hL1 hcs y1
      have e2 : Hid (k + (wtRows (ys.take (j + 1)) : Int) = q + 1 * (r : Int)) := Lib.hid (by omega)
      have hni : r ≤ 1048576 := by omega
      rw [hq]
      have HT := Lib.hid ht
      have HO := Lib.hid ho
      have gl := ho.lt
      have HL := Lib.hid (Held.of_own (n := r) (s := 1) o1 (by omega) (by unfold maxLen; omega))
      have HMK := Lib.hid (markInt64S q wr gy (gy + 1) _ r L1 HL.out hni (by omega) (by omega))
      clear ho ht hq hcs hcn hct y1 y3 o1 hL1 HO0 hr
      go_wp2_with fail
      refine HMK.out.mono ?_; rintro e w2 ⟨rfl, t2, _⟩
      have hT3 := Lib.hid (HT.out.trans (t2.wide (by omega) (by omega)))
      have hO3 := Lib.hid (HO.out.turn t2 (.inl y2))
      clear t2 HMK HL HT HO
      go_wp2_with fail
      go_roundw
      case rel => exact ⟨j + 1, by omega, by go_num, by rw [e2.out] <;> go_num, hO3.out, hT3.out⟩
      case measure => simp [intOf]; omega
    · have hjn : j = ys.length := by omega
      subst hjn
      have e1 : Hid (ys.take ys.length = ys) := (List.take_length : ys.take ys.length = ys)
      have HT := Lib.hid ht; clear ht ho HO0
      go_wp2
      go_ret
      exact ⟨by rw [e1.out]; rfl, HT.out⟩
end Go.Proofs.YtcjekailcljaaaaGreat
namespace Go.Proofs.YtcjekailcljaaaaGreat
open Go.ChangeShapes Go.WideShapes Go.ChangeAt Go.RowKit Go.Deep Go.Joins
set_option linter.unusedVariables false
set_option maxRecDepth 100000
set_option linter.unusedSimpArgs false
theorem Ring_len (xs : List Ring) : (xs.flatMap Ring.put).length = xs.length * 3 := flat_len xs (fun _ _ => rfl)
theorem Ring_get0 (xs : List Ring) (k : Nat) (h : k < xs.length) : (xs.flatMap Ring.put)[k * 3 + 0]? = some (.int .i64 xs[k].outer) := by
  rw [flat_get (f := Ring.put) (s := 3) xs (fun _ _ => rfl) (j := 0) (by omega) k, List.getElem?_eq_getElem h]
  rfl
theorem Ring_get1 (xs : List Ring) (k : Nat) (h : k < xs.length) : (xs.flatMap Ring.put)[k * 3 + 1]? = some (.int .i64 xs[k].inner) := by
  rw [flat_get (f := Ring.put) (s := 3) xs (fun _ _ => rfl) (j := 1) (by omega) k, List.getElem?_eq_getElem h]
  rfl
theorem Ring_get2 (xs : List Ring) (k : Nat) (h : k < xs.length) : (xs.flatMap Ring.put)[k * 3 + 2]? = some (.int .i64 xs[k].height) := by
  rw [flat_get (f := Ring.put) (s := 3) xs (fun _ _ => rfl) (j := 2) (by omega) k, List.getElem?_eq_getElem h]
  rfl
theorem Ring_info : (Tryz.prog.info? 123).map (fun i => (i.zero, i.size, i.bytes)) = some (some (.agg #[.int .i64 0, .int .i64 0, .int .i64 0]), 3, 24) := by kernel_rfl

theorem toRing (x : Ring) (w : World) : Calls Tryz.prog 71 #[.agg #[.int .i64 x.outer, .int .i64 x.inner, .int .i64 x.height]] w fun e w' => e = .returned (.agg #[.int .i64 x.outer, .int .i64 x.inner, .int .i64 x.height]) ∧ Below w.heap.size w w' := by
  go_enter Tryz.func71, Tryz.ntmps71
  go_wp2
  go_returns
  exact ⟨rfl, by (repeat' (first | (with_reducible exact Below.refl _ _) | (with_reducible assumption) | (with_reducible refine below_dn ?_ _) | (with_reducible refine Below.drew ?_) | (with_reducible refine Below.alloc ?_ ?_ _) | (with_reducible refine Below.setCell ?_ ?_ _) | go_size))⟩


theorem toRingS (w : World) (v : Value) (xs : List Ring) (h : Rd w.heap.size w v 3 xs.length (xs.flatMap Ring.put)) (hn : xs.length ≤ 1048576) :
    Calls Tryz.prog 36 #[v] w fun e w' => ∃ g, e = .returned (.slice (some ⟨g, 0, none⟩) xs.length xs.length) ∧ w.heap.size ≤ g ∧ Own w' g 123 (xs.flatMap Ring.put) ∧ Below w.heap.size w w' := by
  obtain ⟨hL, ao, cap, rfl, hcap, hmax, hnil, hsome⟩ := h
  obtain ⟨i0, hi, hz0, hz1, hz2⟩ := info_parts Ring_info
  go_enter Tryz.func36, Tryz.ntmps36
  go_wp2_with (at_make; refine wpList_make_blk _ rfl _ _ 41 rfl 123 i0 (.agg #[.int .i64 0, .int .i64 0, .int .i64 0]) 3 24 Tryz.underlying41 hi hz0 hz1 hz2 _ _ _ _ xs.length rfl rfl rfl rfl (by omega) (by unfold maxLen; omega) ?_; intro w1 ho hb hs)
  have hml := made_len (Value.agg #[.int .i64 0, .int .i64 0, .int .i64 0]).cells (xs.length * 3)
  go_loopw [4] (fun i wr => ∃ (k : Nat) (U : List Value), k ≤ xs.length ∧ i = .int .i64 k ∧ U.length = (xs.length - k) * 3 ∧ Own wr w.heap.size 123 ((xs.take k).flatMap Ring.put ++ U) ∧ Below w.heap.size w wr) (fun i _ => xs.length - (intOf i).toNat)
  case atStart => exact ⟨0, _, Nat.zero_le _, rfl, by rw [Nat.sub_zero]; exact hml, by simpa using ho, hb⟩
  case round =>
    clear ho hb hs hml hi hz0 hz1 hz2
    obtain ⟨k, U, hk, rfl, hU, ho, hb⟩ := hrel
    by_cases hlt : k < xs.length
    · obtain ⟨b, off, rfl, hbB, hc⟩ := hsome (by omega)
      obtain ⟨t0, t1, t2, U, rfl, hU2⟩ := cons3 hU (by omega)
      have hA : ((xs.take k).flatMap Ring.put).length = k * 3 := by rw [Ring_len, List.length_take]; congr 1; omega
      have c0 : wr.cell? ⟨b, off + k * 3, none⟩ = some (.int .i64 xs[k].outer) := by
        rw [show off + k * 3 = off + (k * 3 + 0) from by omega, hb.cell (p := ⟨b, off + (k * 3 + 0), none⟩) hbB, hc (k * 3 + 0) (by omega), Ring_get0 xs k hlt]
      have c1 : wr.cell? ⟨b, off + k * 3 + 1, none⟩ = some (.int .i64 xs[k].inner) := by
        rw [show off + k * 3 + 1 = off + (k * 3 + 1) from by omega, hb.cell (p := ⟨b, off + (k * 3 + 1), none⟩) hbB, hc (k * 3 + 1) (by omega), Ring_get1 xs k hlt]
      have c2 : wr.cell? ⟨b, off + k * 3 + 2, none⟩ = some (.int .i64 xs[k].height) := by
        rw [show off + k * 3 + 2 = off + (k * 3 + 2) from by omega, hb.cell (p := ⟨b, off + (k * 3 + 2), none⟩) hbB, hc (k * 3 + 2) (by omega), Ring_get2 xs k hlt]
      have HB := Lib.hid hb
      have HO := Lib.hid ho
      have HC := Lib.hid hc
      have HA := Lib.hid hA
      have HU := Lib.hid hU2
      clear hc ho hb hA hsome hnil hU hU2
      go_wp2_with fail
      refine (toRing xs[k] _).mono ?_; rintro e w1 ⟨rfl, b1⟩
      have ho1 := HO.out.below b1 HO.out.lt
      have hA := HA.out
      have d0 : w1.cell? ⟨w.heap.size, k * 3, none⟩ = some t0 := by
        rw [ho1.cell, List.getElem?_append_right (by omega), hA]
        simp
      have d1 : w1.cell? ⟨w.heap.size, k * 3 + 1, none⟩ = some t1 := by
        rw [ho1.cell, List.getElem?_append_right (by omega), hA]
        simp
      have d2 : w1.cell? ⟨w.heap.size, k * 3 + 2, none⟩ = some t2 := by
        rw [ho1.cell, List.getElem?_append_right (by omega), hA]
        simp
      have f0 := ho1.free (k * 3)
      have f1 := ho1.free (k * 3 + 1)
      have f2 := ho1.free (k * 3 + 2)
      have o1 := (((ho1.set (k * 3) (.int .i64 xs[k].outer)).set (k * 3 + 1) (.int .i64 xs[k].inner)).set (k * 3 + 2) (.int .i64 xs[k].height))
      rw [set3 _ _ _ _ _ _ _ _ _ hA] at o1
      have hb := HB.out
      have O1 := Lib.hid o1
      have HB1 := Lib.hid (Below.setCell (Below.setCell (Below.setCell (hb.trans (b1.mono hb.size)) (p := ⟨w.heap.size, k * 3, none⟩) (Nat.le_refl _) (.int .i64 xs[k].outer)) (p := ⟨w.heap.size, k * 3 + 1, none⟩) (Nat.le_refl _) (.int .i64 xs[k].inner)) (p := ⟨w.heap.size, k * 3 + 2, none⟩) (Nat.le_refl _) (.int .i64 xs[k].height))
      clear ho1 o1 hA hb b1 HO HB c0 c1 c2
      go_wp2_with fail
      go_roundw
      case rel => exact ⟨k + 1, U, by omega, by go_num, by have := HU.out; omega, by rw [set_snoc Ring.put xs k hlt]; exact O1.out, HB1.out⟩
      case measure => simp [intOf]; omega
    · have e : Hid (k = xs.length) := (by omega : k = xs.length)
      have HO := Lib.hid ho
      clear ho
      go_wp2
      go_ret
      refine ⟨w.heap.size, rfl, Nat.le_refl _, ?_, hb⟩
      have ho := HO.out
      obtain rfl := e.out
      have : U = [] := List.eq_nil_of_length_eq_zero (by rw [hU]; omega)
      subst this
      simpa using ho

theorem eqRing (x : Ring) (w : World) : Calls Tryz.prog 89 #[.agg #[.int .i64 x.outer, .int .i64 x.inner, .int .i64 x.height], .agg #[.int .i64 x.outer, .int .i64 x.inner, .int .i64 x.height]] w fun e w' => e = .returned (.bool true) ∧ Below w.heap.size w w' := by
  go_enter Tryz.func89, Tryz.ntmps89
  repeat (go_wp2_with fail; go_quiet (fail))
  go_wp2_with fail
  go_ret
  exact ⟨rfl, by (repeat' (first | (with_reducible exact Below.refl _ _) | (with_reducible assumption) | (with_reducible refine below_dn ?_ _) | (with_reducible refine Below.drew ?_) | (with_reducible refine Below.alloc ?_ ?_ _) | (with_reducible refine Below.setCell ?_ ?_ _) | go_size))⟩
theorem eqRingS (w : World) (v1 v2 : Value) (xs : List Ring) (h1 : Rd w.heap.size w v1 3 xs.length (xs.flatMap Ring.put)) (h2 : Rd w.heap.size w v2 3 xs.length (xs.flatMap Ring.put)) (hn : xs.length ≤ 1048576) :
    Calls Tryz.prog 45 #[v1, v2] w fun e w' => e = .returned (.bool true) ∧ Below w.heap.size w w' := by
  obtain ⟨hL, ao, cap, rfl, hcap, hmax, hnil, hsome⟩ := h1
  obtain ⟨hL2, ao2, cap2, rfl, hcap2, hmax2, hnil2, hsome2⟩ := h2
  go_enter Tryz.func45, Tryz.ntmps45
  go_wp2
  go_loopw [5] (fun i wr => ∃ (k : Nat), k ≤ xs.length ∧ i = .int .i64 k ∧ Below w.heap.size w wr) (fun i _ => xs.length - (intOf i).toNat)
  case atStart => exact ⟨0, Nat.zero_le _, rfl, Below.refl _ _⟩
  case round =>
    obtain ⟨k, hk, rfl, hb⟩ := hrel
    by_cases hlt : k < xs.length
    · obtain ⟨b, off, rfl, hbB, hc⟩ := hsome (by omega)
      obtain ⟨b2, off2, rfl, hbB2, hc2⟩ := hsome2 (by omega)
      have c0 : wr.cell? ⟨b, off + k * 3, none⟩ = some (.int .i64 xs[k].outer) := by
        rw [show off + k * 3 = off + (k * 3 + 0) from by omega, hb.cell (p := ⟨b, off + (k * 3 + 0), none⟩) hbB, hc (k * 3 + 0) (by omega), Ring_get0 xs k hlt]
      have c1 : wr.cell? ⟨b, off + k * 3 + 1, none⟩ = some (.int .i64 xs[k].inner) := by
        rw [show off + k * 3 + 1 = off + (k * 3 + 1) from by omega, hb.cell (p := ⟨b, off + (k * 3 + 1), none⟩) hbB, hc (k * 3 + 1) (by omega), Ring_get1 xs k hlt]
      have c2 : wr.cell? ⟨b, off + k * 3 + 2, none⟩ = some (.int .i64 xs[k].height) := by
        rw [show off + k * 3 + 2 = off + (k * 3 + 2) from by omega, hb.cell (p := ⟨b, off + (k * 3 + 2), none⟩) hbB, hc (k * 3 + 2) (by omega), Ring_get2 xs k hlt]
      have d0 : wr.cell? ⟨b2, off2 + k * 3, none⟩ = some (.int .i64 xs[k].outer) := by
        rw [show off2 + k * 3 = off2 + (k * 3 + 0) from by omega, hb.cell (p := ⟨b2, off2 + (k * 3 + 0), none⟩) hbB2, hc2 (k * 3 + 0) (by omega), Ring_get0 xs k hlt]
      have d1 : wr.cell? ⟨b2, off2 + k * 3 + 1, none⟩ = some (.int .i64 xs[k].inner) := by
        rw [show off2 + k * 3 + 1 = off2 + (k * 3 + 1) from by omega, hb.cell (p := ⟨b2, off2 + (k * 3 + 1), none⟩) hbB2, hc2 (k * 3 + 1) (by omega), Ring_get1 xs k hlt]
      have d2 : wr.cell? ⟨b2, off2 + k * 3 + 2, none⟩ = some (.int .i64 xs[k].height) := by
        rw [show off2 + k * 3 + 2 = off2 + (k * 3 + 2) from by omega, hb.cell (p := ⟨b2, off2 + (k * 3 + 2), none⟩) hbB2, hc2 (k * 3 + 2) (by omega), Ring_get2 xs k hlt]
      have HB := Lib.hid hb
      clear hc hc2 hsome hsome2 hnil hnil2 hb
      go_wp2_with fail
      have hbr : b < wr.heap.size := Nat.lt_of_lt_of_le hbB HB.out.size
      have hbr2 : b2 < wr.heap.size := Nat.lt_of_lt_of_le hbB2 HB.out.size
      refine wp_region_above (by kernel_rfl) (by kernel_rfl) ?_
      repeat (go_big_quiet_step ((go_at_call 89; exact aboveC (eqRing xs[k] _))))
      refine wpQuiet_nil ?_
      intro w1 b1
      have HB1 := Lib.hid (HB.out.trans (b1.mono HB.out.size)); clear b1 HB
      go_wp2_with fail
      go_roundw
      case rel => exact ⟨k + 1, by omega, by go_num, HB1.out⟩
      case measure => simp [intOf]; omega
    · go_wp2
      go_ret
      exact ⟨rfl, hb⟩


theorem szRingS (w : World) (v : Value) (xs : List Ring) (left : Int) (B : Nat) (h : Rd B w v 3 xs.length (xs.flatMap Ring.put)) (hm : xs.length ≤ maxLen) (h0 : 0 ≤ left) (h1 : left ≤ 1048576) :
    Calls Tryz.prog 28 #[v, .int .i64 left] w fun e w' => e = .returned (.int .i64 (szR left xs.length)) ∧ w = w' := by
  obtain ⟨hL, ao, cap, rfl, hcap, hmax, hnil, hsome⟩ := h
  unfold maxLen at hm
  clear hsome hnil
  by_cases hn : (xs.length : Int) ≤ left
  · have e : Hid (szR left xs.length = left - xs.length) := (if_pos hn : szR left xs.length = left - xs.length)
    go_enter Tryz.func28, Tryz.ntmps28
    go_wp2
    go_ret
    exact ⟨by rw [e.out]; rfl, rfl⟩
  · have e : Hid (szR left xs.length = -1) := (if_neg hn : szR left xs.length = -1)
    go_enter Tryz.func28, Tryz.ntmps28
    go_wp2
    go_ret
    exact ⟨by rw [e.out]; rfl, rfl⟩
end Go.Proofs.YtcjekailcljaaaaGreat
namespace Go.Proofs.YtcjekailcljaaaaGreat
open Go.ChangeShapes Go.WideShapes Go.ChangeAt Go.RowKit Go.Deep Go.Joins
set_option linter.unusedVariables false
set_option maxRecDepth 100000
set_option linter.unusedSimpArgs false
def marksRing (k : Int) (n : Nat) : List Value := (List.range n).flatMap fun i => [.int .i64 (k + 3 * (i : Nat)), .int .i64 (k + 3 * (i : Nat) + 1), .int .i64 (k + 3 * (i : Nat) + 1 + 1)]
theorem marksRing_succ (k : Int) (j : Nat) : marksRing k (j + 1) = marksRing k j ++ [.int .i64 (k + 3 * (j : Nat)), .int .i64 (k + 3 * (j : Nat) + 1), .int .i64 (k + 3 * (j : Nat) + 1 + 1)] ∧ (marksRing k j).length = j * 3 := marks_succ (s := 3) _ (fun _ => rfl) j
set_option maxHeartbeats 2000000 in
theorem markRingS (k : Int) (w : World) (lo hi : Nat) (v : Value) (n : Nat) (L : List Value) (h : Held lo hi w 123 3 v n L) (hn : n ≤ 1048576) (h1 : 1 ≤ k) (hk : k ≤ 536870912) :
    Calls Tryz.prog 48 #[v, .int .i64 k] w fun e w' => e = .returned (.int .i64 (k + 3 * (n : Int))) ∧ Turn lo hi w w' ∧ Held lo hi w' 123 3 v n (marksRing k n) := by
  obtain ⟨hL, ao, cap, rfl, hcap, hmax, hnil, hsome⟩ := h
  obtain ⟨g, U, hg⟩ : ∃ g U, 0 < n → ao = some ⟨g, 0, none⟩ ∧ lo ≤ g ∧ g < hi ∧ Own w g 123 (L ++ U) := by
    by_cases h0 : 0 < n
    · obtain ⟨g, U, h⟩ := hsome h0; exact ⟨g, U, fun _ => h⟩
    · exact ⟨0, [], fun h => absurd h h0⟩
  have HG := Lib.hid hg; clear hg hsome
  have HN := Lib.hid hnil; clear hnil
  go_enter Tryz.func48, Tryz.ntmps48
  go_wp2
  go_loopw [1, 5] (fun q i wr => ∃ (j : Nat), j ≤ n ∧ i = .int .i64 j ∧ q = .int .i64 (k + 3 * (j : Int)) ∧ Turn lo hi w wr ∧ (0 < n → ∃ V, V.length = n * 3 + U.length - j * 3 ∧ Own wr g 123 (marksRing k j ++ V))) (fun _ i _ => n - (intOf i).toNat)
  case atStart => exact ⟨0, Nat.zero_le _, rfl, by simp, Turn.refl _ _ _, fun h0 => ⟨L ++ U, by simp [hL], (HG.out h0).2.2.2⟩⟩
  case round =>
    obtain ⟨j, hj, rfl, rfl, ht, hO⟩ := hrel
    by_cases hlt : j < n
    · obtain ⟨rfl, hlo, hhi, _⟩ := HG.out (by omega)
      obtain ⟨V, hV, ho⟩ := hO (by omega)
      obtain ⟨t0, t1, t2, V, rfl, hV2⟩ := cons3 hV (by omega)
      obtain ⟨es, hA⟩ := marksRing_succ k j
      obtain ⟨q, hq, hq1, hq2⟩ : ∃ q : Int, k + 3 * (j : Int) = q ∧ 1 ≤ q ∧ q ≤ 1073741000 := ⟨_, rfl, by omega, by omega⟩
      rw [hq] at es ⊢
      have e2 : Hid (k + 3 * ((j + 1 : Nat) : Int) = q + 3) := (by omega : k + 3 * ((j + 1 : Nat) : Int) = q + 3)
      have ES := Lib.hid es; clear es hq hV HG
      have HV2 := Lib.hid hV2; clear hV2
      have HT := Lib.hid ht; clear ht
      have HO := Lib.hid ho
      clear hO

      have d0 : wr.cell? ⟨g, j * 3, none⟩ = some t0 := by rw [ho.cell, List.getElem?_append_right (by omega), hA]; simp
      have f0 := ho.free (j * 3)
      have d1 : wr.cell? ⟨g, j * 3 + 1, none⟩ = some t1 := by rw [ho.cell, List.getElem?_append_right (by omega), hA]; simp
      have f1 := ho.free (j * 3 + 1)
      have d2 : wr.cell? ⟨g, j * 3 + 2, none⟩ = some t2 := by rw [ho.cell, List.getElem?_append_right (by omega), hA]; simp
      have f2 := ho.free (j * 3 + 2)
      have HA := Lib.hid hA; clear ho hA
      have hOo : Hid (Own _ g 123 _) := Lib.hid ((((HO.out.set (j * 3) (.int .i64 (q))).set (j * 3 + 1) (.int .i64 (q + 1))).set (j * 3 + 2) (.int .i64 (q + 1 + 1))))
      have hTt : Hid (Turn lo hi w _) := Lib.hid ((Turn.set (Turn.set (Turn.set HT.out hlo hhi (j * 3) (.int .i64 (q))) hlo hhi (j * 3 + 1) (.int .i64 (q + 1))) hlo hhi (j * 3 + 2) (.int .i64 (q + 1 + 1))))
      rw [set3 _ _ t0 t1 t2 (.int .i64 (q)) (.int .i64 (q + 1)) (.int .i64 (q + 1 + 1)) _ HA.out, ← ES.out] at hOo
      clear HO HT
      go_wp2_with fail
      go_roundw
      case rel => exact ⟨j + 1, by omega, by go_num, by rw [e2.out] <;> go_num, hTt.out, fun _ => ⟨V, by have := HV2.out; omega, hOo.out⟩⟩
      case measure => simp [intOf]; omega
    · have hjn : j = n := by omega
      subst hjn
      have hlen := (marksRing_succ k j).2
      have HT := Lib.hid ht; clear ht
      have HO := Lib.hid hO; clear hO
      go_wp2
      go_ret
      refine ⟨rfl, HT.out, hlen, ao, cap, rfl, hcap, hmax, HN.out, fun h0 => ?_⟩
      obtain ⟨e, hlo, hhi, _⟩ := HG.out h0
      obtain ⟨V, _, h⟩ := HO.out h0
      exact ⟨g, V, e, hlo, hhi, h⟩

theorem marksRing_get (k : Int) (n j : Nat) (h : j < n) (x : Nat) (hx : x < 3) : (marksRing k n)[j * 3 + x]? = ([.int .i64 (k + 3 * (j : Nat)), .int .i64 (k + 3 * (j : Nat) + 1), .int .i64 (k + 3 * (j : Nat) + 1 + 1)] : List Value)[x]? := by
  unfold marksRing
  rw [flat_get (s := 3) (List.range n) (fun _ _ => rfl) hx j]
  simp [List.getElem?_range h]
end Go.Proofs.YtcjekailcljaaaaGreat
