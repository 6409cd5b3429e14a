/- Contracts and plain facts, joined: HModel, HModel2. -/
import Derived.Test.YtcjekailcljaaaaGreatRows
import Derived.Test.YtcjekailcljaaaaGreatZFnExactGreedyPlanC
namespace Go.Proofs.YtcjekailcljaaaaGreat
open Go.ChangeShapes Go.WideShapes Go.ChangeAt Go.RowKit Go.Deep Go.Joins
set_option linter.unusedVariables false
set_option maxRecDepth 100000
set_option linter.unusedSimpArgs false
theorem szInts (w : World) (ao : Option Addr) (n cap : Nat) (left : Int) (hm : n ≤ maxLen) (h0 : 0 ≤ left) (h1 : left ≤ 1048576) :
    Calls Tryz.prog 26 #[.slice ao n cap, .int .i64 left] w fun e w' => e = .returned (.int .i64 (szR left n)) ∧ w = w' := by
  have hm2 := hm
  unfold maxLen at hm2
  by_cases hn : (n : Int) ≤ left
  · have e : Hid (szR left n = left - n) := Lib.hid (if_pos hn)
    go_enter Tryz.func26, Tryz.ntmps26
    go_wp2
    go_ret
    exact ⟨by rw [e.out]; rfl, rfl⟩
  · have e : Hid (szR left n = -1) := Lib.hid (if_neg hn)
    go_enter Tryz.func26, Tryz.ntmps26
    go_wp2
    go_ret
    exact ⟨by rw [e.out]; rfl, rfl⟩
def wtRows (xs : List Row) : Nat := (xs.map fun x => x.2.length).sum
theorem wtRows_succ (xs : List Row) (k : Nat) (h : k < xs.length) : wtRows (xs.take (k + 1)) = wtRows (xs.take k) + xs[k].2.length := by
  unfold wtRows
  rw [List.take_succ_eq_append_getElem h, List.map_append, List.sum_append]
  simp only [List.map_cons, List.map_nil, List.sum_cons, List.sum_nil, Nat.add_zero]
theorem wtRows_le (xs : List Row) (k : Nat) : wtRows (xs.take k) ≤ wtRows xs := by
  have h : wtRows xs = wtRows (xs.take k) + wtRows (xs.drop k) := by
    unfold wtRows
    rw [← List.sum_append, ← List.map_append, List.take_append_drop]
  omega
theorem wtRows_mem (xs : List Row) (x : Row) (h : x ∈ xs) : x.2.length ≤ wtRows xs := by
  unfold wtRows
  exact le_sum_of (List.mem_map.2 ⟨x, h, rfl⟩)
theorem IntsOk.up {w w' : World} {v : Value} {xs : List Int} (h : IntsOk w v xs) (hb : Below w.heap.size w w') : IntsOk w' v xs := ⟨h.1.up hb, h.2⟩
theorem MdlX.ok.up {w w' : World} {x : MdlX} (h : x.ok w) (hb : Below w.heap.size w w') : x.ok w' :=
  ⟨h.1.up hb, ⟨h.2.1.1.up hb, h.2.1.2.1, fun y hy => (h.2.1.2.2 y hy).up hb⟩, h.2.2.up hb⟩
set_option maxHeartbeats 1000000 in
theorem szRows (w : World) (v : Value) (xs : List Row) (left : Int) (h : Rd w.heap.size w v 1 xs.length (xs.flatMap putV)) (hm : xs.length ≤ maxLen) (hx : ∀ y ∈ xs, IntsOk w y.1 y.2) (h0 : 0 ≤ left) (h1 : left ≤ 1048576) :
    Calls Tryz.prog 27 #[v, .int .i64 left] w fun e w' => e = .returned (.int .i64 (szR left (xs.length + wtRows xs))) ∧ w = w' := by
  obtain ⟨hL, ao, cap, rfl, hcap, hmax, hnil, hsome⟩ := h
  have hm2 := hm
  unfold maxLen at hm2
  by_cases hn : (xs.length : Int) ≤ left
  case neg =>
    have e : Hid (szR left (xs.length + wtRows xs) = -1) := (if_neg (by omega) : szR left (xs.length + wtRows xs) = -1)
    clear hsome hnil hx
    go_enter Tryz.func27, Tryz.ntmps27
    go_wp2
    go_ret
    exact ⟨by rw [e.out]; rfl, rfl⟩
  have Hx := Lib.hid hx; clear hx
  go_enter Tryz.func27, Tryz.ntmps27
  go_wp2
  go_loop [1, 5] (fun l i => ∃ (k : Nat), k ≤ xs.length ∧ i = .int .i64 k ∧ l = .int .i64 (left - xs.length - wtRows (xs.take k)) ∧ 0 ≤ left - xs.length - wtRows (xs.take k)) (fun _ i => xs.length - (intOf i).toNat)
  case atStart => exact ⟨0, Nat.zero_le _, rfl, by simp [wtRows], by simp [wtRows]; omega⟩
  case round =>
    obtain ⟨k, hk, rfl, rfl, hp⟩ := hrel
    by_cases hlt : k < xs.length
    · obtain ⟨b, off, rfl, hbB, hc⟩ := hsome (by omega)
      have hs := Lib.hid (wtRows_succ xs k hlt)
      have hle := Lib.hid (wtRows_le xs (k + 1))
      have hxk := Hx.out xs[k] (List.getElem_mem hlt)
      obtain ⟨lo, lc, hl⟩ := hxk.1.form
      have c0 : w.cell? ⟨b, off + k, none⟩ = some (.slice lo xs[k].2.length lc) := by rw [hc k (by omega), putV_get xs k hlt, hl]
      have hrm := hxk.2.1
      clear hc hsome hnil hl hxk
      generalize hwt : wtRows (xs.take k) = W at *
      obtain ⟨r, hr⟩ : ∃ r, xs[k].2.length = r := ⟨_, rfl⟩
      rw [hr] at hs c0 hrm
      clear hr hwt
      by_cases hq : (r : Int) ≤ left - xs.length - W
      · have es : Hid (szR (left - xs.length - W) r = left - xs.length - wtRows (xs.take (k + 1))) := Lib.hid (by unfold szR; rw [if_pos hq, hs.out]; push_cast; omega)
        have hp2 : 0 ≤ left - xs.length - wtRows (xs.take (k + 1)) := by have := hs.out; omega
        have HSZ := Lib.hid (szInts w lo r lc (left - xs.length - W) hrm hp (by omega))
        rw [es.out] at HSZ
        obtain ⟨W', hW'⟩ : ∃ W', wtRows (xs.take (k + 1)) = W' := ⟨_, rfl⟩
        have HWT := Lib.hid hW'
        rw [hW'] at HSZ hp2
        clear hq hs es hle hW'
        go_wp2_with fail
        refine HSZ.out.mono ?_; rintro e w1 ⟨rfl, rfl⟩
        go_wp2_with fail
        go_round
        case rel => exact ⟨k + 1, by omega, by go_num, by rw [HWT.out] <;> go_num, by rw [HWT.out]; exact hp2⟩
        case measure => simp [intOf]; omega
      · have es : Hid (szR (left - xs.length - W) r = -1) := Lib.hid (if_neg hq)
        have e : Hid (szR left (xs.length + wtRows xs) = -1) := Lib.hid (if_neg (by have := hs.out; have := hle.out; push_cast; omega))
        have HSZ := Lib.hid (szInts w lo r lc (left - xs.length - W) hrm hp (by omega))
        rw [es.out] at HSZ
        clear hq hs es hle
        go_wp2_with fail
        refine HSZ.out.mono ?_; rintro e w1 ⟨rfl, rfl⟩
        go_wp2_with fail
        go_ret
        exact ⟨by rw [e.out]; rfl, rfl⟩
    · obtain rfl : k = xs.length := by omega
      have e : Hid (szR left (xs.length + wtRows xs) = left - xs.length - wtRows xs) := Lib.hid (by
        rw [List.take_of_length_le (Nat.le_refl _)] at hp
        unfold szR
        rw [if_pos (by push_cast; omega)]
        push_cast; omega)
      clear hsome hnil
      go_wp2
      go_ret
      exact ⟨by rw [e.out]; rfl, rfl⟩
def MdlX.wt (x : MdlX) : Nat := x.zones.length + (x.rows.length + wtRows x.rows) + x.base.length
theorem szR_add {left : Int} {a b : Nat} (h : (a : Int) ≤ left) : szR (szR left a) b = szR left (a + b) := by
  have e : szR left a = left - a := if_pos h
  rw [e]
  unfold szR
  by_cases q : ((b : Nat) : Int) ≤ left - a
  · rw [if_pos q, if_pos (by push_cast; omega)]; push_cast; omega
  · rw [if_neg q, if_neg (by push_cast; omega)]
theorem szR_no {left : Int} {a b : Nat} (h : ¬ (a : Int) ≤ left) : szR left (a + b) = -1 := if_neg (by push_cast; omega)
set_option maxHeartbeats 1000000 in
theorem szModel (x : MdlX) (left : Int) (w : World) (h : x.ok w) (h0 : 0 ≤ left) (h1 : left ≤ 1048576) :
    Calls Tryz.prog 5 #[.agg #[x.zv, x.wv, x.bv], .int .i64 left] w fun e w' => e = .returned (.int .i64 (szR left x.wt)) ∧ Below w.heap.size w w' := by
  obtain ⟨hz, hw, hb⟩ := h
  obtain ⟨zo, zc, ez⟩ := hz.1.form
  obtain ⟨wo, wc, ew⟩ := hw.1.form
  obtain ⟨bo, bc, eb⟩ := hb.1.form
  have hzl := hz.2.1
  have hwl := hw.2.1
  have hbl := hb.2.1
  rw [ez, ew, eb]
  rw [ew] at hw
  obtain ⟨W1, hW1⟩ : ∃ W1, w.alloc (.cells #[.slice zo x.zones.length zc, .slice wo x.rows.length wc, .slice bo x.base.length bc] 25) = W1 := ⟨_, rfl⟩
  have b1 : Below w.heap.size w W1 := hW1 ▸ (Below.refl _ _).alloc (Nat.le_refl _) _
  have M1 : Own W1 w.heap.size 25 [.slice zo x.zones.length zc, .slice wo x.rows.length wc, .slice bo x.base.length bc] := hW1 ▸ Own.new w _ _
  have m0 : W1.cell? ⟨w.heap.size, 0, none⟩ = some (.slice zo x.zones.length zc) := M1.cell 0
  have m1 : W1.cell? ⟨w.heap.size, 1, none⟩ = some (.slice wo x.rows.length wc) := M1.cell 1
  have m2 : W1.cell? ⟨w.heap.size, 2, none⟩ = some (.slice bo x.base.length bc) := M1.cell 2
  have ml := M1.lt
  have HWR := Lib.hid (fun l (h0 : 0 ≤ l) (h1 : l ≤ 1048576) => szRows W1 (.slice wo x.rows.length wc) x.rows l (hw.1.up b1) hwl (fun y hy => (hw.2.2 y hy).up b1) h0 h1)
  have B1 := Lib.hid b1
  clear hz hw hb ez ew eb M1 b1
  unfold MdlX.wt
  generalize x.zones.length = nz at *
  generalize hnw : x.rows.length + wtRows x.rows = nw at *
  generalize x.base.length = nb at *
  clear hnw
  by_cases hq : (nz : Int) ≤ left
  case neg =>
    have e1 : szR left nz = -1 := if_neg hq
    have HZ := Lib.hid (szInts W1 zo nz zc left hzl h0 h1)
    rw [e1] at HZ
    have e : Hid (szR left (nz + nw + nb) = -1) := Lib.hid (by rw [Nat.add_assoc]; exact szR_no hq)
    clear e1 hq HWR
    go_enter Tryz.func5, Tryz.ntmps5
    go_wp2_with fail
    refine HZ.out.mono ?_; rintro e w1 ⟨rfl, rfl⟩
    go_wp2_with fail
    go_ret
    exact ⟨by rw [e.out]; rfl, B1.out⟩
  have e1 : szR left nz = left - nz := if_pos hq
  have HZ := Lib.hid (szInts W1 zo nz zc left hzl h0 h1)
  rw [e1] at HZ
  obtain ⟨l1, hl1⟩ : ∃ l, left - (nz : Int) = l := ⟨_, rfl⟩
  have q1 : 0 ≤ l1 ∧ l1 ≤ 1048576 := by omega
  rw [hl1] at HZ
  have HW2 := Lib.hid (HWR.out l1 q1.1 q1.2)
  by_cases hq2 : (nw : Int) ≤ l1
  case neg =>
    have e2 : szR l1 nw = -1 := if_neg hq2
    rw [e2] at HW2
    have e : Hid (szR left (nz + nw + nb) = -1) := Lib.hid (szR_no (by push_cast; omega))
    clear e1 e2 hq hq2 HWR hl1
    go_enter Tryz.func5, Tryz.ntmps5
    go_wp2_with fail
    refine HZ.out.mono ?_; rintro e w1 ⟨rfl, rfl⟩
    go_wp2_with fail
    refine HW2.out.mono ?_; rintro e w1 ⟨rfl, rfl⟩
    go_wp2_with fail
    go_ret
    exact ⟨by rw [e.out]; rfl, B1.out⟩
  have e2 : szR l1 nw = l1 - nw := if_pos hq2
  rw [e2] at HW2
  obtain ⟨l2, hl2⟩ : ∃ l, l1 - (nw : Int) = l := ⟨_, rfl⟩
  have q2 : 0 ≤ l2 ∧ l2 ≤ 1048576 := by omega
  rw [hl2] at HW2
  have HB2 := Lib.hid (szInts W1 bo nb bc l2 hbl q2.1 q2.2)
  have e : Hid (szR left (nz + nw + nb) = szR l2 nb) := Lib.hid (by
    have e3 : szR left (nz + nw) = l2 := by unfold szR; rw [if_pos (by push_cast; omega)]; push_cast; omega
    rw [← e3, szR_add (by push_cast; omega)])
  rw [← e.out] at HB2
  have hr : -1 ≤ szR left (nz + nw + nb) ∧ szR left (nz + nw + nb) ≤ 1048576 := by unfold szR; split <;> omega
  generalize szR left (nz + nw + nb) = z at *
  clear e e1 e2 hq hq2 HWR hl1 hl2
  rcases (show z = -1 ∨ 0 ≤ z by omega) with rfl | hz0
  all_goals
    go_enter Tryz.func5, Tryz.ntmps5
    go_wp2_with fail
    refine HZ.out.mono ?_; rintro e w1 ⟨rfl, rfl⟩
    go_wp2_with fail
    refine HW2.out.mono ?_; rintro e w1 ⟨rfl, rfl⟩
    go_wp2_with fail
    refine HB2.out.mono ?_; rintro e w1 ⟨rfl, rfl⟩
    go_wp2_with fail
    go_ret
    exact ⟨rfl, B1.out⟩
end Go.Proofs.YtcjekailcljaaaaGreat
namespace Go.Proofs.YtcjekailcljaaaaGreat
open Go.ChangeShapes Go.WideShapes Go.ChangeAt Go.RowKit Go.Deep Go.Joins
set_option linter.unusedVariables false
set_option maxRecDepth 100000
set_option linter.unusedSimpArgs false
/-- a model in blocks of its own: block g holds the rows ys -/
def RowsAt (w : World) (g : Nat) (ys xs : List Row) : Prop := Own w g 22 (ys.flatMap putV) ∧ ys.map Prod.snd = xs.map Prod.snd ∧ ∀ y ∈ ys, rowMine g w y
theorem RowsAt.lt {w : World} {g : Nat} {ys xs : List Row} (h : RowsAt w g ys xs) : g < w.heap.size := h.1.lt
theorem RowsAt.below {w w' : World} {g : Nat} {ys xs : List Row} (h : RowsAt w g ys xs) (hb : Below w.heap.size w w') : RowsAt w' g ys xs :=
  ⟨h.1.below hb h.1.lt, h.2.1, fun y hy => (h.2.2 y hy).below (Nat.le_refl _) hb⟩
theorem RowsAt.other {w : World} {g : Nat} {ys xs : List Row} {a : Addr} (h : RowsAt w g ys xs) (ha : a.block < g) (v : Value) : RowsAt (w.setCell a v) g ys xs :=
  ⟨h.1.other (by omega) v, h.2.1, fun y hy => by
    obtain ⟨g', h1, h2, h3⟩ := h.2.2 y hy
    exact ⟨g', h1, h2, h3.other (by omega) v⟩⟩
theorem goalsnd (x : GoalX) (w : World) : Calls Tryz.prog 37 #[.agg #[.int .i64 x.a, .int .i64 x.b, .int .i64 x.c, .int .i64 x.d, .int .i64 x.e]] w fun e w' => e = .returned (.agg #[.int .i64 x.a, .int .i64 x.b, .int .i64 x.c, .int .i64 x.d, .int .i64 x.e]) ∧ Below w.heap.size w w' := by
  obtain ⟨a, b, c, d, e, t, m⟩ := x
  show Calls Tryz.prog 37 #[.agg #[.int .i64 a, .int .i64 b, .int .i64 c, .int .i64 d, .int .i64 e]] w fun r w' => r = .returned (.agg #[.int .i64 a, .int .i64 b, .int .i64 c, .int .i64 d, .int .i64 e]) ∧ Below w.heap.size w w'
  go_enter Tryz.func37, Tryz.ntmps37
  go_wp2_with fail
  exact bodyPost_ret (v := .agg #[.int .i64 a, .int .i64 b, .int .i64 c, .int .i64 d, .int .i64 e]) (by simp [results, Tryz.results37, go_sem]) rfl ⟨rfl, by (repeat' (first | (with_reducible exact Below.refl _ _) | (with_reducible assumption) | (with_reducible refine below_dn ?_ _) | (with_reducible refine Below.drew ?_) | (with_reducible refine Below.alloc ?_ ?_ _) | (with_reducible refine Below.setCell ?_ ?_ _) | go_size))⟩
end Go.Proofs.YtcjekailcljaaaaGreat
