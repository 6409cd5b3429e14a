/- Contracts and plain facts, joined: LawZ, HCut. -/
import Derived.Test.YtcjekailcljaaaaGreatRows
import Derived.Test.YtcjekailcljaaaaGreatZFnExactGreedyPlanB
import Derived.Test.YtcjekailcljaaaaGreatZFnExactGreedyPlanC
import Derived.Test.YtcjekailcljaaaaGreatZFnExactGreedyPlanD
import Derived.Test.YtcjekailcljaaaaGreatZFnExactGreedyPlanE
import Derived.Test.YtcjekailcljaaaaGreatZFnExactGreedyPlanH
import Derived.Test.YtcjekailcljaaaaGreatZFnExactGreedyPlanI
import Derived.Test.YtcjekailcljaaaaGreatZFnExactGreedyPlanK
import Derived.Test.YtcjekailcljaaaaGreatZFnExactGreedyPlanQ
namespace Go.Proofs.YtcjekailcljaaaaGreat
open Go.ChangeShapes Go.WideShapes Go.ChangeAt Go.RowKit Go.Deep Go.Joins
set_option linter.unusedVariables false
set_option maxRecDepth 100000
set_option linter.unusedSimpArgs false
def mdlOf (a : MdlX) : Mdl := ⟨a.zones, a.rows.map Prod.snd, a.base⟩
def ArgZ (w0 w : World) (m p q : Nat) (a0 : MdlX) (a1 : Profile) (a2 : GoalX) : Prop :=
  Below w0.heap.size w0 w ∧ Own w m 25 a0.put ∧ Own w p 28 a1.put ∧ Own w q 32 a2.put
def CellsM (w : World) (m : Nat) (a0 : MdlX) : Prop := w.cell? ⟨m, 0, none⟩ = some a0.zv ∧ w.cell? ⟨m, 1, none⟩ = some a0.wv ∧ w.cell? ⟨m, 2, none⟩ = some a0.bv
section
variable {w0 w w' : World} {m p q lo hi : Nat} {a0 : MdlX} {a1 : Profile} {a2 : GoalX}
theorem ArgZ.below (h : ArgZ w0 w m p q a0 a1 a2) (b : Below w.heap.size w w') : ArgZ w0 w' m p q a0 a1 a2 :=
  ⟨bnext h.1 b, h.2.1.below b h.2.1.lt, h.2.2.1.below b h.2.2.1.lt, h.2.2.2.below b h.2.2.2.lt⟩
theorem ArgZ.turn (h : ArgZ w0 w m p q a0 a1 a2) (t : Turn lo hi w w') (h0 : w0.heap.size ≤ lo) (hm : m < lo) (hp : p < lo) (hq : q < lo) : ArgZ w0 w' m p q a0 a1 a2 :=
  ⟨h.1.trans (t.below h0 h.1.size), h.2.1.turn t (.inl hm), h.2.2.1.turn t (.inl hp), h.2.2.2.turn t (.inl hq)⟩
theorem ArgZ.lm (h : ArgZ w0 w m p q a0 a1 a2) : m < w.heap.size := h.2.1.lt
theorem ArgZ.lp (h : ArgZ w0 w m p q a0 a1 a2) : p < w.heap.size := h.2.2.1.lt
theorem ArgZ.lq (h : ArgZ w0 w m p q a0 a1 a2) : q < w.heap.size := h.2.2.2.lt
theorem ArgZ.m0 (h : ArgZ w0 w m p q a0 a1 a2) : w.cell? ⟨m, 0, none⟩ = some a0.zv := h.2.1.cell 0
theorem ArgZ.m1 (h : ArgZ w0 w m p q a0 a1 a2) : w.cell? ⟨m, 1, none⟩ = some a0.wv := h.2.1.cell 1
theorem ArgZ.m2 (h : ArgZ w0 w m p q a0 a1 a2) : w.cell? ⟨m, 2, none⟩ = some a0.bv := h.2.1.cell 2
theorem ArgZ.p0 (h : ArgZ w0 w m p q a0 a1 a2) : w.cell? ⟨p, 0, none⟩ = some (.string a1.name) := h.2.2.1.cell 0
theorem ArgZ.p1 (h : ArgZ w0 w m p q a0 a1 a2) : w.cell? ⟨p, 1, none⟩ = some a1.list := h.2.2.1.cell 1
theorem ArgZ.q0 (h : ArgZ w0 w m p q a0 a1 a2) : w.cell? ⟨q, 0, none⟩ = some (.int .i64 a2.a) := h.2.2.2.cell 0
theorem ArgZ.q1 (h : ArgZ w0 w m p q a0 a1 a2) : w.cell? ⟨q, 1, none⟩ = some (.int .i64 a2.b) := h.2.2.2.cell 1
theorem ArgZ.q2 (h : ArgZ w0 w m p q a0 a1 a2) : w.cell? ⟨q, 2, none⟩ = some (.int .i64 a2.c) := h.2.2.2.cell 2
theorem ArgZ.q3 (h : ArgZ w0 w m p q a0 a1 a2) : w.cell? ⟨q, 3, none⟩ = some (.int .i64 a2.d) := h.2.2.2.cell 3
theorem ArgZ.q4 (h : ArgZ w0 w m p q a0 a1 a2) : w.cell? ⟨q, 4, none⟩ = some (.int .i64 a2.e) := h.2.2.2.cell 4
theorem ArgZ.q5 (h : ArgZ w0 w m p q a0 a1 a2) : w.cell? ⟨q, 5, none⟩ = some (.int .i64 a2.tol) := h.2.2.2.cell 5
theorem ArgZ.q6 (h : ArgZ w0 w m p q a0 a1 a2) : w.cell? ⟨q, 6, none⟩ = some (.int .i64 a2.most) := h.2.2.2.cell 6
end
/-- a copy of a model, in blocks gz < gw .. gb of its own -/
def CopM (w : World) (gz gw gb : Nat) (ys : List Row) (a : MdlX) : Prop := gz < gw ∧ RowsIn gw gb w gw ys a.rows ∧ Own w gz 2 (a.zones.flatMap putI) ∧ Own w gb 2 (a.base.flatMap putI)
section
variable {w w' : World} {gz gw gb lo hi : Nat} {ys : List Row} {a : MdlX}
theorem CopM.turn (h : CopM w gz gw gb ys a) (t : Turn lo hi w w') (hd : gb < lo ∨ hi ≤ gz) : CopM w' gz gw gb ys a := by
  have hwb : gw < gb := h.2.1.2.2.1
  have hz := h.1
  exact ⟨h.1, h.2.1.turn t (by omega), h.2.2.1.turn t (by omega), h.2.2.2.turn t (by omega)⟩
theorem CopM.below (h : CopM w gz gw gb ys a) (b : Below w.heap.size w w') : CopM w' gz gw gb ys a := by
  have hl := h.2.2.2.lt
  exact h.turn (Turn.of_below (lo := w.heap.size) (hi := w.heap.size) b) (.inl hl)
theorem CopM.rd (h : CopM w gz gw gb ys a) (hz : a.zones.length ≤ 1048576) (hn : a.rows.length ≤ 1048576) (hi : ∀ x ∈ a.rows, x.2.length ≤ 1048576) (hb : a.base.length ≤ 1048576) :
    RdMdl w.heap.size w (.slice (some ⟨gz, 0, none⟩) a.zones.length a.zones.length) (.slice (some ⟨gw, 0, none⟩) a.rows.length a.rows.length) (.slice (some ⟨gb, 0, none⟩) a.base.length a.base.length) (mdlOf a) :=
  ⟨h.2.2.1.rd h.2.2.1.lt (putI_len _) (by unfold maxLen; omega) _ (Nat.le_refl _) (by unfold maxLen; omega), h.2.1.1.rdl hn hi, h.2.2.2.rd h.2.2.2.lt (putI_len _) (by unfold maxLen; omega) _ (Nat.le_refl _) (by unfold maxLen; omega)⟩
end
theorem toModelC (x : MdlX) (w : World) (h : x.ok w) (hzn : x.zones.length ≤ 1048576) (hwn : x.rows.length ≤ 1048576) (hrn : ∀ y ∈ x.rows, y.2.length ≤ 1048576) (hbn : x.base.length ≤ 1048576) :
    Calls Tryz.prog 9 #[.agg #[x.zv, x.wv, x.bv]] w fun e w' => ∃ gz gw gb ys, e = .returned (.agg #[.slice (some ⟨gz, 0, none⟩) x.zones.length x.zones.length, .slice (some ⟨gw, 0, none⟩) x.rows.length x.rows.length, .slice (some ⟨gb, 0, none⟩) x.base.length x.base.length]) ∧ w.heap.size ≤ gz ∧ CopM w' gz gw gb ys x ∧ Below w.heap.size w w' :=
  (toModel x w h hzn hwn hrn hbn).mono fun e w' ⟨gz, gw, gb, ys, he, h1, h2, h3, h4, h5, h6, h7, h8⟩ => ⟨gz, gw, gb, ys, he, h1, ⟨h2, ⟨h6, Nat.le_refl _, h3, h4⟩, h5, h7⟩, h8⟩
theorem eqModelC (w : World) (g1 h1 k1 g2 h2 k2 : Nat) (ys zs : List Row) (a : MdlX) (c1 : CopM w g1 h1 k1 ys a) (c2 : CopM w g2 h2 k2 zs a) (hz : a.zones.length ≤ 1048576) (hn : a.rows.length ≤ 1048576) (hi : ∀ x ∈ a.rows, x.2.length ≤ 1048576) (hb : a.base.length ≤ 1048576) :
    Calls Tryz.prog 15 #[.agg #[.slice (some ⟨g1, 0, none⟩) a.zones.length a.zones.length, .slice (some ⟨h1, 0, none⟩) a.rows.length a.rows.length, .slice (some ⟨k1, 0, none⟩) a.base.length a.base.length], .agg #[.slice (some ⟨g2, 0, none⟩) a.zones.length a.zones.length, .slice (some ⟨h2, 0, none⟩) a.rows.length a.rows.length, .slice (some ⟨k2, 0, none⟩) a.base.length a.base.length]] w fun e w' => e = .returned (.bool true) ∧ Below w.heap.size w w' :=
  eqModel w g1 h1 k1 g2 h2 k2 a.zones a.base ys zs a.rows c1.2.2.1 c2.2.2.1 c1.2.1.1 c2.2.1.1 c1.2.2.2 c2.2.2.2 hz hn hi hb
theorem markModelC (k : Int) (w : World) (gz gw gb : Nat) (ys : List Row) (a : MdlX) (h : CopM w gz gw gb ys a) (hz : a.zones.length ≤ 1048576) (hn : a.rows.length ≤ 1048576) (hc : wtRows a.rows ≤ 1048576) (hb : a.base.length ≤ 1048576) (h1 : 1 ≤ k) (hk : k ≤ 134217728) :
    Calls Tryz.prog 18 #[.agg #[.slice (some ⟨gz, 0, none⟩) a.zones.length a.zones.length, .slice (some ⟨gw, 0, none⟩) a.rows.length a.rows.length, .slice (some ⟨gb, 0, none⟩) a.base.length a.base.length], .int .i64 k] w fun e w' => e = .returned (.int .i64 (k + 1 * (a.zones.length : Int) + (wtRows a.rows : Int) + 1 * (a.base.length : Int))) ∧ Turn gz (gb + 1) w w' :=
  markModel k w gz (gb + 1) gz gw gb a.zones a.base ys a.rows h.2.2.1 h.2.1 h.2.2.2 (Nat.le_refl _) h.1 (Nat.lt_succ_self _) h.2.2.2.lt hz hn hc hb h1 hk
/-- a list in a block of its own that a call has made, read -/
theorem own_ring {w : World} {g : Nat} {xs : List Ring} (h : Own w g 123 (xs.flatMap Ring.put)) (hn : xs.length ≤ 1048576) : RdR w (some ⟨g, 0, none⟩) xs.length xs :=
  h.rd h.lt (Ring_len xs) (by unfold maxLen; omega) _ (Nat.le_refl _) (by unfold maxLen; omega)
end Go.Proofs.YtcjekailcljaaaaGreat
namespace Go.Proofs.YtcjekailcljaaaaGreat
open Go.ChangeShapes Go.WideShapes Go.ChangeAt Go.RowKit Go.Deep Go.Joins
set_option linter.unusedVariables false
set_option maxRecDepth 100000
set_option linter.unusedSimpArgs false
theorem Cut_len (xs : List Cut) : (xs.flatMap Cut.put).length = xs.length * 2 := flat_len xs (fun _ _ => rfl)
theorem Cut_get0 (xs : List Cut) (k : Nat) (h : k < xs.length) : (xs.flatMap Cut.put)[k * 2 + 0]? = some (.int .i64 xs[k].zone) := by
  rw [flat_get (f := Cut.put) (s := 2) xs (fun _ _ => rfl) (j := 0) (by omega) k, List.getElem?_eq_getElem h]
  rfl
theorem Cut_get1 (xs : List Cut) (k : Nat) (h : k < xs.length) : (xs.flatMap Cut.put)[k * 2 + 1]? = some (.int .i64 xs[k].steps) := by
  rw [flat_get (f := Cut.put) (s := 2) xs (fun _ _ => rfl) (j := 1) (by omega) k, List.getElem?_eq_getElem h]
  rfl
theorem Cut_info : (Tryz.prog.info? 80).map (fun i => (i.zero, i.size, i.bytes)) = some (some (.agg #[.int .i64 0, .int .i64 0]), 2, 16) := by kernel_rfl

theorem toCut (x : Cut) (w : World) : Calls Tryz.prog 38 #[.agg #[.int .i64 x.zone, .int .i64 x.steps]] w fun e w' => e = .returned (.agg #[.int .i64 x.zone, .int .i64 x.steps]) ∧ Below w.heap.size w w' := by
  go_enter Tryz.func38, Tryz.ntmps38
  go_wp2
  go_returns
  exact ⟨rfl, by (repeat' (first | (with_reducible exact Below.refl _ _) | (with_reducible assumption) | (with_reducible refine below_dn ?_ _) | (with_reducible refine Below.drew ?_) | (with_reducible refine Below.alloc ?_ ?_ _) | (with_reducible refine Below.setCell ?_ ?_ _) | go_size))⟩


theorem toCutS (w : World) (v : Value) (xs : List Cut) (h : Rd w.heap.size w v 2 xs.length (xs.flatMap Cut.put)) (hn : xs.length ≤ 1048576) :
    Calls Tryz.prog 12 #[v] w fun e w' => ∃ g, e = .returned (.slice (some ⟨g, 0, none⟩) xs.length xs.length) ∧ w.heap.size ≤ g ∧ Own w' g 80 (xs.flatMap Cut.put) ∧ Below w.heap.size w w' := by
  obtain ⟨hL, ao, cap, rfl, hcap, hmax, hnil, hsome⟩ := h
  obtain ⟨i0, hi, hz0, hz1, hz2⟩ := info_parts Cut_info
  go_enter Tryz.func12, Tryz.ntmps12
  go_wp2_with (at_make; refine wpList_make_blk _ rfl _ _ 49 rfl 80 i0 (.agg #[.int .i64 0, .int .i64 0]) 2 16 Tryz.underlying49 hi hz0 hz1 hz2 _ _ _ _ xs.length rfl rfl rfl rfl (by omega) (by unfold maxLen; omega) ?_; intro w1 ho hb hs)
  have hml := made_len (Value.agg #[.int .i64 0, .int .i64 0]).cells (xs.length * 2)
  go_loopw [4] (fun i wr => ∃ (k : Nat) (U : List Value), k ≤ xs.length ∧ i = .int .i64 k ∧ U.length = (xs.length - k) * 2 ∧ Own wr w.heap.size 80 ((xs.take k).flatMap Cut.put ++ U) ∧ Below w.heap.size w wr) (fun i _ => xs.length - (intOf i).toNat)
  case atStart => exact ⟨0, _, Nat.zero_le _, rfl, by rw [Nat.sub_zero]; exact hml, by simpa using ho, hb⟩
  case round =>
    clear ho hb hs hml hi hz0 hz1 hz2
    obtain ⟨k, U, hk, rfl, hU, ho, hb⟩ := hrel
    by_cases hlt : k < xs.length
    · obtain ⟨b, off, rfl, hbB, hc⟩ := hsome (by omega)
      obtain ⟨t0, t1, U, rfl, hU2⟩ := cons2 hU (by omega)
      have hA : ((xs.take k).flatMap Cut.put).length = k * 2 := by rw [Cut_len, List.length_take]; congr 1; omega
      have c0 : wr.cell? ⟨b, off + k * 2, none⟩ = some (.int .i64 xs[k].zone) := by
        rw [show off + k * 2 = off + (k * 2 + 0) from by omega, hb.cell (p := ⟨b, off + (k * 2 + 0), none⟩) hbB, hc (k * 2 + 0) (by omega), Cut_get0 xs k hlt]
      have c1 : wr.cell? ⟨b, off + k * 2 + 1, none⟩ = some (.int .i64 xs[k].steps) := by
        rw [show off + k * 2 + 1 = off + (k * 2 + 1) from by omega, hb.cell (p := ⟨b, off + (k * 2 + 1), none⟩) hbB, hc (k * 2 + 1) (by omega), Cut_get1 xs k hlt]
      have HB := Lib.hid hb
      have HO := Lib.hid ho
      have HC := Lib.hid hc
      have HA := Lib.hid hA
      have HU := Lib.hid hU2
      clear hc ho hb hA hsome hnil hU hU2
      go_wp2_with fail
      refine (toCut xs[k] _).mono ?_; rintro e w1 ⟨rfl, b1⟩
      have ho1 := HO.out.below b1 HO.out.lt
      have hA := HA.out
      have d0 : w1.cell? ⟨w.heap.size, k * 2, none⟩ = some t0 := by
        rw [ho1.cell, List.getElem?_append_right (by omega), hA]
        simp
      have d1 : w1.cell? ⟨w.heap.size, k * 2 + 1, none⟩ = some t1 := by
        rw [ho1.cell, List.getElem?_append_right (by omega), hA]
        simp
      have f0 := ho1.free (k * 2)
      have f1 := ho1.free (k * 2 + 1)
      have o1 := ((ho1.set (k * 2) (.int .i64 xs[k].zone)).set (k * 2 + 1) (.int .i64 xs[k].steps))
      rw [set2 _ _ _ _ _ _ _ hA] at o1
      have hb := HB.out
      have O1 := Lib.hid o1
      have HB1 := Lib.hid (Below.setCell (Below.setCell (hb.trans (b1.mono hb.size)) (p := ⟨w.heap.size, k * 2, none⟩) (Nat.le_refl _) (.int .i64 xs[k].zone)) (p := ⟨w.heap.size, k * 2 + 1, none⟩) (Nat.le_refl _) (.int .i64 xs[k].steps))
      clear ho1 o1 hA hb b1 HO HB c0 c1
      go_wp2_with fail
      go_roundw
      case rel => exact ⟨k + 1, U, by omega, by go_num, by have := HU.out; omega, by rw [set_snoc Cut.put xs k hlt]; exact O1.out, HB1.out⟩
      case measure => simp [intOf]; omega
    · have e : Hid (k = xs.length) := (by omega : k = xs.length)
      have HO := Lib.hid ho
      clear ho
      go_wp2
      go_ret
      refine ⟨w.heap.size, rfl, Nat.le_refl _, ?_, hb⟩
      have ho := HO.out
      obtain rfl := e.out
      have : U = [] := List.eq_nil_of_length_eq_zero (by rw [hU]; omega)
      subst this
      simpa using ho

theorem eqCut (x : Cut) (w : World) : Calls Tryz.prog 46 #[.agg #[.int .i64 x.zone, .int .i64 x.steps], .agg #[.int .i64 x.zone, .int .i64 x.steps]] w fun e w' => e = .returned (.bool true) ∧ Below w.heap.size w w' := by
  go_enter Tryz.func46, Tryz.ntmps46
  repeat (go_wp2_with fail; go_quiet (fail))
  go_wp2_with fail
  go_ret
  exact ⟨rfl, by (repeat' (first | (with_reducible exact Below.refl _ _) | (with_reducible assumption) | (with_reducible refine below_dn ?_ _) | (with_reducible refine Below.drew ?_) | (with_reducible refine Below.alloc ?_ ?_ _) | (with_reducible refine Below.setCell ?_ ?_ _) | go_size))⟩
theorem eqCutS (w : World) (v1 v2 : Value) (xs : List Cut) (h1 : Rd w.heap.size w v1 2 xs.length (xs.flatMap Cut.put)) (h2 : Rd w.heap.size w v2 2 xs.length (xs.flatMap Cut.put)) (hn : xs.length ≤ 1048576) :
    Calls Tryz.prog 17 #[v1, v2] w fun e w' => e = .returned (.bool true) ∧ Below w.heap.size w w' := by
  obtain ⟨hL, ao, cap, rfl, hcap, hmax, hnil, hsome⟩ := h1
  obtain ⟨hL2, ao2, cap2, rfl, hcap2, hmax2, hnil2, hsome2⟩ := h2
  go_enter Tryz.func17, Tryz.ntmps17
  go_wp2
  go_loopw [5] (fun i wr => ∃ (k : Nat), k ≤ xs.length ∧ i = .int .i64 k ∧ Below w.heap.size w wr) (fun i _ => xs.length - (intOf i).toNat)
  case atStart => exact ⟨0, Nat.zero_le _, rfl, Below.refl _ _⟩
  case round =>
    obtain ⟨k, hk, rfl, hb⟩ := hrel
    by_cases hlt : k < xs.length
    · obtain ⟨b, off, rfl, hbB, hc⟩ := hsome (by omega)
      obtain ⟨b2, off2, rfl, hbB2, hc2⟩ := hsome2 (by omega)
      have c0 : wr.cell? ⟨b, off + k * 2, none⟩ = some (.int .i64 xs[k].zone) := by
        rw [show off + k * 2 = off + (k * 2 + 0) from by omega, hb.cell (p := ⟨b, off + (k * 2 + 0), none⟩) hbB, hc (k * 2 + 0) (by omega), Cut_get0 xs k hlt]
      have c1 : wr.cell? ⟨b, off + k * 2 + 1, none⟩ = some (.int .i64 xs[k].steps) := by
        rw [show off + k * 2 + 1 = off + (k * 2 + 1) from by omega, hb.cell (p := ⟨b, off + (k * 2 + 1), none⟩) hbB, hc (k * 2 + 1) (by omega), Cut_get1 xs k hlt]
      have d0 : wr.cell? ⟨b2, off2 + k * 2, none⟩ = some (.int .i64 xs[k].zone) := by
        rw [show off2 + k * 2 = off2 + (k * 2 + 0) from by omega, hb.cell (p := ⟨b2, off2 + (k * 2 + 0), none⟩) hbB2, hc2 (k * 2 + 0) (by omega), Cut_get0 xs k hlt]
      have d1 : wr.cell? ⟨b2, off2 + k * 2 + 1, none⟩ = some (.int .i64 xs[k].steps) := by
        rw [show off2 + k * 2 + 1 = off2 + (k * 2 + 1) from by omega, hb.cell (p := ⟨b2, off2 + (k * 2 + 1), none⟩) hbB2, hc2 (k * 2 + 1) (by omega), Cut_get1 xs k hlt]
      have HB := Lib.hid hb
      clear hc hc2 hsome hsome2 hnil hnil2 hb
      go_wp2_with fail
      have hbr : b < wr.heap.size := Nat.lt_of_lt_of_le hbB HB.out.size
      have hbr2 : b2 < wr.heap.size := Nat.lt_of_lt_of_le hbB2 HB.out.size
      refine wp_region_above (by kernel_rfl) (by kernel_rfl) ?_
      repeat (go_big_quiet_step ((go_at_call 46; exact aboveC (eqCut xs[k] _))))
      refine wpQuiet_nil ?_
      intro w1 b1
      have HB1 := Lib.hid (HB.out.trans (b1.mono HB.out.size)); clear b1 HB
      go_wp2_with fail
      go_roundw
      case rel => exact ⟨k + 1, by omega, by go_num, HB1.out⟩
      case measure => simp [intOf]; omega
    · go_wp2
      go_ret
      exact ⟨rfl, hb⟩


theorem szCutS (w : World) (v : Value) (xs : List Cut) (left : Int) (B : Nat) (h : Rd B w v 2 xs.length (xs.flatMap Cut.put)) (hm : xs.length ≤ maxLen) (h0 : 0 ≤ left) (h1 : left ≤ 1048576) :
    Calls Tryz.prog 7 #[v, .int .i64 left] w fun e w' => e = .returned (.int .i64 (szR left xs.length)) ∧ w = w' := by
  obtain ⟨hL, ao, cap, rfl, hcap, hmax, hnil, hsome⟩ := h
  unfold maxLen at hm
  clear hsome hnil
  by_cases hn : (xs.length : Int) ≤ left
  · have e : Hid (szR left xs.length = left - xs.length) := (if_pos hn : szR left xs.length = left - xs.length)
    go_enter Tryz.func7, Tryz.ntmps7
    go_wp2
    go_ret
    exact ⟨by rw [e.out]; rfl, rfl⟩
  · have e : Hid (szR left xs.length = -1) := (if_neg hn : szR left xs.length = -1)
    go_enter Tryz.func7, Tryz.ntmps7
    go_wp2
    go_ret
    exact ⟨by rw [e.out]; rfl, rfl⟩
end Go.Proofs.YtcjekailcljaaaaGreat
