/- Contracts and plain facts, joined: AtB, EqSpot, SameSpots, OwnK. -/
import Derived.Test.YtockglfoeagahaaGreatDoorRows
import Derived.Test.YtockglfoeagahaaGreatDoorZFnWarbleB
import Derived.Test.YtockglfoeagahaaGreatDoorZFnWarbleC
import Derived.Test.YtockglfoeagahaaGreatDoorZFnWarbleE
import Derived.LaidEql
namespace Go.Proofs.YtockglfoeagahaaGreatDoor
open Go.ChangeShapes Go.WideShapes Go.ChangeAt Go.RowKit Go.Deep Go.Joins
set_option linter.unusedVariables false
set_option maxRecDepth 100000
set_option linter.unusedSimpArgs false
/-- element k of both -/
def atB {α : Type} (f : α → α → Bool) (xs ys : List α) (k : Nat) : Bool :=
  match xs[k]?, ys[k]? with
  | some x, some y => f x y
  | _, _ => true
theorem atB_eq {α : Type} {f : α → α → Bool} {xs ys : List α} {k : Nat} (h : k < xs.length) (h2 : k < ys.length) : atB f xs ys k = f xs[k] ys[k] := by
  unfold atB
  rw [List.getElem?_eq_getElem h, List.getElem?_eq_getElem h2]
def strEq (x y : ByteArray) : Bool := x.toList == y.toList
theorem strEq_t {x y : ByteArray} (h : strEq x y = true) : (x.toList == y.toList) = true := h
theorem strEq_f {x y : ByteArray} (h : strEq x y = false) : (x.toList == y.toList) = false := h
theorem strEq_nt {x y : ByteArray} (h : strEq x y = true) : (!(x.toList == y.toList)) = false := by unfold strEq at h; rw [h]; rfl
theorem strEq_nf {x y : ByteArray} (h : strEq x y = false) : (!(x.toList == y.toList)) = true := by unfold strEq at h; rw [h]; rfl
/-- the same as lists of texts -/
def wordsS (xs ys : List ByteArray) : Bool := decide (xs.length = ys.length) && allK (atB strEq xs ys) xs.length
end Go.Proofs.YtockglfoeagahaaGreatDoor
namespace Go.Proofs.YtockglfoeagahaaGreatDoor
open Go.ChangeShapes Go.WideShapes Go.ChangeAt Go.RowKit Go.Deep Go.Joins
set_option linter.unusedVariables false
set_option maxRecDepth 100000
set_option linter.unusedSimpArgs false
theorem eqIn_i64 {P : Program} (n : Nat) {t : TypeId} (ht : P.underlying t = some (.int .i64)) (a c : Int) (w : World) : (Op.equalIn (n + 1) t (.int .i64 a) (.int .i64 c)).run P w = .ok (a == c) w := by
  simp [Op.equalIn, run_underlying ht]
theorem part0_spot (x y : Value) (w : World) : (part 2 #[x, y] 0).run Tryz.prog w = .ok x w := by kernel_rfl
theorem part1_spot (x y : Value) (w : World) : (part 2 #[x, y] 1).run Tryz.prog w = .ok y w := by kernel_rfl
theorem eqIn_spot (n : Nat) (a b c d : Int) (w : World) : (Op.equalIn (n + 2) 38 (.agg #[.int .i64 a, .int .i64 b]) (.agg #[.int .i64 c, .int .i64 d])).run Tryz.prog w = .ok (a == c && b == d) w := by
  unfold Op.equalIn
  simp [run_underlying Tryz.underlying38, part0_spot, part1_spot, eqIn_i64 n Tryz.underlying2]
  by_cases h1 : a = c <;> by_cases h2 : b = d <;> simp [h1, h2]
def spotEq (x y : Spot) : Bool := x.angle == y.angle && x.weight == y.weight
theorem spotEq_iff {x y : Spot} : spotEq x y = true ↔ x = y := by
  unfold spotEq
  cases x; cases y
  simp
theorem neq_spot (x y : Spot) (w : World) : (binOp .neq 38 (.agg #[.int .i64 x.angle, .int .i64 x.weight]) (.agg #[.int .i64 y.angle, .int .i64 y.weight])).run Tryz.prog w = .ok (.bool (!spotEq x y)) w := by
  have h := eqIn_spot 9998 x.angle x.weight y.angle y.weight w
  simp only [binOp, Op.equal]
  show (Sem.run Tryz.prog (do let x ← Op.equalIn (9998 + 2) 38 _ _; pure (Value.bool !x)) w) = _
  simp [h, spotEq]
end Go.Proofs.YtockglfoeagahaaGreatDoor
namespace Go.Proofs.YtockglfoeagahaaGreatDoor
open Go.ChangeShapes Go.WideShapes Go.ChangeAt Go.RowKit Go.Deep Go.Joins
set_option linter.unusedVariables false
set_option maxRecDepth 100000
set_option linter.unusedSimpArgs false
def sameSpotsS (xs ys : List Spot) : Bool := decide (xs.length = ys.length) && allK (atB spotEq xs ys) xs.length

set_option maxHeartbeats 400000 in
theorem slices_Equal_Spot (w : World) (v1 v2 : Value) (xs ys : List Spot) (h1 : Rd w.heap.size w v1 2 xs.length (xs.flatMap Spot.put)) (h2 : Rd w.heap.size w v2 2 ys.length (ys.flatMap Spot.put)) (hn : xs.length ≤ 1048576) (hn2 : ys.length ≤ 1048576) :
    Calls Tryz.prog 29 #[v1, v2] w fun e w' => e = .returned (.bool (sameSpotsS xs ys)) ∧ Below w.heap.size w w' := by
  obtain ⟨hL, ao, cap, rfl, hcap, hmax, hnil, hsome⟩ := h1
  obtain ⟨hL2, ao2, cap2, rfl, hcap2, hmax2, hnil2, hsome2⟩ := h2
  by_cases hl : xs.length = ys.length
  case neg =>
    have e : Hid (sameSpotsS xs ys = false) := (by simp [sameSpotsS, hl] : sameSpotsS xs ys = false)
    have hz : decide (xs.length = ys.length) = false := decide_eq_false hl
    have hz2 : ((xs.length : Int) != (ys.length : Int)) = true := by simp; omega
    clear hsome hsome2 hnil hnil2 hl
    go_enter Tryz.func29, Tryz.ntmps29
    go_wp2
    go_ret
    exact ⟨by rw [e.out]; rfl, by (repeat' (first | (with_reducible exact Below.refl _ _) | (with_reducible assumption) | (with_reducible refine below_dn ?_ _) | (with_reducible refine Below.drew ?_) | (with_reducible refine Below.alloc ?_ ?_ _) | (with_reducible refine Below.setCell ?_ ?_ _) | go_size))⟩
  have es : Hid (sameSpotsS xs ys = allK (atB spotEq xs ys) xs.length) := (by simp [sameSpotsS, hl] : sameSpotsS xs ys = allK (atB spotEq xs ys) xs.length)
  have Hl := Lib.hid hl
  have hz2 : ((xs.length : Int) != (ys.length : Int)) = false := by simp [hl]
  have hle : xs.length ≤ ys.length := by omega
  have hge : ys.length ≤ xs.length := by omega
  clear hl
  go_enter Tryz.func29, Tryz.ntmps29
  go_wp2
  go_loopw [13] (fun i wr => ∃ (k : Nat), k ≤ xs.length ∧ i = .int .i64 k ∧ allK (atB spotEq xs ys) k = true ∧ Below w.heap.size w wr) (fun i _ => xs.length - (intOf i).toNat)
  case atStart => exact ⟨0, Nat.zero_le _, rfl, rfl, Below.refl _ _⟩
  case round =>
    obtain ⟨k, hk, rfl, hall, hb⟩ := hrel
    have Hall := Lib.hid hall; clear hall
    by_cases hlt : k < xs.length
    · have hlt2 : k < ys.length := by omega
      obtain ⟨b, off, rfl, hbB, hc⟩ := hsome (by omega)
      obtain ⟨b2, off2, rfl, hbB2, hc2⟩ := hsome2 (by omega)
      have c0 : wr.cell? ⟨b, off + k * 2, none⟩ = some (.int .i64 xs[k].angle) := by
        rw [show off + k * 2 = off + (k * 2 + 0) from by omega, hb.cell (p := ⟨b, off + (k * 2 + 0), none⟩) hbB, hc (k * 2 + 0) (by omega), Spot_get0 xs k hlt]
      have c1 : wr.cell? ⟨b, off + k * 2 + 1, none⟩ = some (.int .i64 xs[k].weight) := by
        rw [show off + k * 2 + 1 = off + (k * 2 + 1) from by omega, hb.cell (p := ⟨b, off + (k * 2 + 1), none⟩) hbB, hc (k * 2 + 1) (by omega), Spot_get1 xs k hlt]
      have d0 : wr.cell? ⟨b2, off2 + k * 2, none⟩ = some (.int .i64 ys[k].angle) := by
        rw [show off2 + k * 2 = off2 + (k * 2 + 0) from by omega, hb.cell (p := ⟨b2, off2 + (k * 2 + 0), none⟩) hbB2, hc2 (k * 2 + 0) (by omega), Spot_get0 ys k hlt2]
      have d1 : wr.cell? ⟨b2, off2 + k * 2 + 1, none⟩ = some (.int .i64 ys[k].weight) := by
        rw [show off2 + k * 2 + 1 = off2 + (k * 2 + 1) from by omega, hb.cell (p := ⟨b2, off2 + (k * 2 + 1), none⟩) hbB2, hc2 (k * 2 + 1) (by omega), Spot_get1 ys k hlt2]
      have hbr : b < wr.heap.size := Nat.lt_of_lt_of_le hbB hb.size
      have hbr2 : b2 < wr.heap.size := Nat.lt_of_lt_of_le hbB2 hb.size
      have HS := Lib.hid (allK_succ (atB spotEq xs ys) k)
      have HF := Lib.hid (allK_false (atB spotEq xs ys) xs.length k hlt)
      have hne := fun w => neq_spot xs[k] ys[k] w
      have HB := Lib.hid hb
      clear hc hc2 hsome hsome2 hnil hnil2 hb
      cases hE : spotEq xs[k] ys[k]
      · have e : Hid (sameSpotsS xs ys = false) := (by rw [es.out]; exact HF.out (by rw [atB_eq hlt hlt2, hE]) : sameSpotsS xs ys = false)
        go_wp2_with fail
        refine wp_region_above (by kernel_rfl) (by kernel_rfl) ?_
        repeat (go_big_quiet_step (fail))
        refine wpQuiet_nil ?_
        intro w1 b1
        have HB1 := Lib.hid (HB.out.trans (b1.mono HB.out.size)); clear b1 HB hne
        go_wp2_with fail
        go_ret
        exact ⟨by rw [e.out]; rfl, HB1.out⟩
      · have e : Hid (allK (atB spotEq xs ys) (k + 1) = true) := (by rw [HS.out, Hall.out, atB_eq hlt hlt2, hE]; rfl : allK (atB spotEq xs ys) (k + 1) = true)
        go_wp2_with fail
        refine wp_region_above (by kernel_rfl) (by kernel_rfl) ?_
        repeat (go_big_quiet_step (fail))
        refine wpQuiet_nil ?_
        intro w1 b1
        have HB1 := Lib.hid (HB.out.trans (b1.mono HB.out.size)); clear b1 HB hne
        go_wp2_with fail
        go_roundw
        case rel => exact ⟨k + 1, by omega, by go_num, e.out, HB1.out⟩
        case measure => simp [intOf]; omega
    · have e : Hid (sameSpotsS xs ys = true) := (by
        obtain rfl : k = xs.length := by omega
        rw [es.out]; exact Hall.out : sameSpotsS xs ys = true)
      go_wp2
      go_ret
      exact ⟨by rw [e.out]; rfl, hb⟩

theorem impl_SameSpots (w : World) (v1 v2 : Value) (xs ys : List Spot) (h1 : Rd w.heap.size w v1 2 xs.length (xs.flatMap Spot.put)) (h2 : Rd w.heap.size w v2 2 ys.length (ys.flatMap Spot.put)) (hn : xs.length ≤ 1048576) (hn2 : ys.length ≤ 1048576) :
    Calls Tryz.prog 9 #[v1, v2] w fun e w' => e = .returned (.bool (sameSpotsS xs ys)) ∧ Below w.heap.size w w' := by
  have H := Lib.hid (slices_Equal_Spot w v1 v2 xs ys h1 h2 hn hn2)
  clear h1 h2
  go_enter Tryz.func9, Tryz.ntmps9
  go_wp2_with fail
  refine H.out.mono ?_; rintro e w1 ⟨rfl, b1⟩
  go_wp2_with fail
  go_ret
  exact ⟨rfl, b1⟩
end Go.Proofs.YtockglfoeagahaaGreatDoor
namespace Go.Proofs.YtockglfoeagahaaGreatDoor
open Go.ChangeShapes Go.WideShapes Go.ChangeAt Go.RowKit Go.Deep Go.Joins
set_option linter.unusedVariables false
set_option maxRecDepth 100000
set_option linter.unusedSimpArgs false
theorem own_block {w : World} {base g cap n s : Nat} {E : TypeId} {L : List Value} (h : w.ownsRow base E s (.slice (some ⟨g, 0, none⟩) n cap) n L) : ∃ U, Own w g E (L ++ U) := by
  obtain ⟨h1, h2⟩ := h
  rcases h2 with ⟨e, _⟩ | ⟨g', cap', cur, e, hb, hg, hn, hm, hs, ht⟩
  · cases e
  · injection e with q1 q2 q3
    injection q1 with q4
    injection q4 with q5
    subst q5
    refine ⟨cur.toList.drop (n * s), ?_⟩
    rw [← ht, List.take_append_drop]
    unfold Own
    simpa using hg
/-- blocks of two types are two blocks -/
theorem own_apart_type {w : World} {base s n g : Nat} {E E' : TypeId} {v : Value} {L L' : List Value} (h : w.ownsRow base E s v n L) (o : Own w g E' L') (hne : E ≠ E') : ∀ g', v.ownBlock = some g' → g' ≠ g := by
  rintro g' hg rfl
  obtain ⟨h1, h2⟩ := h
  rcases h2 with ⟨rfl, _⟩ | ⟨g2, cap, cur, rfl, hb, hg2, rest⟩
  · cases hg
  · obtain rfl : g2 = g' := by injection hg
    unfold Own at o
    rw [hg2] at o
    injection o with o
    injection o with _ q _
    exact hne q
theorem own_rdU {w : World} {g n : Nat} {E : TypeId} {L U : List Value} (h : Own w g E (L ++ U)) (hl : L.length = n * 1) (k : Nat) (hk : k < n) : w.cell? ⟨g, k, none⟩ = L[k]? := by
  rw [h.cell, List.getElem?_append_left (by omega)]
theorem dash_list : (⟨#[45]⟩ : ByteArray).toList = [45] := by rw [ByteArray.toList_eq]
theorem two_of {α : Type} {l : List α} (h : l.length = 2) : ∃ a b, l = [a, b] := by
  match l, h with
  | [a, b], _ => exact ⟨a, b, rfl⟩
end Go.Proofs.YtockglfoeagahaaGreatDoor
