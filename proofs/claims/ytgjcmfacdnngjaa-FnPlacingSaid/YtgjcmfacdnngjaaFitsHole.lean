/- FitsHole: both sides compute the same. -/
import Derived.Test.YtgjcmfacdnngjaaRows
import Derived.Test.YtgjcmfacdnngjaaOneProfile
import Derived.Test.YtgjcmfacdnngjaaOneHole
namespace Go.Proofs.Ytgjcmfacdnngjaa
open Go.ChangeShapes Go.WideShapes Go.ChangeAt Go.RowKit Go.Deep Go.Joins
set_option linter.unusedVariables false
set_option maxRecDepth 100000
set_option linter.unusedSimpArgs false
def mx (a b : Int) : Int := if a < b then b else a
def widestS (rs : List Ring) : Int := rs.foldl (fun m r => mx m r.outer) 0
theorem widestS_succ (rs : List Ring) (k : Nat) (h : k < rs.length) : widestS (rs.take (k + 1)) = mx (widestS (rs.take k)) rs[k].outer := by
  unfold widestS
  rw [List.take_succ_eq_append_getElem h, List.foldl_append]
  rfl
theorem widest_from : ∀ (rs : List Ring), (∀ r ∈ rs, ringB r = true) → ∀ m, 0 ≤ m ∧ m ≤ 150000 → 0 ≤ rs.foldl (fun m r => mx m r.outer) m ∧ rs.foldl (fun m r => mx m r.outer) m ≤ 150000
  | [], _, m, hm => hm
  | r :: rs, h, m, hm => by
    have h1 := (ringB_nums (h r (List.mem_cons_self ..))).1
    exact widest_from rs (fun y hy => h y (List.mem_cons_of_mem _ hy)) (mx m r.outer) (by unfold mx; split <;> omega)
theorem widestS_take_bd {rs : List Ring} (h : ∀ r ∈ rs, ringB r = true) (k : Nat) : 0 ≤ widestS (rs.take k) ∧ widestS (rs.take k) ≤ 150000 :=
  widest_from _ (fun x hx => h x (List.mem_of_mem_take hx)) 0 (by omega)
def fitsHoleB (x : Profile) (wall : Int) (h : Hole) : Bool := decide (widestS x.rings + wall ≤ h.radius) && decide (heightS x.rings + wall ≤ h.depth)
def fitsHoleS (x : Profile) (wall : Int) (h : Hole) : Bool := profB x && (inB wall 1 150000 && (holeB h && fitsHoleB x wall h))

set_option maxHeartbeats 2000000 in
theorem impl_fitsHole (w : World) (x : Profile) (lo : Option Addr) (lc : Nat) (hole : Hole) (wall : Int) (h : Rd w.heap.size w (.slice lo x.rings.length lc) 3 x.rings.length (x.rings.flatMap Ring.put)) (hl : x.rings.length ≤ 32) (hv : ∀ r ∈ x.rings, ringB r = true) (hw : 1 ≤ wall ∧ wall ≤ 150000) :
    Calls Try.prog 24 #[.agg #[.string x.name, .slice lo x.rings.length lc], .int .i64 wall, .agg #[.string hole.name, .int .i64 hole.radius, .int .i64 hole.depth]] w fun e w' => e = .returned (.bool (fitsHoleB x wall hole)) ∧ Below w.heap.size w w' := by
  have m2 := heightS_take_bd hv hl x.rings.length
  rw [List.take_of_length_le (Nat.le_refl _)] at m2
  have HH := Lib.hid (fun w' (hb : Below w.heap.size w w') => impl_height w' x lo lc (h.up hb) hl hv)
  have HS := Lib.hid (widestS_take_bd hv)
  have HV := Lib.hid hv; clear hv
  have M1 := Lib.hid (Own.new w 28 [.string x.name, .slice lo x.rings.length lc])
  have M2 : Hid (Own ((w.alloc (.cells #[.string x.name, .slice lo x.rings.length lc] 28)).alloc (.cells #[.string hole.name, .int .i64 hole.radius, .int .i64 hole.depth] 38)) (w.heap.size + 1) 38 [.string hole.name, .int .i64 hole.radius, .int .i64 hole.depth]) := Own.newAt _ _ (by simp)
  obtain ⟨hL, ao, cap, he, hcap, hmax, hnil, hsome⟩ := h
  cases he
  unfold fitsHoleB
  generalize heightS x.rings = hh at *
  generalize hrs : x.rings = rs at *
  clear hrs
  go_enter Try.func24, Try.ntmps24
  go_wp2
  go_loopw [7, 13] (fun s i wr => ∃ (k : Nat), k ≤ rs.length ∧ i = .int .i64 k ∧ s = .int .i64 (widestS (rs.take k)) ∧ Own wr w.heap.size 28 [.string x.name, .slice lo rs.length lc] ∧ Own wr (w.heap.size + 1) 38 [.string hole.name, .int .i64 hole.radius, .int .i64 hole.depth] ∧ Below w.heap.size w wr) (fun _ i _ => rs.length - (intOf i).toNat)
  case atStart => exact ⟨0, Nat.zero_le _, rfl, rfl, M1.out.alloc _, M2.out, by (repeat' (first | (with_reducible exact Below.refl _ _) | (with_reducible assumption) | (with_reducible refine below_dn ?_ _) | (with_reducible refine Below.drew ?_) | (with_reducible refine Below.alloc ?_ ?_ _) | (with_reducible refine Below.setCell ?_ ?_ _) | go_size))⟩
  case round =>
    clear M1 M2
    obtain ⟨k, hk, rfl, rfl, ho1, ho2, hb⟩ := hrel
    have hlo := ho2.lt
    have O1 := Lib.hid ho1; clear ho1
    have O2 := Lib.hid ho2; clear ho2
    obtain ⟨m1, m1'⟩ := HS.out k
    by_cases hlt : k < rs.length
    · obtain ⟨b, off, rfl, hbB, hc⟩ := hsome (by omega)
      have c0 : wr.cell? ⟨b, off + k * 3, none⟩ = some (.int .i64 rs[k].outer) := by rw [show off + k * 3 = off + (k * 3 + 0) from by omega, hb.cell (p := ⟨b, off + (k * 3 + 0), none⟩) hbB, hc (k * 3 + 0) (by omega), Ring_get0 rs k hlt]
      have c1 : wr.cell? ⟨b, off + k * 3 + 1, none⟩ = some (.int .i64 rs[k].inner) := by rw [show off + k * 3 + 1 = off + (k * 3 + 1) from by omega, hb.cell (p := ⟨b, off + (k * 3 + 1), none⟩) hbB, hc (k * 3 + 1) (by omega), Ring_get1 rs k hlt]
      have c2 : wr.cell? ⟨b, off + k * 3 + 2, none⟩ = some (.int .i64 rs[k].height) := by rw [show off + k * 3 + 2 = off + (k * 3 + 2) from by omega, hb.cell (p := ⟨b, off + (k * 3 + 2), none⟩) hbB, hc (k * 3 + 2) (by omega), Ring_get2 rs k hlt]
      have hr := ringB_nums (HV.out rs[k] (List.getElem_mem hlt))
      have E : Hid (widestS (rs.take (k + 1)) = mx (widestS (rs.take k)) rs[k].outer) := widestS_succ rs k hlt
      have hws := hb.size
      have HB := Lib.hid hb
      clear hc hsome hnil hb
      generalize widestS (rs.take k) = S at *
      go_wp2_with fail
      go_roundw
      case rel => exact ⟨k + 1, by omega, by go_num, by rw [E.out]; rfl, O1.out.below (B := wr.heap.size) (by (repeat' (first | (with_reducible exact Below.refl _ _) | (with_reducible assumption) | (with_reducible refine below_dn ?_ _) | (with_reducible refine Below.drew ?_) | (with_reducible refine Below.alloc ?_ ?_ _) | (with_reducible refine Below.setCell ?_ ?_ _) | go_size))) (by omega), O2.out.below (B := wr.heap.size) (by (repeat' (first | (with_reducible exact Below.refl _ _) | (with_reducible assumption) | (with_reducible refine below_dn ?_ _) | (with_reducible refine Below.drew ?_) | (with_reducible refine Below.alloc ?_ ?_ _) | (with_reducible refine Below.setCell ?_ ?_ _) | go_size))) (by omega), by have hb := HB.out; (repeat' (first | (with_reducible exact Below.refl _ _) | (with_reducible assumption) | (with_reducible refine below_dn ?_ _) | (with_reducible refine Below.drew ?_) | (with_reducible refine Below.alloc ?_ ?_ _) | (with_reducible refine Below.setCell ?_ ?_ _) | go_size))⟩
      case measure => simp [intOf]; omega
    · have e1 : Hid (rs.take k = rs) := (List.take_of_length_le (by omega) : rs.take k = rs)
      rw [e1.out] at m1 m1' ⊢
      have p0 : wr.cell? ⟨w.heap.size, 0, none⟩ = some (.string x.name) := O1.out.cell 0
      have p1 : wr.cell? ⟨w.heap.size, 1, none⟩ = some (.slice lo rs.length lc) := O1.out.cell 1
      have q1 : wr.cell? ⟨w.heap.size + 1, 1, none⟩ = some (.int .i64 hole.radius) := O2.out.cell 1
      have q2 : wr.cell? ⟨w.heap.size + 1, 2, none⟩ = some (.int .i64 hole.depth) := O2.out.cell 2
      have hlp : w.heap.size < wr.heap.size := by omega
      have HB := Lib.hid hb
      have HHA := Lib.hid (fun x0 => HH.out (above wr x0) (hb.trans ((above_below wr x0).mono hb.size)))
      clear hb hsome hnil HH O1 O2
      generalize hww : widestS rs = ww at *
      have HWW := Lib.hid hww; clear hww
      by_cases hA : ww + wall ≤ hole.radius
      · have hd : decide (ww + wall ≤ hole.radius) = true := decide_eq_true hA
        have e : Hid ((decide (ww + wall ≤ hole.radius) && decide (hh + wall ≤ hole.depth)) = decide (hh + wall ≤ hole.depth)) := (by rw [hd]; rfl : (decide (ww + wall ≤ hole.radius) && decide (hh + wall ≤ hole.depth)) = decide (hh + wall ≤ hole.depth))
        clear hA
        go_wp2_with fail
        refine wp_region_above (by kernel_rfl) (by kernel_rfl) ?_
        repeat (go_big_quiet_step ((first | (go_at_call 32; exact aboveC (HHA.out _)))))
        refine wpQuiet_nil ?_
        intro w1 b1
        go_wp2_with fail
        go_ret
        exact ⟨by rw [HWW.out, e.out]; rfl, bnext HB.out b1⟩
      · have hd : decide (ww + wall ≤ hole.radius) = false := decide_eq_false hA
        have e : Hid ((decide (ww + wall ≤ hole.radius) && decide (hh + wall ≤ hole.depth)) = false) := (by rw [hd]; rfl : (decide (ww + wall ≤ hole.radius) && decide (hh + wall ≤ hole.depth)) = false)
        clear hA
        go_wp2_with fail
        refine wp_region_above (by kernel_rfl) (by kernel_rfl) ?_
        repeat (go_big_quiet_step ((first | (go_at_call 32; exact aboveC (HHA.out _)))))
        refine wpQuiet_nil ?_
        intro w1 b1
        go_wp2_with fail
        go_ret
        exact ⟨by rw [HWW.out, e.out]; rfl, bnext HB.out b1⟩
end Go.Proofs.Ytgjcmfacdnngjaa
