/- FitsHole: the tops. -/
import Derived.Test.YtgjcmfacdnngjaaRows
import Derived.Test.YtgjcmfacdnngjaaFitsHole
namespace Go.Proofs.Ytgjcmfacdnngjaa
open Go.ChangeShapes Go.WideShapes Go.ChangeAt Go.RowKit Go.Deep Go.Joins
set_option linter.unusedVariables false
set_option maxRecDepth 100000
set_option linter.unusedSimpArgs false
theorem impl_isMouldWall_is {r : Bool} (n : Int) (w : World) (hr : inB n 1 150000 = r) : Calls Try.prog 20 #[.int .i64 n] w fun e w' => e = .returned (.bool r) ∧ w = w' := by
  go_enter Try.func20, Try.ntmps20
  go_wp2_with (first | (go_at_call 33; refine (within_is _ _ _ _ hr).mono ?_; rintro e w' ⟨rfl, rfl⟩))
  go_ret
  exact ⟨rfl, rfl⟩

set_option maxHeartbeats 2000000 in
theorem impl_FitsHole (w : World) (x : Profile) (lo : Option Addr) (lc : Nat) (hole : Hole) (wall : Int) (hs : x.name.size ≤ maxLen) (h : Rd w.heap.size w (.slice lo x.rings.length lc) 3 x.rings.length (x.rings.flatMap Ring.put)) (hn : x.rings.length ≤ 1048576) (hho : hole.ok) :
    Calls Try.prog 9 #[.agg #[.string x.name, .slice lo x.rings.length lc], .int .i64 wall, .agg #[.string hole.name, .int .i64 hole.radius, .int .i64 hole.depth]] w fun e w' => e = .returned (.bool (fitsHoleS x wall hole)) ∧ Below w.heap.size w w' := by
  have HR := Lib.hid h; clear h
  have HI := Lib.hid hs; clear hs
  have HHO := Lib.hid hho; clear hho
  have M1 := Lib.hid (Own.newAt 28 [.string x.name, .slice lo x.rings.length lc] (rfl : w.heap.size = w.heap.size) |>.alloc (.cells #[.string hole.name, .int .i64 hole.radius, .int .i64 hole.depth] 38))
  have M2 : Hid (Own ((w.alloc (.cells #[.string x.name, .slice lo x.rings.length lc] 28)).alloc (.cells #[.string hole.name, .int .i64 hole.radius, .int .i64 hole.depth] 38)) (w.heap.size + 1) 38 [.string hole.name, .int .i64 hole.radius, .int .i64 hole.depth]) := Own.newAt _ _ (by simp)
  cases hP : profB x
  · have e : Hid (fitsHoleS x wall hole = false) := (by unfold fitsHoleS; rw [hP]; simp : fitsHoleS x wall hole = false)
    have HP := Lib.hid hP; clear hP
    go_enter Try.func9, Try.ntmps9
    go_wp2_with fail
    refine (impl_ValidProfile _ x lo lc HI.out (by exact HR.out.up (by (repeat' (first | (with_reducible exact Below.refl _ _) | (with_reducible assumption) | (with_reducible refine below_dn ?_ _) | (with_reducible refine Below.drew ?_) | (with_reducible refine Below.alloc ?_ ?_ _) | (with_reducible refine Below.setCell ?_ ?_ _) | go_size)))) hn HP.out).mono ?_; rintro e1 w1 ⟨rfl, b1⟩
    have B1 := Lib.hid (show Below w.heap.size w w1 from Below.trans (by (repeat' (first | (with_reducible exact Below.refl _ _) | (with_reducible assumption) | (with_reducible refine below_dn ?_ _) | (with_reducible refine Below.drew ?_) | (with_reducible refine Below.alloc ?_ ?_ _) | (with_reducible refine Below.setCell ?_ ?_ _) | go_size))) (b1.mono (by simp <;> omega)))
    clear b1
    go_wp2_with fail
    go_ret
    exact ⟨by rw [e.out]; rfl, B1.out⟩
  cases hH : holeB hole
  · have e : Hid (fitsHoleS x wall hole = false) := (by unfold fitsHoleS; rw [hH]; simp : fitsHoleS x wall hole = false)
    have HP := Lib.hid hP; clear hP
    have HH := Lib.hid hH; clear hH
    go_enter Try.func9, Try.ntmps9
    go_wp2_with fail
    refine (impl_ValidProfile _ x lo lc HI.out (by exact HR.out.up (by (repeat' (first | (with_reducible exact Below.refl _ _) | (with_reducible assumption) | (with_reducible refine below_dn ?_ _) | (with_reducible refine Below.drew ?_) | (with_reducible refine Below.alloc ?_ ?_ _) | (with_reducible refine Below.setCell ?_ ?_ _) | go_size)))) hn HP.out).mono ?_; rintro e1 w1 ⟨rfl, b1⟩
    have B1 := Lib.hid (show Below w.heap.size w w1 from Below.trans (by (repeat' (first | (with_reducible exact Below.refl _ _) | (with_reducible assumption) | (with_reducible refine below_dn ?_ _) | (with_reducible refine Below.drew ?_) | (with_reducible refine Below.alloc ?_ ?_ _) | (with_reducible refine Below.setCell ?_ ?_ _) | go_size))) (b1.mono (by simp <;> omega)))
    have M11 := Lib.hid (M1.out.below b1 M1.out.lt)
    have M21 := Lib.hid (M2.out.below b1 M2.out.lt)
    clear b1
    have p0 : w1.cell? ⟨w.heap.size, 0, none⟩ = some (.string x.name) := M11.out.cell 0
    have p1 : w1.cell? ⟨w.heap.size, 1, none⟩ = some (.slice lo x.rings.length lc) := M11.out.cell 1
    have q0 : w1.cell? ⟨w.heap.size + 1, 0, none⟩ = some (.string hole.name) := M21.out.cell 0
    have q1 : w1.cell? ⟨w.heap.size + 1, 1, none⟩ = some (.int .i64 hole.radius) := M21.out.cell 1
    have q2 : w1.cell? ⟨w.heap.size + 1, 2, none⟩ = some (.int .i64 hole.depth) := M21.out.cell 2
    go_wp2_with fail
    refine (impl_validHole_is hole _ HH.out HHO.out).mono ?_; rintro e2 w2 ⟨rfl, b2⟩
    have B2 := Lib.hid (bnext B1.out b2)
    clear b2
    clear p0 p1 q0 q1 q2
    go_wp2_with fail
    go_ret
    exact ⟨by rw [e.out]; rfl, B2.out⟩
  cases hW : inB wall 1 150000
  · have e : Hid (fitsHoleS x wall hole = false) := (by unfold fitsHoleS; rw [hW]; simp : fitsHoleS x wall hole = false)
    have HP := Lib.hid hP; clear hP
    have HW := Lib.hid hW; clear hW
    have HH := Lib.hid hH; clear hH
    go_enter Try.func9, Try.ntmps9
    go_wp2_with fail
    refine (impl_ValidProfile _ x lo lc HI.out (by exact HR.out.up (by (repeat' (first | (with_reducible exact Below.refl _ _) | (with_reducible assumption) | (with_reducible refine below_dn ?_ _) | (with_reducible refine Below.drew ?_) | (with_reducible refine Below.alloc ?_ ?_ _) | (with_reducible refine Below.setCell ?_ ?_ _) | go_size)))) hn HP.out).mono ?_; rintro e1 w1 ⟨rfl, b1⟩
    have B1 := Lib.hid (show Below w.heap.size w w1 from Below.trans (by (repeat' (first | (with_reducible exact Below.refl _ _) | (with_reducible assumption) | (with_reducible refine below_dn ?_ _) | (with_reducible refine Below.drew ?_) | (with_reducible refine Below.alloc ?_ ?_ _) | (with_reducible refine Below.setCell ?_ ?_ _) | go_size))) (b1.mono (by simp <;> omega)))
    have M11 := Lib.hid (M1.out.below b1 M1.out.lt)
    have M21 := Lib.hid (M2.out.below b1 M2.out.lt)
    clear b1
    have p0 : w1.cell? ⟨w.heap.size, 0, none⟩ = some (.string x.name) := M11.out.cell 0
    have p1 : w1.cell? ⟨w.heap.size, 1, none⟩ = some (.slice lo x.rings.length lc) := M11.out.cell 1
    have q0 : w1.cell? ⟨w.heap.size + 1, 0, none⟩ = some (.string hole.name) := M21.out.cell 0
    have q1 : w1.cell? ⟨w.heap.size + 1, 1, none⟩ = some (.int .i64 hole.radius) := M21.out.cell 1
    have q2 : w1.cell? ⟨w.heap.size + 1, 2, none⟩ = some (.int .i64 hole.depth) := M21.out.cell 2
    go_wp2_with fail
    refine (impl_validHole_is hole _ HH.out HHO.out).mono ?_; rintro e2 w2 ⟨rfl, b2⟩
    have B2 := Lib.hid (bnext B1.out b2)
    clear b2
    clear p0 p1 q0 q1 q2
    go_wp2_with (first | (go_at_call 20; refine (impl_isMouldWall_is _ _ HW.out).mono ?_; rintro e5 w5 ⟨rfl, rfl⟩))
    go_ret
    exact ⟨by rw [e.out]; rfl, B2.out⟩
  have e : Hid (fitsHoleS x wall hole = fitsHoleB x wall hole) := (by unfold fitsHoleS; rw [hP, hW, hH]; rfl : fitsHoleS x wall hole = fitsHoleB x wall hole)
  obtain ⟨_, h32, hv, _⟩ := profB_true hP
  have HV := Lib.hid hv; clear hv
  have HP := Lib.hid hP; clear hP
  have HW := Lib.hid hW; clear hW
  have HH := Lib.hid hH; clear hH
  go_enter Try.func9, Try.ntmps9
  go_wp2_with fail
  refine (impl_ValidProfile _ x lo lc HI.out (by exact HR.out.up (by (repeat' (first | (with_reducible exact Below.refl _ _) | (with_reducible assumption) | (with_reducible refine below_dn ?_ _) | (with_reducible refine Below.drew ?_) | (with_reducible refine Below.alloc ?_ ?_ _) | (with_reducible refine Below.setCell ?_ ?_ _) | go_size)))) hn HP.out).mono ?_; rintro e1 w1 ⟨rfl, b1⟩
  have B1 := Lib.hid (show Below w.heap.size w w1 from Below.trans (by (repeat' (first | (with_reducible exact Below.refl _ _) | (with_reducible assumption) | (with_reducible refine below_dn ?_ _) | (with_reducible refine Below.drew ?_) | (with_reducible refine Below.alloc ?_ ?_ _) | (with_reducible refine Below.setCell ?_ ?_ _) | go_size))) (b1.mono (by simp <;> omega)))
  have M11 := Lib.hid (M1.out.below b1 M1.out.lt)
  have M21 := Lib.hid (M2.out.below b1 M2.out.lt)
  clear b1
  have p0 : w1.cell? ⟨w.heap.size, 0, none⟩ = some (.string x.name) := M11.out.cell 0
  have p1 : w1.cell? ⟨w.heap.size, 1, none⟩ = some (.slice lo x.rings.length lc) := M11.out.cell 1
  have q0 : w1.cell? ⟨w.heap.size + 1, 0, none⟩ = some (.string hole.name) := M21.out.cell 0
  have q1 : w1.cell? ⟨w.heap.size + 1, 1, none⟩ = some (.int .i64 hole.radius) := M21.out.cell 1
  have q2 : w1.cell? ⟨w.heap.size + 1, 2, none⟩ = some (.int .i64 hole.depth) := M21.out.cell 2
  go_wp2_with fail
  refine (impl_validHole_is hole _ HH.out HHO.out).mono ?_; rintro e2 w2 ⟨rfl, b2⟩
  have B2 := Lib.hid (bnext B1.out b2)
  have M12 := Lib.hid (M11.out.below b2 M11.out.lt)
  have M22 := Lib.hid (M21.out.below b2 M21.out.lt)
  clear b2
  clear p0 p1 q0 q1 q2
  have p0 : w2.cell? ⟨w.heap.size, 0, none⟩ = some (.string x.name) := M12.out.cell 0
  have p1 : w2.cell? ⟨w.heap.size, 1, none⟩ = some (.slice lo x.rings.length lc) := M12.out.cell 1
  have q0 : w2.cell? ⟨w.heap.size + 1, 0, none⟩ = some (.string hole.name) := M22.out.cell 0
  have q1 : w2.cell? ⟨w.heap.size + 1, 1, none⟩ = some (.int .i64 hole.radius) := M22.out.cell 1
  have q2 : w2.cell? ⟨w.heap.size + 1, 2, none⟩ = some (.int .i64 hole.depth) := M22.out.cell 2
  go_wp2_with (first | (go_at_call 20; refine (impl_isMouldWall_is _ _ HW.out).mono ?_; rintro e5 w5 ⟨rfl, rfl⟩))
  refine (impl_fitsHole _ x lo lc hole wall (by exact HR.out.up B2.out) h32 HV.out (inB_true HW.out)).mono ?_; rintro e3 w3 ⟨rfl, b3⟩
  have B3 := Lib.hid (bnext B2.out b3)
  clear b3
  go_wp2_with fail
  go_ret
  exact ⟨by rw [e.out]; rfl, B3.out⟩
end Go.Proofs.Ytgjcmfacdnngjaa
