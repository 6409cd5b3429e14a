/- FnExactValidMelt: the law. -/
import Derived.Test.YtkfpoabgbailjaaRows
import Derived.Test.YtkfpoabgbailjaaVMeltI
import Derived.Deep.RegionWith
namespace Go.Proofs.Ytkfpoabgbailjaa
open Go.ChangeShapes Go.WideShapes Go.ChangeAt Go.RowKit Go.Deep Go.Joins
set_option linter.unusedVariables false
set_option maxRecDepth 100000
set_option linter.unusedSimpArgs false
theorem impl_ValidMelt_is {b : Bool} (x : Melt) (w : World) (hx : x.ok w) (hn : x.ingots.length ≤ 1048576) (hb : meltB x = b) :
    Calls Try.prog 47 #[.agg #[.string x.id, x.list, .int .i64 x.mass]] w fun e w' => e = .returned (.bool b) ∧ Below w.heap.size w w' := by
  subst hb; exact impl_ValidMelt x w hx hn

theorem spec_ValidMelt_is {b : Bool} (x : Melt) (w : World) (hx : x.ok w) (hn : x.ingots.length ≤ 1048576) (hb : meltB x = b) :
    Calls Try.prog 45 #[.agg #[.string x.id, x.list, .int .i64 x.mass]] w fun e w' => e = .returned (.bool b) ∧ Below w.heap.size w w' := by
  subst hb
  obtain ⟨hi, ⟨hr, hl, hs⟩, hk⟩ := hx
  have HR := Lib.hid hr; clear hr
  go_enter Try.func45, Try.ntmps45
  go_wp2_with fail
  refine (spec_l14One x _ _ _ ⟨hi, ⟨by exact HR.out.up (by (repeat' (first | (with_reducible exact Below.refl _ _) | (with_reducible assumption) | (with_reducible refine below_dn ?_ _) | (with_reducible refine Below.drew ?_) | (with_reducible refine Below.alloc ?_ ?_ _) | (with_reducible refine Below.setCell ?_ ?_ _) | go_size))), hl, hs⟩, hk⟩ hn (by exact (Own.new w _ [.string x.id, x.list, .int .i64 x.mass]).cell 0) (by exact (Own.new w _ [.string x.id, x.list, .int .i64 x.mass]).cell 1) (by exact (Own.new w _ [.string x.id, x.list, .int .i64 x.mass]).cell 2) (by simp)).mono ?_; rintro e w1 ⟨rfl, b1⟩
  go_wp2_with fail
  go_ret
  exact ⟨rfl, Below.trans (by (repeat' (first | (with_reducible exact Below.refl _ _) | (with_reducible assumption) | (with_reducible refine below_dn ?_ _) | (with_reducible refine Below.drew ?_) | (with_reducible refine Below.alloc ?_ ?_ _) | (with_reducible refine Below.setCell ?_ ?_ _) | go_size))) (b1.mono (by simp))⟩

set_option maxHeartbeats 1000000 in
theorem FnExactValidMelt_walk (w : World) (x : Melt) (h : x.ok w) :
    Calls Try.prog 12 #[.agg #[.string x.id, x.list, .int .i64 x.mass]] w fun e w' => e = .returned (.bool true) ∧ Below w.heap.size w w' := by
  have HZ := Lib.hid (fun w' hb => szMelt x 1048576 w' ⟨h.1, ⟨h.2.1.1.up hb, h.2.1.2⟩, h.2.2⟩ (by omega) (by omega))
  obtain ⟨hi, ⟨hr, hl, hs⟩, hk⟩ := h
  have HR := Lib.hid hr; clear hr
  have HI := Lib.hid hi; clear hi
  have HK := Lib.hid hk; clear hk
  have HL := Lib.hid hl; clear hl
  have HS := Lib.hid hs; clear hs
  by_cases hq : x.id.size + (x.ingots.length + wtStr x.ingots) ≤ 1048576
  case neg =>
    have e0 : Hid (szR 1048576 (x.id.size + (x.ingots.length + wtStr x.ingots)) = -1) := (if_neg (by omega) : szR 1048576 (x.id.size + (x.ingots.length + wtStr x.ingots)) = -1)
    go_enter Try.func12, Try.ntmps12
    go_wp2_with fail
    refine (HZ.out _ (by (repeat' (first | (with_reducible exact Below.refl _ _) | (with_reducible assumption) | (with_reducible refine below_dn ?_ _) | (with_reducible refine Below.drew ?_) | (with_reducible refine Below.alloc ?_ ?_ _) | (with_reducible refine Below.setCell ?_ ?_ _) | go_size)))).mono ?_; rw [e0.out]; rintro e w1 ⟨rfl, b1⟩
    go_wp2_with fail
    go_ret
    exact ⟨rfl, Below.trans (by (repeat' (first | (with_reducible exact Below.refl _ _) | (with_reducible assumption) | (with_reducible refine below_dn ?_ _) | (with_reducible refine Below.drew ?_) | (with_reducible refine Below.alloc ?_ ?_ _) | (with_reducible refine Below.setCell ?_ ?_ _) | go_size))) (b1.mono (by simp))⟩
  have hn : x.ingots.length ≤ 1048576 := by omega
  have e0 : Hid (szR 1048576 (x.id.size + (x.ingots.length + wtStr x.ingots)) = 1048576 - (x.id.size + (x.ingots.length + wtStr x.ingots) : Nat)) := (if_pos (by omega) : szR 1048576 (x.id.size + (x.ingots.length + wtStr x.ingots)) = 1048576 - (x.id.size + (x.ingots.length + wtStr x.ingots) : Nat))
  obtain ⟨z, hz, hz0⟩ : ∃ z : Int, szR 1048576 (x.id.size + (x.ingots.length + wtStr x.ingots)) = z ∧ 0 ≤ z := ⟨_, rfl, by rw [e0.out]; omega⟩
  have Hz := Lib.hid hz; clear hz e0 hq
  go_enter Try.func12, Try.ntmps12
  go_wp2_with fail
  refine (HZ.out _ (by (repeat' (first | (with_reducible exact Below.refl _ _) | (with_reducible assumption) | (with_reducible refine below_dn ?_ _) | (with_reducible refine Below.drew ?_) | (with_reducible refine Below.alloc ?_ ?_ _) | (with_reducible refine Below.setCell ?_ ?_ _) | go_size)))).mono ?_; rw [Hz.out]; rintro e w1 ⟨rfl, b1⟩
  have HB1 := Lib.hid b1
  obtain ⟨hc, hf⟩ := bcell b1
  clear b1 HZ Hz
  go_wp2_with fail
  clear hc hf
  refine (toMelt x _ (by exact HR.out.up (Below.trans (by (repeat' (first | (with_reducible exact Below.refl _ _) | (with_reducible assumption) | (with_reducible refine below_dn ?_ _) | (with_reducible refine Below.drew ?_) | (with_reducible refine Below.alloc ?_ ?_ _) | (with_reducible refine Below.setCell ?_ ?_ _) | go_size))) (HB1.out.mono (by simp)))) hn).mono ?_; rintro e w2 ⟨g2, rfl, hg2, o2, b2⟩
  have HB2 := Lib.hid (bnext HB1.out b2); clear HB1 b2
  have O2 := Lib.hid o2; clear o2
  go_wp2_with fail
  refine (spec_ValidMelt_is (b := meltB x) ⟨x.id, .slice (some ⟨g2, 0, none⟩) x.ingots.length x.ingots.length, x.ingots, x.mass⟩ _ ⟨HI.out, ⟨O2.out.rd O2.out.lt (putStr_len _) (by unfold maxLen; omega) _ (Nat.le_refl _) (by unfold maxLen; omega), HL.out, HS.out⟩, HK.out⟩ hn rfl).mono ?_; rintro e w3 ⟨rfl, b3⟩
  have HB3 := Lib.hid (bnext HB2.out b3); clear HB2 b3 O2 hg2
  obtain ⟨hc, hf⟩ := bcell HB3.out
  go_wp2_with fail
  clear hc hf
  refine (toMelt x _ (by exact HR.out.up (Below.trans (by (repeat' (first | (with_reducible exact Below.refl _ _) | (with_reducible assumption) | (with_reducible refine below_dn ?_ _) | (with_reducible refine Below.drew ?_) | (with_reducible refine Below.alloc ?_ ?_ _) | (with_reducible refine Below.setCell ?_ ?_ _) | go_size))) (HB3.out.mono (by simp)))) hn).mono ?_; rintro e w4 ⟨g4, rfl, hg4, o4, b4⟩
  have HB4 := Lib.hid (bnext HB3.out b4); clear HB3 b4
  have O4 := Lib.hid o4; clear o4 hg4
  have HB5 := Lib.hid (HB4.out.alloc HB4.out.size (Obj.cells #[Value.string x.id, Value.slice (some ⟨g4, 0, none⟩) x.ingots.length x.ingots.length, Value.int IntKind.i64 x.mass] 67))
  have HW := Lib.hid (Own.new w 64 [.string x.id, x.list, .int .i64 x.mass])
  go_wp2_with fail
  refine (impl_ValidMelt_is (b := meltB x) ⟨x.id, .slice (some ⟨g4, 0, none⟩) x.ingots.length x.ingots.length, x.ingots, x.mass⟩ _ ⟨HI.out, ⟨by exact (O4.out.alloc _).rd (O4.out.alloc _).lt (putStr_len _) (by unfold maxLen; omega) _ (Nat.le_refl _) (by unfold maxLen; omega), HL.out, HS.out⟩, HK.out⟩ hn rfl).mono ?_; rintro e w6 ⟨rfl, b6⟩
  have HB6 := Lib.hid (bnext HB5.out b6)
  have M := (Own.new w4 67 [.string x.id, .slice (some ⟨g4, 0, none⟩) x.ingots.length x.ingots.length, .int .i64 x.mass]).below b6 (by simp)
  have O6 := Lib.hid ((O4.out.alloc (Obj.cells #[Value.string x.id, Value.slice (some ⟨g4, 0, none⟩) x.ingots.length x.ingots.length, Value.int IntKind.i64 x.mass] 67)).below b6 (O4.out.alloc _).lt)
  have V := HW.out.below HB6.out (by simp)
  have hl4 : w4.heap.size < w6.heap.size := M.lt
  have hlw : w.heap.size < w6.heap.size := V.lt
  have d0 : w6.cell? ⟨w4.heap.size, 0, none⟩ = some (.string x.id) := M.cell 0
  have d1 : w6.cell? ⟨w4.heap.size, 1, none⟩ = some (.slice (some ⟨g4, 0, none⟩) x.ingots.length x.ingots.length) := M.cell 1
  have d2 : w6.cell? ⟨w4.heap.size, 2, none⟩ = some (.int .i64 x.mass) := M.cell 2
  have v0 : w6.cell? ⟨w.heap.size, 0, none⟩ = some (.string x.id) := V.cell 0
  have v1 : w6.cell? ⟨w.heap.size, 1, none⟩ = some x.list := V.cell 1
  have v2 : w6.cell? ⟨w.heap.size, 2, none⟩ = some (.int .i64 x.mass) := V.cell 2
  have HBF := Lib.hid (Below.trans (show Below w.heap.size w (w.alloc (Obj.cells #[Value.string x.id, x.list, Value.int IntKind.i64 x.mass] 64)) by (repeat' (first | (with_reducible exact Below.refl _ _) | (with_reducible assumption) | (with_reducible refine below_dn ?_ _) | (with_reducible refine Below.drew ?_) | (with_reducible refine Below.alloc ?_ ?_ _) | (with_reducible refine Below.setCell ?_ ?_ _) | go_size))) (HB6.out.mono (by simp)))
  have OD := Lib.hid (show Own w6.drew g4 9 (x.ingots.flatMap putStr) from O6.out)
  have f0 : w6.drew.cell? ⟨w4.heap.size, 0, none⟩ = some (.string x.id) := d0
  have f1 : w6.drew.cell? ⟨w4.heap.size, 1, none⟩ = some (.slice (some ⟨g4, 0, none⟩) x.ingots.length x.ingots.length) := d1
  have f2 : w6.drew.cell? ⟨w4.heap.size, 2, none⟩ = some (.int .i64 x.mass) := d2
  have hld : w4.heap.size < w6.drew.heap.size := hl4
  clear M V HB6 HB5 HB4 O4 HW b6
  go_wp2_with fail
  go_region_with (first
    | (go_at_call 46
       refine (toMelt x _ ?_ hn).mono ?_
       · exact HR.out.up HBF.out.drew
       rintro e w7 ⟨g7, rfl, hg7, o7, b7⟩
       have q0 : w7.cell? ⟨w4.heap.size, 0, none⟩ = some (.string x.id) := (b7.cell (p := ⟨w4.heap.size, 0, none⟩) hld).trans f0
       have q1 : w7.cell? ⟨w4.heap.size, 1, none⟩ = some (.slice (some ⟨g4, 0, none⟩) x.ingots.length x.ingots.length) := (b7.cell (p := ⟨w4.heap.size, 1, none⟩) hld).trans f1
       have q2 : w7.cell? ⟨w4.heap.size, 2, none⟩ = some (.int .i64 x.mass) := (b7.cell (p := ⟨w4.heap.size, 2, none⟩) hld).trans f2
       have R4 := Lib.hid ((OD.out.below b7 OD.out.lt).rd (OD.out.below b7 OD.out.lt).lt (putStr_len _) (by unfold maxLen; omega) x.ingots.length (Nat.le_refl _) (by unfold maxLen; omega))
       have R7 := Lib.hid (o7.rd o7.lt (putStr_len _) (by unfold maxLen; omega) x.ingots.length (Nat.le_refl _) (by unfold maxLen; omega))
       have HB7 := Lib.hid (Below.trans HBF.out.drew (b7.mono HBF.out.drew.size))
       clear b7 o7 hg7)
    | (go_at_call 48
       refine (eqMelt x _ _ _ ?_ ?_ hn).mono ?_
       · exact R4.out
       · exact R7.out
       rintro e w8 ⟨rfl, b8⟩
       have HB8 := Lib.hid (Below.trans HB7.out (b8.mono HB7.out.size))
       clear b8))
  all_goals
    go_wp2_with fail
    go_ret
    exact ⟨rfl, HB8.out⟩
end Go.Proofs.Ytkfpoabgbailjaa
