/- Contracts and plain facts, joined: DrawS1. -/
import Derived.Test.YtockglfoeagahaaGreatDoorRows
import Derived.Test.YtockglfoeagahaaGreatDoorZFnWarbleK
import Derived.Test.YtockglfoeagahaaGreatDoorZFnWarbleM
import Derived.Test.YtockglfoeagahaaGreatDoorZFnWarbleQ
import Derived.Test.YtockglfoeagahaaGreatDoorZFnWarbleW
import Derived.Test.YtockglfoeagahaaGreatDoorZFnWarbleZB
import Derived.Test.YtockglfoeagahaaGreatDoorZFnWarbleZK
import Derived.Deep.RegionHeld3
import Derived.Deep.RegionWith
namespace Go.Proofs.YtockglfoeagahaaGreatDoor
open Go.ChangeShapes Go.WideShapes Go.ChangeAt Go.RowKit Go.Deep Go.Joins
set_option linter.unusedVariables false
set_option maxRecDepth 100000
set_option linter.unusedSimpArgs false
theorem among_spot {x : Int} (h : x ∈ [(5 : Int), 10, -5, 20, 100, -30, 1, 1000]) : weightB x = true := by
  have : x = 5 ∨ x = 10 ∨ x = -5 ∨ x = 20 ∨ x = 100 ∨ x = -30 ∨ x = 1 ∨ x = 1000 := by simpa using h
  rcases this with rfl | rfl | rfl | rfl | rfl | rfl | rfl | rfl <;> decide
theorem spot_in {a b : Int} (h : 0 ≤ a ∧ a ≤ 359) (hb : weightB b = true) : spotB ⟨a, b⟩ = true :=
  spotB_mk (x := ⟨a, b⟩) (by show inB a 0 359 = true; unfold inB; simp only [Bool.and_eq_true, decide_eq_true_eq]; omega) hb
/-- among some numbers, which a block holds -/
theorem among_own (w : World) (g n b k : Nat) (zs : List Int) (L : List Value) (hL : L = zs.flatMap putI) (hk : zs.length = k) (h : Src w g n) (ho : Own w b 2 L) (hb : b ≠ g) (hn : n ≤ 1000000) (h0 : 1 ≤ zs.length) (hz : zs.length ≤ 1000) :
    Calls Tryz.prog 36 #[.pointer (some ⟨g, 0, none⟩), .slice (some ⟨b, 0, none⟩) k k] w fun e w' => ∃ x : Int, e = .returned (.int .i64 x) ∧ x ∈ zs ∧ Src w' g (n + 2) ∧ Turn g (g + 1) w w' := by
  subst hk
  have hz2 : L.length = zs.length * 1 := by rw [hL]; exact flat_len (f := putI) (s := 1) zs (fun _ _ => rfl)
  subst hL
  have q : Rd w.heap.size w (.slice (some ⟨b, 0, none⟩) zs.length zs.length) 1 zs.length (zs.flatMap putI) :=
    ho.rd ho.lt (n := zs.length) hz2 (by unfold maxLen; omega) _ (Nat.le_refl _) (by unfold maxLen; omega)
  exact src_among _ g n _ zs h (by omega) q h0 (by omega) (by rintro b' off l c e; injection e with e _ _; injection e with e; injection e with e; omega)

set_option maxHeartbeats 4000000 in
theorem draw_spot (w : World) (g n : Nat) (h : Src w g n) (hn : n ≤ 100000) :
    Calls Tryz.prog 62 #[.pointer (some ⟨g, 0, none⟩)] w fun e w' => ∃ x : Spot, e = .returned (.agg #[.int .i64 x.angle, .int .i64 x.weight]) ∧ spotB x = true ∧ Src w' g (n + 8) ∧ Turn g (g + 1) w w' := by
  have hg := h.lt
  obtain ⟨W1, hW1⟩ : ∃ W1, w.alloc (.cells #[.int .i64 0, .int .i64 0] 38) = W1 := ⟨_, rfl⟩
  have e1 : W1.heap.size = w.heap.size + 1 := by rw [← hW1]; simp
  have T1 := Lib.hid (show Turn g (g + 1) w W1 from hW1 ▸ (Turn.refl _ _ w).allocR _)
  have R1 := Lib.hid (show Own W1 w.heap.size 38 [.int .i64 0, .int .i64 0] from hW1 ▸ Own.new w _ _)
  have S1 : Src W1 g n := hW1 ▸ h.below ((Below.refl _ _).alloc (Nat.le_refl _) _)
  have HP := Lib.hid (src_pick W1 g n 360 S1 (by omega) (by omega))
  clear S1 h
  go_enter Tryz.func62, Tryz.ntmps62
  go_wp2_with fail
  refine HP.out.mono ?_; rintro e w2 ⟨p, rfl, p0, _, p1, s2, t2⟩
  have p2 : p < 360 := p1 (by omega)
  have z2 : W1.heap.size ≤ w2.heap.size := t2.size
  have X3 := Lib.hid (show Own (w2.alloc (.cells #[.int .i64 p, .int .i64 0] 38)) w2.heap.size 38 [.int .i64 p, .int .i64 0] from Own.new w2 _ _)
  have R3 := Lib.hid (show Own (w2.alloc (.cells #[.int .i64 p, .int .i64 0] 38)) w.heap.size 38 [.int .i64 0, .int .i64 0] from (R1.out.turn t2 (.inr (by omega))).alloc _)
  have T3 := Lib.hid (show Turn g (g + 1) w (w2.alloc (.cells #[.int .i64 p, .int .i64 0] 38)) from (T1.out.trans t2).allocR _)
  have S3 : Src (w2.alloc (.cells #[.int .i64 p, .int .i64 0] 38)) g (n + 2) := s2.below ((Below.refl _ _).alloc (Nat.le_refl _) _)
  have e3 : w2.heap.size < (w2.alloc (.cells #[.int .i64 p, .int .i64 0] 38)).heap.size := by simp
  have HO := Lib.hid (src_one (w2.alloc (.cells #[.int .i64 p, .int .i64 0] 38)) g (n + 2) 3 S3 (by omega) (by omega))
  clear S3 s2 t2 p1 R1 T1 HP
  go_wp2_with fail
  refine HO.out.mono ?_; rintro e w4 ⟨q, rfl, s4, t4⟩
  generalize (q == 0) = yes
  have X4 := Lib.hid (X3.out.turn t4 (.inr (by omega)))
  have R4 := Lib.hid (R3.out.turn t4 (.inr (by omega)))
  have T4 := Lib.hid (T3.out.trans t4)
  have z4 : w2.heap.size < w4.heap.size := Nat.lt_of_lt_of_le e3 t4.size
  have S4 := Lib.hid s4
  have hne1 : ¬ w.heap.size = w2.heap.size := by omega
  have hne2 : ¬ w2.heap.size = w.heap.size := by omega
  clear s4 t4 X3 R3 T3 HO e3
  cases yes with
  | false =>
    have S5 := S4.out
    have z5 : w2.heap.size < w4.heap.size := X4.out.lt
    obtain ⟨W7, hW7⟩ : ∃ W7, w4.alloc (.cells #[.int .i64 5, .int .i64 10, .int .i64 (-5), .int .i64 20, .int .i64 100, .int .i64 (-30), .int .i64 1, .int .i64 1000] 2) = W7 := ⟨_, rfl⟩
    have X7 := Lib.hid (show Own W7 w2.heap.size 38 [.int .i64 p, .int .i64 0] from hW7 ▸ X4.out.alloc _)
    have R7 := Lib.hid (show Own W7 w.heap.size 38 [.int .i64 0, .int .i64 0] from hW7 ▸ R4.out.alloc _)
    have T7 := Lib.hid (show Turn g (g + 1) w W7 from hW7 ▸ T4.out.allocR _)
    have HAM := Lib.hid (among_own W7 g (n + 4) w4.heap.size 8 [5, 10, -5, 20, 100, -30, 1, 1000] [.int .i64 5, .int .i64 10, .int .i64 (-5), .int .i64 20, .int .i64 100, .int .i64 (-30), .int .i64 1, .int .i64 1000] rfl rfl (hW7 ▸ S5.below ((Below.refl _ _).alloc (Nat.le_refl _) _)) (hW7 ▸ Own.new w4 _ _) (by omega) (by omega) (by decide) (by decide))
    clear X4 R4 T4
    clear S5
    go_wp2_with fail
    refine HAM.out.mono ?_; rintro e w8 ⟨c, rfl, hc, s8, t8⟩
    have hcw := Lib.hid (among_spot hc)
    have X8 := Lib.hid (X7.out.turn t8 (.inr (by omega)))
    have R8 := Lib.hid (R7.out.turn t8 (.inr (by omega)))
    have T8 := Lib.hid (T7.out.trans t8)
    have S8 := Lib.hid s8
    clear hc s8 t8 HAM X7 R7 T7
    have x0 : w8.cell? ⟨w2.heap.size, 0, none⟩ = some (.int .i64 p) := X8.out.cell 0
    have x1 : w8.cell? ⟨w2.heap.size, 1, none⟩ = some (.int .i64 0) := X8.out.cell 1
    have fx1 := X8.out.free 1
    have hlx := X8.out.lt
    have r0 : w8.cell? ⟨w.heap.size, 0, none⟩ = some (.int .i64 0) := R8.out.cell 0
    have r1 : w8.cell? ⟨w.heap.size, 1, none⟩ = some (.int .i64 0) := R8.out.cell 1
    have fr0 := R8.out.free 0
    have fr1 := R8.out.free 1
    have hlr := R8.out.lt
    go_wp2_with fail
    refine bodyPost_ret (v := .agg #[.int .i64 p, .int .i64 c]) (by simp [results, Tryz.results62, go_sem, x0, x1, r0, r1, hlx, hlr, hne1, hne2]) rfl ?_
    refine ⟨⟨p, c⟩, rfl, spot_in ⟨by omega, by omega⟩ hcw.out, ?_, ?_⟩
    · repeat (refine Src.set ?_ (by omega) _ _)
      exact S8.out.mono (by omega)
    · repeat (refine Turn.setNew ?_ (by omega) _ _)
      exact T8.out
  | true =>
    have HQ := Lib.hid (src_pick w4 g (n + 4) 24 S4.out (by omega) (by omega))
    clear S4
    go_wp2_with fail
    refine HQ.out.mono ?_; rintro e w5 ⟨u, rfl, u0, _, u1, s5, t5⟩
    have u2 : u < 24 := u1 (by omega)
    have X5 := X4.out.turn t5 (.inr (by omega))
    have x0 : w5.cell? ⟨w2.heap.size, 0, none⟩ = some (.int .i64 p) := X5.cell 0
    have f0 := X5.free 0
    have hl5 := X5.lt
    have R5 := R4.out.turn t5 (.inr (by omega))
    have T5 := T4.out.trans t5
    have X6 := Lib.hid (show Own (w5.setCell ⟨w2.heap.size, 0, none⟩ (.int .i64 (15 * u))) w2.heap.size 38 [.int .i64 (15 * u), .int .i64 0] from X5.set 0 _)
    have R6 := Lib.hid (show Own (w5.setCell ⟨w2.heap.size, 0, none⟩ (.int .i64 (15 * u))) w.heap.size 38 [.int .i64 0, .int .i64 0] from R5.other (by show w2.heap.size ≠ w.heap.size; omega) _)
    have T6 := Lib.hid (show Turn g (g + 1) w (w5.setCell ⟨w2.heap.size, 0, none⟩ (.int .i64 (15 * u))) from Turn.setNew T5 (by omega) 0 _)
    have S6 := Lib.hid (show Src (w5.setCell ⟨w2.heap.size, 0, none⟩ (.int .i64 (15 * u))) g (n + 6) from Src.set s5 (by omega) 0 _)
    clear X5 R5 T5 s5 t5 u1 X4 R4 T4 HQ
    have E5 := Lib.hid (show (w5.setCell ⟨w2.heap.size, 0, none⟩ (.int .i64 (15 * u))).heap.size = w5.heap.size by simp [World.setCell])
    have S5 := S6.out
    have z5 : w2.heap.size < (w5.setCell ⟨w2.heap.size, 0, none⟩ (.int .i64 (15 * u))).heap.size := X6.out.lt
    obtain ⟨W7, hW7⟩ : ∃ W7, (w5.setCell ⟨w2.heap.size, 0, none⟩ (.int .i64 (15 * u))).alloc (.cells #[.int .i64 5, .int .i64 10, .int .i64 (-5), .int .i64 20, .int .i64 100, .int .i64 (-30), .int .i64 1, .int .i64 1000] 2) = W7 := ⟨_, rfl⟩
    have X7 := Lib.hid (show Own W7 w2.heap.size 38 [.int .i64 (15 * u), .int .i64 0] from hW7 ▸ X6.out.alloc _)
    have R7 := Lib.hid (show Own W7 w.heap.size 38 [.int .i64 0, .int .i64 0] from hW7 ▸ R6.out.alloc _)
    have T7 := Lib.hid (show Turn g (g + 1) w W7 from hW7 ▸ T6.out.allocR _)
    have HAM := Lib.hid (among_own W7 g (n + 6) w5.heap.size 8 [5, 10, -5, 20, 100, -30, 1, 1000] [.int .i64 5, .int .i64 10, .int .i64 (-5), .int .i64 20, .int .i64 100, .int .i64 (-30), .int .i64 1, .int .i64 1000] rfl rfl (hW7 ▸ S5.below ((Below.refl _ _).alloc (Nat.le_refl _) _)) (by have q := Own.new (w5.setCell ⟨w2.heap.size, 0, none⟩ (.int .i64 (15 * u))) 2 [.int .i64 5, .int .i64 10, .int .i64 (-5), .int .i64 20, .int .i64 100, .int .i64 (-30), .int .i64 1, .int .i64 1000]; rw [E5.out] at q; exact hW7 ▸ q) (by omega) (by omega) (by decide) (by decide))
    clear X6 R6 T6
    clear S5
    go_wp2_with fail
    refine HAM.out.mono ?_; rintro e w8 ⟨c, rfl, hc, s8, t8⟩
    have hcw := Lib.hid (among_spot hc)
    have X8 := Lib.hid (X7.out.turn t8 (.inr (by omega)))
    have R8 := Lib.hid (R7.out.turn t8 (.inr (by omega)))
    have T8 := Lib.hid (T7.out.trans t8)
    have S8 := Lib.hid s8
    clear hc s8 t8 HAM X7 R7 T7
    have x0 : w8.cell? ⟨w2.heap.size, 0, none⟩ = some (.int .i64 (15 * u)) := X8.out.cell 0
    have x1 : w8.cell? ⟨w2.heap.size, 1, none⟩ = some (.int .i64 0) := X8.out.cell 1
    have fx1 := X8.out.free 1
    have hlx := X8.out.lt
    have r0 : w8.cell? ⟨w.heap.size, 0, none⟩ = some (.int .i64 0) := R8.out.cell 0
    have r1 : w8.cell? ⟨w.heap.size, 1, none⟩ = some (.int .i64 0) := R8.out.cell 1
    have fr0 := R8.out.free 0
    have fr1 := R8.out.free 1
    have hlr := R8.out.lt
    go_wp2_with fail
    refine bodyPost_ret (v := .agg #[.int .i64 (15 * u), .int .i64 c]) (by simp [results, Tryz.results62, go_sem, x0, x1, r0, r1, hlx, hlr, hne1, hne2]) rfl ?_
    refine ⟨⟨(15 * u), c⟩, rfl, spot_in ⟨by omega, by omega⟩ hcw.out, ?_, ?_⟩
    · repeat (refine Src.set ?_ (by omega) _ _)
      exact S8.out.mono (by omega)
    · repeat (refine Turn.setNew ?_ (by omega) _ _)
      exact T8.out
end Go.Proofs.YtockglfoeagahaaGreatDoor
