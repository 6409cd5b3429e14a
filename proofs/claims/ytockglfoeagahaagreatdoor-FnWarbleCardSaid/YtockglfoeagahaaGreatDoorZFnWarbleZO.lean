/- Contracts and plain facts, joined: DrawS4. -/
import Derived.Test.YtockglfoeagahaaGreatDoorRows
import Derived.Test.YtockglfoeagahaaGreatDoorZFnWarbleZN
namespace Go.Proofs.YtockglfoeagahaaGreatDoor
open Go.ChangeShapes Go.WideShapes Go.ChangeAt Go.RowKit Go.Deep Go.Joins
set_option linter.unusedVariables false
set_option maxRecDepth 100000
set_option linter.unusedSimpArgs false
theorem draw_waves (w : World) (g n : Nat) (h : Src w g n) (hn : n ≤ 50000) :
    Calls Tryz.prog 19 #[.pointer (some ⟨g, 0, none⟩)] w fun e w' => ∃ z : Int, e = .returned (.int .i64 z) ∧ (0 ≤ z ∧ z ≤ 7) ∧ Src w' g (n + 4) ∧ Turn g (g + 1) w w' := by
  have hg := h.lt
  have HO := Lib.hid (src_one w g n 10 h (by omega) (by omega))
  clear h
  go_enter Tryz.func19, Tryz.ntmps19
  go_wp2_with fail
  refine HO.out.mono ?_; rintro e w1 ⟨q, rfl, s1, t1⟩
  generalize (q == 0) = yes
  have z1 : w.heap.size ≤ w1.heap.size := t1.size
  have T1 := Lib.hid t1
  have S1 := Lib.hid s1
  clear s1 t1 HO
  cases yes with
  | false =>
    have HP := Lib.hid (src_pick w1 g (n + 2) 5 S1.out (by omega) (by omega))
    go_wp2_with fail
    refine HP.out.mono ?_; rintro e w2 ⟨p, rfl, p0, _, p1, s2, t2⟩
    have p2 : p < 5 := p1 (by omega)
    have S2 := Lib.hid s2
    have T2 := Lib.hid (T1.out.trans t2)
    clear s2 t2 p1 HP S1 T1
    go_wp2_with fail
    go_ret
    exact ⟨_, rfl, ⟨by omega, by omega⟩, S2.out, T2.out⟩
  | true =>
    obtain ⟨W3, hW3⟩ : ∃ W3, w1.alloc (.cells #[.int .i64 1, .int .i64 7] 2) = W3 := ⟨_, rfl⟩
    have T3 := Lib.hid (show Turn g (g + 1) w W3 from hW3 ▸ T1.out.allocR _)
    have HAM := Lib.hid (among_own W3 g (n + 2) w1.heap.size 2 [1, 7] [.int .i64 1, .int .i64 7] rfl rfl (hW3 ▸ S1.out.below ((Below.refl _ _).alloc (Nat.le_refl _) _)) (hW3 ▸ Own.new w1 _ _) (by omega) (by omega) (by decide) (by decide))
    clear S1 T1
    go_wp2_with fail
    refine HAM.out.mono ?_; rintro e w4 ⟨c, rfl, hc, s4, t4⟩
    have hcb : 0 ≤ c ∧ c ≤ 7 := by
      have : c = 1 ∨ c = 7 := by simpa using hc
      omega
    have S4 := Lib.hid s4
    have T4 := Lib.hid (T3.out.trans t4)
    clear hc s4 t4 HAM T3 hW3
    go_wp2_with fail
    go_ret
    exact ⟨_, rfl, hcb, S4.out, T4.out⟩
theorem draw_weight (w : World) (g n : Nat) (h : Src w g n) (hn : n ≤ 50000) :
    Calls Tryz.prog 20 #[.pointer (some ⟨g, 0, none⟩)] w fun e w' => ∃ z : Int, e = .returned (.int .i64 z) ∧ (-1001 ≤ z ∧ z ≤ 1001) ∧ Src w' g (n + 4) ∧ Turn g (g + 1) w w' := by
  have hg := h.lt
  have HO := Lib.hid (src_one w g n 9 h (by omega) (by omega))
  clear h
  go_enter Tryz.func20, Tryz.ntmps20
  go_wp2_with fail
  refine HO.out.mono ?_; rintro e w1 ⟨q, rfl, s1, t1⟩
  generalize (q == 0) = yes
  have z1 : w.heap.size ≤ w1.heap.size := t1.size
  have T1 := Lib.hid t1
  have S1 := Lib.hid s1
  clear s1 t1 HO
  cases yes with
  | false =>
    obtain ⟨W3, hW3⟩ : ∃ W3, w1.alloc (.cells #[.int .i64 (-1), .int .i64 (-5), .int .i64 (-10), .int .i64 5, .int .i64 (-20)] 2) = W3 := ⟨_, rfl⟩
    have T3 := Lib.hid (show Turn g (g + 1) w W3 from hW3 ▸ T1.out.allocR _)
    have HAM := Lib.hid (among_own W3 g (n + 2) w1.heap.size 5 [-1, -5, -10, 5, -20] [.int .i64 (-1), .int .i64 (-5), .int .i64 (-10), .int .i64 5, .int .i64 (-20)] rfl rfl (hW3 ▸ S1.out.below ((Below.refl _ _).alloc (Nat.le_refl _) _)) (hW3 ▸ Own.new w1 _ _) (by omega) (by omega) (by decide) (by decide))
    clear S1 T1
    go_wp2_with fail
    refine HAM.out.mono ?_; rintro e w4 ⟨c, rfl, hc, s4, t4⟩
    have hcb : -1001 ≤ c ∧ c ≤ 1001 := by
      have : c = -1 ∨ c = -5 ∨ c = -10 ∨ c = 5 ∨ c = -20 := by simpa using hc
      omega
    have S4 := Lib.hid s4
    have T4 := Lib.hid (T3.out.trans t4)
    clear hc s4 t4 HAM T3 hW3
    go_wp2_with fail
    go_ret
    exact ⟨_, rfl, hcb, S4.out, T4.out⟩
  | true =>
    obtain ⟨W3, hW3⟩ : ∃ W3, w1.alloc (.cells #[.int .i64 0, .int .i64 1000, .int .i64 1001, .int .i64 (-1000), .int .i64 (-1001)] 2) = W3 := ⟨_, rfl⟩
    have T3 := Lib.hid (show Turn g (g + 1) w W3 from hW3 ▸ T1.out.allocR _)
    have HAM := Lib.hid (among_own W3 g (n + 2) w1.heap.size 5 [0, 1000, 1001, -1000, -1001] [.int .i64 0, .int .i64 1000, .int .i64 1001, .int .i64 (-1000), .int .i64 (-1001)] rfl rfl (hW3 ▸ S1.out.below ((Below.refl _ _).alloc (Nat.le_refl _) _)) (hW3 ▸ Own.new w1 _ _) (by omega) (by omega) (by decide) (by decide))
    clear S1 T1
    go_wp2_with fail
    refine HAM.out.mono ?_; rintro e w4 ⟨c, rfl, hc, s4, t4⟩
    have hcb : -1001 ≤ c ∧ c ≤ 1001 := by
      have : c = 0 ∨ c = 1000 ∨ c = 1001 ∨ c = -1000 ∨ c = -1001 := by simpa using hc
      omega
    have S4 := Lib.hid s4
    have T4 := Lib.hid (T3.out.trans t4)
    clear hc s4 t4 HAM T3 hW3
    go_wp2_with fail
    go_ret
    exact ⟨_, rfl, hcb, S4.out, T4.out⟩
theorem draw_best (w : World) (v : Value) (cs : List UInt8) (h : Rd w.heap.size w v 1 cs.length (cs.flatMap putB)) (hl : cs.length ≤ maxLen) :
    Calls Tryz.prog 5 #[v] w fun e w' => ∃ (r : Value) (xs : List Spot) (n m : Int), e = .returned (.tuple #[r, .int .i64 n, .int .i64 m]) ∧ fineS xs ∧ w'.ownsRow w.heap.size 38 2 r xs.length (xs.flatMap Spot.put) ∧ (-1001 ≤ m ∧ m ≤ 1001) ∧ Below w.heap.size w w' := by
  have HF := Lib.hid (src_from w v cs h hl)
  obtain ⟨ao, cap, rfl⟩ := h.form
  clear h
  go_enter Tryz.func5, Tryz.ntmps5
  go_wp2_with fail
  refine HF.out.mono ?_; rintro e w1 ⟨rfl, s1, b1⟩
  have hg1 : w.heap.size < w1.heap.size := s1.lt
  have B1 := Lib.hid b1
  have HD := Lib.hid (draw_spots w1 w.heap.size 0 s1 (by omega))
  clear s1 b1 HF
  go_wp2_with fail
  refine HD.out.mono ?_; rintro e w2 ⟨r, xs, rfl, hf, o2, s2, t2⟩
  have HX := Lib.hid hf
  have O2 := Lib.hid o2
  have B2 := Lib.hid (B1.out.trans (t2.below (B := w.heap.size) (Nat.le_refl _) (by omega)))
  have z2 : w1.heap.size ≤ w2.heap.size := t2.size
  have HW := Lib.hid (draw_waves w2 w.heap.size 80 s2 (by omega))
  clear hf o2 s2 t2 HD B1
  go_wp2_with fail
  refine HW.out.mono ?_; rintro e w3 ⟨n, rfl, hn, s3, t3⟩
  have O3 := Lib.hid (own_turn O2.out t3 (by omega))
  have B3 := Lib.hid (B2.out.trans (t3.below (B := w.heap.size) (Nat.le_refl _) (by omega)))
  have z3 : w2.heap.size ≤ w3.heap.size := t3.size
  have HM := Lib.hid (draw_weight w3 w.heap.size 84 s3 (by omega))
  clear s3 t3 HW O2 B2
  go_wp2_with fail
  refine HM.out.mono ?_; rintro e w4 ⟨m, rfl, hm, s4, t4⟩
  have O4 := Lib.hid (own_baseD (own_turn O3.out t4 (by omega)) (show w.heap.size ≤ w1.heap.size by omega))
  have B4 := Lib.hid (B3.out.trans (t4.below (B := w.heap.size) (Nat.le_refl _) (by omega)))
  clear s4 t4 HM O3 B3
  go_wp2_with fail
  go_ret3
  exact ⟨r, xs, n, m, rfl, HX.out, O4.out, hm, B4.out⟩
theorem draw_quiet (w : World) (v : Value) (cs : List UInt8) (h : Rd w.heap.size w v 1 cs.length (cs.flatMap putB)) (hl : cs.length ≤ maxLen) :
    Calls Tryz.prog 13 #[v] w fun e w' => ∃ (r : Value) (xs : List Spot) (n m l : Int), e = .returned (.tuple #[r, .int .i64 n, .int .i64 m, .int .i64 l]) ∧ fineS xs ∧ w'.ownsRow w.heap.size 38 2 r xs.length (xs.flatMap Spot.put) ∧ Below w.heap.size w w' := by
  have HF := Lib.hid (src_from w v cs h hl)
  obtain ⟨ao, cap, rfl⟩ := h.form
  clear h
  go_enter Tryz.func13, Tryz.ntmps13
  go_wp2_with fail
  refine HF.out.mono ?_; rintro e w1 ⟨rfl, s1, b1⟩
  have hg1 : w.heap.size < w1.heap.size := s1.lt
  have B1 := Lib.hid b1
  have HD := Lib.hid (draw_spots w1 w.heap.size 0 s1 (by omega))
  clear s1 b1 HF
  go_wp2_with fail
  refine HD.out.mono ?_; rintro e w2 ⟨r, xs, rfl, hf, o2, s2, t2⟩
  have HX := Lib.hid hf
  have O2 := Lib.hid o2
  have B2 := Lib.hid (B1.out.trans (t2.below (B := w.heap.size) (Nat.le_refl _) (by omega)))
  have z2 : w1.heap.size ≤ w2.heap.size := t2.size
  have HW := Lib.hid (draw_waves w2 w.heap.size 80 s2 (by omega))
  clear hf o2 s2 t2 HD B1
  go_wp2_with fail
  refine HW.out.mono ?_; rintro e w3 ⟨n, rfl, hn, s3, t3⟩
  have O3 := Lib.hid (own_turn O2.out t3 (by omega))
  have B3 := Lib.hid (B2.out.trans (t3.below (B := w.heap.size) (Nat.le_refl _) (by omega)))
  have z3 : w2.heap.size ≤ w3.heap.size := t3.size
  have HM := Lib.hid (draw_weight w3 w.heap.size 84 s3 (by omega))
  clear s3 t3 HW O2 B2
  go_wp2_with fail
  refine HM.out.mono ?_; rintro e w4 ⟨m, rfl, hm, s4, t4⟩
  have O4 := Lib.hid (own_turn O3.out t4 (by omega))
  have B4 := Lib.hid (B3.out.trans (t4.below (B := w.heap.size) (Nat.le_refl _) (by omega)))
  have z4 : w3.heap.size ≤ w4.heap.size := t4.size
  have HP := Lib.hid (src_pick w4 w.heap.size 88 20000 s4 (by omega) (by omega))
  clear s4 t4 HM O3 B3
  go_wp2_with fail
  refine HP.out.mono ?_; rintro e w5 ⟨p, rfl, p0, _, p1, s5, t5⟩
  have O5 := Lib.hid (own_turn O4.out t5 (by omega))
  have B5 := Lib.hid (B4.out.trans (t5.below (B := w.heap.size) (Nat.le_refl _) (by omega)))
  have z5 : w4.heap.size ≤ w5.heap.size := t5.size
  have HO := Lib.hid (src_one w5 w.heap.size 90 9 s5 (by omega) (by omega))
  clear s5 t5 p1 HP O4 B4
  go_wp2_with fail
  refine HO.out.mono ?_; rintro e w6 ⟨q, rfl, s6, t6⟩
  generalize (q == 0) = yes
  have O6 := Lib.hid (own_turn O5.out t6 (by omega))
  have B6 := Lib.hid (B5.out.trans (t6.below (B := w.heap.size) (Nat.le_refl _) (by omega)))
  have z6 : w5.heap.size ≤ w6.heap.size := t6.size
  have S6 := Lib.hid s6
  clear s6 t6 HO O5 B5
  cases yes with
  | false =>
    have O7 := Lib.hid (own_baseD O6.out (show w.heap.size ≤ w1.heap.size by omega))
    clear O6
    go_wp2_with fail
    refine bodyPost_ret (v := .tuple #[r, .int .i64 n, .int .i64 m, .int .i64 p]) (by simp [results, Tryz.results13, go_sem]) rfl ?_
    exact ⟨r, xs, n, m, p, rfl, HX.out, O7.out, B6.out⟩
  | true =>
    obtain ⟨W7, hW7⟩ : ∃ W7, w6.alloc (.cells #[.int .i64 (-1), .int .i64 0, .int .i64 100000000, .int .i64 100000001] 2) = W7 := ⟨_, rfl⟩
    have O7 := Lib.hid (show W7.ownsRow w1.heap.size 38 2 r xs.length (xs.flatMap Spot.put) from hW7 ▸ O6.out.alloc _)
    have B7 := Lib.hid (show Below w.heap.size w W7 from hW7 ▸ B6.out.alloc (by omega) _)
    have HAM := Lib.hid (among_own W7 w.heap.size 92 w6.heap.size 4 [-1, 0, 100000000, 100000001] [.int .i64 (-1), .int .i64 0, .int .i64 100000000, .int .i64 100000001] rfl rfl (hW7 ▸ S6.out.below ((Below.refl _ _).alloc (Nat.le_refl _) _)) (hW7 ▸ Own.new w6 _ _) (by omega) (by omega) (by decide) (by decide))
    have z7 : w6.heap.size ≤ W7.heap.size := by rw [← hW7]; simp
    clear O6 B6 S6
    go_wp2_with fail
    refine HAM.out.mono ?_; rintro e w8 ⟨c, rfl, hc, s8, t8⟩
    have O8 := Lib.hid (own_baseD (own_turn O7.out t8 (by omega)) (show w.heap.size ≤ w1.heap.size by omega))
    have B8 := Lib.hid (B7.out.trans (t8.below (B := w.heap.size) (Nat.le_refl _) (by omega)))
    clear hc s8 t8 HAM O7 B7 hW7
    go_wp2_with fail
    refine bodyPost_ret (v := .tuple #[r, .int .i64 n, .int .i64 m, .int .i64 c]) (by simp [results, Tryz.results13, go_sem]) rfl ?_
    exact ⟨r, xs, n, m, c, rfl, HX.out, O8.out, B8.out⟩
end Go.Proofs.YtockglfoeagahaaGreatDoor
