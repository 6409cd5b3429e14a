/- Contracts and plain facts, joined: DrawS3. -/
import Derived.Test.YtockglfoeagahaaGreatDoorRows
import Derived.Test.YtockglfoeagahaaGreatDoorZFnWarbleZM
namespace Go.Proofs.YtockglfoeagahaaGreatDoor
open Go.ChangeShapes Go.WideShapes Go.ChangeAt Go.RowKit Go.Deep Go.Joins
set_option linter.unusedVariables false
set_option maxRecDepth 100000
set_option linter.unusedSimpArgs false
def fineS (xs : List Spot) : Prop := xs.length ≤ 20 ∧ ∀ x ∈ xs, (-1 ≤ x.angle ∧ x.angle ≤ 400) ∧ (-1001 ≤ x.weight ∧ x.weight ≤ 1001)
theorem fineS.ok {xs : List Spot} (h : fineS xs) : ∀ x ∈ xs, x.ok := fun x hx => by
  obtain ⟨h1, h2⟩ := h.2 x hx
  exact ⟨⟨by omega, by omega⟩, by omega, by omega⟩
theorem fineS_valid {xs : List Spot} (h : validSpotS xs = true) : fineS xs := by
  obtain ⟨h1, h2⟩ := validSpotS_true h
  refine ⟨by omega, fun x hx => ?_⟩
  have := spotB_nums (h2 x hx)
  exact ⟨by omega, by omega⟩
theorem fineS_snoc {xs : List Spot} {x : Spot} (h : fineS xs) (hl : xs.length < 20) (hx : (-1 ≤ x.angle ∧ x.angle ≤ 400) ∧ (-1001 ≤ x.weight ∧ x.weight ≤ 1001)) : fineS (xs ++ [x]) := by
  refine ⟨by rw [List.length_append, List.length_singleton]; omega, fun y hy => ?_⟩
  rcases List.mem_append.1 hy with q | q
  · exact h.2 y q
  · rw [List.mem_singleton.1 q]; exact hx
theorem fineS_set {xs : List Spot} {x : Spot} (h : fineS xs) (k : Nat) (hx : (-1 ≤ x.angle ∧ x.angle ≤ 400) ∧ (-1001 ≤ x.weight ∧ x.weight ≤ 1001)) : fineS (xs.set k x) := by
  refine ⟨by rw [List.length_set]; exact h.1, fun y hy => ?_⟩
  rcases List.mem_or_eq_of_mem_set hy with q | q
  · exact h.2 y q
  · rw [q]; exact hx
set_option maxHeartbeats 4000000 in
theorem draw_spots (w : World) (g n : Nat) (h : Src w g n) (hn : n ≤ 50000) :
    Calls Tryz.prog 18 #[.pointer (some ⟨g, 0, none⟩)] w fun e w' => ∃ (r : Value) (xs : List Spot), e = .returned r ∧ fineS xs ∧ w'.ownsRow w.heap.size 38 2 r xs.length (xs.flatMap Spot.put) ∧ Src w' g (n + 80) ∧ Turn g (g + 1) w w' := by
  have hg := h.lt
  obtain ⟨i0, hi, hz0, hz1, hz2⟩ := info_parts Spot_info
  have HD := Lib.hid (draw_spotsOk w g n h (by omega))
  clear h
  go_enter Tryz.func18, Tryz.ntmps18
  go_wp2_with fail
  refine HD.out.mono ?_; rintro e w1 ⟨r, xs, rfl, hv, o1, s1, t1⟩
  have HF := Lib.hid (fineS_valid hv)
  have hl16 : xs.length ≤ 16 := (validSpotS_true hv).1
  have O1 := Lib.hid o1
  have T1 := Lib.hid t1
  have HP := Lib.hid (src_pick w1 g (n + 60) 20 s1 (by omega) (by omega))
  clear HD hv o1 s1 t1
  go_wp2_with fail
  refine HP.out.mono ?_; rintro e w2 ⟨p, rfl, p0, _, p1, s2, t2⟩
  have O2 := Lib.hid (own_turn O1.out t2 (by omega))
  have T2 := Lib.hid (T1.out.trans t2)
  have S2 := Lib.hid s2
  have z2 : w.heap.size ≤ w2.heap.size := T2.out.size
  obtain ⟨ro, rx, er0⟩ := (own_rd O2.out).form
  subst er0
  have hg2 : g < w2.heap.size := s2.lt
  clear O1 T1 HP s2 t2 p1
  by_cases h0 : p = 0
  · subst h0
    go_wp2_with (at_builtin; refine app_el rfl _ _ 24 38 i0 (.agg #[.int .i64 0, .int .i64 0]) 2 16 Tryz.underlying24 hi hz0 hz1 hz2 (by rfl) (by decide) rfl w2 w.heap.size _ xs.length (xs.flatMap Spot.put) (by rfl) O2.out [.int .i64 359, .int .i64 0] rfl (spot_one2 _ _) (by rfl) (by omega) (by decide) z2 ?_; intro g5 gc5 w5 hown5 hB5 hz5; have HB5 := Lib.hid (hB5 w2 (Below.refl _ _)); have HO5 := Lib.hid hown5; clear hown5 hB5)
    go_ret
    exact ⟨_, xs ++ [⟨359, 0⟩], rfl, fineS_snoc HF.out (by omega) ⟨by decide, by decide⟩, by rw [spot_snoc, List.length_append, List.length_singleton]; exact HO5.out, (S2.out.belowB HB5.out hg).mono (by omega), T2.out.thenB HB5.out (Nat.le_refl _)⟩
  by_cases h1 : p = 1
  · subst h1
    obtain ⟨W3, hW3⟩ : ∃ W3, w2.alloc (.cells #[.int .i64 16, .int .i64 17] 2) = W3 := ⟨_, rfl⟩
    have T3 := Lib.hid (show Turn g (g + 1) w W3 from hW3 ▸ T2.out.allocR _)
    have HAM := Lib.hid (among_own W3 g (n + 62) w2.heap.size 2 [16, 17] [.int .i64 16, .int .i64 17] rfl rfl (hW3 ▸ S2.out.below ((Below.refl _ _).alloc (Nat.le_refl _) _)) (hW3 ▸ Own.new w2 _ _) (by omega) (by omega) (by decide) (by decide))
    clear S2 T2 O2 HF h0
    go_wp2_with fail
    refine HAM.out.mono ?_; rintro e w4 ⟨m, rfl, hm, s4, t4⟩
    obtain ⟨M, rfl, hM⟩ : ∃ M : Nat, m = (M : Int) ∧ M ≤ 17 := by
      have : m = 16 ∨ m = 17 := by simpa using hm
      rcases this with rfl | rfl
      · exact ⟨16, rfl, by decide⟩
      · exact ⟨17, rfl, by decide⟩
    have z4 : w.heap.size ≤ w4.heap.size := (T3.out.trans t4).size
    obtain ⟨W5, hW5⟩ : ∃ W5, w4.alloc (.cells #[] 38) = W5 := ⟨_, rfl⟩
    have T5 := Lib.hid (show Turn g (g + 1) w W5 from hW5 ▸ (T3.out.trans t4).allocR _)
    have S5 := Lib.hid (show Src W5 g (n + 64) from hW5 ▸ s4.below ((Below.refl _ _).alloc (Nat.le_refl _) _))
    have O5 := Lib.hid (show W5.ownsRow w.heap.size 38 2 (.slice (some ⟨w4.heap.size, 0, none⟩) 0 0) 0 [] from hW5 ▸ own_baseD (own_empty w4 w4.heap.size _ 2 (Nat.le_refl _)) z4)
    clear hm s4 t4 T3 HAM hW3
    go_wp2_with fail
    go_loopw [3, 5] (fun r k wr => ∃ (j : Nat) (ys : List Spot), k = .int .i64 j ∧ j ≤ M ∧ ys.length = j ∧ fineS ys ∧ wr.ownsRow w.heap.size 38 2 r j (ys.flatMap Spot.put) ∧ Src wr g (n + 64) ∧ Turn g (g + 1) w wr) (fun _ k _ => M - (intOf k).toNat)
    case atStart => exact ⟨0, [], rfl, Nat.zero_le _, rfl, ⟨by decide, fun x hx => by cases hx⟩, O5.out, S5.out, T5.out⟩
    case round =>
      clear O5 S5 T5 hW5
      obtain ⟨j, ys, rfl, hj, hyl, hf, hown, hsr, ht⟩ := hrel
      have HF := Lib.hid hf
      have HY := Lib.hid hyl
      have HO := Lib.hid hown
      have HS := Lib.hid hsr
      have HT := Lib.hid ht
      obtain ⟨yo, yx, er1⟩ := (own_rd hown).form
      subst er1
      have hwz : w.heap.size ≤ wr.heap.size := ht.size
      clear hf hyl hown hsr ht
      by_cases hlt : j < M
      · obtain ⟨v, hv, hv2⟩ : ∃ v : Int, 20 * (j : Int) = v ∧ (0 ≤ v ∧ v ≤ 340) := ⟨_, rfl, by omega, by omega⟩
        go_wp2_with (at_builtin; refine app_el rfl _ _ 24 38 i0 (.agg #[.int .i64 0, .int .i64 0]) 2 16 Tryz.underlying24 hi hz0 hz1 hz2 (by rfl) (by decide) rfl wr w.heap.size _ j (ys.flatMap Spot.put) (by rfl) HO.out [.int .i64 v, .int .i64 1000] rfl (spot_one2 _ _) (by rfl) (by omega) (by decide) hwz ?_; intro g6 gc6 w6 hown6 hB6 hz6; have HB6 := Lib.hid (hB6 wr (Below.refl _ _)); have HO6 := Lib.hid hown6; clear hown6 hB6)
        go_roundw
        case rel => exact ⟨j + 1, ys ++ [⟨v, 1000⟩], by go_num, by omega, by rw [List.length_append, List.length_singleton, HY.out], fineS_snoc HF.out (by rw [HY.out]; omega) ⟨⟨by show -1 ≤ v; omega, by show v ≤ 400; omega⟩, by show (-1001 : Int) ≤ 1000; decide, by show (1000 : Int) ≤ 1001; decide⟩, by rw [spot_snoc]; exact HO6.out, HS.out.belowB HB6.out hg, HT.out.thenB HB6.out (Nat.le_refl _)⟩
        case measure => simp [intOf]; omega
      · obtain rfl : j = M := by omega
        go_wp2_with fail
        go_ret
        exact ⟨_, ys, rfl, HF.out, by rw [HY.out]; exact HO.out, HS.out.mono (by omega), HT.out⟩
  by_cases h2 : p = 2
  · subst h2
    by_cases hl : 0 < xs.length
    · have tl : decide ((0 : Int) < (xs.length : Int)) = true := decide_eq_true (by omega)
      rcases own_form O2.out with ⟨_, q⟩ | ⟨gb, cap2, eq⟩
      · omega
      injection eq with q1 q2 q3
      subst q1 q3
      clear q2
      clear h0 h1
      obtain ⟨W3, hW3⟩ : ∃ W3, w2.alloc (.cells #[.int .i64 1001, .int .i64 (-1000), .int .i64 (-1001), .int .i64 1000] 2) = W3 := ⟨_, rfl⟩
      have T3 := Lib.hid (show Turn g (g + 1) w W3 from hW3 ▸ T2.out.allocR _)
      have O3 := Lib.hid (show W3.ownsRow w.heap.size 38 2 (.slice (some ⟨gb, 0, none⟩) xs.length rx) xs.length (xs.flatMap Spot.put) from hW3 ▸ O2.out.alloc _)
      have HAM := Lib.hid (among_own W3 g (n + 62) w2.heap.size 4 [1001, -1000, -1001, 1000] [.int .i64 1001, .int .i64 (-1000), .int .i64 (-1001), .int .i64 1000] rfl rfl (hW3 ▸ S2.out.below ((Below.refl _ _).alloc (Nat.le_refl _) _)) (hW3 ▸ Own.new w2 _ _) (by omega) (by omega) (by decide) (by decide))
      clear S2 T2 O2
      go_wp2_with fail
      refine HAM.out.mono ?_; rintro e w5 ⟨c, rfl, hc, s5, t5⟩
      have hcb : -1001 ≤ c ∧ c ≤ 1001 := by
        have : c = 1001 ∨ c = -1000 ∨ c = -1001 ∨ c = 1000 := by simpa using hc
        omega
      have O5 := own_turn O3.out t5 (by omega)
      have T5 := T3.out.trans t5
      obtain ⟨cq, f1, hgb, hgc⟩ := own_cellI O5 1 (by omega)
      have c1 : w5.cell? ⟨gb, 1, none⟩ = some (.int .i64 xs[0].weight) := cq.trans (Spot_get1 xs 0 hl)
      have O6 := own_setI O5 (0 * 2 + 1) (by omega) (.int .i64 c)
      rw [set_flat1 xs c 0 hl] at O6
      have HO6 := Lib.hid O6
      have HT6 := Lib.hid (Turn.setNew T5 (show w.heap.size ≤ gb by omega) 1 (.int .i64 c))
      have HS6 := Lib.hid (Src.set s5 (show g < gb by omega) 1 (.int .i64 c))
      have HX := Lib.hid (fineS_set HF.out 0 (x := ⟨xs[0].angle, c⟩) ⟨(HF.out.2 xs[0] (List.getElem_mem hl)).1, hcb⟩)
      clear cq hc O5 T5 s5 t5 O6 HAM T3 O3 hW3
      go_wp2_with fail
      go_ret
      exact ⟨_, xs.set 0 ⟨xs[0].angle, c⟩, rfl, HX.out, by rw [List.length_set]; exact HO6.out, HS6.out.mono (by omega), HT6.out⟩
    · have tl : decide ((0 : Int) < (xs.length : Int)) = false := decide_eq_false (by omega)
      clear h0 h1
      go_wp2_with fail
      go_ret
      exact ⟨_, xs, rfl, HF.out, O2.out, S2.out.mono (by omega), T2.out⟩
  by_cases h3 : p = 3
  · subst h3
    by_cases hl : 1 < xs.length
    · have tl : decide ((1 : Int) < (xs.length : Int)) = true := decide_eq_true (by omega)
      have hl0 : 0 < xs.length := by omega
      rcases own_form O2.out with ⟨_, q⟩ | ⟨gb, cap2, eq⟩
      · omega
      injection eq with q1 q2 q3
      subst q1 q3
      clear q2
      obtain ⟨cq, f0, hgb, hgc⟩ := own_cellI O2.out 0 (by omega)
      have c0 : w2.cell? ⟨gb, 0, none⟩ = some (.int .i64 xs[0].angle) := cq.trans (Spot_get0 xs 0 hl0)
      obtain ⟨cq2, f2, _, _⟩ := own_cellI O2.out 2 (by omega)
      have c2 : w2.cell? ⟨gb, 2, none⟩ = some (.int .i64 xs[1].angle) := cq2.trans (Spot_get0 xs 1 hl)
      have O6 := own_setI O2.out (1 * 2) (by omega) (.int .i64 xs[0].angle)
      rw [set_flat0 xs xs[0].angle 1 hl] at O6
      have HO6 := Lib.hid O6
      have HT6 := Lib.hid (Turn.setNew T2.out (show w.heap.size ≤ gb by omega) 2 (.int .i64 xs[0].angle))
      have HS6 := Lib.hid (Src.set S2.out (show g < gb by omega) 2 (.int .i64 xs[0].angle))
      have HX := Lib.hid (fineS_set HF.out 1 (x := ⟨xs[0].angle, xs[1].weight⟩) ⟨(HF.out.2 xs[0] (List.getElem_mem hl0)).1, (HF.out.2 xs[1] (List.getElem_mem hl)).2⟩)
      clear cq cq2 O6 S2 T2 O2 h0 h1 h2
      generalize xs[0].angle = A at *
      go_wp2_with fail
      go_ret
      exact ⟨_, xs.set 1 ⟨A, xs[1].weight⟩, rfl, HX.out, by rw [List.length_set]; exact HO6.out, HS6.out.mono (by omega), HT6.out⟩
    · have tl : decide ((1 : Int) < (xs.length : Int)) = false := decide_eq_false (by omega)
      clear h0 h1 h2
      go_wp2_with fail
      go_ret
      exact ⟨_, xs, rfl, HF.out, O2.out, S2.out.mono (by omega), T2.out⟩
  · clear p0
    go_wp2_with fail
    go_ret
    exact ⟨_, xs, rfl, HF.out, O2.out, S2.out.mono (by omega), T2.out⟩
end Go.Proofs.YtockglfoeagahaaGreatDoor
