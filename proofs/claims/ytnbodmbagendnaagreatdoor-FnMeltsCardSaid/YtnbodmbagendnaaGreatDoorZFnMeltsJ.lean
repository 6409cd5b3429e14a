/- Contracts and plain facts, joined: DrawI2. -/
import Derived.Test.YtnbodmbagendnaaGreatDoorRows
import Derived.Test.YtnbodmbagendnaaGreatDoorZFnMeltsI
namespace Go.Proofs.YtnbodmbagendnaaGreatDoor
open Go.ChangeShapes Go.WideShapes Go.ChangeAt Go.RowKit Go.Deep Go.Joins
set_option linter.unusedVariables false
set_option maxRecDepth 100000
set_option linter.unusedSimpArgs false
theorem own_farS {w : World} {base g : Nat} {E : TypeId} {s n : Nat} {v : Value} {L : List Value} (h : w.ownsRow base E s v n L) (ha : ∀ g', v.ownBlock = some g' → g' ≠ g) (i : Nat) (u : Value) : (w.setCell ⟨g, i, none⟩ u).ownsRow base E s v n L := by
  obtain ⟨h1, h2⟩ := h
  refine ⟨h1, ?_⟩
  rcases h2 with h2 | ⟨g1, cap, cur, rfl, hg0, hg1, rest⟩
  · exact .inl h2
  · refine .inr ⟨g1, cap, cur, rfl, hg0, ?_, rest⟩
    rw [Below.heap_setCell _ _ _ _ (fun e => ha g1 rfl e)]
    exact hg1
theorem names_own {w : World} {g : Nat} {E : TypeId} (h : Own w g E [.string ⟨#[97]⟩, .string ⟨#[98]⟩, .string ⟨#[99]⟩, .string ⟨#[100]⟩, .string ⟨#[101]⟩, .string ⟨#[102]⟩, .string ⟨#[103]⟩]) (k : Nat) (hk : k < 7) : w.cell? ⟨g, k, none⟩ = some (.string (letB k)) := by
  have e : ([.string ⟨#[97]⟩, .string ⟨#[98]⟩, .string ⟨#[99]⟩, .string ⟨#[100]⟩, .string ⟨#[101]⟩, .string ⟨#[102]⟩, .string ⟨#[103]⟩] : List Value) = namesI.flatMap putStr := rfl
  rw [h.cell, e, putStr_get namesI k hk, namesI_get k hk]
set_option maxHeartbeats 3000000 in
theorem draw_ingots (w : World) (g n : Nat) (h : Src w g n) (hn : n ≤ 100000) :
    Calls Tryz.prog 79 #[.pointer (some ⟨g, 0, none⟩)] w fun e w' => ∃ (r : Value) (xs : List Ingot), e = .returned r ∧ drawnI xs ∧ w'.ownsRow w.heap.size 77 5 r xs.length (xs.flatMap Ingot.put) ∧ Src w' g (n + 100) ∧ Turn g (g + 1) w w' := by
  have hg := h.lt
  obtain ⟨i0, hi, hz0, hz1, hz2⟩ := info_parts Ingot_info
  obtain ⟨W1, hW1⟩ : ∃ W1, w.alloc (.cells #[.string ⟨#[97]⟩, .string ⟨#[98]⟩, .string ⟨#[99]⟩, .string ⟨#[100]⟩, .string ⟨#[101]⟩, .string ⟨#[102]⟩, .string ⟨#[103]⟩] 9) = W1 := ⟨_, rfl⟩
  have e1 : W1.heap.size = w.heap.size + 1 := by rw [← hW1]; simp
  have N1 := Lib.hid (show Own W1 w.heap.size 9 [.string ⟨#[97]⟩, .string ⟨#[98]⟩, .string ⟨#[99]⟩, .string ⟨#[100]⟩, .string ⟨#[101]⟩, .string ⟨#[102]⟩, .string ⟨#[103]⟩] from hW1 ▸ Own.new w _ _)
  have S1 : Src W1 g n := hW1 ▸ h.below ((Below.refl _ _).alloc (Nat.le_refl _) _)
  have T1 := Lib.hid (show Turn g (g + 1) w W1 from hW1 ▸ (Turn.refl _ _ w).allocR _)
  have HP := Lib.hid (src_pick W1 g n 8 S1 (by omega) (by omega))
  clear S1 h
  go_enter Tryz.func79, Tryz.ntmps79
  go_wp2_with fail
  refine HP.out.mono ?_; rintro e w2 ⟨q, rfl, q0, _, q1, s2, t2⟩
  obtain ⟨N, rfl⟩ : ∃ N : Nat, q = (N : Int) := ⟨q.toNat, by omega⟩
  have hN : N ≤ 7 := by have := q1 (by omega); omega
  have N2 := Lib.hid (N1.out.turn t2 (.inr (by omega)))
  have T2 := Lib.hid (T1.out.trans t2)
  have z2 : W1.heap.size ≤ w2.heap.size := t2.size
  have S3 : Hid (Src (w2.alloc (.cells #[] 77)) g (n + 2)) := Lib.hid (s2.below ((Below.refl _ _).alloc (Nat.le_refl _) _))
  clear s2 t2 q0 q1 N1 T1 HP
  go_wp2_with fail
  have N3 : Hid (Own (w2.alloc (.cells #[] 77)) w.heap.size 9 [.string ⟨#[97]⟩, .string ⟨#[98]⟩, .string ⟨#[99]⟩, .string ⟨#[100]⟩, .string ⟨#[101]⟩, .string ⟨#[102]⟩, .string ⟨#[103]⟩]) := Lib.hid (N2.out.alloc _)
  have T3 : Hid (Turn g (g + 1) w (w2.alloc (.cells #[] 77))) := Lib.hid (T2.out.allocR _)
  have O3 : Hid ((w2.alloc (.cells #[] 77)).ownsRow w2.heap.size 77 5 (.slice (some ⟨w2.heap.size, 0, none⟩) 0 0) 0 []) := Lib.hid (own_empty w2 w2.heap.size _ 5 (Nat.le_refl _))
  have z3 : w2.heap.size < (w2.alloc (.cells #[] 77)).heap.size := by simp
  clear N2 T2
  go_loopw [5, 6] (fun r i wr => ∃ (k : Nat) (xs : List Ingot), k ≤ N ∧ i = .int .i64 k ∧ xs.length = k ∧ drawnI xs ∧ wr.ownsRow w2.heap.size 77 5 r k (xs.flatMap Ingot.put) ∧ Src wr g (n + 2 + 6 * k) ∧ Turn g (g + 1) w wr ∧ Own wr w.heap.size 9 [.string ⟨#[97]⟩, .string ⟨#[98]⟩, .string ⟨#[99]⟩, .string ⟨#[100]⟩, .string ⟨#[101]⟩, .string ⟨#[102]⟩, .string ⟨#[103]⟩] ∧ w2.heap.size < wr.heap.size) (fun _ i _ => N - (intOf i).toNat)
  case atStart => exact ⟨0, [], Nat.zero_le _, rfl, rfl, drawn_nil, O3.out, S3.out, T3.out, N3.out, z3⟩
  case round =>
    clear O3 S3 T3 N3 z3
    obtain ⟨k, xs, hk, rfl, hxk, hdr, hown, hsr, htr, hnr, hzr⟩ := hrel
    have HDR := Lib.hid hdr
    have HXK := Lib.hid hxk
    have OR := Lib.hid hown
    have SR := Lib.hid hsr
    have TR := Lib.hid htr
    have NR := Lib.hid hnr
    obtain ⟨ro, rx, er0⟩ := (own_rd hown).form
    subst er0
    have HAX := Lib.hid (fun g' hg' => (hown.lt g' hg').2)
    by_cases hlt : k < N
    · have hk7 : k < 7 := by omega
      have hk7I : (k : Int) < 7 := by omega
      have hk7Z : (0 : Int) ≤ (k : Int) := by omega
      have hk7J : (k : Int) ≤ 6 := by omega
      have n0 : wr.cell? ⟨w.heap.size, k, none⟩ = some (.string (letB k)) := names_own hnr k hk7
      have hnl : w.heap.size < wr.heap.size := hnr.lt
      have hgr : g < wr.heap.size := hsr.lt
      have hne1 : ¬ w.heap.size = wr.heap.size := by omega
      have hne2 : ¬ wr.heap.size = w.heap.size := by omega
      clear hdr hxk hown hsr htr hnr
      go_wp2_with fail
      go_region_held3 (fun w' => w'.cell? ⟨w.heap.size, k, none⟩ = some (.string (letB k))) (first | go_keep | (simp [go_sem, hne1, hne2, hg3, Nat.ne_of_lt hg3, HS3]; done)) (first
        | (go_at_call 43
           refine (src_pick _ g (n + 2 + 6 * k) 90 (SR.out.below (by (repeat' (first | (with_reducible exact Below.refl _ _) | (with_reducible assumption) | (with_reducible refine below_dn ?_ _) | (with_reducible refine Below.drew ?_) | (with_reducible refine Below.alloc ?_ ?_ _) | (with_reducible refine Below.setCell ?_ ?_ _) | go_size)))) (by omega) (by omega)).mono ?_; rintro e w4 ⟨p, rfl, p0, _, p1, s4, t4⟩
           have TT : Turn g (g + 1) wr w4 := Turn.trans (Turn.of_below (by (repeat' (first | (with_reducible exact Below.refl _ _) | (with_reducible assumption) | (with_reducible refine below_dn ?_ _) | (with_reducible refine Below.drew ?_) | (with_reducible refine Below.alloc ?_ ?_ _) | (with_reducible refine Below.setCell ?_ ?_ _) | go_size)))) t4
           have HS3 : w4.cell? ⟨w.heap.size, k, none⟩ = some (.string (letB k)) := (TT.cell hnl (.inr (by omega)) k).trans n0
           have hg3 : w.heap.size < w4.heap.size := Nat.lt_of_lt_of_le hnl TT.size
           have HTT := Lib.hid TT
           have HSS := Lib.hid s4
           have hp90 : p < 90 := p1 (by omega)
           first
             | (have t4' : Turn g (g + 1) (wr.alloc (.cells #[.string ⟨#[]⟩, .int .i64 0, .int .i64 0, .int .i64 0, .int .i64 0] 77)).drew w4 := t4
                have ON : Own (wr.alloc (.cells #[.string ⟨#[]⟩, .int .i64 0, .int .i64 0, .int .i64 0, .int .i64 0] 77)).drew wr.heap.size 77 [.string ⟨#[]⟩, .int .i64 0, .int .i64 0, .int .i64 0, .int .i64 0] := Own.new wr _ _
                have OX : Hid (Own w4 wr.heap.size 77 [.string ⟨#[]⟩, .int .i64 0, .int .i64 0, .int .i64 0, .int .i64 0]) := Lib.hid (ON.turn t4' (.inr (by omega)))
                have x0 : w4.cell? ⟨wr.heap.size, 0, none⟩ = some (.string ⟨#[]⟩) := OX.out.cell 0
                have fx0 := OX.out.free 0
                have x1 : w4.cell? ⟨wr.heap.size, 1, none⟩ = some (.int .i64 0) := OX.out.cell 1
                have fx1 := OX.out.free 1
                have x2 : w4.cell? ⟨wr.heap.size, 2, none⟩ = some (.int .i64 0) := OX.out.cell 2
                have fx2 := OX.out.free 2
                have x3 : w4.cell? ⟨wr.heap.size, 3, none⟩ = some (.int .i64 0) := OX.out.cell 3
                have fx3 := OX.out.free 3
                have x4 : w4.cell? ⟨wr.heap.size, 4, none⟩ = some (.int .i64 0) := OX.out.cell 4
                have fx4 := OX.out.free 4
                have hltx := OX.out.lt
                have hnex : ¬ wr.heap.size = w4.heap.size := Nat.ne_of_lt OX.out.lt
                clear t4 s4 TT t4' ON p1)
             | clear t4 s4 TT p1))
      · have hax : ∀ g', (Value.slice ro k rx).ownBlock = some g' → g' ≠ w4.heap.size := fun g' hg' => by have := HAX.out g' hg'; have := HTT.out.size; omega
        have F1 : Hid (Own (w4.alloc (.cells #[.string (letB k), .int .i64 (1000 * (1 + p)), .int .i64 0, .int .i64 0, .int .i64 0] 77)) w4.heap.size 77 [.string (letB k), .int .i64 (1000 * (1 + p)), .int .i64 0, .int .i64 0, .int .i64 0]) := Lib.hid (Own.new w4 _ _)
        have F2 : Hid (Own (w4.alloc (.cells #[.string (letB k), .int .i64 (1000 * (1 + p)), .int .i64 0, .int .i64 0, .int .i64 0] 77)) w.heap.size 9 [.string ⟨#[97]⟩, .string ⟨#[98]⟩, .string ⟨#[99]⟩, .string ⟨#[100]⟩, .string ⟨#[101]⟩, .string ⟨#[102]⟩, .string ⟨#[103]⟩]) := Lib.hid ((NR.out.turn HTT.out (.inr (by omega))).alloc _)
        have F3 : Hid (((w4.alloc (.cells #[.string (letB k), .int .i64 (1000 * (1 + p)), .int .i64 0, .int .i64 0, .int .i64 0] 77))).ownsRow w2.heap.size 77 5 (.slice ro k rx) k (xs.flatMap Ingot.put)) := Lib.hid ((own_turn OR.out HTT.out (by omega)).alloc _)
        have F4 : Hid (Src (w4.alloc (.cells #[.string (letB k), .int .i64 (1000 * (1 + p)), .int .i64 0, .int .i64 0, .int .i64 0] 77)) g (n + 2 + 6 * k + 2)) := Lib.hid (HSS.out.below ((Below.refl _ _).alloc (Nat.le_refl _) _))
        have F5 : Hid (Turn g (g + 1) w (w4.alloc (.cells #[.string (letB k), .int .i64 (1000 * (1 + p)), .int .i64 0, .int .i64 0, .int .i64 0] 77))) := Lib.hid ((TR.out.trans HTT.out).allocR _)
        have F6 : w2.heap.size < w4.heap.size := by have := HTT.out.size; omega
        have F7 : w4.heap.size < (w4.alloc (.cells #[.string (letB k), .int .i64 (1000 * (1 + p)), .int .i64 0, .int .i64 0, .int .i64 0] 77)).heap.size := F1.out.lt
        clear HS3 OR SR TR NR n0 HTT HSS hg3 hne1 hne2
        have HA := Lib.hid (draw_alloy (w4.alloc (.cells #[.string (letB k), .int .i64 (1000 * (1 + p)), .int .i64 0, .int .i64 0, .int .i64 0] 77)) g (n + 2 + 6 * k + 2) F4.out (by omega))
        go_wp2_with fail
        refine HA.out.mono ?_; rintro e w6 ⟨al, rfl, hal, s6, t6⟩
        have G1 := Lib.hid (F1.out.turn t6 (.inr (by omega)))
        have G2 := Lib.hid (F2.out.turn t6 (.inr (by omega)))
        have G3 := Lib.hid (own_turn F3.out t6 (by omega))
        have G5 := Lib.hid (F5.out.trans t6)
        have G4 := Lib.hid s6
        have HAL := Lib.hid hal
        have z6 : (w4.alloc (.cells #[.string (letB k), .int .i64 (1000 * (1 + p)), .int .i64 0, .int .i64 0, .int .i64 0] 77)).heap.size ≤ w6.heap.size := t6.size
        clear F1 F2 F3 F4 F5 HA s6 t6 hal
        have y0 : w6.cell? ⟨w4.heap.size, 0, none⟩ = some (.string (letB k)) := G1.out.cell 0
        have fy0 := G1.out.free 0
        have y1 : w6.cell? ⟨w4.heap.size, 1, none⟩ = some (.int .i64 (1000 * (1 + p))) := G1.out.cell 1
        have fy1 := G1.out.free 1
        have y2 : w6.cell? ⟨w4.heap.size, 2, none⟩ = some (.int .i64 0) := G1.out.cell 2
        have fy2 := G1.out.free 2
        have y3 : w6.cell? ⟨w4.heap.size, 3, none⟩ = some (.int .i64 0) := G1.out.cell 3
        have fy3 := G1.out.free 3
        have y4 : w6.cell? ⟨w4.heap.size, 4, none⟩ = some (.int .i64 0) := G1.out.cell 4
        have fy4 := G1.out.free 4
        have hly : w4.heap.size < w6.heap.size := G1.out.lt
        have J1 : Hid (Own (((w6.setCell ⟨w4.heap.size, 2, none⟩ (.int .i64 al.copper)).setCell ⟨w4.heap.size, 3, none⟩ (.int .i64 al.tin)).setCell ⟨w4.heap.size, 4, none⟩ (.int .i64 al.other)) w4.heap.size 77 [.string (letB k), .int .i64 (1000 * (1 + p)), .int .i64 al.copper, .int .i64 al.tin, .int .i64 al.other]) := Lib.hid ((((G1.out).set 2 _).set 3 _).set 4 _)
        have J2 : Hid (Own (((w6.setCell ⟨w4.heap.size, 2, none⟩ (.int .i64 al.copper)).setCell ⟨w4.heap.size, 3, none⟩ (.int .i64 al.tin)).setCell ⟨w4.heap.size, 4, none⟩ (.int .i64 al.other)) w.heap.size 9 [.string ⟨#[97]⟩, .string ⟨#[98]⟩, .string ⟨#[99]⟩, .string ⟨#[100]⟩, .string ⟨#[101]⟩, .string ⟨#[102]⟩, .string ⟨#[103]⟩]) := Lib.hid ((((G2.out).other (by show w4.heap.size ≠ w.heap.size; omega) _).other (by show w4.heap.size ≠ w.heap.size; omega) _).other (by show w4.heap.size ≠ w.heap.size; omega) _)
        have J3 : Hid ((((w6.setCell ⟨w4.heap.size, 2, none⟩ (.int .i64 al.copper)).setCell ⟨w4.heap.size, 3, none⟩ (.int .i64 al.tin)).setCell ⟨w4.heap.size, 4, none⟩ (.int .i64 al.other)).ownsRow w2.heap.size 77 5 (.slice ro k rx) k (xs.flatMap Ingot.put)) := Lib.hid (own_farS (own_farS (own_farS G3.out hax 2 _) hax 3 _) hax 4 _)
        have J4 : Hid (Src (((w6.setCell ⟨w4.heap.size, 2, none⟩ (.int .i64 al.copper)).setCell ⟨w4.heap.size, 3, none⟩ (.int .i64 al.tin)).setCell ⟨w4.heap.size, 4, none⟩ (.int .i64 al.other)) g (n + 2 + 6 * k + 6)) := Lib.hid (Src.set (Src.set (Src.set (G4.out) (by omega) 2 _) (by omega) 3 _) (by omega) 4 _)
        have J5 : Hid (Turn g (g + 1) w (((w6.setCell ⟨w4.heap.size, 2, none⟩ (.int .i64 al.copper)).setCell ⟨w4.heap.size, 3, none⟩ (.int .i64 al.tin)).setCell ⟨w4.heap.size, 4, none⟩ (.int .i64 al.other))) := Lib.hid (Turn.setNew (Turn.setNew (Turn.setNew (G5.out) (by omega) 2 _) (by omega) 3 _) (by omega) 4 _)
        have z7 : w2.heap.size < (((w6.setCell ⟨w4.heap.size, 2, none⟩ (.int .i64 al.copper)).setCell ⟨w4.heap.size, 3, none⟩ (.int .i64 al.tin)).setCell ⟨w4.heap.size, 4, none⟩ (.int .i64 al.other)).heap.size := by have := J1.out.lt; omega
        have HDX := Lib.hid (drawn_snoc HDR.out (by rw [HXK.out]; omega) (x := ⟨letB k, 1000 * (1 + p), al⟩) (by rw [HXK.out]) ⟨by show 1000 ≤ 1000 * (1 + p); omega, by show 1000 * (1 + p) ≤ 90000; omega⟩ HAL.out)
        clear G1 G2 G3 G4 G5 HAL J1
        have hs7 : (((w6.setCell ⟨w4.heap.size, 2, none⟩ (.int .i64 al.copper)).setCell ⟨w4.heap.size, 3, none⟩ (.int .i64 al.tin)).setCell ⟨w4.heap.size, 4, none⟩ (.int .i64 al.other)).heap.size = w6.heap.size := by simp [World.setCell]
        go_wp2_with (at_builtin; refine app_el rfl _ _ 24 77 i0 (.agg #[.string ByteArray.empty, .int .i64 0, .int .i64 0, .int .i64 0, .int .i64 0]) 5 48 Tryz.underlying24 hi hz0 hz1 hz2 (by rfl) (by decide) rfl (((w6.setCell ⟨w4.heap.size, 2, none⟩ (.int .i64 al.copper)).setCell ⟨w4.heap.size, 3, none⟩ (.int .i64 al.tin)).setCell ⟨w4.heap.size, 4, none⟩ (.int .i64 al.other)) w2.heap.size _ k (xs.flatMap Ingot.put) (by rfl) J3.out [.string (letB k), .int .i64 (1000 * (1 + p)), .int .i64 al.copper, .int .i64 al.tin, .int .i64 al.other] rfl (by intro u hu; simp at hu; rcases hu with rfl | rfl | rfl | rfl | rfl <;> rfl) (by rw [hs7]; rfl) (by omega) (by decide) (Nat.le_of_lt z7) ?_; intro g8 gc8 w8 hown8 hB8 hz8; have HB8 := Lib.hid (hB8 _ (Below.refl _ _)); have HO8 := Lib.hid hown8; clear hown8 hB8)
        go_roundw
        case rel => exact ⟨k + 1, xs ++ [⟨letB k, 1000 * (1 + p), al⟩], by omega, by go_num, by rw [List.length_append, HXK.out]; rfl, HDX.out, by rw [ing_snoc]; exact HO8.out, by
          have := J4.out.belowB HB8.out (by omega)
          exact this.mono (by omega), J5.out.thenB HB8.out (by omega), J2.out.below HB8.out (by omega), by omega⟩
        case measure => simp [intOf]; omega
      · have hax : ∀ g', (Value.slice ro k rx).ownBlock = some g' → g' ≠ wr.heap.size := fun g' hg' => by have := HAX.out g' hg'; have := HTT.out.size; omega
        have F1 : Hid (Own (((((w4.setCell ⟨wr.heap.size, 0, none⟩ (.string (letB k))).setCell ⟨wr.heap.size, 1, none⟩ (.int .i64 (1000 * (1 + p)))).setCell ⟨wr.heap.size, 2, none⟩ (.int .i64 0)).setCell ⟨wr.heap.size, 3, none⟩ (.int .i64 0)).setCell ⟨wr.heap.size, 4, none⟩ (.int .i64 0)) wr.heap.size 77 [.string (letB k), .int .i64 (1000 * (1 + p)), .int .i64 0, .int .i64 0, .int .i64 0]) := Lib.hid ((((((OX.out).set 0 _).set 1 _).set 2 _).set 3 _).set 4 _)
        have F2 : Hid (Own (((((w4.setCell ⟨wr.heap.size, 0, none⟩ (.string (letB k))).setCell ⟨wr.heap.size, 1, none⟩ (.int .i64 (1000 * (1 + p)))).setCell ⟨wr.heap.size, 2, none⟩ (.int .i64 0)).setCell ⟨wr.heap.size, 3, none⟩ (.int .i64 0)).setCell ⟨wr.heap.size, 4, none⟩ (.int .i64 0)) w.heap.size 9 [.string ⟨#[97]⟩, .string ⟨#[98]⟩, .string ⟨#[99]⟩, .string ⟨#[100]⟩, .string ⟨#[101]⟩, .string ⟨#[102]⟩, .string ⟨#[103]⟩]) := Lib.hid ((((((NR.out.turn HTT.out (.inr (by omega))).other (by show wr.heap.size ≠ w.heap.size; omega) _).other (by show wr.heap.size ≠ w.heap.size; omega) _).other (by show wr.heap.size ≠ w.heap.size; omega) _).other (by show wr.heap.size ≠ w.heap.size; omega) _).other (by show wr.heap.size ≠ w.heap.size; omega) _)
        have F3 : Hid (((((((w4.setCell ⟨wr.heap.size, 0, none⟩ (.string (letB k))).setCell ⟨wr.heap.size, 1, none⟩ (.int .i64 (1000 * (1 + p)))).setCell ⟨wr.heap.size, 2, none⟩ (.int .i64 0)).setCell ⟨wr.heap.size, 3, none⟩ (.int .i64 0)).setCell ⟨wr.heap.size, 4, none⟩ (.int .i64 0))).ownsRow w2.heap.size 77 5 (.slice ro k rx) k (xs.flatMap Ingot.put)) := Lib.hid (own_farS (own_farS (own_farS (own_farS (own_farS (own_turn OR.out HTT.out (by omega)) hax 0 _) hax 1 _) hax 2 _) hax 3 _) hax 4 _)
        have F4 : Hid (Src (((((w4.setCell ⟨wr.heap.size, 0, none⟩ (.string (letB k))).setCell ⟨wr.heap.size, 1, none⟩ (.int .i64 (1000 * (1 + p)))).setCell ⟨wr.heap.size, 2, none⟩ (.int .i64 0)).setCell ⟨wr.heap.size, 3, none⟩ (.int .i64 0)).setCell ⟨wr.heap.size, 4, none⟩ (.int .i64 0)) g (n + 2 + 6 * k + 2)) := Lib.hid (Src.set (Src.set (Src.set (Src.set (Src.set (HSS.out) (by omega) 0 _) (by omega) 1 _) (by omega) 2 _) (by omega) 3 _) (by omega) 4 _)
        have F5 : Hid (Turn g (g + 1) w (((((w4.setCell ⟨wr.heap.size, 0, none⟩ (.string (letB k))).setCell ⟨wr.heap.size, 1, none⟩ (.int .i64 (1000 * (1 + p)))).setCell ⟨wr.heap.size, 2, none⟩ (.int .i64 0)).setCell ⟨wr.heap.size, 3, none⟩ (.int .i64 0)).setCell ⟨wr.heap.size, 4, none⟩ (.int .i64 0))) := Lib.hid (Turn.setNew (Turn.setNew (Turn.setNew (Turn.setNew (Turn.setNew (TR.out.trans HTT.out) (by omega) 0 _) (by omega) 1 _) (by omega) 2 _) (by omega) 3 _) (by omega) 4 _)
        have F6 : w2.heap.size < wr.heap.size := by have := HTT.out.size; omega
        have F7 : wr.heap.size < (((((w4.setCell ⟨wr.heap.size, 0, none⟩ (.string (letB k))).setCell ⟨wr.heap.size, 1, none⟩ (.int .i64 (1000 * (1 + p)))).setCell ⟨wr.heap.size, 2, none⟩ (.int .i64 0)).setCell ⟨wr.heap.size, 3, none⟩ (.int .i64 0)).setCell ⟨wr.heap.size, 4, none⟩ (.int .i64 0)).heap.size := F1.out.lt
        clear HS3 OR SR TR NR n0 HTT HSS hg3 hne1 hne2
        have HA := Lib.hid (draw_alloy (((((w4.setCell ⟨wr.heap.size, 0, none⟩ (.string (letB k))).setCell ⟨wr.heap.size, 1, none⟩ (.int .i64 (1000 * (1 + p)))).setCell ⟨wr.heap.size, 2, none⟩ (.int .i64 0)).setCell ⟨wr.heap.size, 3, none⟩ (.int .i64 0)).setCell ⟨wr.heap.size, 4, none⟩ (.int .i64 0)) g (n + 2 + 6 * k + 2) F4.out (by omega))
        go_wp2_with fail
        refine HA.out.mono ?_; rintro e w6 ⟨al, rfl, hal, s6, t6⟩
        have G1 := Lib.hid (F1.out.turn t6 (.inr (by omega)))
        have G2 := Lib.hid (F2.out.turn t6 (.inr (by omega)))
        have G3 := Lib.hid (own_turn F3.out t6 (by omega))
        have G5 := Lib.hid (F5.out.trans t6)
        have G4 := Lib.hid s6
        have HAL := Lib.hid hal
        have z6 : (((((w4.setCell ⟨wr.heap.size, 0, none⟩ (.string (letB k))).setCell ⟨wr.heap.size, 1, none⟩ (.int .i64 (1000 * (1 + p)))).setCell ⟨wr.heap.size, 2, none⟩ (.int .i64 0)).setCell ⟨wr.heap.size, 3, none⟩ (.int .i64 0)).setCell ⟨wr.heap.size, 4, none⟩ (.int .i64 0)).heap.size ≤ w6.heap.size := t6.size
        clear F1 F2 F3 F4 F5 HA s6 t6 hal
        have y0 : w6.cell? ⟨wr.heap.size, 0, none⟩ = some (.string (letB k)) := G1.out.cell 0
        have fy0 := G1.out.free 0
        have y1 : w6.cell? ⟨wr.heap.size, 1, none⟩ = some (.int .i64 (1000 * (1 + p))) := G1.out.cell 1
        have fy1 := G1.out.free 1
        have y2 : w6.cell? ⟨wr.heap.size, 2, none⟩ = some (.int .i64 0) := G1.out.cell 2
        have fy2 := G1.out.free 2
        have y3 : w6.cell? ⟨wr.heap.size, 3, none⟩ = some (.int .i64 0) := G1.out.cell 3
        have fy3 := G1.out.free 3
        have y4 : w6.cell? ⟨wr.heap.size, 4, none⟩ = some (.int .i64 0) := G1.out.cell 4
        have fy4 := G1.out.free 4
        have hly : wr.heap.size < w6.heap.size := G1.out.lt
        have J1 : Hid (Own (((w6.setCell ⟨wr.heap.size, 2, none⟩ (.int .i64 al.copper)).setCell ⟨wr.heap.size, 3, none⟩ (.int .i64 al.tin)).setCell ⟨wr.heap.size, 4, none⟩ (.int .i64 al.other)) wr.heap.size 77 [.string (letB k), .int .i64 (1000 * (1 + p)), .int .i64 al.copper, .int .i64 al.tin, .int .i64 al.other]) := Lib.hid ((((G1.out).set 2 _).set 3 _).set 4 _)
        have J2 : Hid (Own (((w6.setCell ⟨wr.heap.size, 2, none⟩ (.int .i64 al.copper)).setCell ⟨wr.heap.size, 3, none⟩ (.int .i64 al.tin)).setCell ⟨wr.heap.size, 4, none⟩ (.int .i64 al.other)) w.heap.size 9 [.string ⟨#[97]⟩, .string ⟨#[98]⟩, .string ⟨#[99]⟩, .string ⟨#[100]⟩, .string ⟨#[101]⟩, .string ⟨#[102]⟩, .string ⟨#[103]⟩]) := Lib.hid ((((G2.out).other (by show wr.heap.size ≠ w.heap.size; omega) _).other (by show wr.heap.size ≠ w.heap.size; omega) _).other (by show wr.heap.size ≠ w.heap.size; omega) _)
        have J3 : Hid ((((w6.setCell ⟨wr.heap.size, 2, none⟩ (.int .i64 al.copper)).setCell ⟨wr.heap.size, 3, none⟩ (.int .i64 al.tin)).setCell ⟨wr.heap.size, 4, none⟩ (.int .i64 al.other)).ownsRow w2.heap.size 77 5 (.slice ro k rx) k (xs.flatMap Ingot.put)) := Lib.hid (own_farS (own_farS (own_farS G3.out hax 2 _) hax 3 _) hax 4 _)
        have J4 : Hid (Src (((w6.setCell ⟨wr.heap.size, 2, none⟩ (.int .i64 al.copper)).setCell ⟨wr.heap.size, 3, none⟩ (.int .i64 al.tin)).setCell ⟨wr.heap.size, 4, none⟩ (.int .i64 al.other)) g (n + 2 + 6 * k + 6)) := Lib.hid (Src.set (Src.set (Src.set (G4.out) (by omega) 2 _) (by omega) 3 _) (by omega) 4 _)
        have J5 : Hid (Turn g (g + 1) w (((w6.setCell ⟨wr.heap.size, 2, none⟩ (.int .i64 al.copper)).setCell ⟨wr.heap.size, 3, none⟩ (.int .i64 al.tin)).setCell ⟨wr.heap.size, 4, none⟩ (.int .i64 al.other))) := Lib.hid (Turn.setNew (Turn.setNew (Turn.setNew (G5.out) (by omega) 2 _) (by omega) 3 _) (by omega) 4 _)
        have z7 : w2.heap.size < (((w6.setCell ⟨wr.heap.size, 2, none⟩ (.int .i64 al.copper)).setCell ⟨wr.heap.size, 3, none⟩ (.int .i64 al.tin)).setCell ⟨wr.heap.size, 4, none⟩ (.int .i64 al.other)).heap.size := by have := J1.out.lt; omega
        have HDX := Lib.hid (drawn_snoc HDR.out (by rw [HXK.out]; omega) (x := ⟨letB k, 1000 * (1 + p), al⟩) (by rw [HXK.out]) ⟨by show 1000 ≤ 1000 * (1 + p); omega, by show 1000 * (1 + p) ≤ 90000; omega⟩ HAL.out)
        clear G1 G2 G3 G4 G5 HAL J1
        have hs7 : (((w6.setCell ⟨wr.heap.size, 2, none⟩ (.int .i64 al.copper)).setCell ⟨wr.heap.size, 3, none⟩ (.int .i64 al.tin)).setCell ⟨wr.heap.size, 4, none⟩ (.int .i64 al.other)).heap.size = w6.heap.size := by simp [World.setCell]
        go_wp2_with (at_builtin; refine app_el rfl _ _ 24 77 i0 (.agg #[.string ByteArray.empty, .int .i64 0, .int .i64 0, .int .i64 0, .int .i64 0]) 5 48 Tryz.underlying24 hi hz0 hz1 hz2 (by rfl) (by decide) rfl (((w6.setCell ⟨wr.heap.size, 2, none⟩ (.int .i64 al.copper)).setCell ⟨wr.heap.size, 3, none⟩ (.int .i64 al.tin)).setCell ⟨wr.heap.size, 4, none⟩ (.int .i64 al.other)) w2.heap.size _ k (xs.flatMap Ingot.put) (by rfl) J3.out [.string (letB k), .int .i64 (1000 * (1 + p)), .int .i64 al.copper, .int .i64 al.tin, .int .i64 al.other] rfl (by intro u hu; simp at hu; rcases hu with rfl | rfl | rfl | rfl | rfl <;> rfl) (by rw [hs7]; rfl) (by omega) (by decide) (Nat.le_of_lt z7) ?_; intro g8 gc8 w8 hown8 hB8 hz8; have HB8 := Lib.hid (hB8 _ (Below.refl _ _)); have HO8 := Lib.hid hown8; clear hown8 hB8)
        go_roundw
        case rel => exact ⟨k + 1, xs ++ [⟨letB k, 1000 * (1 + p), al⟩], by omega, by go_num, by rw [List.length_append, HXK.out]; rfl, HDX.out, by rw [ing_snoc]; exact HO8.out, by
          have := J4.out.belowB HB8.out (by omega)
          exact this.mono (by omega), J5.out.thenB HB8.out (by omega), J2.out.below HB8.out (by omega), by omega⟩
        case measure => simp [intOf]; omega
    · obtain rfl : k = N := by omega
      have tl : decide ((k : Int) < (k : Int)) = false := decide_eq_false (by omega)
      clear hdr hxk hown hsr htr hnr
      go_wp2_with fail
      go_ret
      exact ⟨_, xs, rfl, HDR.out, by rw [HXK.out]; exact own_baseD OR.out (by omega), SR.out.mono (by omega), TR.out⟩
end Go.Proofs.YtnbodmbagendnaaGreatDoor
