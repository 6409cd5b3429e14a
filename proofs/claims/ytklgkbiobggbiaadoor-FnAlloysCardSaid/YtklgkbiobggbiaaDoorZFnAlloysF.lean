/- Contracts and plain facts, joined: DrawI2, ListXTx, Num, NumI, StepApp. -/
import Derived.Test.YtklgkbiobggbiaaDoorRows
import Derived.Test.YtklgkbiobggbiaaDoorZFnAlloysE
import Derived.Shelf.Strings.Prefix
import Derived.Shelf.Strconv.ParseIntPublic10
import Derived.Shelf.Strconv.ErrVarParseInt
namespace Go.Proofs.YtklgkbiobggbiaaDoor
open Go.ChangeShapes Go.WideShapes Go.ChangeAt Go.RowKit Go.Deep Go.Joins
set_option linter.unusedVariables false
set_option maxRecDepth 100000
set_option linter.unusedSimpArgs false
theorem own_farS {w : World} {base g : Nat} {E : TypeId} {s n : Nat} {v : Value} {L : List Value} (h : w.ownsRow base E s v n L) (ha : ∀ g', v.ownBlock = some g' → g' ≠ g) (i : Nat) (u : Value) : (w.setCell ⟨g, i, none⟩ u).ownsRow base E s v n L := by
  obtain ⟨h1, h2⟩ := h
  refine ⟨h1, ?_⟩
  rcases h2 with h2 | ⟨g1, cap, cur, rfl, hg0, hg1, rest⟩
  · exact .inl h2
  · refine .inr ⟨g1, cap, cur, rfl, hg0, ?_, rest⟩
    rw [Below.heap_setCell _ _ _ _ (fun e => ha g1 rfl e)]
    exact hg1
theorem names_own {w : World} {g : Nat} {E : TypeId} (h : Own w g E [.string ⟨#[97]⟩, .string ⟨#[98]⟩, .string ⟨#[99]⟩, .string ⟨#[100]⟩, .string ⟨#[101]⟩, .string ⟨#[102]⟩, .string ⟨#[103]⟩]) (k : Nat) (hk : k < 7) : w.cell? ⟨g, k, none⟩ = some (.string (letB k)) := by
  have e : ([.string ⟨#[97]⟩, .string ⟨#[98]⟩, .string ⟨#[99]⟩, .string ⟨#[100]⟩, .string ⟨#[101]⟩, .string ⟨#[102]⟩, .string ⟨#[103]⟩] : List Value) = namesI.flatMap putStr := rfl
  rw [h.cell, e, putStr_get namesI k hk, namesI_get k hk]
set_option maxHeartbeats 3000000 in
theorem draw_ingots (w : World) (g n : Nat) (h : Src w g n) (hn : n ≤ 100000) :
    Calls Tryd.prog 58 #[.pointer (some ⟨g, 0, none⟩)] w fun e w' => ∃ (r : Value) (xs : List Ingot), e = .returned r ∧ drawnI xs ∧ w'.ownsRow w.heap.size 25 5 r xs.length (xs.flatMap Ingot.put) ∧ Src w' g (n + 100) ∧ Turn g (g + 1) w w' := by
  have hg := h.lt
  obtain ⟨i0, hi, hz0, hz1, hz2⟩ := info_parts Ingot_info
  obtain ⟨W1, hW1⟩ : ∃ W1, w.alloc (.cells #[.string ⟨#[97]⟩, .string ⟨#[98]⟩, .string ⟨#[99]⟩, .string ⟨#[100]⟩, .string ⟨#[101]⟩, .string ⟨#[102]⟩, .string ⟨#[103]⟩] 9) = W1 := ⟨_, rfl⟩
  have e1 : W1.heap.size = w.heap.size + 1 := by rw [← hW1]; simp
  have N1 := Lib.hid (show Own W1 w.heap.size 9 [.string ⟨#[97]⟩, .string ⟨#[98]⟩, .string ⟨#[99]⟩, .string ⟨#[100]⟩, .string ⟨#[101]⟩, .string ⟨#[102]⟩, .string ⟨#[103]⟩] from hW1 ▸ Own.new w _ _)
  have S1 : Src W1 g n := hW1 ▸ h.below ((Below.refl _ _).alloc (Nat.le_refl _) _)
  have T1 := Lib.hid (show Turn g (g + 1) w W1 from hW1 ▸ (Turn.refl _ _ w).allocR _)
  have HP := Lib.hid (src_pick W1 g n 8 S1 (by omega) (by omega))
  clear S1 h
  go_enter Tryd.func58, Tryd.ntmps58
  go_wp2_with fail
  refine HP.out.mono ?_; rintro e w2 ⟨q, rfl, q0, _, q1, s2, t2⟩
  obtain ⟨N, rfl⟩ : ∃ N : Nat, q = (N : Int) := ⟨q.toNat, by omega⟩
  have hN : N ≤ 7 := by have := q1 (by omega); omega
  have N2 := Lib.hid (N1.out.turn t2 (.inr (by omega)))
  have T2 := Lib.hid (T1.out.trans t2)
  have z2 : W1.heap.size ≤ w2.heap.size := t2.size
  have S3 : Hid (Src (w2.alloc (.cells #[] 25)) g (n + 2)) := Lib.hid (s2.below ((Below.refl _ _).alloc (Nat.le_refl _) _))
  clear s2 t2 q0 q1 N1 T1 HP
  go_wp2_with fail
  have N3 : Hid (Own (w2.alloc (.cells #[] 25)) w.heap.size 9 [.string ⟨#[97]⟩, .string ⟨#[98]⟩, .string ⟨#[99]⟩, .string ⟨#[100]⟩, .string ⟨#[101]⟩, .string ⟨#[102]⟩, .string ⟨#[103]⟩]) := Lib.hid (N2.out.alloc _)
  have T3 : Hid (Turn g (g + 1) w (w2.alloc (.cells #[] 25))) := Lib.hid (T2.out.allocR _)
  have O3 : Hid ((w2.alloc (.cells #[] 25)).ownsRow w2.heap.size 25 5 (.slice (some ⟨w2.heap.size, 0, none⟩) 0 0) 0 []) := Lib.hid (own_empty w2 w2.heap.size _ 5 (Nat.le_refl _))
  have z3 : w2.heap.size < (w2.alloc (.cells #[] 25)).heap.size := by simp
  clear N2 T2
  go_loopw [5, 6] (fun r i wr => ∃ (k : Nat) (xs : List Ingot), k ≤ N ∧ i = .int .i64 k ∧ xs.length = k ∧ drawnI xs ∧ wr.ownsRow w2.heap.size 25 5 r k (xs.flatMap Ingot.put) ∧ Src wr g (n + 2 + 6 * k) ∧ Turn g (g + 1) w wr ∧ Own wr w.heap.size 9 [.string ⟨#[97]⟩, .string ⟨#[98]⟩, .string ⟨#[99]⟩, .string ⟨#[100]⟩, .string ⟨#[101]⟩, .string ⟨#[102]⟩, .string ⟨#[103]⟩] ∧ w2.heap.size < wr.heap.size) (fun _ i _ => N - (intOf i).toNat)
  case atStart => exact ⟨0, [], Nat.zero_le _, rfl, rfl, drawn_nil, O3.out, S3.out, T3.out, N3.out, z3⟩
  case round =>
    clear O3 S3 T3 N3 z3
    obtain ⟨k, xs, hk, rfl, hxk, hdr, hown, hsr, htr, hnr, hzr⟩ := hrel
    have HDR := Lib.hid hdr
    have HXK := Lib.hid hxk
    have OR := Lib.hid hown
    have SR := Lib.hid hsr
    have TR := Lib.hid htr
    have NR := Lib.hid hnr
    obtain ⟨ro, rx, er0⟩ := (own_rd hown).form
    subst er0
    have HAX := Lib.hid (fun g' hg' => (hown.lt g' hg').2)
    by_cases hlt : k < N
    · have hk7 : k < 7 := by omega
      have hk7I : (k : Int) < 7 := by omega
      have hk7Z : (0 : Int) ≤ (k : Int) := by omega
      have hk7J : (k : Int) ≤ 6 := by omega
      have n0 : wr.cell? ⟨w.heap.size, k, none⟩ = some (.string (letB k)) := names_own hnr k hk7
      have hnl : w.heap.size < wr.heap.size := hnr.lt
      have hgr : g < wr.heap.size := hsr.lt
      have hne1 : ¬ w.heap.size = wr.heap.size := by omega
      have hne2 : ¬ wr.heap.size = w.heap.size := by omega
      clear hdr hxk hown hsr htr hnr
      go_wp2_with fail
      go_region_held3 (fun w' => w'.cell? ⟨w.heap.size, k, none⟩ = some (.string (letB k))) (first | go_keep | (simp [go_sem, hne1, hne2, hg3, Nat.ne_of_lt hg3, HS3]; done)) (first
        | (go_at_call 94
           refine (src_pick _ g (n + 2 + 6 * k) 90 (SR.out.below (by (repeat' (first | (with_reducible exact Below.refl _ _) | (with_reducible assumption) | (with_reducible refine below_dn ?_ _) | (with_reducible refine Below.drew ?_) | (with_reducible refine Below.alloc ?_ ?_ _) | (with_reducible refine Below.setCell ?_ ?_ _) | go_size)))) (by omega) (by omega)).mono ?_; rintro e w4 ⟨p, rfl, p0, _, p1, s4, t4⟩
           have TT : Turn g (g + 1) wr w4 := Turn.trans (Turn.of_below (by (repeat' (first | (with_reducible exact Below.refl _ _) | (with_reducible assumption) | (with_reducible refine below_dn ?_ _) | (with_reducible refine Below.drew ?_) | (with_reducible refine Below.alloc ?_ ?_ _) | (with_reducible refine Below.setCell ?_ ?_ _) | go_size)))) t4
           have HS3 : w4.cell? ⟨w.heap.size, k, none⟩ = some (.string (letB k)) := (TT.cell hnl (.inr (by omega)) k).trans n0
           have hg3 : w.heap.size < w4.heap.size := Nat.lt_of_lt_of_le hnl TT.size
           have HTT := Lib.hid TT
           have HSS := Lib.hid s4
           have hp90 : p < 90 := p1 (by omega)
           first
             | (have t4' : Turn g (g + 1) (wr.alloc (.cells #[.string ⟨#[]⟩, .int .i64 0, .int .i64 0, .int .i64 0, .int .i64 0] 25)).drew w4 := t4
                have ON : Own (wr.alloc (.cells #[.string ⟨#[]⟩, .int .i64 0, .int .i64 0, .int .i64 0, .int .i64 0] 25)).drew wr.heap.size 25 [.string ⟨#[]⟩, .int .i64 0, .int .i64 0, .int .i64 0, .int .i64 0] := Own.new wr _ _
                have OX : Hid (Own w4 wr.heap.size 25 [.string ⟨#[]⟩, .int .i64 0, .int .i64 0, .int .i64 0, .int .i64 0]) := Lib.hid (ON.turn t4' (.inr (by omega)))
                have x0 : w4.cell? ⟨wr.heap.size, 0, none⟩ = some (.string ⟨#[]⟩) := OX.out.cell 0
                have fx0 := OX.out.free 0
                have x1 : w4.cell? ⟨wr.heap.size, 1, none⟩ = some (.int .i64 0) := OX.out.cell 1
                have fx1 := OX.out.free 1
                have x2 : w4.cell? ⟨wr.heap.size, 2, none⟩ = some (.int .i64 0) := OX.out.cell 2
                have fx2 := OX.out.free 2
                have x3 : w4.cell? ⟨wr.heap.size, 3, none⟩ = some (.int .i64 0) := OX.out.cell 3
                have fx3 := OX.out.free 3
                have x4 : w4.cell? ⟨wr.heap.size, 4, none⟩ = some (.int .i64 0) := OX.out.cell 4
                have fx4 := OX.out.free 4
                have hltx := OX.out.lt
                have hnex : ¬ wr.heap.size = w4.heap.size := Nat.ne_of_lt OX.out.lt
                clear t4 s4 TT t4' ON p1)
             | clear t4 s4 TT p1))
      · have hax : ∀ g', (Value.slice ro k rx).ownBlock = some g' → g' ≠ w4.heap.size := fun g' hg' => by have := HAX.out g' hg'; have := HTT.out.size; omega
        have F1 : Hid (Own (w4.alloc (.cells #[.string (letB k), .int .i64 (1000 * (1 + p)), .int .i64 0, .int .i64 0, .int .i64 0] 25)) w4.heap.size 25 [.string (letB k), .int .i64 (1000 * (1 + p)), .int .i64 0, .int .i64 0, .int .i64 0]) := Lib.hid (Own.new w4 _ _)
        have F2 : Hid (Own (w4.alloc (.cells #[.string (letB k), .int .i64 (1000 * (1 + p)), .int .i64 0, .int .i64 0, .int .i64 0] 25)) w.heap.size 9 [.string ⟨#[97]⟩, .string ⟨#[98]⟩, .string ⟨#[99]⟩, .string ⟨#[100]⟩, .string ⟨#[101]⟩, .string ⟨#[102]⟩, .string ⟨#[103]⟩]) := Lib.hid ((NR.out.turn HTT.out (.inr (by omega))).alloc _)
        have F3 : Hid (((w4.alloc (.cells #[.string (letB k), .int .i64 (1000 * (1 + p)), .int .i64 0, .int .i64 0, .int .i64 0] 25))).ownsRow w2.heap.size 25 5 (.slice ro k rx) k (xs.flatMap Ingot.put)) := Lib.hid ((own_turn OR.out HTT.out (by omega)).alloc _)
        have F4 : Hid (Src (w4.alloc (.cells #[.string (letB k), .int .i64 (1000 * (1 + p)), .int .i64 0, .int .i64 0, .int .i64 0] 25)) g (n + 2 + 6 * k + 2)) := Lib.hid (HSS.out.below ((Below.refl _ _).alloc (Nat.le_refl _) _))
        have F5 : Hid (Turn g (g + 1) w (w4.alloc (.cells #[.string (letB k), .int .i64 (1000 * (1 + p)), .int .i64 0, .int .i64 0, .int .i64 0] 25))) := Lib.hid ((TR.out.trans HTT.out).allocR _)
        have F6 : w2.heap.size < w4.heap.size := by have := HTT.out.size; omega
        have F7 : w4.heap.size < (w4.alloc (.cells #[.string (letB k), .int .i64 (1000 * (1 + p)), .int .i64 0, .int .i64 0, .int .i64 0] 25)).heap.size := F1.out.lt
        clear HS3 OR SR TR NR n0 HTT HSS hg3 hne1 hne2
        have HA := Lib.hid (draw_alloy (w4.alloc (.cells #[.string (letB k), .int .i64 (1000 * (1 + p)), .int .i64 0, .int .i64 0, .int .i64 0] 25)) g (n + 2 + 6 * k + 2) F4.out (by omega))
        go_wp2_with fail
        refine HA.out.mono ?_; rintro e w6 ⟨al, rfl, hal, s6, t6⟩
        have G1 := Lib.hid (F1.out.turn t6 (.inr (by omega)))
        have G2 := Lib.hid (F2.out.turn t6 (.inr (by omega)))
        have G3 := Lib.hid (own_turn F3.out t6 (by omega))
        have G5 := Lib.hid (F5.out.trans t6)
        have G4 := Lib.hid s6
        have HAL := Lib.hid hal
        have z6 : (w4.alloc (.cells #[.string (letB k), .int .i64 (1000 * (1 + p)), .int .i64 0, .int .i64 0, .int .i64 0] 25)).heap.size ≤ w6.heap.size := t6.size
        clear F1 F2 F3 F4 F5 HA s6 t6 hal
        have y0 : w6.cell? ⟨w4.heap.size, 0, none⟩ = some (.string (letB k)) := G1.out.cell 0
        have fy0 := G1.out.free 0
        have y1 : w6.cell? ⟨w4.heap.size, 1, none⟩ = some (.int .i64 (1000 * (1 + p))) := G1.out.cell 1
        have fy1 := G1.out.free 1
        have y2 : w6.cell? ⟨w4.heap.size, 2, none⟩ = some (.int .i64 0) := G1.out.cell 2
        have fy2 := G1.out.free 2
        have y3 : w6.cell? ⟨w4.heap.size, 3, none⟩ = some (.int .i64 0) := G1.out.cell 3
        have fy3 := G1.out.free 3
        have y4 : w6.cell? ⟨w4.heap.size, 4, none⟩ = some (.int .i64 0) := G1.out.cell 4
        have fy4 := G1.out.free 4
        have hly : w4.heap.size < w6.heap.size := G1.out.lt
        have J1 : Hid (Own (((w6.setCell ⟨w4.heap.size, 2, none⟩ (.int .i64 al.copper)).setCell ⟨w4.heap.size, 3, none⟩ (.int .i64 al.tin)).setCell ⟨w4.heap.size, 4, none⟩ (.int .i64 al.other)) w4.heap.size 25 [.string (letB k), .int .i64 (1000 * (1 + p)), .int .i64 al.copper, .int .i64 al.tin, .int .i64 al.other]) := Lib.hid ((((G1.out).set 2 _).set 3 _).set 4 _)
        have J2 : Hid (Own (((w6.setCell ⟨w4.heap.size, 2, none⟩ (.int .i64 al.copper)).setCell ⟨w4.heap.size, 3, none⟩ (.int .i64 al.tin)).setCell ⟨w4.heap.size, 4, none⟩ (.int .i64 al.other)) w.heap.size 9 [.string ⟨#[97]⟩, .string ⟨#[98]⟩, .string ⟨#[99]⟩, .string ⟨#[100]⟩, .string ⟨#[101]⟩, .string ⟨#[102]⟩, .string ⟨#[103]⟩]) := Lib.hid ((((G2.out).other (by show w4.heap.size ≠ w.heap.size; omega) _).other (by show w4.heap.size ≠ w.heap.size; omega) _).other (by show w4.heap.size ≠ w.heap.size; omega) _)
        have J3 : Hid ((((w6.setCell ⟨w4.heap.size, 2, none⟩ (.int .i64 al.copper)).setCell ⟨w4.heap.size, 3, none⟩ (.int .i64 al.tin)).setCell ⟨w4.heap.size, 4, none⟩ (.int .i64 al.other)).ownsRow w2.heap.size 25 5 (.slice ro k rx) k (xs.flatMap Ingot.put)) := Lib.hid (own_farS (own_farS (own_farS G3.out hax 2 _) hax 3 _) hax 4 _)
        have J4 : Hid (Src (((w6.setCell ⟨w4.heap.size, 2, none⟩ (.int .i64 al.copper)).setCell ⟨w4.heap.size, 3, none⟩ (.int .i64 al.tin)).setCell ⟨w4.heap.size, 4, none⟩ (.int .i64 al.other)) g (n + 2 + 6 * k + 6)) := Lib.hid (Src.set (Src.set (Src.set (G4.out) (by omega) 2 _) (by omega) 3 _) (by omega) 4 _)
        have J5 : Hid (Turn g (g + 1) w (((w6.setCell ⟨w4.heap.size, 2, none⟩ (.int .i64 al.copper)).setCell ⟨w4.heap.size, 3, none⟩ (.int .i64 al.tin)).setCell ⟨w4.heap.size, 4, none⟩ (.int .i64 al.other))) := Lib.hid (Turn.setNew (Turn.setNew (Turn.setNew (G5.out) (by omega) 2 _) (by omega) 3 _) (by omega) 4 _)
        have z7 : w2.heap.size < (((w6.setCell ⟨w4.heap.size, 2, none⟩ (.int .i64 al.copper)).setCell ⟨w4.heap.size, 3, none⟩ (.int .i64 al.tin)).setCell ⟨w4.heap.size, 4, none⟩ (.int .i64 al.other)).heap.size := by have := J1.out.lt; omega
        have HDX := Lib.hid (drawn_snoc HDR.out (by rw [HXK.out]; omega) (x := ⟨letB k, 1000 * (1 + p), al⟩) (by rw [HXK.out]) ⟨by show 1000 ≤ 1000 * (1 + p); omega, by show 1000 * (1 + p) ≤ 90000; omega⟩ HAL.out)
        clear G1 G2 G3 G4 G5 HAL J1
        have hs7 : (((w6.setCell ⟨w4.heap.size, 2, none⟩ (.int .i64 al.copper)).setCell ⟨w4.heap.size, 3, none⟩ (.int .i64 al.tin)).setCell ⟨w4.heap.size, 4, none⟩ (.int .i64 al.other)).heap.size = w6.heap.size := by simp [World.setCell]
        go_wp2_with (at_builtin; refine app_el rfl _ _ 51 25 i0 (.agg #[.string ByteArray.empty, .int .i64 0, .int .i64 0, .int .i64 0, .int .i64 0]) 5 48 Tryd.underlying51 hi hz0 hz1 hz2 (by rfl) (by decide) rfl (((w6.setCell ⟨w4.heap.size, 2, none⟩ (.int .i64 al.copper)).setCell ⟨w4.heap.size, 3, none⟩ (.int .i64 al.tin)).setCell ⟨w4.heap.size, 4, none⟩ (.int .i64 al.other)) w2.heap.size _ k (xs.flatMap Ingot.put) (by rfl) J3.out [.string (letB k), .int .i64 (1000 * (1 + p)), .int .i64 al.copper, .int .i64 al.tin, .int .i64 al.other] rfl (by intro u hu; simp at hu; rcases hu with rfl | rfl | rfl | rfl | rfl <;> rfl) (by rw [hs7]; rfl) (by omega) (by decide) (Nat.le_of_lt z7) ?_; intro g8 gc8 w8 hown8 hB8 hz8; have HB8 := Lib.hid (hB8 _ (Below.refl _ _)); have HO8 := Lib.hid hown8; clear hown8 hB8)
        go_roundw
        case rel => exact ⟨k + 1, xs ++ [⟨letB k, 1000 * (1 + p), al⟩], by omega, by go_num, by rw [List.length_append, HXK.out]; rfl, HDX.out, by rw [ing_snoc]; exact HO8.out, by
          have := J4.out.belowB HB8.out (by omega)
          exact this.mono (by omega), J5.out.thenB HB8.out (by omega), J2.out.below HB8.out (by omega), by omega⟩
        case measure => simp [intOf]; omega
      · have hax : ∀ g', (Value.slice ro k rx).ownBlock = some g' → g' ≠ wr.heap.size := fun g' hg' => by have := HAX.out g' hg'; have := HTT.out.size; omega
        have F1 : Hid (Own (((((w4.setCell ⟨wr.heap.size, 0, none⟩ (.string (letB k))).setCell ⟨wr.heap.size, 1, none⟩ (.int .i64 (1000 * (1 + p)))).setCell ⟨wr.heap.size, 2, none⟩ (.int .i64 0)).setCell ⟨wr.heap.size, 3, none⟩ (.int .i64 0)).setCell ⟨wr.heap.size, 4, none⟩ (.int .i64 0)) wr.heap.size 25 [.string (letB k), .int .i64 (1000 * (1 + p)), .int .i64 0, .int .i64 0, .int .i64 0]) := Lib.hid ((((((OX.out).set 0 _).set 1 _).set 2 _).set 3 _).set 4 _)
        have F2 : Hid (Own (((((w4.setCell ⟨wr.heap.size, 0, none⟩ (.string (letB k))).setCell ⟨wr.heap.size, 1, none⟩ (.int .i64 (1000 * (1 + p)))).setCell ⟨wr.heap.size, 2, none⟩ (.int .i64 0)).setCell ⟨wr.heap.size, 3, none⟩ (.int .i64 0)).setCell ⟨wr.heap.size, 4, none⟩ (.int .i64 0)) w.heap.size 9 [.string ⟨#[97]⟩, .string ⟨#[98]⟩, .string ⟨#[99]⟩, .string ⟨#[100]⟩, .string ⟨#[101]⟩, .string ⟨#[102]⟩, .string ⟨#[103]⟩]) := Lib.hid ((((((NR.out.turn HTT.out (.inr (by omega))).other (by show wr.heap.size ≠ w.heap.size; omega) _).other (by show wr.heap.size ≠ w.heap.size; omega) _).other (by show wr.heap.size ≠ w.heap.size; omega) _).other (by show wr.heap.size ≠ w.heap.size; omega) _).other (by show wr.heap.size ≠ w.heap.size; omega) _)
        have F3 : Hid (((((((w4.setCell ⟨wr.heap.size, 0, none⟩ (.string (letB k))).setCell ⟨wr.heap.size, 1, none⟩ (.int .i64 (1000 * (1 + p)))).setCell ⟨wr.heap.size, 2, none⟩ (.int .i64 0)).setCell ⟨wr.heap.size, 3, none⟩ (.int .i64 0)).setCell ⟨wr.heap.size, 4, none⟩ (.int .i64 0))).ownsRow w2.heap.size 25 5 (.slice ro k rx) k (xs.flatMap Ingot.put)) := Lib.hid (own_farS (own_farS (own_farS (own_farS (own_farS (own_turn OR.out HTT.out (by omega)) hax 0 _) hax 1 _) hax 2 _) hax 3 _) hax 4 _)
        have F4 : Hid (Src (((((w4.setCell ⟨wr.heap.size, 0, none⟩ (.string (letB k))).setCell ⟨wr.heap.size, 1, none⟩ (.int .i64 (1000 * (1 + p)))).setCell ⟨wr.heap.size, 2, none⟩ (.int .i64 0)).setCell ⟨wr.heap.size, 3, none⟩ (.int .i64 0)).setCell ⟨wr.heap.size, 4, none⟩ (.int .i64 0)) g (n + 2 + 6 * k + 2)) := Lib.hid (Src.set (Src.set (Src.set (Src.set (Src.set (HSS.out) (by omega) 0 _) (by omega) 1 _) (by omega) 2 _) (by omega) 3 _) (by omega) 4 _)
        have F5 : Hid (Turn g (g + 1) w (((((w4.setCell ⟨wr.heap.size, 0, none⟩ (.string (letB k))).setCell ⟨wr.heap.size, 1, none⟩ (.int .i64 (1000 * (1 + p)))).setCell ⟨wr.heap.size, 2, none⟩ (.int .i64 0)).setCell ⟨wr.heap.size, 3, none⟩ (.int .i64 0)).setCell ⟨wr.heap.size, 4, none⟩ (.int .i64 0))) := Lib.hid (Turn.setNew (Turn.setNew (Turn.setNew (Turn.setNew (Turn.setNew (TR.out.trans HTT.out) (by omega) 0 _) (by omega) 1 _) (by omega) 2 _) (by omega) 3 _) (by omega) 4 _)
        have F6 : w2.heap.size < wr.heap.size := by have := HTT.out.size; omega
        have F7 : wr.heap.size < (((((w4.setCell ⟨wr.heap.size, 0, none⟩ (.string (letB k))).setCell ⟨wr.heap.size, 1, none⟩ (.int .i64 (1000 * (1 + p)))).setCell ⟨wr.heap.size, 2, none⟩ (.int .i64 0)).setCell ⟨wr.heap.size, 3, none⟩ (.int .i64 0)).setCell ⟨wr.heap.size, 4, none⟩ (.int .i64 0)).heap.size := F1.out.lt
        clear HS3 OR SR TR NR n0 HTT HSS hg3 hne1 hne2
        have HA := Lib.hid (draw_alloy (((((w4.setCell ⟨wr.heap.size, 0, none⟩ (.string (letB k))).setCell ⟨wr.heap.size, 1, none⟩ (.int .i64 (1000 * (1 + p)))).setCell ⟨wr.heap.size, 2, none⟩ (.int .i64 0)).setCell ⟨wr.heap.size, 3, none⟩ (.int .i64 0)).setCell ⟨wr.heap.size, 4, none⟩ (.int .i64 0)) g (n + 2 + 6 * k + 2) F4.out (by omega))
        go_wp2_with fail
        refine HA.out.mono ?_; rintro e w6 ⟨al, rfl, hal, s6, t6⟩
        have G1 := Lib.hid (F1.out.turn t6 (.inr (by omega)))
        have G2 := Lib.hid (F2.out.turn t6 (.inr (by omega)))
        have G3 := Lib.hid (own_turn F3.out t6 (by omega))
        have G5 := Lib.hid (F5.out.trans t6)
        have G4 := Lib.hid s6
        have HAL := Lib.hid hal
        have z6 : (((((w4.setCell ⟨wr.heap.size, 0, none⟩ (.string (letB k))).setCell ⟨wr.heap.size, 1, none⟩ (.int .i64 (1000 * (1 + p)))).setCell ⟨wr.heap.size, 2, none⟩ (.int .i64 0)).setCell ⟨wr.heap.size, 3, none⟩ (.int .i64 0)).setCell ⟨wr.heap.size, 4, none⟩ (.int .i64 0)).heap.size ≤ w6.heap.size := t6.size
        clear F1 F2 F3 F4 F5 HA s6 t6 hal
        have y0 : w6.cell? ⟨wr.heap.size, 0, none⟩ = some (.string (letB k)) := G1.out.cell 0
        have fy0 := G1.out.free 0
        have y1 : w6.cell? ⟨wr.heap.size, 1, none⟩ = some (.int .i64 (1000 * (1 + p))) := G1.out.cell 1
        have fy1 := G1.out.free 1
        have y2 : w6.cell? ⟨wr.heap.size, 2, none⟩ = some (.int .i64 0) := G1.out.cell 2
        have fy2 := G1.out.free 2
        have y3 : w6.cell? ⟨wr.heap.size, 3, none⟩ = some (.int .i64 0) := G1.out.cell 3
        have fy3 := G1.out.free 3
        have y4 : w6.cell? ⟨wr.heap.size, 4, none⟩ = some (.int .i64 0) := G1.out.cell 4
        have fy4 := G1.out.free 4
        have hly : wr.heap.size < w6.heap.size := G1.out.lt
        have J1 : Hid (Own (((w6.setCell ⟨wr.heap.size, 2, none⟩ (.int .i64 al.copper)).setCell ⟨wr.heap.size, 3, none⟩ (.int .i64 al.tin)).setCell ⟨wr.heap.size, 4, none⟩ (.int .i64 al.other)) wr.heap.size 25 [.string (letB k), .int .i64 (1000 * (1 + p)), .int .i64 al.copper, .int .i64 al.tin, .int .i64 al.other]) := Lib.hid ((((G1.out).set 2 _).set 3 _).set 4 _)
        have J2 : Hid (Own (((w6.setCell ⟨wr.heap.size, 2, none⟩ (.int .i64 al.copper)).setCell ⟨wr.heap.size, 3, none⟩ (.int .i64 al.tin)).setCell ⟨wr.heap.size, 4, none⟩ (.int .i64 al.other)) w.heap.size 9 [.string ⟨#[97]⟩, .string ⟨#[98]⟩, .string ⟨#[99]⟩, .string ⟨#[100]⟩, .string ⟨#[101]⟩, .string ⟨#[102]⟩, .string ⟨#[103]⟩]) := Lib.hid ((((G2.out).other (by show wr.heap.size ≠ w.heap.size; omega) _).other (by show wr.heap.size ≠ w.heap.size; omega) _).other (by show wr.heap.size ≠ w.heap.size; omega) _)
        have J3 : Hid ((((w6.setCell ⟨wr.heap.size, 2, none⟩ (.int .i64 al.copper)).setCell ⟨wr.heap.size, 3, none⟩ (.int .i64 al.tin)).setCell ⟨wr.heap.size, 4, none⟩ (.int .i64 al.other)).ownsRow w2.heap.size 25 5 (.slice ro k rx) k (xs.flatMap Ingot.put)) := Lib.hid (own_farS (own_farS (own_farS G3.out hax 2 _) hax 3 _) hax 4 _)
        have J4 : Hid (Src (((w6.setCell ⟨wr.heap.size, 2, none⟩ (.int .i64 al.copper)).setCell ⟨wr.heap.size, 3, none⟩ (.int .i64 al.tin)).setCell ⟨wr.heap.size, 4, none⟩ (.int .i64 al.other)) g (n + 2 + 6 * k + 6)) := Lib.hid (Src.set (Src.set (Src.set (G4.out) (by omega) 2 _) (by omega) 3 _) (by omega) 4 _)
        have J5 : Hid (Turn g (g + 1) w (((w6.setCell ⟨wr.heap.size, 2, none⟩ (.int .i64 al.copper)).setCell ⟨wr.heap.size, 3, none⟩ (.int .i64 al.tin)).setCell ⟨wr.heap.size, 4, none⟩ (.int .i64 al.other))) := Lib.hid (Turn.setNew (Turn.setNew (Turn.setNew (G5.out) (by omega) 2 _) (by omega) 3 _) (by omega) 4 _)
        have z7 : w2.heap.size < (((w6.setCell ⟨wr.heap.size, 2, none⟩ (.int .i64 al.copper)).setCell ⟨wr.heap.size, 3, none⟩ (.int .i64 al.tin)).setCell ⟨wr.heap.size, 4, none⟩ (.int .i64 al.other)).heap.size := by have := J1.out.lt; omega
        have HDX := Lib.hid (drawn_snoc HDR.out (by rw [HXK.out]; omega) (x := ⟨letB k, 1000 * (1 + p), al⟩) (by rw [HXK.out]) ⟨by show 1000 ≤ 1000 * (1 + p); omega, by show 1000 * (1 + p) ≤ 90000; omega⟩ HAL.out)
        clear G1 G2 G3 G4 G5 HAL J1
        have hs7 : (((w6.setCell ⟨wr.heap.size, 2, none⟩ (.int .i64 al.copper)).setCell ⟨wr.heap.size, 3, none⟩ (.int .i64 al.tin)).setCell ⟨wr.heap.size, 4, none⟩ (.int .i64 al.other)).heap.size = w6.heap.size := by simp [World.setCell]
        go_wp2_with (at_builtin; refine app_el rfl _ _ 51 25 i0 (.agg #[.string ByteArray.empty, .int .i64 0, .int .i64 0, .int .i64 0, .int .i64 0]) 5 48 Tryd.underlying51 hi hz0 hz1 hz2 (by rfl) (by decide) rfl (((w6.setCell ⟨wr.heap.size, 2, none⟩ (.int .i64 al.copper)).setCell ⟨wr.heap.size, 3, none⟩ (.int .i64 al.tin)).setCell ⟨wr.heap.size, 4, none⟩ (.int .i64 al.other)) w2.heap.size _ k (xs.flatMap Ingot.put) (by rfl) J3.out [.string (letB k), .int .i64 (1000 * (1 + p)), .int .i64 al.copper, .int .i64 al.tin, .int .i64 al.other] rfl (by intro u hu; simp at hu; rcases hu with rfl | rfl | rfl | rfl | rfl <;> rfl) (by rw [hs7]; rfl) (by omega) (by decide) (Nat.le_of_lt z7) ?_; intro g8 gc8 w8 hown8 hB8 hz8; have HB8 := Lib.hid (hB8 _ (Below.refl _ _)); have HO8 := Lib.hid hown8; clear hown8 hB8)
        go_roundw
        case rel => exact ⟨k + 1, xs ++ [⟨letB k, 1000 * (1 + p), al⟩], by omega, by go_num, by rw [List.length_append, HXK.out]; rfl, HDX.out, by rw [ing_snoc]; exact HO8.out, by
          have := J4.out.belowB HB8.out (by omega)
          exact this.mono (by omega), J5.out.thenB HB8.out (by omega), J2.out.below HB8.out (by omega), by omega⟩
        case measure => simp [intOf]; omega
    · obtain rfl : k = N := by omega
      have tl : decide ((k : Int) < (k : Int)) = false := decide_eq_false (by omega)
      clear hdr hxk hown hsr htr hnr
      go_wp2_with fail
      go_ret
      exact ⟨_, xs, rfl, HDR.out, by rw [HXK.out]; exact own_base OR.out (by omega), SR.out.mono (by omega), TR.out⟩
set_option maxHeartbeats 2000000 in
theorem draw_R8Ingots (w : World) (v : Value) (cs : List UInt8) (h : Rd w.heap.size w v 1 cs.length (cs.flatMap putB)) (hl : cs.length ≤ maxLen) :
    Calls Tryd.prog 23 #[v] w fun e w' => ∃ (r : Value) (xs : List Ingot), e = .returned r ∧ drawnI xs ∧ w'.ownsRow w.heap.size 25 5 r xs.length (xs.flatMap Ingot.put) ∧ Below w.heap.size w w' := by
  have HF := Lib.hid (src_from w v cs h hl)
  obtain ⟨ao, cap, rfl⟩ := h.form
  clear h
  go_enter Tryd.func23, Tryd.ntmps23
  go_wp2_with fail
  refine HF.out.mono ?_; rintro e w1 ⟨rfl, s1, b1⟩
  have hg1 : w.heap.size < w1.heap.size := s1.lt
  have HB1 := Lib.hid b1
  have HD := Lib.hid (draw_ingots w1 w.heap.size 0 s1 (by omega))
  clear s1 b1 HF
  go_wp2_with fail
  refine HD.out.mono ?_; rintro e w2 ⟨r, xs, rfl, hd, ho, s2, t2⟩
  have HO := Lib.hid (own_base ho (Nat.le_of_lt hg1))
  have HB2 := Lib.hid (HB1.out.trans (t2.below (B := w.heap.size) (Nat.le_refl _) (Nat.le_of_lt hg1)))
  have HDD := Lib.hid hd
  obtain ⟨ro, rc, er⟩ := (own_rd ho).form
  subst er
  clear hd ho s2 t2 HD HB1
  go_wp2_with fail
  go_ret
  exact ⟨_, xs, rfl, HDD.out, HO.out, HB2.out⟩
end Go.Proofs.YtklgkbiobggbiaaDoor
namespace Go.Proofs.YtklgkbiobggbiaaDoor
open Go.ChangeShapes Go.WideShapes Go.ChangeAt Go.RowKit Go.Deep Go.Joins
set_option linter.unusedVariables false
set_option maxRecDepth 100000
set_option linter.unusedSimpArgs false
theorem isValue_at {n : Int} {b : Bool} (hv : valB n = b) (w : World) : Calls Tryd.prog 98 #[.int .i64 n] w fun e w' => e = .returned (.bool (!b)) ∧ w = w' := by
  have hb : inB n (-1000000000000) 1000000000000 = b := hv
  have H : ∀ w' : World, Calls Tryd.prog 99 #[.int .i64 n] w' fun e w'' => e = .returned (.bool b) ∧ w' = w'' := fun w' => by
    go_enter Tryd.func99, Tryd.ntmps99
    go_wp2_with (go_at_call 70; refine (within_is _ _ _ _ hb).mono ?_; rintro e w' ⟨rfl, rfl⟩)
    go_ret
    exact ⟨rfl, rfl⟩
  have HH := Lib.hid H; clear H
  go_enter Tryd.func98, Tryd.ntmps98
  go_wp2_with (go_at_call 99; refine (HH.out _).mono ?_; rintro e1 w1 ⟨rfl, rfl⟩)
  go_ret
  exact ⟨rfl, rfl⟩
theorem all_take {xs : List Int} {k : Nat} (h : k < xs.length) (ha : (xs.take k).all valB = true) (hv : valB xs[k] = true) : (xs.take (k + 1)).all valB = true := by
  rw [List.take_succ_eq_append_getElem h, List.all_append, ha]
  simp [hv]
theorem IndexFunc_any (w : World) (v : Value) (zs : List Int) (h : Rd w.heap.size w v 1 zs.length (zs.flatMap putI)) (h0 : 0 < zs.length) (hn : zs.length ≤ 64) :
    Calls Tryd.prog 124 #[v, .func (.func 98) #[] #[]] w fun e w' => ∃ r : Int, e = .returned (.int .i64 r) ∧ decide (0 ≤ r) = !(zs.all valB) ∧ w = w' := by
  obtain ⟨hL, ao, cap, rfl, hcap, hmax, hnil, hsome⟩ := h
  go_enter Tryd.func124, Tryd.ntmps124
  go_wp2
  go_loop [8] (fun i => ∃ (k : Nat), k ≤ zs.length ∧ i = .int .i64 k ∧ (zs.take k).all valB = true) (fun i => zs.length - (intOf i).toNat)
  case atStart => exact ⟨0, Nat.zero_le _, rfl, rfl⟩
  case round =>
    obtain ⟨k, hk, rfl, hal⟩ := hrel
    have HA := Lib.hid hal; clear hal
    by_cases hlt : k < zs.length
    · obtain ⟨b, off, rfl, hbB, hc⟩ := hsome (by omega)
      have c1 : w.cell? ⟨b, off + k, none⟩ = some (.int .i64 zs[k]) := by rw [hc k (by omega), putI_get zs k hlt]
      clear hc hsome hnil
      cases hv : valB zs[k]
      · have HC := Lib.hid (fun w' => isValue_at hv w')
        have e : Hid (zs.all valB = false) := Lib.hid (by
          rw [List.all_eq_false]
          exact ⟨zs[k], List.getElem_mem hlt, by rw [hv]; simp⟩)
        clear hv
        go_wp2_with (go_at_call 98; refine (HC.out _).mono ?_; rintro e1 w1 ⟨rfl, rfl⟩)
        go_ret
        exact ⟨k, rfl, by rw [e.out]; exact decide_eq_true (by omega), rfl⟩
      · have HC := Lib.hid (fun w' => isValue_at hv w')
        have e := Lib.hid (all_take hlt HA.out hv)
        clear hv
        go_wp2_with (go_at_call 98; refine (HC.out _).mono ?_; rintro e1 w1 ⟨rfl, rfl⟩)
        go_round
        case rel => exact ⟨k + 1, by omega, by go_num, e.out⟩
        case measure => simp [intOf]; omega
    · obtain rfl : k = zs.length := by omega
      have e : Hid (zs.all valB = true) := Lib.hid (by have := HA.out; rwa [List.take_length] at this)
      clear hsome hnil
      go_wp2
      go_ret
      exact ⟨-1, rfl, by rw [e.out]; rfl, rfl⟩
theorem ContainsFunc_any {b : Bool} (w : World) (v : Value) (zs : List Int) (h : Rd w.heap.size w v 1 zs.length (zs.flatMap putI)) (h0 : 0 < zs.length) (hn : zs.length ≤ 64) (hb : zs.all valB = b) :
    Calls Tryd.prog 97 #[v, .func (.func 98) #[] #[]] w fun e w' => e = .returned (.bool (!b)) ∧ w = w' := by
  have H := Lib.hid (IndexFunc_any w v zs h h0 hn)
  rw [hb] at H
  clear h hb
  go_enter Tryd.func97, Tryd.ntmps97
  go_wp2_with fail
  refine H.out.mono ?_; rintro e1 w1 ⟨r, rfl, hr, rfl⟩
  go_wp2_with fail
  go_ret
  exact ⟨by rw [← hr]; try rfl, rfl⟩
theorem listX_sizes (zs : List Int) (hz : ∀ z ∈ zs, -1000000000000 ≤ z ∧ z ≤ 1000000000000) : ∀ x ∈ zs.map decT, x.size ≤ 21 := by
  intro x hx
  obtain ⟨z, hz1, rfl⟩ := List.mem_map.1 hx
  exact decT_sizeV (hz z hz1)
set_option maxHeartbeats 2000000 in
theorem impl_ListTextX (w : World) (v : Value) (zs : List Int) (h : Rd w.heap.size w v 1 zs.length (zs.flatMap putI)) (h0 : 0 < zs.length) (hn : zs.length ≤ 2097152) (hp : Pow10 w) :
    Calls Tryd.prog 60 #[v] w fun e w' => e = .returned (.string (listX zs)) ∧ Below w.heap.size w w' := by
  by_cases h64n : 64 < zs.length
  · have e : Hid (listX zs = ⟨#[]⟩) := Lib.hid (if_neg (by omega))
    obtain ⟨ao, cap, rfl⟩ := h.form
    have h64 : decide ((64 : Int) < zs.length) = true := decide_eq_true (by omega)
    clear h hp
    go_enter Tryd.func60, Tryd.ntmps60
    go_wp2_with fail
    go_ret
    exact ⟨by rw [e.out]; try rfl, Below.refl _ _⟩
  have h64 : decide ((64 : Int) < zs.length) = false := decide_eq_false (by omega)
  cases hb : zs.all valB
  · have HCF := Lib.hid (ContainsFunc_any w v zs h h0 (by omega) hb)
    have e : Hid (listX zs = ⟨#[]⟩) := Lib.hid (if_neg (by rw [hb]; simp))
    obtain ⟨ao, cap, rfl⟩ := h.form
    clear h hp hb
    go_enter Tryd.func60, Tryd.ntmps60
    go_wp2_with (go_at_call 97; refine HCF.out.mono ?_; rintro e1 w1 ⟨rfl, rfl⟩)
    go_ret
    exact ⟨by rw [e.out]; try rfl, Below.refl _ _⟩
  have HCF := Lib.hid (ContainsFunc_any w v zs h h0 (by omega) hb)
  have el0 : Hid (listX zs = listT zs) := Lib.hid (if_pos ⟨by omega, hb⟩)
  have Hz : Hid (∀ z ∈ zs, -1000000000000 ≤ z ∧ z ≤ 1000000000000) := Lib.hid (fun z hz => valB_bd (List.all_eq_true.1 hb z hz))
  have Hs := Lib.hid (listX_sizes zs Hz.out)
  clear hb
  obtain ⟨hL, ao, cap, rfl, hcap, hmax, hnil, hsome⟩ := h
  obtain ⟨i0, hi, hz0, hz1, hz2⟩ := info_parts infoS
  have HP := Lib.hid hp; clear hp
  have hne : ((zs.length : Int) == 0) = false := beq_eq_false_iff_ne.2 (by omega)
  have hne2 : decide (zs.length = 0) = false := decide_eq_false (by omega)
  have h64b : decide (64 < zs.length) = false := decide_eq_false (by omega)
  go_enter Tryd.func60, Tryd.ntmps60
  go_wp2_with (go_at_call 97; refine HCF.out.mono ?_; rintro e1 w1 ⟨rfl, rfl⟩)
  go_loopw [3, 18] (fun r i wr => ∃ (k : Nat), k ≤ zs.length ∧ i = .int .i64 k ∧ wr.ownsRow w.heap.size 9 1 r ((zs.map decT).take k).length (((zs.map decT).take k).flatMap putStr) ∧ Below w.heap.size w wr) (fun _ i _ => zs.length - (intOf i).toNat)
  case atStart => exact ⟨0, Nat.zero_le _, rfl, own_nil _ _ _ _, Below.refl _ _⟩
  case round =>
    obtain ⟨k, hk, rfl, hown, hb⟩ := hrel
    have HO := Lib.hid hown; clear hown
    have HB := Lib.hid hb
    have hlk : ((zs.map decT).take k).length ≤ 64 := by rw [List.length_take, List.length_map]; omega
    by_cases hlt : k < zs.length
    · obtain ⟨b, off, rfl, hbB, hc⟩ := hsome (by omega)
      have c1 : wr.cell? ⟨b, off + k, none⟩ = some (.int .i64 zs[k]) := by rw [hb.cell (p := ⟨b, off + k, none⟩) hbB, hc k (by omega), putI_get zs k hlt]
      have hzk := Hz.out zs[k] (List.getElem_mem hlt)
      have HD := Lib.hid (impl_Decimal zs[k] wr (by omega) (by omega) (HP.out.below hb))
      have hlm : k < (zs.map decT).length := by rw [List.length_map]; exact hlt
      have e : Hid ((zs.map decT).take (k + 1) = (zs.map decT).take k ++ [decT zs[k]]) := Lib.hid (by rw [List.take_succ_eq_append_getElem hlm, List.getElem_map])
      clear hc hsome hnil hb hlm
      generalize (zs.map decT).take k = J at *
      go_wp2_with fail
      refine HD.out.mono ?_; rintro e1 w1 ⟨rfl, b1⟩
      have HB1 := Lib.hid (HB.out.trans (b1.mono HB.out.size))
      have HO1 := Lib.hid (own_below HO.out b1 (Nat.le_refl _))
      have hws1 := HB1.out.size
      clear b1
      go_wp2_with (at_builtin; refine app_el rfl _ _ 35 9 i0 (.string ByteArray.empty) 1 16 Tryd.underlying35 hi hz0 hz1 hz2 rfl (by decide) rfl w1 w.heap.size _ _ (J.flatMap putStr) (by rfl) HO1.out [.string (decT zs[k])] rfl (by intro u hu; simp at hu; subst hu; rfl) (by rfl) (by omega) (by decide) hws1 ?_; intro g gc w3 hown3 hB3 hz; have HB3 := Lib.hid (hB3 w HB1.out); have HO3 := Lib.hid hown3; clear hown3 hB3)
      go_roundw
      case rel => exact ⟨k + 1, by omega, by go_num, by rw [e.out, strs_snoc, List.length_append]; exact HO3.out, HB3.out⟩
      case measure => simp [intOf]; omega
    · have em : (zs.map decT).take k = zs.map decT := List.take_of_length_le (by rw [List.length_map]; omega)
      rw [em] at HO
      have hrd := own_rd HO.out
      have HJ := Lib.hid (impl_join 44 wr _ (zs.map decT) hrd (by rw [List.length_map]; exact h0) (by rw [List.length_map]; omega) 21 (by omega) Hs.out)
      have el : Hid (listX zs = joinT 44 (zs.map decT)) := Lib.hid el0.out
      obtain ⟨jo, jc, ej⟩ := hrd.form
      subst ej
      rw [List.length_map] at HJ
      generalize joinT 44 (zs.map decT) = J at *
      clear hsome hnil hb em hrd
      go_wp2_with fail
      refine HJ.out.mono ?_; rintro e1 w1 ⟨rfl, b1⟩
      have HB1 := Lib.hid (HB.out.trans (b1.mono HB.out.size)); clear b1
      go_wp2_with fail
      go_ret
      exact ⟨by rw [el.out]; try rfl, HB1.out⟩
end Go.Proofs.YtklgkbiobggbiaaDoor
namespace Go.Proofs.YtklgkbiobggbiaaDoor
open Go.ChangeShapes Go.WideShapes Go.ChangeAt Go.RowKit Go.Deep Go.Joins
set_option linter.unusedVariables false
set_option maxRecDepth 100000
set_option linter.unusedSimpArgs false
theorem head_at (s : ByteArray) (k : Nat) (h : k < s.size) : (s.data.toList.drop k).head? = some s[k] := by
  rw [List.head?_drop, List.getElem?_eq_getElem (by simpa using h)]; rfl
theorem drop_at (s : ByteArray) (a k : Nat) (h : a + k < s.size) : (s.data.toList.drop a)[k]? = some s[a + k] := by
  rw [List.getElem?_drop, List.getElem?_eq_getElem (by simpa using h)]; rfl
theorem len_drop (s : ByteArray) (a : Nat) : (s.data.toList.drop a).length = s.size - a := by
  rw [List.length_drop]; simp

set_option maxHeartbeats 4000000 in
theorem spec_l01Number (s : ByteArray) (w : World) (hs : s.size ≤ 2147483647) :
    Calls Tryd.prog 50 #[.string s] w fun e w' => e = .returned (.tuple #[.int .i64 (numV s), .bool (numS s).isSome]) ∧ w = w' := by
  by_cases h0 : s.size = 0
  · have e := num_none (numS_bad (s := s) (.inl (by omega)))
    rw [e.1, e.2]
    clear e
    have t0 : ((s.size : Int) == 0) = true := beq_iff_eq.2 (by omega)
    have t1 : decide ((0 : Int) < (s.size : Int)) = false := decide_eq_false (by omega)
    go_enter Tryd.func50, Tryd.ntmps50
    go_wp2_with fail
    go_ret2
    exact ⟨rfl, rfl⟩
  have hp : 0 < s.size := by omega
  have t1 : decide ((0 : Int) < (s.size : Int)) = true := decide_eq_true (by omega)
  have e45 : (45 : UInt8).toNat = 45 := rfl
  have hh0 := headB s hp
  by_cases hc : s[0] = 45
  · have ha : atN s = 1 := by unfold atN; rw [hh0]; rw [hc]; rfl
    have t2 : (((s[0].toNat : Nat) : Int) == 45) = true := beq_iff_eq.2 (by rw [hc, e45]; rfl)
    by_cases hz : s.size = 1
    · have e := num_none (numS_bad (s := s) (.inl (by omega)))
      rw [e.1, e.2]
      have t3 : ((s.size : Int) == 1) = true := beq_iff_eq.2 (by omega)
      clear e
      go_enter Tryd.func50, Tryd.ntmps50
      go_wp2_with fail
      go_ret2
      exact ⟨rfl, rfl⟩
    have t3 : ((s.size : Int) == 1) = false := beq_eq_false_iff_ne.2 (by omega)
    by_cases hl : 18 < s.size - 1
    · have e := num_none (numS_bad (s := s) (.inr (.inl (by omega))))
      rw [e.1, e.2]
      have t4 : decide ((18 : Int) < (s.size : Int) - 1) = true := decide_eq_true (by omega)
      clear e
      go_enter Tryd.func50, Tryd.ntmps50
      go_wp2_with fail
      go_ret2
      exact ⟨rfl, rfl⟩
    have t4 : decide ((18 : Int) < (s.size : Int) - 1) = false := decide_eq_false (by omega)
    have hl1 : 1 < s.size := by omega
    have e48 : (48 : UInt8).toNat = 48 := rfl
    have hh := head_at s 1 hl1
    by_cases h48 : s[1] = 48 ∧ 1 < s.size
    · have e := num_none (numS_bad (s := s) (.inr (.inr ⟨by rw [ha, hh, h48.1], h48.2⟩)))
      rw [e.1, e.2]
      have t5 : (((s[1].toNat : Nat) : Int) == 48) = true := beq_iff_eq.2 (by rw [h48.1, e48]; rfl)
      have t6 : decide ((1 : Int) < (s.size : Int)) = true := decide_eq_true (by omega)
      clear e
      go_enter Tryd.func50, Tryd.ntmps50
      go_wp2_with fail
      go_ret2
      exact ⟨rfl, rfl⟩
    have hbad : Hid (¬ badN s) := Lib.hid (fun q => by
      rcases q with q | q | q
      · omega
      · omega
      · rw [ha, hh] at q; exact h48 ⟨by simpa using q.1, q.2⟩)
    have HA := Lib.hid ha
    have t5 : (((s[1].toNat : Nat) : Int) == 48) = false := beq_eq_false_iff_ne.2 (fun q => h48 ⟨UInt8.toNat_inj.1 (by rw [e48]; omega), hl1⟩)
    clear h48 hh ha hh0
    go_enter Tryd.func50, Tryd.ntmps50
    go_wp2_with fail
    go_loop [5, 6] (fun n i => ∃ (j m : Nat), 1 ≤ j ∧ j ≤ s.size ∧ i = .int .i64 j ∧ n = .int .i64 m ∧ Lib.decFrom 0 ((s.data.toList.drop 1).take (j - 1)) = some m) (fun _ i => s.size - (intOf i).toNat)
    case atStart => exact ⟨1, 0, Nat.le_refl _, by omega, rfl, rfl, rfl⟩
    case round =>
      obtain ⟨j, m, hja, hjs, rfl, rfl, hm⟩ := hrel
      by_cases hlt : j < s.size
      · have hat : (s.data.toList.drop 1)[j - 1]? = some s[j] := by rw [drop_at s 1 (j - 1) (by omega)]; congr 2; omega
        have hm17 := Lib.decFrom_take_lt hm (by omega)
        cases hD : inB s[j].toNat 48 57
        · have e := Lib.hid (num_none (numS_digit (s := s) (k := j - 1) (by rw [HA.out]; exact hat) hD))
          have HM := Lib.hid hm; clear hm hat
          go_wp2_with (first | (go_at_call 86; refine (spec_l01Digit_is _ _ (by assumption)).mono ?_; rintro e w' ⟨rfl, rfl⟩))
          go_ret2
          exact ⟨by rw [e.out.1, e.out.2]; rfl, rfl⟩
        · have hd := inB_true hD
          have e := Lib.hid (Lib.decFrom_take _ _ _ _ _ _ hm hat (digitVal_of hD))
          have hms : Hid (j + 1 - 1 = j - 1 + 1) := Lib.hid (by omega)
          have hv : Hid (((m * 10 + (s[j].toNat - 48) : Nat) : Int) = 10 * (m : Int) + ((s[j].toNat : Int) - 48)) := Lib.hid (by omega)
          clear hm hat
          go_wp2_with (first | (go_at_call 86; refine (spec_l01Digit_is _ _ (by assumption)).mono ?_; rintro e w' ⟨rfl, rfl⟩))
          go_round
          case rel => exact ⟨j + 1, m * 10 + (s[j].toNat - 48), by omega, by omega, by go_num, by rw [hv.out] <;> go_num, by rw [hms.out]; exact e.out⟩
          case measure => simp [intOf]; omega
      · obtain rfl : j = s.size := by omega
        have hm18 := Lib.hid hm
        rw [List.take_of_length_le (by rw [len_drop]; exact Nat.le_refl _)] at hm
        have hb18 := Lib.decFrom_lt18 hm (by rw [len_drop]; omega)
        have e := Lib.hid (num_some (numS_ok hbad.out (by rw [HA.out]; exact hm)))
        clear hm
        go_wp2_with fail
        go_ret2
        exact ⟨by rw [e.out.1, e.out.2, HA.out]; rfl, rfl⟩
  · have ha : atN s = 0 := by unfold atN; rw [hh0]; rw [if_neg]; intro q; exact hc (by simpa using q)
    have t2 : (((s[0].toNat : Nat) : Int) == 45) = false := beq_eq_false_iff_ne.2 (fun q => hc (UInt8.toNat_inj.1 (by rw [e45]; omega)))
    have t3 : ((s.size : Int) == 0) = false := beq_eq_false_iff_ne.2 (by omega)
    by_cases hl : 18 < s.size - 0
    · have e := num_none (numS_bad (s := s) (.inr (.inl (by omega))))
      rw [e.1, e.2]
      have t4 : decide ((18 : Int) < (s.size : Int)) = true := decide_eq_true (by omega)
      clear e
      go_enter Tryd.func50, Tryd.ntmps50
      go_wp2_with fail
      go_ret2
      exact ⟨rfl, rfl⟩
    have t4 : decide ((18 : Int) < (s.size : Int)) = false := decide_eq_false (by omega)
    have hl1 : 0 < s.size := by omega
    have e48 : (48 : UInt8).toNat = 48 := rfl
    have hh := head_at s 0 hl1
    by_cases h48 : s[0] = 48 ∧ 1 < s.size
    · have e := num_none (numS_bad (s := s) (.inr (.inr ⟨by rw [ha, hh, h48.1], h48.2⟩)))
      rw [e.1, e.2]
      have t5 : (((s[0].toNat : Nat) : Int) == 48) = true := beq_iff_eq.2 (by rw [h48.1, e48]; rfl)
      have t6 : decide ((1 : Int) < (s.size : Int)) = true := decide_eq_true (by omega)
      clear e
      go_enter Tryd.func50, Tryd.ntmps50
      go_wp2_with fail
      go_ret2
      exact ⟨rfl, rfl⟩
    have hbad : Hid (¬ badN s) := Lib.hid (fun q => by
      rcases q with q | q | q
      · omega
      · omega
      · rw [ha, hh] at q; exact h48 ⟨by simpa using q.1, q.2⟩)
    have HA := Lib.hid ha
    obtain ⟨b5, t5⟩ : ∃ b, (((s[0].toNat : Nat) : Int) == 48) = b := ⟨_, rfl⟩
    obtain ⟨b6, t6⟩ : ∃ b, decide ((1 : Int) < (s.size : Int)) = b := ⟨_, rfl⟩
    have hbb : (b5 && b6) = false := by
      cases b5
      · rfl
      · cases b6
        · rfl
        · exact absurd ⟨UInt8.toNat_inj.1 (by rw [e48]; have := beq_iff_eq.1 t5; omega), by have := of_decide_eq_true t6; omega⟩ h48
    clear h48 hh ha hh0
    go_enter Tryd.func50, Tryd.ntmps50
    cases b5 <;> cases b6 <;> (try cases hbb)
    all_goals
      go_wp2_with fail
      go_loop [5, 6] (fun n i => ∃ (j m : Nat), 0 ≤ j ∧ j ≤ s.size ∧ i = .int .i64 j ∧ n = .int .i64 m ∧ Lib.decFrom 0 ((s.data.toList.drop 0).take (j - 0)) = some m) (fun _ i => s.size - (intOf i).toNat)
      case atStart => exact ⟨0, 0, Nat.le_refl _, by omega, rfl, rfl, rfl⟩
      case round =>
        obtain ⟨j, m, hja, hjs, rfl, rfl, hm⟩ := hrel
        by_cases hlt : j < s.size
        · have hat : (s.data.toList.drop 0)[j - 0]? = some s[j] := by rw [drop_at s 0 (j - 0) (by omega)]; congr 2; omega
          have hm17 := Lib.decFrom_take_lt hm (by omega)
          cases hD : inB s[j].toNat 48 57
          · have e := Lib.hid (num_none (numS_digit (s := s) (k := j - 0) (by rw [HA.out]; exact hat) hD))
            have HM := Lib.hid hm; clear hm hat
            go_wp2_with (first | (go_at_call 86; refine (spec_l01Digit_is _ _ (by assumption)).mono ?_; rintro e w' ⟨rfl, rfl⟩))
            go_ret2
            exact ⟨by rw [e.out.1, e.out.2]; rfl, rfl⟩
          · have hd := inB_true hD
            have e := Lib.hid (Lib.decFrom_take _ _ _ _ _ _ hm hat (digitVal_of hD))
            have hms : Hid (j + 1 - 0 = j - 0 + 1) := Lib.hid (by omega)
            have hv : Hid (((m * 10 + (s[j].toNat - 48) : Nat) : Int) = 10 * (m : Int) + ((s[j].toNat : Int) - 48)) := Lib.hid (by omega)
            clear hm hat
            go_wp2_with (first | (go_at_call 86; refine (spec_l01Digit_is _ _ (by assumption)).mono ?_; rintro e w' ⟨rfl, rfl⟩))
            go_round
            case rel => exact ⟨j + 1, m * 10 + (s[j].toNat - 48), by omega, by omega, by go_num, by rw [hv.out] <;> go_num, by rw [hms.out]; exact e.out⟩
            case measure => simp [intOf]; omega
        · obtain rfl : j = s.size := by omega
          have hm18 := Lib.hid hm
          rw [List.take_of_length_le (by rw [len_drop]; exact Nat.le_refl _)] at hm
          have hb18 := Lib.decFrom_lt18 hm (by rw [len_drop]; omega)
          have e := Lib.hid (num_some (numS_ok hbad.out (by rw [HA.out]; exact hm)))
          clear hm
          go_wp2_with fail
          go_ret2
          exact ⟨by rw [e.out.1, e.out.2, HA.out]; rfl, rfl⟩
end Go.Proofs.YtklgkbiobggbiaaDoor
namespace Go.Proofs.YtklgkbiobggbiaaDoor
open Go.ChangeShapes Go.WideShapes Go.ChangeAt Go.RowKit Go.Deep Go.Joins
set_option linter.unusedVariables false
set_option maxRecDepth 100000
set_option linter.unusedSimpArgs false
def Tryd.layTrim_ren : Go.Shelf.Ren := ⟨fun | 101 => 79 | 208 => 112 | 206 => 134 | n => n, fun | 9 => 9 | 4 => 4 | 3 => 3 | n => n, fun | n => n⟩
theorem Tryd.layTrim : Go.Proofs.Lays.n101 Tryd.prog Tryd.layTrim_ren := {
  mixed := by kernel_rfl
  f101 := Tryd.func79.trans (congrArg some (by kernel_rfl))
  f206 := Tryd.func134.trans (congrArg some (by kernel_rfl))
  f208 := Tryd.func112.trans (congrArg some (by kernel_rfl))
  t3 := Tryd.underlying3
  a3 := Tryd.isAgg3
  z3 := Tryd.sizeOf3
  v3 := Tryd.zeroValue3
  t4 := Tryd.underlying4
  a4 := Tryd.isAgg4
  z4 := Tryd.sizeOf4
  v4 := Tryd.zeroValue4
  t9 := Tryd.underlying9
  a9 := Tryd.isAgg9
  z9 := Tryd.sizeOf9
  v9 := Tryd.zeroValue9 }
def Tryd.layPI_ren : Go.Shelf.Ren := ⟨fun | 174 => 80 | 247 => 113 | 245 => 114 | 287 => 135 | 279 => 136 | 280 => 137 | 281 => 138 | 282 => 139 | 321 => 149 | 322 => 150 | 316 => 151 | 171 => 153 | 205 => 152 | 243 => 160 | 246 => 140 | 283 => 154 | 284 => 155 | 285 => 156 | 286 => 157 | 129 => 162 | 317 => 161 | 318 => 163 | 319 => 164 | 320 => 165 | 337 => 166 | 338 => 167 | n => n, fun | 9 => 9 | 3 => 3 | 2 => 2 | 75 => 109 | 85 => 110 | 4 => 4 | 167 => 157 | 5 => 5 | 53 => 127 | 175 => 158 | 46 => 151 | 168 => 160 | 37 => 49 | 0 => 0 | 210 => 175 | 21 => 21 | 127 => 145 | 145 => 191 | 143 => 189 | 171 => 177 | 173 => 180 | 212 => 193 | 51 => 166 | 20 => 20 | 213 => 194 | 232 => 198 | 233 => 199 | 80 => 126 | n => n, fun | 15 => 1 | 16 => 2 | 17 => 5 | 18 => 6 | 19 => 7 | n => n⟩
theorem Tryd.layPI : Go.Proofs.LaysC.n174 Tryd.prog Tryd.layPI_ren := {
  mixed := by kernel_rfl
  f129 := Tryd.func162.trans (congrArg some (by kernel_rfl))
  f171 := Tryd.func153.trans (congrArg some (by kernel_rfl))
  f174 := Tryd.func80.trans (congrArg some (by kernel_rfl))
  f205 := Tryd.func152.trans (congrArg some (by kernel_rfl))
  f243 := Tryd.func160.trans (congrArg some (by kernel_rfl))
  f245 := Tryd.func114.trans (congrArg some (by kernel_rfl))
  f246 := Tryd.func140.trans (congrArg some (by kernel_rfl))
  f247 := Tryd.func113.trans (congrArg some (by kernel_rfl))
  f279 := Tryd.func136.trans (congrArg some (by kernel_rfl))
  f280 := Tryd.func137.trans (congrArg some (by kernel_rfl))
  f281 := Tryd.func138.trans (congrArg some (by kernel_rfl))
  f282 := Tryd.func139.trans (congrArg some (by kernel_rfl))
  f283 := Tryd.func154.trans (congrArg some (by kernel_rfl))
  f284 := Tryd.func155.trans (congrArg some (by kernel_rfl))
  f285 := Tryd.func156.trans (congrArg some (by kernel_rfl))
  f286 := Tryd.func157.trans (congrArg some (by kernel_rfl))
  f287 := Tryd.func135.trans (congrArg some (by kernel_rfl))
  f316 := Tryd.func151.trans (congrArg some (by kernel_rfl))
  f317 := Tryd.func161.trans (congrArg some (by kernel_rfl))
  f318 := Tryd.func163.trans (congrArg some (by kernel_rfl))
  f319 := Tryd.func164.trans (congrArg some (by kernel_rfl))
  f320 := Tryd.func165.trans (congrArg some (by kernel_rfl))
  f321 := Tryd.func149.trans (congrArg some (by kernel_rfl))
  f322 := Tryd.func150.trans (congrArg some (by kernel_rfl))
  f337 := Tryd.func166.trans (congrArg some (by kernel_rfl))
  f338 := Tryd.func167.trans (congrArg some (by kernel_rfl))
  t0 := Tryd.underlying0
  a0 := Tryd.isAgg0
  z0 := Tryd.sizeOf0
  v0 := Tryd.zeroValue0
  t2 := Tryd.underlying2
  a2 := Tryd.isAgg2
  z2 := Tryd.sizeOf2
  v2 := Tryd.zeroValue2
  t3 := Tryd.underlying3
  a3 := Tryd.isAgg3
  z3 := Tryd.sizeOf3
  v3 := Tryd.zeroValue3
  t4 := Tryd.underlying4
  a4 := Tryd.isAgg4
  z4 := Tryd.sizeOf4
  v4 := Tryd.zeroValue4
  t5 := Tryd.underlying5
  a5 := Tryd.isAgg5
  z5 := Tryd.sizeOf5
  v5 := Tryd.zeroValue5
  t9 := Tryd.underlying9
  a9 := Tryd.isAgg9
  z9 := Tryd.sizeOf9
  v9 := Tryd.zeroValue9
  t20 := Tryd.underlying20
  a20 := Tryd.isAgg20
  z20 := Tryd.sizeOf20
  v20 := Tryd.zeroValue20
  t21 := Tryd.underlying21
  a21 := Tryd.isAgg21
  z21 := Tryd.sizeOf21
  v21 := Tryd.zeroValue21
  t37 := Tryd.underlying49
  a37 := Tryd.isAgg49
  z37 := Tryd.sizeOf49
  v37 := Tryd.zeroValue49
  t46 := Tryd.underlying151
  a46 := Tryd.isAgg151
  z46 := Tryd.sizeOf151
  v46 := Tryd.zeroValue151
  t51 := Tryd.underlying166
  a51 := Tryd.isAgg166
  z51 := Tryd.sizeOf166
  v51 := Tryd.zeroValue166
  t53 := Tryd.underlying127
  a53 := Tryd.isAgg127
  z53 := Tryd.sizeOf127
  v53 := Tryd.zeroValue127
  t75 := Tryd.underlying109
  a75 := Tryd.isAgg109
  z75 := Tryd.sizeOf109
  v75 := Tryd.zeroValue109
  t85 := Tryd.underlying110
  a85 := Tryd.isAgg110
  z85 := Tryd.sizeOf110
  v85 := Tryd.zeroValue110
  t127 := Tryd.underlying145
  a127 := Tryd.isAgg145
  z127 := Tryd.sizeOf145
  v127 := Tryd.zeroValue145
  t143 := Tryd.underlying189
  a143 := Tryd.isAgg189
  z143 := Tryd.sizeOf189
  v143 := Tryd.zeroValue189
  t145 := Tryd.underlying191
  a145 := Tryd.isAgg191
  z145 := Tryd.sizeOf191
  v145 := Tryd.zeroValue191
  t167 := Tryd.underlying157
  a167 := Tryd.isAgg157
  z167 := Tryd.sizeOf157
  v167 := Tryd.zeroValue157
  t168 := Tryd.underlying160
  a168 := Tryd.isAgg160
  z168 := Tryd.sizeOf160
  v168 := Tryd.zeroValue160
  t171 := Tryd.underlying177
  a171 := Tryd.isAgg177
  z171 := Tryd.sizeOf177
  v171 := Tryd.zeroValue177
  t173 := Tryd.underlying180
  a173 := Tryd.isAgg180
  z173 := Tryd.sizeOf180
  v173 := Tryd.zeroValue180
  t175 := Tryd.underlying158
  a175 := Tryd.isAgg158
  z175 := Tryd.sizeOf158
  v175 := Tryd.zeroValue158
  t210 := Tryd.underlying175
  a210 := Tryd.isAgg175
  z210 := Tryd.sizeOf175
  v210 := Tryd.zeroValue175
  t212 := Tryd.underlying193
  a212 := Tryd.isAgg193
  z212 := Tryd.sizeOf193
  v212 := Tryd.zeroValue193
  t213 := Tryd.underlying194
  a213 := Tryd.isAgg194
  z213 := Tryd.sizeOf194
  t232 := Tryd.underlying198
  a232 := Tryd.isAgg198
  z232 := Tryd.sizeOf198
  v232 := Tryd.zeroValue198
  t233 := Tryd.underlying199
  a233 := Tryd.isAgg199
  z233 := Tryd.sizeOf199
  v233 := Tryd.zeroValue199
  g15 := by kernel_rfl
  g16 := by kernel_rfl
  g17 := by kernel_rfl
  g18 := by kernel_rfl
  g19 := by kernel_rfl
  t80 := Tryd.underlying126
  a80 := Tryd.isAgg126
  z80 := Tryd.sizeOf126
  v80 := Tryd.zeroValue126
  i0 := by kernel_rfl
  i2 := by kernel_rfl
  i3 := by kernel_rfl
  i4 := by kernel_rfl
  i5 := by kernel_rfl
  i9 := by kernel_rfl
  i20 := by kernel_rfl
  i21 := by kernel_rfl
  i37 := by kernel_rfl
  i46 := by kernel_rfl
  i51 := by kernel_rfl
  i53 := by kernel_rfl
  i75 := by kernel_rfl
  i80 := by kernel_rfl
  i85 := by kernel_rfl
  i127 := by kernel_rfl
  i143 := by kernel_rfl
  i145 := by kernel_rfl
  i167 := by kernel_rfl
  i168 := by kernel_rfl
  i171 := by kernel_rfl
  i173 := by kernel_rfl
  i175 := by kernel_rfl
  i210 := by kernel_rfl
  i212 := by kernel_rfl
  i232 := by kernel_rfl
  i233 := by kernel_rfl
  m15 := by kernel_rfl
  m16 := by kernel_rfl
  m17 := by kernel_rfl
  m18 := by kernel_rfl
  m19 := by kernel_rfl
  c0 := by kernel_rfl
  c2 := by kernel_rfl
  c3 := by kernel_rfl
  c4 := by kernel_rfl
  c5 := by kernel_rfl
  c9 := by kernel_rfl
  c20 := by kernel_rfl
  c21 := by kernel_rfl
  c37 := by kernel_rfl
  c46 := by kernel_rfl
  c51 := by kernel_rfl
  c53 := by kernel_rfl
  c75 := by kernel_rfl
  c80 := by kernel_rfl
  c85 := by kernel_rfl
  c127 := by kernel_rfl
  c143 := by kernel_rfl
  c145 := by kernel_rfl
  c167 := by kernel_rfl
  c168 := by kernel_rfl
  c171 := by kernel_rfl
  c173 := by kernel_rfl
  c175 := by kernel_rfl
  c210 := by kernel_rfl
  c212 := by kernel_rfl
  c213 := by kernel_rfl
  c232 := by kernel_rfl
  c233 := by kernel_rfl }
/-- the variable strconv.ErrSyntax holds an error -/
def ErrS (w : World) : Prop := ∃ ev, w.cell? ⟨1, 0, none⟩ = some ev ∧ (ev = .nilIface ∨ ∃ te pe, ev = .iface te pe)
theorem ErrS.below {w w' : World} (h : ErrS w) (b : Below w.heap.size w w') : ErrS w' := by
  obtain ⟨ev, h1, h2⟩ := h
  exact ⟨ev, (b.cell (p := ⟨_, 0, none⟩) (Lib.lt_of_cell h1)).trans h1, h2⟩
theorem text_eq {a b : ByteArray} (h : a = b) : (a.toList == b.toList) = true := by rw [h]; simp
theorem text_ne {a b : ByteArray} (h : a ≠ b) : (a.toList == b.toList) = false := by
  rw [beq_eq_false_iff_ne, ByteArray.toList_eq, ByteArray.toList_eq]
  intro q
  exact h (bytes_inj q)
set_option maxHeartbeats 4000000 in
theorem impl_ReadDecimal (s : ByteArray) (w : World) (hs : s.size ≤ 2147483647) (hp : Pow10 w) (he : ErrS w) :
    Calls Tryd.prog 42 #[.string s] w fun e w' => e = .returned (.tuple #[.int .i64 (numV s), .bool (numS s).isSome]) ∧ Below w.heap.size w w' := by
  have hTr := Lib.hid (Any.strings_TrimPrefix Tryd.layTrim s ⟨#[45]⟩ w)
  obtain ⟨D, hD, hDs⟩ : ∃ D : ByteArray, (⟨(Lib.trimPrefix s.data.toList (⟨#[45]⟩ : ByteArray).data.toList).toArray⟩ : ByteArray) = D ∧ D.size = s.size - atN s := by
    refine ⟨_, rfl, ?_⟩
    have e1 : (⟨#[45]⟩ : ByteArray).data.toList = [45] := rfl
    rw [e1, trim_eq]
    show Array.size _ = _
    simp
  rw [hD] at hTr
  clear hD
  have HP := Lib.hid hp; clear hp
  have HE := Lib.hid he; clear he
  by_cases h1 : D.size < 1
  · have e := Lib.hid (num_none (numS_bad (s := s) (.inl (by omega))))
    have t1 : decide ((D.size : Int) < 1) = true := decide_eq_true (by omega)
    go_enter Tryd.func42, Tryd.ntmps42
    go_wp2_with (go_at_call 79; refine hTr.out.mono ?_; rintro e w' ⟨rfl, rfl⟩)
    go_ret2
    exact ⟨by rw [e.out.1, e.out.2]; rfl, Below.refl _ _⟩
  have t1 : decide ((D.size : Int) < 1) = false := decide_eq_false (by omega)
  by_cases h2 : 18 < D.size
  · have e := Lib.hid (num_none (numS_bad (s := s) (.inr (.inl (by omega)))))
    have t2 : decide ((18 : Int) < (D.size : Int)) = true := decide_eq_true (by omega)
    go_enter Tryd.func42, Tryd.ntmps42
    go_wp2_with (go_at_call 79; refine hTr.out.mono ?_; rintro e w' ⟨rfl, rfl⟩)
    go_ret2
    exact ⟨by rw [e.out.1, e.out.2]; rfl, Below.refl _ _⟩
  have t2 : decide ((18 : Int) < (D.size : Int)) = false := decide_eq_false (by omega)
  rcases parse_num (s := s) (by omega) (by omega) with ⟨v, h3, hb, hv⟩ | ⟨h3, h4⟩
  · have hPI := Lib.hid (Any.strconv_ParseInt_10_at64_ok Tryd.layPI s (by omega) v h3 w)
    clear h3
    rcases hv with ⟨h4, h5⟩ | ⟨h4, h5⟩
    · have t3 := text_eq h4
      have e := Lib.hid (num_some h5)
      clear h4 h5
      go_enter Tryd.func42, Tryd.ntmps42
      go_wp2_with (go_at_call 79; refine hTr.out.mono ?_; rintro e w' ⟨rfl, rfl⟩)
      refine hPI.out.mono ?_; rintro e w1 ⟨rfl, hw⟩
      have HB1 : Hid (Below w'.heap.size w' w1) := Lib.hid (by rcases hw with rfl | ⟨t, rfl⟩; exact Below.refl _ _; exact Lib.bytesWorld_below _ _ _)
      clear hw
      go_wp2_with fail
      refine (impl_Decimal v _ (by omega) (by omega) (HP.out.below HB1.out)).mono ?_; rintro e w2 ⟨rfl, b2⟩
      have HB2 := Lib.hid (bnext HB1.out b2); clear b2
      go_wp2_with fail
      go_ret2
      exact ⟨by rw [e.out.1, e.out.2]; rfl, HB2.out⟩
    · have t3 := text_ne h4
      have e := Lib.hid (num_none h5)
      clear h4 h5
      go_enter Tryd.func42, Tryd.ntmps42
      go_wp2_with (go_at_call 79; refine hTr.out.mono ?_; rintro e w' ⟨rfl, rfl⟩)
      refine hPI.out.mono ?_; rintro e w1 ⟨rfl, hw⟩
      have HB1 : Hid (Below w'.heap.size w' w1) := Lib.hid (by rcases hw with rfl | ⟨t, rfl⟩; exact Below.refl _ _; exact Lib.bytesWorld_below _ _ _)
      clear hw
      go_wp2_with fail
      refine (impl_Decimal v _ (by omega) (by omega) (HP.out.below HB1.out)).mono ?_; rintro e w2 ⟨rfl, b2⟩
      have HB2 := Lib.hid (bnext HB1.out b2); clear b2
      go_wp2_with fail
      go_ret2
      exact ⟨by rw [e.out.1, e.out.2]; rfl, HB2.out⟩
  · obtain ⟨ev, hv1, hv2⟩ := HE.out
    have hPI := Lib.hid (Any.strconv_ParseInt_10_at64_syntax Tryd.layPI s (by omega) h3 ev w hv1 hv2)
    have e := Lib.hid (num_none h4)
    clear h3 h4 hv1 hv2
    go_enter Tryd.func42, Tryd.ntmps42
    go_wp2_with (go_at_call 79; refine hTr.out.mono ?_; rintro e w' ⟨rfl, rfl⟩)
    refine hPI.out.mono ?_; rintro e w1 ⟨N, rfl, _, _, b1⟩
    have HB1 := Lib.hid b1; clear b1
    go_wp2_with fail
    go_ret2
    exact ⟨by rw [e.out.1, e.out.2]; rfl, HB1.out⟩
end Go.Proofs.YtklgkbiobggbiaaDoor
namespace Go.Proofs.YtklgkbiobggbiaaDoor
open Go.ChangeShapes Go.WideShapes Go.ChangeAt Go.RowKit Go.Deep Go.Joins
set_option linter.unusedVariables false
set_option maxRecDepth 100000
set_option linter.unusedSimpArgs false
theorem stp_el {P : Program} {o : Oper} {a : Act} {K : Act → World → Prop} {Q : Exit → Act → World → Prop} {w1 : World} (s x : Operand) (T E : TypeId) (i : TypeInfo) (z : Value) (sz bytes : Nat)
    (hT : P.underlying T = some (.slice E)) (hi : P.info? E = some i) (hz : i.zero = some z) (h1 : i.size = sz) (h2 : i.bytes = bytes) (hzs : z.cells.size = sz) (hsz : 0 < sz)
    (ho : o.op = .call { callee := .builtin .append, args := #[s, x], argTypes := #[T, T] }) (w0 : World) (base : Nat) (v : Value) (n : Nat) (L : List Value) (hs : a.eval s = v) (hown : w0.ownsRow base E sz v n L)
    (cs : List Value) (hcs : cs.length = sz) (hone : ∀ u ∈ cs, u.oneCell' = true) (hx : a.eval x = .slice (some ⟨w0.heap.size, 0, none⟩) 1 1) (hn : n + 1 ≤ 2097152) (hby : bytes ≤ 64) (hbase : base ≤ w0.heap.size) (hw : w1 = w0.alloc (.cells cs.toArray E))
    (h : ∀ g cap w', w'.ownsRow base E sz (.slice (some ⟨g, 0, none⟩) (n + 1) cap) (n + 1) (L ++ cs) → (∀ W, Below base W w0 → Below base W w') → (∀ b E' L', Own w0 b E' L' → (∀ g', v.ownBlock = some g' → g' ≠ b) → Own w' b E' L') → K (a.put o.dst (.slice (some ⟨g, 0, none⟩) (n + 1) cap)) w') :
    Oper.wp P o a w1 K Q := by
  subst hw
  have hb : (n + 1) * bytes ≤ 140737488355328 := by
    have := Nat.mul_le_mul hn hby
    omega
  refine wp_append_lies _ s x T ho base E i z sz bytes hT hi hz h1 h2 hzs hsz v n L hs (hown.alloc _) ⟨w0.heap.size, 0, none⟩ 1 1 cs hx (by omega) (World.news_of_block (Own.new w0 E cs)) hone (by omega) (by unfold maxLen; omega) hb (by simp; omega) _ rfl ?_
  intro g cap w' hown' hgrow _ _
  refine h g cap w' hown' (fun W hW => ?_) (fun b E' L' hO hne => ?_)
  · exact grown_below (hW.alloc hbase _) (hown.alloc _) (by simp; omega) hgrow
  · have hO2 : Own (w0.alloc (.cells cs.toArray E)) b E' L' := hO.alloc _
    exact (hgrow.block b hO2.lt (fun e => hne b e.symm rfl)).trans hO2
end Go.Proofs.YtklgkbiobggbiaaDoor
