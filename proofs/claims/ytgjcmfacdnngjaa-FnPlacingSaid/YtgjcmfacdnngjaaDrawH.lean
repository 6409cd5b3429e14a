/- Drawn holes. -/
import Derived.Test.YtgjcmfacdnngjaaRows
import Derived.Test.YtgjcmfacdnngjaaDraw
import Derived.Test.YtgjcmfacdnngjaaVHole
import Derived.Test.YtgjcmfacdnngjaaStepApp
import Derived.Test.YtgjcmfacdnngjaaOwnK
import Derived.Deep.RegionHeld3
namespace Go.Proofs.Ytgjcmfacdnngjaa
open Go.ChangeShapes Go.WideShapes Go.ChangeAt Go.RowKit Go.Deep Go.Joins
set_option linter.unusedVariables false
set_option maxRecDepth 100000
set_option linter.unusedSimpArgs false
def letH (k : Nat) : ByteArray := ⟨#[UInt8.ofNat (97 + k)]⟩
def drawnH (xs : List Hole) : Prop := xs.length ≤ 4 ∧ ∀ k (h : k < xs.length), xs[k].name = letH k ∧ (25000 ≤ xs[k].radius ∧ xs[k].radius ≤ 65000) ∧ (5000 ≤ xs[k].depth ∧ xs[k].depth ≤ 45000)
theorem letH_name : ∀ k, k < 4 → nameB (letH k) = true := by
  intro k h
  match k, h with
  | 0, _ => decide
  | 1, _ => decide
  | 2, _ => decide
  | 3, _ => decide
theorem letH_lt (k : Nat) (h : k < 3) : Op.bytesLess (letH k).toList (letH (k + 1)).toList = true := by
  rw [ByteArray.toList_eq, ByteArray.toList_eq]
  match k, h with
  | 0, _ => rfl
  | 1, _ => rfl
  | 2, _ => rfl
theorem drawnH_nil : drawnH [] := ⟨by simp, fun k h => by simp at h⟩
theorem drawnH_snoc {xs : List Hole} {x : Hole} (h : drawnH xs) (hl : xs.length < 4) (h1 : x.name = letH xs.length) (h2 : 25000 ≤ x.radius ∧ x.radius ≤ 65000) (h3 : 5000 ≤ x.depth ∧ x.depth ≤ 45000) : drawnH (xs ++ [x]) := by
  refine ⟨by rw [List.length_append, List.length_singleton]; omega, fun k hk => ?_⟩
  rw [List.length_append, List.length_singleton] at hk
  by_cases hlt : k < xs.length
  · rw [List.getElem_append_left hlt]; exact h.2 k hlt
  · obtain rfl : k = xs.length := by omega
    rw [List.getElem_append_right (by omega)]
    simp only [Nat.sub_self, List.getElem_cons_zero]
    exact ⟨h1, h2, h3⟩
theorem drawnH_hole {xs : List Hole} (h : drawnH xs) (k : Nat) (hk : k < xs.length) : holeB xs[k] = true := by
  obtain ⟨h1, h2, h3⟩ := h.2 k hk
  unfold holeB
  rw [h1, letH_name k (by have := h.1; omega), inB_mk ⟨by omega, by omega⟩, inB_mk ⟨by omega, by omega⟩]; rfl
theorem drawnH_valid {xs : List Hole} (h : drawnH xs) : validHoleS xs = true := by
  unfold validHoleS
  rw [Bool.and_eq_true, decide_eq_true_eq]
  refine ⟨allK_intro fun k hk => ?_, by have := h.1; omega⟩
  by_cases h0 : 0 < k
  · refine stepB_yes hk h0 (drawnH_hole h k hk) ?_
    obtain ⟨j, rfl⟩ : ∃ j, k = j + 1 := ⟨k - 1, by omega⟩
    unfold ltKHole
    have e1 := (h.2 (j + 1) hk).1
    have e2 := (h.2 j (by omega)).1
    simp only [Nat.add_sub_cancel]
    rw [e1, e2]
    exact letH_lt j (by have := h.1; omega)
  · exact stepB_k0 hk (by omega) (drawnH_hole h k hk)
theorem drawnH_ok {xs : List Hole} (h : drawnH xs) : ∀ x ∈ xs, x.ok := by
  intro x hx
  obtain ⟨k, hk, rfl⟩ := List.mem_iff_getElem.1 hx
  obtain ⟨h1, h2, h3⟩ := h.2 k hk
  refine ⟨by rw [h1]; show (#[UInt8.ofNat (97 + k)] : Array UInt8).size ≤ maxLen; unfold maxLen; simp, ?_, ?_⟩
  · exact ⟨by omega, by omega⟩
  · exact ⟨by omega, by omega⟩
def namesH : List ByteArray := [⟨#[97]⟩, ⟨#[98]⟩, ⟨#[99]⟩, ⟨#[100]⟩]
theorem namesH_get (k : Nat) (h : k < namesH.length) : namesH[k] = letH k := by
  have h7 : k < 4 := h
  match k, h7 with
  | 0, _ => rfl
  | 1, _ => rfl
  | 2, _ => rfl
  | 3, _ => rfl
theorem hole_snoc (xs : List Hole) (a : Hole) : (xs ++ [a]).flatMap Hole.put = xs.flatMap Hole.put ++ [.string a.name, .int .i64 a.radius, .int .i64 a.depth] := by rw [List.flatMap_append]; rfl
theorem own_farH {w : World} {base g : Nat} {E : TypeId} {s n : Nat} {v : Value} {L : List Value} (h : w.ownsRow base E s v n L) (ha : ∀ g', v.ownBlock = some g' → g' ≠ g) (i : Nat) (u : Value) : (w.setCell ⟨g, i, none⟩ u).ownsRow base E s v n L := by
  obtain ⟨h1, h2⟩ := h
  refine ⟨h1, ?_⟩
  rcases h2 with h2 | ⟨g1, cap, cur, rfl, hg0, hg1, rest⟩
  · exact .inl h2
  · refine .inr ⟨g1, cap, cur, rfl, hg0, ?_, rest⟩
    rw [Below.heap_setCell _ _ _ _ (fun e => ha g1 rfl e)]
    exact hg1
theorem names_ownH {w : World} {g : Nat} {E : TypeId} (h : Own w g E [.string ⟨#[97]⟩, .string ⟨#[98]⟩, .string ⟨#[99]⟩, .string ⟨#[100]⟩]) (k : Nat) (hk : k < 4) : w.cell? ⟨g, k, none⟩ = some (.string (letH k)) := by
  have e : ([.string ⟨#[97]⟩, .string ⟨#[98]⟩, .string ⟨#[99]⟩, .string ⟨#[100]⟩] : List Value) = namesH.flatMap putStr := rfl
  rw [h.cell, e, putStr_get namesH k hk, namesH_get k hk]
set_option maxHeartbeats 3000000 in
theorem draw_R8Holes (w : World) (v : Value) (cs : List UInt8) (h : Rd w.heap.size w v 1 cs.length (cs.flatMap putB)) (hl : cs.length ≤ maxLen) :
    Calls Try.prog 5 #[v] w fun e w' => ∃ (r : Value) (xs : List Hole), e = .returned r ∧ drawnH xs ∧ w'.ownsRow w.heap.size 38 3 r xs.length (xs.flatMap Hole.put) ∧ Below w.heap.size w w' := by
  have HF := Lib.hid (src_from w v cs h hl)
  obtain ⟨ao, cap, rfl⟩ := h.form
  obtain ⟨i0, hi, hz0, hz1, hz2⟩ := info_parts Hole_info
  clear h
  go_enter Try.func5, Try.ntmps5
  go_wp2_with fail
  refine HF.out.mono ?_; rintro e wa ⟨rfl, sa, ba⟩
  have hga : w.heap.size < wa.heap.size := sa.lt
  obtain ⟨W1, hW1⟩ : ∃ W1, wa.alloc (.cells #[.string ⟨#[97]⟩, .string ⟨#[98]⟩, .string ⟨#[99]⟩, .string ⟨#[100]⟩] 9) = W1 := ⟨_, rfl⟩
  have e1 : W1.heap.size = wa.heap.size + 1 := by rw [← hW1]; simp
  have N1 := Lib.hid (show Own W1 wa.heap.size 9 [.string ⟨#[97]⟩, .string ⟨#[98]⟩, .string ⟨#[99]⟩, .string ⟨#[100]⟩] from hW1 ▸ Own.new wa _ _)
  have S1 : Src W1 w.heap.size 0 := hW1 ▸ sa.below ((Below.refl _ _).alloc (Nat.le_refl _) _)
  have B1 := Lib.hid (show Below w.heap.size w W1 from hW1 ▸ ba.alloc (Nat.le_of_lt hga) _)
  have HP := Lib.hid (src_pick W1 w.heap.size 0 5 S1 (by omega) (by omega))
  clear S1 sa ba HF
  go_wp2_with fail
  refine HP.out.mono ?_; rintro e w2 ⟨q, rfl, q0, _, q1, s2, t2⟩
  obtain ⟨N, rfl⟩ : ∃ N : Nat, q = (N : Int) := ⟨q.toNat, by omega⟩
  have hN : N ≤ 4 := by have := q1 (by omega); omega
  have N2 := Lib.hid (N1.out.turn t2 (.inr (by omega)))
  have B2 := Lib.hid (B1.out.trans (t2.below (B := w.heap.size) (Nat.le_refl _) (by omega)))
  have z2 : W1.heap.size ≤ w2.heap.size := t2.size
  have S3 : Hid (Src (w2.alloc (.cells #[] 38)) w.heap.size 2) := Lib.hid (s2.below ((Below.refl _ _).alloc (Nat.le_refl _) _))
  clear s2 t2 q0 q1 N1 B1 HP
  go_wp2_with fail
  have N3 : Hid (Own (w2.alloc (.cells #[] 38)) wa.heap.size 9 [.string ⟨#[97]⟩, .string ⟨#[98]⟩, .string ⟨#[99]⟩, .string ⟨#[100]⟩]) := Lib.hid (N2.out.alloc _)
  have B3 : Hid (Below w.heap.size w (w2.alloc (.cells #[] 38))) := Lib.hid (B2.out.alloc (by omega) _)
  have O3 : Hid ((w2.alloc (.cells #[] 38)).ownsRow w2.heap.size 38 3 (.slice (some ⟨w2.heap.size, 0, none⟩) 0 0) 0 []) := Lib.hid (own_empty w2 w2.heap.size _ 3 (Nat.le_refl _))
  have z3 : w2.heap.size < (w2.alloc (.cells #[] 38)).heap.size := by simp
  clear N2 B2
  go_loopw [6, 7] (fun r i wr => ∃ (k : Nat) (xs : List Hole), k ≤ N ∧ i = .int .i64 k ∧ xs.length = k ∧ drawnH xs ∧ wr.ownsRow w2.heap.size 38 3 r k (xs.flatMap Hole.put) ∧ Src wr w.heap.size (2 + 4 * k) ∧ Below w.heap.size w wr ∧ Own wr wa.heap.size 9 [.string ⟨#[97]⟩, .string ⟨#[98]⟩, .string ⟨#[99]⟩, .string ⟨#[100]⟩] ∧ w2.heap.size < wr.heap.size) (fun _ i _ => N - (intOf i).toNat)
  case atStart => exact ⟨0, [], Nat.zero_le _, rfl, rfl, drawnH_nil, O3.out, S3.out, B3.out, N3.out, z3⟩
  case round =>
    clear O3 S3 B3 N3 z3
    obtain ⟨k, xs, hk, rfl, hxk, hdr, hown, hsr, hbr, hnr, hzr⟩ := hrel
    have HDR := Lib.hid hdr
    have HXK := Lib.hid hxk
    have OR := Lib.hid hown
    have SR := Lib.hid hsr
    have BR := Lib.hid hbr
    have NR := Lib.hid hnr
    obtain ⟨ro, rx, er0⟩ := (own_rd hown).form
    subst er0
    have HAX := Lib.hid (fun g' hg' => (hown.lt g' hg').2)
    by_cases hlt : k < N
    · have hk7 : k < 4 := by omega
      have hk7I : (k : Int) < 4 := by omega
      have hk7Z : (0 : Int) ≤ (k : Int) := by omega
      have hk7J : (k : Int) ≤ 3 := by omega
      have n0 : wr.cell? ⟨wa.heap.size, k, none⟩ = some (.string (letH k)) := names_ownH hnr k hk7
      have hnl : wa.heap.size < wr.heap.size := hnr.lt
      have hgr : w.heap.size < wr.heap.size := hsr.lt
      have hne1 : ¬ wa.heap.size = wr.heap.size := by omega
      have hne2 : ¬ wr.heap.size = wa.heap.size := by omega
      clear hdr hxk hown hsr hbr hnr
      go_wp2_with fail
      go_region_held3 (fun w' => w'.cell? ⟨wa.heap.size, k, none⟩ = some (.string (letH k))) (first | go_keep | (simp [go_sem, hne1, hne2, hg3, Nat.ne_of_lt hg3, HS3]; done)) (first
        | (go_at_call 13
           refine (src_pick _ w.heap.size (2 + 4 * k) 40000 (SR.out.below (by (repeat' (first | (with_reducible exact Below.refl _ _) | (with_reducible assumption) | (with_reducible refine below_dn ?_ _) | (with_reducible refine Below.drew ?_) | (with_reducible refine Below.alloc ?_ ?_ _) | (with_reducible refine Below.setCell ?_ ?_ _) | go_size)))) (by omega) (by omega)).mono ?_; rintro e w4 ⟨p, rfl, p0, _, p1, s4, t4⟩
           have TT : Turn w.heap.size (w.heap.size + 1) wr w4 := Turn.trans (Turn.of_below (by (repeat' (first | (with_reducible exact Below.refl _ _) | (with_reducible assumption) | (with_reducible refine below_dn ?_ _) | (with_reducible refine Below.drew ?_) | (with_reducible refine Below.alloc ?_ ?_ _) | (with_reducible refine Below.setCell ?_ ?_ _) | go_size)))) t4
           have HS3 : w4.cell? ⟨wa.heap.size, k, none⟩ = some (.string (letH k)) := (TT.cell hnl (.inr (by omega)) k).trans n0
           have hg3 : wa.heap.size < w4.heap.size := Nat.lt_of_lt_of_le hnl TT.size
           have HTT := Lib.hid TT
           have HSS := Lib.hid s4
           have hp90 : p < 40000 := p1 (by omega)
           first
             | (have t4' : Turn w.heap.size (w.heap.size + 1) (wr.alloc (.cells #[.string ⟨#[]⟩, .int .i64 0, .int .i64 0] 38)).drew w4 := t4
                have ON : Own (wr.alloc (.cells #[.string ⟨#[]⟩, .int .i64 0, .int .i64 0] 38)).drew wr.heap.size 38 [.string ⟨#[]⟩, .int .i64 0, .int .i64 0] := Own.new wr _ _
                have OX : Hid (Own w4 wr.heap.size 38 [.string ⟨#[]⟩, .int .i64 0, .int .i64 0]) := Lib.hid (ON.turn t4' (.inr (by omega)))
                have x0 : w4.cell? ⟨wr.heap.size, 0, none⟩ = some (.string ⟨#[]⟩) := OX.out.cell 0
                have fx0 := OX.out.free 0
                have x1 : w4.cell? ⟨wr.heap.size, 1, none⟩ = some (.int .i64 0) := OX.out.cell 1
                have fx1 := OX.out.free 1
                have x2 : w4.cell? ⟨wr.heap.size, 2, none⟩ = some (.int .i64 0) := OX.out.cell 2
                have fx2 := OX.out.free 2
                have hltx := OX.out.lt
                have hnex : ¬ wr.heap.size = w4.heap.size := Nat.ne_of_lt OX.out.lt
                clear t4 s4 TT t4' ON p1)
             | clear t4 s4 TT p1))
      · have hax : ∀ g', (Value.slice ro k rx).ownBlock = some g' → g' ≠ w4.heap.size := fun g' hg' => by have := HAX.out g' hg'; have := HTT.out.size; omega
        have F1 : Hid (Own (w4.alloc (.cells #[.string (letH k), .int .i64 (25000 + p), .int .i64 0] 38)) w4.heap.size 38 [.string (letH k), .int .i64 (25000 + p), .int .i64 0]) := Lib.hid (Own.new w4 _ _)
        have F2 : Hid (Own (w4.alloc (.cells #[.string (letH k), .int .i64 (25000 + p), .int .i64 0] 38)) wa.heap.size 9 [.string ⟨#[97]⟩, .string ⟨#[98]⟩, .string ⟨#[99]⟩, .string ⟨#[100]⟩]) := Lib.hid ((NR.out.turn HTT.out (.inr (by omega))).alloc _)
        have F3 : Hid ((w4.alloc (.cells #[.string (letH k), .int .i64 (25000 + p), .int .i64 0] 38)).ownsRow w2.heap.size 38 3 (.slice ro k rx) k (xs.flatMap Hole.put)) := Lib.hid ((own_turn OR.out HTT.out (by omega)).alloc _)
        have F4 : Hid (Src (w4.alloc (.cells #[.string (letH k), .int .i64 (25000 + p), .int .i64 0] 38)) w.heap.size (2 + 4 * k + 2)) := Lib.hid (HSS.out.below ((Below.refl _ _).alloc (Nat.le_refl _) _))
        have F5 : Hid (Below w.heap.size w (w4.alloc (.cells #[.string (letH k), .int .i64 (25000 + p), .int .i64 0] 38))) := Lib.hid ((BR.out.trans (HTT.out.below (B := w.heap.size) (Nat.le_refl _) (by omega))).alloc (by have := HTT.out.size; omega) _)
        have F6 : w2.heap.size < w4.heap.size := by have := HTT.out.size; omega
        have F7 : w4.heap.size < (w4.alloc (.cells #[.string (letH k), .int .i64 (25000 + p), .int .i64 0] 38)).heap.size := F1.out.lt
        clear HS3 OR SR BR NR n0 HTT HSS hg3 hne1 hne2
        have HA := Lib.hid (src_pick (w4.alloc (.cells #[.string (letH k), .int .i64 (25000 + p), .int .i64 0] 38)) w.heap.size (2 + 4 * k + 2) 40000 F4.out (by omega) (by omega))
        go_wp2_with fail
        refine HA.out.mono ?_; rintro e w6 ⟨p6, rfl, p60, _, p61, s6, t6⟩
        have hp6 : p6 < 40000 := p61 (by omega)
        have G1 := Lib.hid (F1.out.turn t6 (.inr (by omega)))
        have G2 := Lib.hid (F2.out.turn t6 (.inr (by omega)))
        have G3 := Lib.hid (own_turn F3.out t6 (by omega))
        have G5 := Lib.hid (F5.out.trans (t6.below (B := w.heap.size) (Nat.le_refl _) (by omega)))
        have G4 := Lib.hid s6
        have z6 : (w4.alloc (.cells #[.string (letH k), .int .i64 (25000 + p), .int .i64 0] 38)).heap.size ≤ w6.heap.size := t6.size
        clear F1 F2 F3 F4 F5 HA s6 t6 p61
        have y0 : w6.cell? ⟨w4.heap.size, 0, none⟩ = some (.string (letH k)) := G1.out.cell 0
        have fy0 := G1.out.free 0
        have y1 : w6.cell? ⟨w4.heap.size, 1, none⟩ = some (.int .i64 (25000 + p)) := G1.out.cell 1
        have fy1 := G1.out.free 1
        have y2 : w6.cell? ⟨w4.heap.size, 2, none⟩ = some (.int .i64 0) := G1.out.cell 2
        have fy2 := G1.out.free 2
        have hly : w4.heap.size < w6.heap.size := G1.out.lt
        have J1 : Hid (Own (w6.setCell ⟨w4.heap.size, 2, none⟩ (.int .i64 (5000 + p6))) w4.heap.size 38 [.string (letH k), .int .i64 (25000 + p), .int .i64 (5000 + p6)]) := Lib.hid ((G1.out).set 2 _)
        have J2 : Hid (Own (w6.setCell ⟨w4.heap.size, 2, none⟩ (.int .i64 (5000 + p6))) wa.heap.size 9 [.string ⟨#[97]⟩, .string ⟨#[98]⟩, .string ⟨#[99]⟩, .string ⟨#[100]⟩]) := Lib.hid ((G2.out).other (by show w4.heap.size ≠ wa.heap.size; omega) _)
        have J3 : Hid ((w6.setCell ⟨w4.heap.size, 2, none⟩ (.int .i64 (5000 + p6))).ownsRow w2.heap.size 38 3 (.slice ro k rx) k (xs.flatMap Hole.put)) := Lib.hid (own_farH G3.out hax 2 _)
        have J4 : Hid (Src (w6.setCell ⟨w4.heap.size, 2, none⟩ (.int .i64 (5000 + p6))) w.heap.size (2 + 4 * k + 2 + 2)) := Lib.hid (Src.set (G4.out) (by omega) 2 _)
        have J5 : Hid (Below w.heap.size w (w6.setCell ⟨w4.heap.size, 2, none⟩ (.int .i64 (5000 + p6)))) := Lib.hid (Below.setCell G5.out (by show w.heap.size ≤ w4.heap.size; omega) _)
        have z7 : w2.heap.size < (w6.setCell ⟨w4.heap.size, 2, none⟩ (.int .i64 (5000 + p6))).heap.size := by have := J1.out.lt; omega
        have HDX := Lib.hid (drawnH_snoc HDR.out (by rw [HXK.out]; omega) (x := ⟨letH k, 25000 + p, 5000 + p6⟩) (by rw [HXK.out]) ⟨by show 25000 ≤ 25000 + p; omega, by show 25000 + p ≤ 65000; omega⟩ ⟨by show 5000 ≤ 5000 + p6; omega, by show 5000 + p6 ≤ 45000; omega⟩)
        clear G1 G2 G3 G4 G5 J1
        have hs7 : (w6.setCell ⟨w4.heap.size, 2, none⟩ (.int .i64 (5000 + p6))).heap.size = w6.heap.size := by simp [World.setCell]
        go_wp2_with (at_builtin; refine app_el rfl _ _ 24 38 i0 (.agg #[.string ByteArray.empty, .int .i64 0, .int .i64 0]) 3 32 Try.underlying24 hi hz0 hz1 hz2 (by rfl) (by decide) rfl (w6.setCell ⟨w4.heap.size, 2, none⟩ (.int .i64 (5000 + p6))) w2.heap.size _ k (xs.flatMap Hole.put) (by rfl) J3.out [.string (letH k), .int .i64 (25000 + p), .int .i64 (5000 + p6)] rfl (by intro u hu; simp at hu; rcases hu with rfl | rfl | rfl <;> rfl) (by rw [hs7]; rfl) (by omega) (by decide) (Nat.le_of_lt z7) ?_; intro g8 gc8 w8 hown8 hB8 hz8; have HB8 := Lib.hid (hB8 _ (Below.refl _ _)); have HO8 := Lib.hid hown8; clear hown8 hB8)
        go_roundw
        case rel => exact ⟨k + 1, xs ++ [⟨letH k, 25000 + p, 5000 + p6⟩], by omega, by go_num, by rw [List.length_append, HXK.out]; rfl, HDX.out, by rw [hole_snoc]; exact HO8.out, by
          have := J4.out.belowB HB8.out (by omega)
          exact this.mono (by omega), J5.out.trans (HB8.out.mono (by omega)), J2.out.below HB8.out (by omega), by omega⟩
        case measure => simp [intOf]; omega
      · have hax : ∀ g', (Value.slice ro k rx).ownBlock = some g' → g' ≠ wr.heap.size := fun g' hg' => by have := HAX.out g' hg'; have := HTT.out.size; omega
        have F1 : Hid (Own (((w4.setCell ⟨wr.heap.size, 0, none⟩ (.string (letH k))).setCell ⟨wr.heap.size, 1, none⟩ (.int .i64 (25000 + p))).setCell ⟨wr.heap.size, 2, none⟩ (.int .i64 0)) wr.heap.size 38 [.string (letH k), .int .i64 (25000 + p), .int .i64 0]) := Lib.hid (((((OX.out).set 0 _).set 1 _).set 2 _))
        have F2 : Hid (Own (((w4.setCell ⟨wr.heap.size, 0, none⟩ (.string (letH k))).setCell ⟨wr.heap.size, 1, none⟩ (.int .i64 (25000 + p))).setCell ⟨wr.heap.size, 2, none⟩ (.int .i64 0)) wa.heap.size 9 [.string ⟨#[97]⟩, .string ⟨#[98]⟩, .string ⟨#[99]⟩, .string ⟨#[100]⟩]) := Lib.hid (((((NR.out.turn HTT.out (.inr (by omega))).other (by show wr.heap.size ≠ wa.heap.size; omega) _).other (by show wr.heap.size ≠ wa.heap.size; omega) _).other (by show wr.heap.size ≠ wa.heap.size; omega) _))
        have F3 : Hid ((((w4.setCell ⟨wr.heap.size, 0, none⟩ (.string (letH k))).setCell ⟨wr.heap.size, 1, none⟩ (.int .i64 (25000 + p))).setCell ⟨wr.heap.size, 2, none⟩ (.int .i64 0)).ownsRow w2.heap.size 38 3 (.slice ro k rx) k (xs.flatMap Hole.put)) := Lib.hid (own_farH (own_farH (own_farH (own_turn OR.out HTT.out (by omega)) hax 0 _) hax 1 _) hax 2 _)
        have F4 : Hid (Src (((w4.setCell ⟨wr.heap.size, 0, none⟩ (.string (letH k))).setCell ⟨wr.heap.size, 1, none⟩ (.int .i64 (25000 + p))).setCell ⟨wr.heap.size, 2, none⟩ (.int .i64 0)) w.heap.size (2 + 4 * k + 2)) := Lib.hid (Src.set (Src.set (Src.set (HSS.out) (by omega) 0 _) (by omega) 1 _) (by omega) 2 _)
        have F5 : Hid (Below w.heap.size w (((w4.setCell ⟨wr.heap.size, 0, none⟩ (.string (letH k))).setCell ⟨wr.heap.size, 1, none⟩ (.int .i64 (25000 + p))).setCell ⟨wr.heap.size, 2, none⟩ (.int .i64 0))) := Lib.hid (Below.setCell (Below.setCell (Below.setCell (BR.out.trans (HTT.out.below (B := w.heap.size) (Nat.le_refl _) (by omega))) (Nat.le_of_lt hgr) _) (Nat.le_of_lt hgr) _) (Nat.le_of_lt hgr) _)
        have F6 : w2.heap.size < wr.heap.size := hzr
        have F7 : wr.heap.size < (((w4.setCell ⟨wr.heap.size, 0, none⟩ (.string (letH k))).setCell ⟨wr.heap.size, 1, none⟩ (.int .i64 (25000 + p))).setCell ⟨wr.heap.size, 2, none⟩ (.int .i64 0)).heap.size := F1.out.lt
        clear HS3 OR SR BR NR n0 HTT HSS hg3 hne1 hne2
        have HA := Lib.hid (src_pick (((w4.setCell ⟨wr.heap.size, 0, none⟩ (.string (letH k))).setCell ⟨wr.heap.size, 1, none⟩ (.int .i64 (25000 + p))).setCell ⟨wr.heap.size, 2, none⟩ (.int .i64 0)) w.heap.size (2 + 4 * k + 2) 40000 F4.out (by omega) (by omega))
        go_wp2_with fail
        refine HA.out.mono ?_; rintro e w6 ⟨p6, rfl, p60, _, p61, s6, t6⟩
        have hp6 : p6 < 40000 := p61 (by omega)
        have G1 := Lib.hid (F1.out.turn t6 (.inr (by omega)))
        have G2 := Lib.hid (F2.out.turn t6 (.inr (by omega)))
        have G3 := Lib.hid (own_turn F3.out t6 (by omega))
        have G5 := Lib.hid (F5.out.trans (t6.below (B := w.heap.size) (Nat.le_refl _) (by omega)))
        have G4 := Lib.hid s6
        have z6 : (((w4.setCell ⟨wr.heap.size, 0, none⟩ (.string (letH k))).setCell ⟨wr.heap.size, 1, none⟩ (.int .i64 (25000 + p))).setCell ⟨wr.heap.size, 2, none⟩ (.int .i64 0)).heap.size ≤ w6.heap.size := t6.size
        clear F1 F2 F3 F4 F5 HA s6 t6 p61
        have y0 : w6.cell? ⟨wr.heap.size, 0, none⟩ = some (.string (letH k)) := G1.out.cell 0
        have fy0 := G1.out.free 0
        have y1 : w6.cell? ⟨wr.heap.size, 1, none⟩ = some (.int .i64 (25000 + p)) := G1.out.cell 1
        have fy1 := G1.out.free 1
        have y2 : w6.cell? ⟨wr.heap.size, 2, none⟩ = some (.int .i64 0) := G1.out.cell 2
        have fy2 := G1.out.free 2
        have hly : wr.heap.size < w6.heap.size := G1.out.lt
        have J1 : Hid (Own (w6.setCell ⟨wr.heap.size, 2, none⟩ (.int .i64 (5000 + p6))) wr.heap.size 38 [.string (letH k), .int .i64 (25000 + p), .int .i64 (5000 + p6)]) := Lib.hid ((G1.out).set 2 _)
        have J2 : Hid (Own (w6.setCell ⟨wr.heap.size, 2, none⟩ (.int .i64 (5000 + p6))) wa.heap.size 9 [.string ⟨#[97]⟩, .string ⟨#[98]⟩, .string ⟨#[99]⟩, .string ⟨#[100]⟩]) := Lib.hid ((G2.out).other (by show wr.heap.size ≠ wa.heap.size; omega) _)
        have J3 : Hid ((w6.setCell ⟨wr.heap.size, 2, none⟩ (.int .i64 (5000 + p6))).ownsRow w2.heap.size 38 3 (.slice ro k rx) k (xs.flatMap Hole.put)) := Lib.hid (own_farH G3.out hax 2 _)
        have J4 : Hid (Src (w6.setCell ⟨wr.heap.size, 2, none⟩ (.int .i64 (5000 + p6))) w.heap.size (2 + 4 * k + 2 + 2)) := Lib.hid (Src.set (G4.out) (by omega) 2 _)
        have J5 : Hid (Below w.heap.size w (w6.setCell ⟨wr.heap.size, 2, none⟩ (.int .i64 (5000 + p6)))) := Lib.hid (Below.setCell G5.out (by show w.heap.size ≤ wr.heap.size; omega) _)
        have z7 : w2.heap.size < (w6.setCell ⟨wr.heap.size, 2, none⟩ (.int .i64 (5000 + p6))).heap.size := by have := J1.out.lt; omega
        have HDX := Lib.hid (drawnH_snoc HDR.out (by rw [HXK.out]; omega) (x := ⟨letH k, 25000 + p, 5000 + p6⟩) (by rw [HXK.out]) ⟨by show 25000 ≤ 25000 + p; omega, by show 25000 + p ≤ 65000; omega⟩ ⟨by show 5000 ≤ 5000 + p6; omega, by show 5000 + p6 ≤ 45000; omega⟩)
        clear G1 G2 G3 G4 G5 J1
        have hs7 : (w6.setCell ⟨wr.heap.size, 2, none⟩ (.int .i64 (5000 + p6))).heap.size = w6.heap.size := by simp [World.setCell]
        go_wp2_with (at_builtin; refine app_el rfl _ _ 24 38 i0 (.agg #[.string ByteArray.empty, .int .i64 0, .int .i64 0]) 3 32 Try.underlying24 hi hz0 hz1 hz2 (by rfl) (by decide) rfl (w6.setCell ⟨wr.heap.size, 2, none⟩ (.int .i64 (5000 + p6))) w2.heap.size _ k (xs.flatMap Hole.put) (by rfl) J3.out [.string (letH k), .int .i64 (25000 + p), .int .i64 (5000 + p6)] rfl (by intro u hu; simp at hu; rcases hu with rfl | rfl | rfl <;> rfl) (by rw [hs7]; rfl) (by omega) (by decide) (Nat.le_of_lt z7) ?_; intro g8 gc8 w8 hown8 hB8 hz8; have HB8 := Lib.hid (hB8 _ (Below.refl _ _)); have HO8 := Lib.hid hown8; clear hown8 hB8)
        go_roundw
        case rel => exact ⟨k + 1, xs ++ [⟨letH k, 25000 + p, 5000 + p6⟩], by omega, by go_num, by rw [List.length_append, HXK.out]; rfl, HDX.out, by rw [hole_snoc]; exact HO8.out, by
          have := J4.out.belowB HB8.out (by omega)
          exact this.mono (by omega), J5.out.trans (HB8.out.mono (by omega)), J2.out.below HB8.out (by omega), by omega⟩
        case measure => simp [intOf]; omega
    · obtain rfl : k = N := by omega
      have tl : decide ((k : Int) < (k : Int)) = false := decide_eq_false (by omega)
      clear hdr hxk hown hsr hbr hnr
      go_wp2_with fail
      go_ret
      exact ⟨_, xs, rfl, HDR.out, by rw [HXK.out]; exact own_baseD OR.out (by omega), BR.out⟩
end Go.Proofs.Ytgjcmfacdnngjaa
