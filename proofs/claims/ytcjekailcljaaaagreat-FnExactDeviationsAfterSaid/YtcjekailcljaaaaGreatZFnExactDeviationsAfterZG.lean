/- Contracts and plain facts, joined: DevS. -/
import Derived.Test.YtcjekailcljaaaaGreatRows
import Derived.Test.YtcjekailcljaaaaGreatZFnExactDeviationsAfterZF
import Derived.Deep.RegionHeld3
namespace Go.Proofs.YtcjekailcljaaaaGreat
open Go.ChangeShapes Go.WideShapes Go.ChangeAt Go.RowKit Go.Deep Go.Joins
set_option linter.unusedVariables false
set_option maxRecDepth 100000
set_option linter.unusedSimpArgs false
def goalL (g : GoalX) : List Int := [g.a, g.b, g.c, g.d, g.e]
def sndL (R : List Int) : Bool := sndP (R.getD 0 0) (R.getD 1 0) (R.getD 2 0) (R.getD 3 0) (R.getD 4 0)
theorem sndL_all {R : List Int} (h5 : R.length = 5) (h : sndL R = true) : ∀ z ∈ R, 10000 ≤ z ∧ z ≤ 20000000 := by
  obtain ⟨a, b, c, d, e, rfl⟩ := list5 h5
  exact (sndP_parts h).1
theorem goalL_all {g : GoalX} (h : goalB g = true) : ∀ z ∈ goalL g, 10000 ≤ z ∧ z ≤ 20000000 := (sndP_parts (goalB_parts h).1).1
set_option maxHeartbeats 8000000 in
theorem spec_l10Dev (w : World) (q : Nat) (g : GoalX) (ro : Option Addr) (rc : Nat) (R : List Int) (hg : GoalAt w q g) (hgb : goalB g = true) (h5 : R.length = 5) (h : Rd w.heap.size w (.slice ro 5 rc) 1 5 (R.flatMap putI)) :
    Calls Tryz.prog 32 #[.pointer (some ⟨q, 0, none⟩), .slice ro 5 rc] w fun e w' => (if sndL R = true then ∃ r, e = .returned (.tuple #[r, .bool true]) ∧ w'.ownsRow w.heap.size 2 1 r 5 ((devZ (goalL g) R).flatMap putI) else e = .returned (.tuple #[.slice none 0 0, .bool false])) ∧ Below w.heap.size w w' := by
  obtain ⟨i0, hi, hz0, hz1, hz2⟩ := info_parts info_i64
  have HGB := Lib.hid hgb
  have HG := Lib.hid hg
  have ql := hg.2.2.2.2.2.2.2
  have H := Lib.hid h
  obtain ⟨a, b, c, d, e, hRe⟩ := list5 h5
  have HSD := Lib.hid (spec_sound w (.slice ro 5 rc) a b c d e (by rw [← hRe]; exact h))
  have HRE := Lib.hid hRe
  have hsn : sndL R = sndP a b c d e := by rw [hRe]; rfl
  have H5 := Lib.hid h5
  clear hg h hRe hgb h5
  obtain ⟨sb, hsb⟩ : ∃ s, sndL R = s := ⟨_, rfl⟩
  have HSB := Lib.hid hsb
  rw [hsb] at hsn ⊢
  have HSN := Lib.hid hsn.symm
  have HGA := Lib.hid (goalL_all HGB.out)
  have hG5 : (goalL g).length = 5 := rfl
  obtain ⟨G, hG⟩ : ∃ G, goalL g = G := ⟨_, rfl⟩
  rw [hG] at HGA hG5 ⊢
  have HG5 := Lib.hid hG5
  have HGE := Lib.hid hG
  clear hsb hsn hG hG5
  go_enter Tryz.func32, Tryz.ntmps32
  go_wp2_with fail
  refine HSD.out.mono ?_; rintro e1 w1 ⟨rfl, b1⟩
  obtain ⟨W2, hW2⟩ : ∃ W2, w1.alloc (.cells #[.int .i64 a, .int .i64 b, .int .i64 c, .int .i64 d, .int .i64 e] 45) = W2 := ⟨_, rfl⟩
  have b2 : Below w1.heap.size w1 W2 := hW2 ▸ (Below.refl _ _).alloc (Nat.le_refl _) _
  have O2 : Own W2 w1.heap.size 45 [.int .i64 a, .int .i64 b, .int .i64 c, .int .i64 d, .int .i64 e] := hW2 ▸ Own.new w1 _ _
  have HOK := Lib.hid (spec_l04OkZ W2 w1.heap.size a b c d e (O2.cell 0) (O2.cell 1) (O2.cell 2) (O2.cell 3) (O2.cell 4) O2.lt)
  rw [HSN.out] at HOK
  have B2 := Lib.hid (bnext b1 b2)
  clear b1 b2 O2 HSD
  subst hW2
  go_wp2_with fail
  refine HOK.out.mono ?_; rintro e1 w3 ⟨rfl, b3⟩
  have B3 := Lib.hid (bnext B2.out b3)
  clear b3 HOK B2
  cases sb
  · go_wp2_with fail
    refine bodyPost_ret (v := .tuple #[.slice none 0 0, .bool false]) (by simp [results, Tryz.results32, go_sem]) rfl ?_
    exact ⟨rfl, B3.out⟩
  have hgq := HG.out.below B3.out ql
  have HLI := Lib.hid (spec_l04ListZ w3 q g.a g.b g.c g.d g.e hgq.1 hgq.2.1 hgq.2.2.1 hgq.2.2.2.1 hgq.2.2.2.2.1 hgq.2.2.2.2.2.2.2)
  clear hgq
  go_wp2_with fail
  refine HLI.out.mono ?_; rintro e1 w4 ⟨rfl, o4, b4⟩
  have L4 : Hid (Rd w4.heap.size w4 (.slice (some ⟨w3.heap.size, 0, none⟩) 5 5) 1 G.length (G.flatMap putI)) := Lib.hid (by rw [← HGE.out]; exact rd5 o4)
  have B4 := Lib.hid (bnext B3.out b4)
  have R4 := Lib.hid (H.out.up B4.out)
  have HRA := Lib.hid (sndL_all H5.out HSB.out)
  have O5 : Hid ((w4.alloc (.cells #[] 2)).ownsRow w4.heap.size 2 1 (.slice (some ⟨w4.heap.size, 0, none⟩) 0 0) 0 []) := Lib.hid (own_empty w4 w4.heap.size _ 1 (Nat.le_refl _))
  have B5 : Hid (Below w4.heap.size w4 (w4.alloc (.cells #[] 2))) := Lib.hid ((Below.refl _ _).alloc (Nat.le_refl _) _)
  have z4 := B4.out.size
  clear b4 o4 HLI HG H
  generalize hq3 : w3.heap.size = q3 at *
  clear hq3
  go_wp2_with fail
  go_loopw [8, 9] (fun r i wr => ∃ (k : Nat), k ≤ 5 ∧ i = .int .i64 k ∧ wr.ownsRow w4.heap.size 2 1 r k (((devZ G R).take k).flatMap putI) ∧ Below w4.heap.size w4 wr) (fun _ i _ => 5 - (intOf i).toNat)
  case atStart => exact ⟨0, Nat.zero_le _, rfl, O5.out, B5.out⟩
  case round =>
    clear O5 B5
    obtain ⟨k, hk, rfl, ho, hb⟩ := hrel
    have OR := Lib.hid ho
    have BR := Lib.hid hb
    obtain ⟨so, sc, er⟩ := (own_rd ho).form
    subst er
    by_cases hlt : k < 5
    · have hkG : k < G.length := by rw [HG5.out]; exact hlt
      have hkR : k < R.length := by rw [H5.out]; exact hlt
      obtain ⟨gb, goff, eg, hgb4, cG4⟩ := Rd.at L4.out k hkG
      injection eg with eg
      injection eg with eg1 eg2 eg3
      subst eg1 eg2
      clear eg3
      rw [Nat.zero_add] at cG4
      have cG := (hb.cell (p := ⟨q3, k, none⟩) hgb4).trans cG4
      have hgbl : q3 < wr.heap.size := Nat.lt_of_lt_of_le hgb4 hb.size
      obtain ⟨rb, roff, rfl, hrb4, cR4⟩ := Rd.at (show Rd w4.heap.size w4 (.slice ro 5 rc) 1 R.length (R.flatMap putI) by rw [H5.out]; exact R4.out) k hkR
      have cR := (hb.cell (p := ⟨rb, roff + k, none⟩) hrb4).trans cR4
      have hrbl : rb < wr.heap.size := Nat.lt_of_lt_of_le hrb4 hb.size
      clear cG4 cR4
      have hga := HGA.out G[k] (List.getElem_mem hkG)
      have hra := HRA.out R[k] (List.getElem_mem hkR)
      have HSNC := Lib.hid (congrArg (List.flatMap putI) (devZ_take hkG hkR))
      obtain ⟨gv, hgv⟩ : ∃ z, G[k] = z := ⟨_, rfl⟩
      obtain ⟨rv, hrv⟩ : ∃ z, R[k] = z := ⟨_, rfl⟩
      rw [hgv] at cG hga HSNC
      rw [hrv] at cR hra HSNC
      rw [List.flatMap_append] at HSNC
      have HCE := Lib.hid (fun (w' : World) => spec_cents gv rv w' hga hra)
      obtain ⟨cv, hcv⟩ : ∃ z, centI gv rv = z := ⟨_, rfl⟩
      rw [hcv] at HCE HSNC
      have HSN2 : Hid (((devZ G R).take (k + 1)).flatMap putI = ((devZ G R).take k).flatMap putI ++ [.int .i64 cv]) := Lib.hid HSNC.out
      have hz4r : w4.heap.size ≤ wr.heap.size := hb.size
      have hkI : (k : Int) < 5 := by omega
      have hk0 : (0 : Int) ≤ (k : Int) := by omega
      have CG := Lib.hid cG
      have CR := Lib.hid cR
      clear ho hb hgv hrv hcv HSNC hga hra
      go_wp2_with fail
      go_region_held3 (fun w' => w'.cell? ⟨q3, k, none⟩ = some (.int .i64 gv) ∧ w'.cell? ⟨rb, roff + k, none⟩ = some (.int .i64 rv)) (first | (go_keep; done) | (refine ⟨?_, ?_⟩ <;> (first | (go_keep; done) | (simp [go_sem, cG, cR, hgbl, hrbl]; done)))) (first
        | (rw [if_pos (by rfl)]; refine stp_el _ _ 22 2 i0 (.int .i64 0) 1 8 Tryz.underlying22 hi hz0 hz1 hz2 rfl (by decide) rfl w6 w4.heap.size (.slice so k sc) k (((devZ G R).take k).flatMap putI) (by rfl) (own_below OR.out T6 (Nat.le_refl _)) [.int .i64 cv] rfl (int_one _) (by first | rfl | (rw [World.size_alloc]; rfl)) (by omega) (by decide) (Nat.le_trans hz4r T6.size) (by rfl) ?_; intro g7 gc7 w7 hown7 hB7 hK7; have B7 := Lib.hid (hB7 w6 (Below.refl _ _)); have O7 := Lib.hid hown7; have TT6 := Lib.hid T6; have cG := (B7.out.cell (p := ⟨q3, k, none⟩) hgb4).trans cG; have cR := (B7.out.cell (p := ⟨rb, roff + k, none⟩) hrb4).trans cR; clear hown7 hB7 hK7)
        | (go_at_call 66; refine (HCE.out _).mono ?_; rintro e w6 ⟨rfl, b6⟩; have T6 : Below wr.heap.size wr w6 := bnext (by (repeat' (first | (with_reducible exact Below.refl _ _) | (with_reducible assumption) | (with_reducible refine below_dn ?_ _) | (with_reducible refine Below.drew ?_) | (with_reducible refine Below.alloc ?_ ?_ _) | (with_reducible refine Below.setCell ?_ ?_ _) | go_size))) b6; have cG := (T6.cell (p := ⟨q3, k, none⟩) hgbl).trans CG.out; have cR := (T6.cell (p := ⟨rb, roff + k, none⟩) hrbl).trans CR.out; clear b6))
      go_wp2_with fail
      go_roundw
      case rel => exact ⟨k + 1, by omega, by go_num, by rw [HSN2.out]; exact O7.out, (bnext BR.out TT6.out).trans B7.out⟩
      case measure => simp [intOf]; omega
    · obtain rfl : k = 5 := by omega
      have et : Hid ((devZ G R).take 5 = devZ G R) := Lib.hid (List.take_of_length_le (by rw [devZ_len HG5.out H5.out]; exact Nat.le_refl _))
      rw [et.out] at OR
      clear ho hb
      go_wp2_with fail
      refine bodyPost_ret (v := .tuple #[.slice so 5 sc, .bool true]) (by simp [results, Tryz.results32, go_sem]) rfl ?_
      exact ⟨⟨_, rfl, own_baseZ OR.out z4⟩, bnext B4.out BR.out⟩
end Go.Proofs.YtcjekailcljaaaaGreat
