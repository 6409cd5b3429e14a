/- Contracts and plain facts, joined: CutS. -/
import Derived.Test.YtcjekailcljaaaaGreatRows
import Derived.Test.YtcjekailcljaaaaGreatZFnExactDeviationsAfterZH
namespace Go.Proofs.YtcjekailcljaaaaGreat
open Go.ChangeShapes Go.WideShapes Go.ChangeAt Go.RowKit Go.Deep Go.Joins
set_option linter.unusedVariables false
set_option maxRecDepth 100000
set_option linter.unusedSimpArgs false
theorem made8 : (madeCells (Value.int .i64 0).cells (8 * 1)).toList = (List.replicate 8 (0 : Int)).flatMap putI := by first | rfl | kernel_rfl
/-- what a store of steps needs -/
theorem sums_set {w : World} {g : Nat} {cs : List Cut} {k Z : Nat} (hk : k < cs.length) (hz : cs[k].zone = (Z : Int)) (h8 : Z < 8) (o : Own w g 2 ((sumsK cs k).flatMap putI)) {old : Int} (ho : (sumsK cs k)[Z]? = some old) :
    Own (w.setCell ⟨g, Z, none⟩ (.int .i64 (old + cs[k].steps))) g 2 ((sumsK cs (k + 1)).flatMap putI) := by
  have := o.set Z (.int .i64 (old + cs[k].steps))
  rw [set_putI _ _ _ (by rw [sumsK_len]; exact h8)] at this
  rw [sumsK_succ hk, addAt, hz, Int.toNat_natCast, List.getD_eq_getElem?_getD, ho]
  exact this
set_option maxHeartbeats 3000000 in
theorem spec_l09Sums (w : World) (ao : Option Addr) (cap : Nat) (cs : List Cut) (h : Rd w.heap.size w (.slice ao cs.length cap) 2 cs.length (cs.flatMap Cut.put)) (hc : cutsB cs = true) :
    Calls Tryz.prog 62 #[.slice ao cs.length cap] w fun e w' => ∃ g, e = .returned (.slice (some ⟨g, 0, none⟩) 8 8) ∧ w.heap.size ≤ g ∧ Own w' g 2 ((sumsS cs).flatMap putI) ∧ Below w.heap.size w w' := by
  obtain ⟨h64, hall⟩ := cutsB_parts hc
  have HALL := Lib.hid hall
  clear hc hall
  have H := Lib.hid h
  obtain ⟨i0, hi, hz0, hz1, hz2⟩ := info_parts info_i64
  clear h
  go_enter Tryz.func62, Tryz.ntmps62
  go_wp2_with (at_make; refine wpList_make_blk _ rfl _ _ 22 rfl 2 i0 (.int .i64 0) 1 8 Tryz.underlying22 hi hz0 hz1 hz2 _ _ _ _ 8 rfl rfl rfl rfl (by omega) (by unfold maxLen; omega) ?_; intro w1 ho hb hs)
  rw [made8] at ho
  have HO := Lib.hid ho
  have HB := Lib.hid hb
  clear ho hb hi hz0 hz1 hz2
  go_loopw [4] (fun i wr => ∃ (k : Nat), k ≤ cs.length ∧ i = .int .i64 k ∧ Own wr w.heap.size 2 ((sumsK cs k).flatMap putI) ∧ Below w.heap.size w wr) (fun i _ => cs.length - (intOf i).toNat)
  case atStart => exact ⟨0, Nat.zero_le _, rfl, HO.out, HB.out⟩
  case round =>
    clear HO HB hs
    obtain ⟨k, hk, rfl, ho, hb⟩ := hrel
    have HB := Lib.hid hb
    have HO := Lib.hid ho
    by_cases hlt : k < cs.length
    · have hco := HALL.out cs[k] (List.getElem_mem hlt)
      obtain ⟨Z, hZ⟩ : ∃ Z : Nat, cs[k].zone = (Z : Int) := ⟨cs[k].zone.toNat, by omega⟩
      have hZ8 : Z < 8 := by omega
      obtain ⟨hL, ao', cap', ee, _, _, _, hsome⟩ := H.out
      injection ee with q1 q2 q3
      subst q1 q3
      obtain ⟨b, off, rfl, hbB, hcc⟩ := hsome (by omega)
      have c0 : wr.cell? ⟨b, off + k * 2, none⟩ = some (.int .i64 (Z : Int)) := by rw [show off + k * 2 = off + (k * 2 + 0) from by omega, hb.cell (p := ⟨b, off + (k * 2 + 0), none⟩) hbB, hcc (k * 2 + 0) (by omega), Cut_get0 cs k hlt, hZ]
      have c1 : wr.cell? ⟨b, off + k * 2 + 1, none⟩ = some (.int .i64 cs[k].steps) := by rw [show off + k * 2 + 1 = off + (k * 2 + 1) from by omega, hb.cell (p := ⟨b, off + (k * 2 + 1), none⟩) hbB, hcc (k * 2 + 1) (by omega), Cut_get1 cs k hlt]
      have hbr : b < wr.heap.size := Nat.lt_of_lt_of_le hbB hb.size
      have hl8 : Z < (sumsK cs k).length := by rw [sumsK_len]; exact hZ8
      obtain ⟨old, hold⟩ : ∃ old, (sumsK cs k)[Z]'hl8 = old := ⟨_, rfl⟩
      have hold2 : (sumsK cs k)[Z]? = some old := by rw [List.getElem?_eq_getElem hl8, hold]
      have hob := sumsK_bd HALL.out k (by omega) old (by rw [← hold]; exact List.getElem_mem hl8)
      have d0 : wr.cell? ⟨w.heap.size, Z, none⟩ = some (.int .i64 old) := by rw [ho.cell, putI_get _ Z hl8, hold]
      have f0 := ho.free Z
      have hg := ho.lt
      have hne : ¬ b = w.heap.size := by omega
      have hne2 : ¬ w.heap.size = b := by omega
      have HS1 := Lib.hid (sums_set hlt hZ hZ8 ho hold2)
      have HB1 := Lib.hid ((Below.setCell hb (Nat.le_refl w.heap.size) (.int .i64 (old + cs[k].steps)) : Below w.heap.size w (wr.setCell ⟨w.heap.size, Z, none⟩ _)))
      have hZI : (Z : Int) < 8 := by omega
      have hZ0 : (0 : Int) ≤ (Z : Int) := by omega
      obtain ⟨hs0, hs1⟩ := hco.2
      have hkl : k < cs.length := hlt
      clear hcc hsome ho hb hold hold2 hco hZ q2 hL
      generalize cs[k].steps = st at *
      go_wp2_with fail
      go_region
      go_wp2_with fail
      go_roundw
      case rel => exact ⟨k + 1, by omega, by go_num, HS1.out, HB1.out.drew⟩
      case measure => simp [intOf]; omega
    · obtain rfl : k = cs.length := by omega
      clear hb ho
      go_wp2_with fail
      go_ret
      exact ⟨w.heap.size, rfl, Nat.le_refl _, HO.out, HB.out⟩
set_option maxHeartbeats 3000000 in
theorem impl_stepsOf (w : World) (ao : Option Addr) (cap : Nat) (cs : List Cut) (h : Rd w.heap.size w (.slice ao cs.length cap) 2 cs.length (cs.flatMap Cut.put)) (hc : cutsB cs = true) :
    Calls Tryz.prog 78 #[.slice ao cs.length cap] w fun e w' => ∃ g, e = .returned (.slice (some ⟨g, 0, none⟩) 8 8) ∧ w.heap.size ≤ g ∧ Own w' g 2 ((sumsS cs).flatMap putI) ∧ Below w.heap.size w w' := by
  obtain ⟨h64, hall⟩ := cutsB_parts hc
  have HALL := Lib.hid hall
  clear hc hall
  have H := Lib.hid h
  obtain ⟨i0, hi, hz0, hz1, hz2⟩ := info_parts info_i64
  clear h
  go_enter Tryz.func78, Tryz.ntmps78
  go_wp2_with (at_make; refine wpList_make_blk _ rfl _ _ 22 rfl 2 i0 (.int .i64 0) 1 8 Tryz.underlying22 hi hz0 hz1 hz2 _ _ _ _ 8 rfl rfl rfl rfl (by omega) (by unfold maxLen; omega) ?_; intro w1 ho hb hs)
  rw [made8] at ho
  have HO := Lib.hid ho
  have HB := Lib.hid hb
  clear ho hb hi hz0 hz1 hz2
  go_loopw [9] (fun i wr => ∃ (k : Nat), k ≤ cs.length ∧ i = .int .i64 k ∧ Own wr w.heap.size 2 ((sumsK cs k).flatMap putI) ∧ Below w.heap.size w wr) (fun i _ => cs.length - (intOf i).toNat)
  case atStart => exact ⟨0, Nat.zero_le _, rfl, HO.out, HB.out⟩
  case round =>
    clear HO HB hs
    obtain ⟨k, hk, rfl, ho, hb⟩ := hrel
    have HB := Lib.hid hb
    have HO := Lib.hid ho
    by_cases hlt : k < cs.length
    · have hco := HALL.out cs[k] (List.getElem_mem hlt)
      obtain ⟨Z, hZ⟩ : ∃ Z : Nat, cs[k].zone = (Z : Int) := ⟨cs[k].zone.toNat, by omega⟩
      have hZ8 : Z < 8 := by omega
      obtain ⟨hL, ao', cap', ee, _, _, _, hsome⟩ := H.out
      injection ee with q1 q2 q3
      subst q1 q3
      obtain ⟨b, off, rfl, hbB, hcc⟩ := hsome (by omega)
      have c0 : wr.cell? ⟨b, off + k * 2, none⟩ = some (.int .i64 (Z : Int)) := by rw [show off + k * 2 = off + (k * 2 + 0) from by omega, hb.cell (p := ⟨b, off + (k * 2 + 0), none⟩) hbB, hcc (k * 2 + 0) (by omega), Cut_get0 cs k hlt, hZ]
      have c1 : wr.cell? ⟨b, off + k * 2 + 1, none⟩ = some (.int .i64 cs[k].steps) := by rw [show off + k * 2 + 1 = off + (k * 2 + 1) from by omega, hb.cell (p := ⟨b, off + (k * 2 + 1), none⟩) hbB, hcc (k * 2 + 1) (by omega), Cut_get1 cs k hlt]
      have hbr : b < wr.heap.size := Nat.lt_of_lt_of_le hbB hb.size
      obtain ⟨hs0, hs1⟩ := hco.2
      have hg := ho.lt
      obtain ⟨st, hst⟩ : ∃ st, cs[k].steps = st := ⟨_, rfl⟩
      rw [hst] at c1 hs0 hs1
      obtain ⟨W2, hW2⟩ : ∃ W2, wr.alloc (.cells #[.int .i64 (Z : Int), .int .i64 st] 80) = W2 := ⟨_, rfl⟩
      have b2 : Below wr.heap.size wr W2 := hW2 ▸ (Below.refl _ _).alloc (Nat.le_refl _) _
      have OC : Own W2 wr.heap.size 80 [.int .i64 (Z : Int), .int .i64 st] := hW2 ▸ Own.new wr _ _
      have x0 : W2.cell? ⟨wr.heap.size, 0, none⟩ = some (.int .i64 (Z : Int)) := OC.cell 0
      have x1 : W2.cell? ⟨wr.heap.size, 1, none⟩ = some (.int .i64 st) := OC.cell 1
      have xl := OC.lt
      have ho2 := ho.below b2 ho.lt
      have hl8 : Z < (sumsK cs k).length := by rw [sumsK_len]; exact hZ8
      obtain ⟨old, hold⟩ : ∃ old, (sumsK cs k)[Z]'hl8 = old := ⟨_, rfl⟩
      have hold2 : (sumsK cs k)[Z]? = some old := by rw [List.getElem?_eq_getElem hl8, hold]
      have hob := sumsK_bd HALL.out k (by omega) old (by rw [← hold]; exact List.getElem_mem hl8)
      have d0 : W2.cell? ⟨w.heap.size, Z, none⟩ = some (.int .i64 old) := by rw [ho2.cell, putI_get _ Z hl8, hold]
      have f0 := ho2.free Z
      have hg2 := ho2.lt
      have hne : ¬ wr.heap.size = w.heap.size := by omega
      have hne2 : ¬ w.heap.size = wr.heap.size := by omega
      have HS0 := Lib.hid (sums_set hlt hZ hZ8 ho2 hold2)
      have HS1 : Hid (Own (W2.setCell ⟨w.heap.size, Z, none⟩ (.int .i64 (old + st))) w.heap.size 2 ((sumsK cs (k + 1)).flatMap putI)) := Lib.hid (by rw [← hst]; exact HS0.out)
      have HB1 := Lib.hid ((Below.setCell (hb.trans (b2.mono hb.size)) (Nat.le_refl w.heap.size) (.int .i64 (old + st)) : Below w.heap.size w (W2.setCell ⟨w.heap.size, Z, none⟩ _)))
      have hZI : (Z : Int) < 8 := by omega
      have hZ0 : (0 : Int) ≤ (Z : Int) := by omega
      clear hcc hsome ho hb hold hold2 hco hZ q2 hL HS0 ho2 OC b2 hst
      go_wp2_with fail
      go_region
      go_wp2_with fail
      go_roundw
      case rel => exact ⟨k + 1, by omega, by go_num, HS1.out, HB1.out.drew⟩
      case measure => simp [intOf]; omega
    · obtain rfl : k = cs.length := by omega
      clear hb ho
      go_wp2_with fail
      go_ret
      exact ⟨w.heap.size, rfl, Nat.le_refl _, HO.out, HB.out⟩
set_option maxHeartbeats 1000000 in
theorem spec_l09Fits (w : World) (v : Value) (s : List Int) (h : Rd w.heap.size w v 1 s.length (s.flatMap putI)) (hn : s.length ≤ 1048576) :
    Calls Tryz.prog 101 #[v] w fun e w' => e = .returned (.bool (fitsB s)) ∧ w = w' := by
  obtain ⟨hL, ao, cap, rfl, hcap, hmax, hnil, hsome⟩ := h
  go_enter Tryz.func101, Tryz.ntmps101
  go_wp2
  go_loop [3] (fun i => ∃ (k : Nat), k ≤ s.length ∧ i = .int .i64 k ∧ fitsB (s.take k) = true) (fun i => s.length - (intOf i).toNat)
  case atStart => exact ⟨0, Nat.zero_le _, rfl, rfl⟩
  case round =>
    obtain ⟨k, hk, rfl, hall⟩ := hrel
    have Hall := Lib.hid hall; clear hall
    by_cases hlt : k < s.length
    · obtain ⟨b, off, rfl, hbB, hc⟩ := hsome (by omega)
      have c0 : w.cell? ⟨b, off + k, none⟩ = some (.int .i64 s[k]) := by rw [hc k (by omega), putI_get s k hlt]
      clear hc hsome hnil
      by_cases hx : 20 < s[k]
      · have e := Lib.hid (fits_no hlt hx)
        have t1 : decide (20 < s[k]) = true := decide_eq_true hx
        clear hx
        generalize s[k] = x at *
        go_wp2_with fail
        go_ret
        exact ⟨by rw [e.out]; rfl, rfl⟩
      · have e := Lib.hid (fits_take hlt Hall.out (by omega))
        have t1 : decide (20 < s[k]) = false := decide_eq_false hx
        clear hx
        generalize s[k] = x at *
        go_wp2_with fail
        go_round
        case rel => exact ⟨k + 1, by omega, by go_num, e.out⟩
        case measure => simp [intOf]; omega
    · obtain rfl : k = s.length := by omega
      have e : Hid (fitsB s = true) := Lib.hid (by have := Hall.out; rwa [List.take_of_length_le (Nat.le_refl _)] at this)
      clear hsome hnil
      go_wp2_with fail
      go_ret
      exact ⟨by rw [e.out]; rfl, rfl⟩
end Go.Proofs.YtcjekailcljaaaaGreat
