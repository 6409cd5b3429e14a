/- Contracts and plain facts, joined: HRows, Law. -/
import Derived.Test.YtcjekailcljaaaaGreatRows
import Derived.Test.YtcjekailcljaaaaGreatZFnExactGreedyPlanB
namespace Go.Proofs.YtcjekailcljaaaaGreat
open Go.ChangeShapes Go.WideShapes Go.ChangeAt Go.RowKit Go.Deep Go.Joins
set_option linter.unusedVariables false
set_option maxRecDepth 100000
set_option linter.unusedSimpArgs false
abbrev Row := Value × List Int
theorem putV_len (xs : List Row) : (xs.flatMap putV).length = xs.length * 1 := flat_len xs (fun _ _ => rfl)
theorem putV_get (xs : List Row) : ∀ (k : Nat) (h : k < xs.length), (xs.flatMap putV)[k]? = some xs[k].1 := by
  induction xs with
  | nil => intro k h; simp at h
  | cons x xs ih =>
    intro k h
    cases k with
    | zero => rfl
    | succ k => exact ih k (by simpa using h)
theorem info_rows : (Tryz.prog.info? 22).map (fun i => (i.zero, i.size, i.bytes)) = some (some (.slice none 0 0), 1, 24) := by kernel_rfl
/-- a row whose list is a block of its own above block B -/
def rowMine (B : Nat) (w : World) (x : Row) : Prop := ∃ g, x.1 = .slice (some ⟨g, 0, none⟩) x.2.length x.2.length ∧ B < g ∧ Own w g 2 (x.2.flatMap putI)
theorem rowMine.below {B C : Nat} {w w' : World} {x : Row} (h : rowMine B w x) (hC : w.heap.size ≤ C) (hb : Below C w w') : rowMine B w' x := by
  obtain ⟨g, h1, h2, h3⟩ := h
  exact ⟨g, h1, h2, h3.below hb (Nat.lt_of_lt_of_le h3.lt hC)⟩
theorem rowMine.set {B i : Nat} {w : World} {x : Row} (h : rowMine B w x) (v : Value) : rowMine B (w.setCell ⟨B, i, none⟩ v) x := by
  obtain ⟨g, h1, h2, h3⟩ := h
  exact ⟨g, h1, h2, h3.other (by simp; omega) v⟩
theorem rowMine.rd {B : Nat} {w : World} {x : Row} (h : rowMine B w x) (hn : x.2.length ≤ 1048576) : Rd w.heap.size w x.1 1 x.2.length (x.2.flatMap putI) := by
  obtain ⟨g, h1, h2, h3⟩ := h
  rw [h1]
  exact h3.rd h3.lt (putI_len _) (by unfold maxLen; omega) _ (Nat.le_refl _) (by unfold maxLen; omega)
theorem rowAt {ys xs : List Row} (h : ys.map Prod.snd = xs.map Prod.snd) (k : Nat) (hy : k < ys.length) (hx : k < xs.length) : ys[k].2 = xs[k].2 := by
  have h2 : (ys.map Prod.snd)[k]? = (xs.map Prod.snd)[k]? := by rw [h]
  simpa only [List.getElem?_map, List.getElem?_eq_getElem hy, List.getElem?_eq_getElem hx, Option.map_some, Option.some.injEq] using h2
theorem rowLen {ys xs : List Row} (h : ys.map Prod.snd = xs.map Prod.snd) : ys.length = xs.length := by
  have := congrArg List.length h
  simpa using this
set_option maxHeartbeats 1000000 in
theorem toRows (w : World) (v : Value) (xs : List Row) (h : Rd w.heap.size w v 1 xs.length (xs.flatMap putV)) (hn : xs.length ≤ 1048576) (hx : ∀ x ∈ xs, Rd w.heap.size w x.1 1 x.2.length (x.2.flatMap putI) ∧ x.2.length ≤ 1048576) :
    Calls Tryz.prog 35 #[v] w fun e w' => ∃ (g : Nat) (ys : List Row), e = .returned (.slice (some ⟨g, 0, none⟩) xs.length xs.length) ∧ w.heap.size ≤ g ∧ Own w' g 22 (ys.flatMap putV) ∧ ys.map Prod.snd = xs.map Prod.snd ∧ (∀ y ∈ ys, rowMine g w' y) ∧ Below w.heap.size w w' := by
  obtain ⟨hL, ao, cap, rfl, hcap, hmax, hnil, hsome⟩ := h
  obtain ⟨i0, hi, hz0, hz1, hz2⟩ := info_parts info_rows
  have HX := Lib.hid hx
  clear hx
  go_enter Tryz.func35, Tryz.ntmps35
  go_wp2_with (at_make; refine wpList_make_blk _ rfl _ _ 23 rfl 22 i0 (.slice none 0 0) 1 24 Tryz.underlying23 hi hz0 hz1 hz2 _ _ _ _ xs.length rfl rfl rfl rfl (by omega) (by unfold maxLen; omega) ?_; intro w1 ho hb hs)
  have hml := made_len (Value.slice none 0 0).cells (xs.length * 1)
  go_loopw [4] (fun i wr => ∃ (k : Nat) (ys : List Row) (U : List Value), k ≤ xs.length ∧ i = .int .i64 k ∧ U.length = xs.length - k ∧ ys.length = k ∧ ys.map Prod.snd = (xs.take k).map Prod.snd ∧ (∀ y ∈ ys, rowMine w.heap.size wr y) ∧ Own wr w.heap.size 22 (ys.flatMap putV ++ U) ∧ Below w.heap.size w wr) (fun i _ => xs.length - (intOf i).toNat)
  case atStart => exact ⟨0, [], _, Nat.zero_le _, rfl, by rw [Nat.sub_zero]; rw [hml, Nat.mul_one], rfl, rfl, by simp, by simpa using ho, hb⟩
  case round =>
    clear ho hb hs hml hi hz0 hz1 hz2
    obtain ⟨k, ys, U, hk, rfl, hU, hyl, hsaid, hmine, ho, hb⟩ := hrel
    by_cases hlt : k < xs.length
    · obtain ⟨b, off, rfl, hbB, hc⟩ := hsome (by omega)
      obtain ⟨t0, U, rfl, hU2⟩ := cons_of hU (by omega)
      have hA : (ys.flatMap putV).length = k := by rw [putV_len, hyl, Nat.mul_one]
      have c0 : wr.cell? ⟨b, off + k, none⟩ = some xs[k].1 := by
        rw [hb.cell (p := ⟨b, off + k, none⟩) hbB, hc k (by omega), putV_get xs k hlt]
      have hxk := HX.out xs[k] (List.getElem_mem hlt)
      have hrd := Lib.hid (hxk.1.up hb)
      have hnk := hxk.2
      clear hxk
      obtain ⟨lo, lc, hl⟩ := hrd.out.form
      obtain ⟨row, hrow⟩ : ∃ r, xs[k].2 = r := ⟨_, rfl⟩
      have HROW := Lib.hid hrow
      rw [hl] at c0 hrd
      rw [hrow] at c0 hrd hnk
      have HB := Lib.hid hb
      have HO := Lib.hid ho
      have HA := Lib.hid hA
      have HU := Lib.hid hU2
      have HM := Lib.hid hmine
      have HS := Lib.hid hsaid
      have HYL := Lib.hid hyl
      have hbr : b < wr.heap.size := Nat.lt_of_lt_of_le hbB hb.size
      clear hc ho hb hA hsome hnil hU hU2 hmine hsaid hyl hl hrow
      go_wp2_with fail
      refine (toInt64S wr _ row hrd.out hnk).mono ?_; rintro e w1 ⟨g, rfl, hg, og, b1⟩
      have ho1 := HO.out.below b1 HO.out.lt
      have hgl := HO.out.lt
      have hA := HA.out
      have d0 : w1.cell? ⟨w.heap.size, k, none⟩ = some t0 := by
        rw [ho1.cell, List.getElem?_append_right (by omega), hA]
        simp
      have f0 := ho1.free k
      have o1 := ho1.set k (.slice (some ⟨g, 0, none⟩) row.length row.length)
      rw [set1 _ _ _ _ hA] at o1
      have hb := HB.out
      have O1 := Lib.hid o1
      have NEW : rowMine w.heap.size w1 (.slice (some ⟨g, 0, none⟩) row.length row.length, row) := ⟨g, rfl, by omega, og⟩
      have ALL : Hid (∀ y ∈ ys, rowMine w.heap.size (w1.setCell ⟨w.heap.size, k, none⟩ (.slice (some ⟨g, 0, none⟩) row.length row.length)) y) := Lib.hid (fun y hy => ((HM.out y hy).below (Nat.le_refl _) b1).set _)
      have NEW2 := Lib.hid (NEW.set (i := k) (.slice (some ⟨g, 0, none⟩) row.length row.length))
      have HB1 := Lib.hid (Below.setCell (hb.trans (b1.mono hb.size)) (p := ⟨w.heap.size, k, none⟩) (Nat.le_refl _) (.slice (some ⟨g, 0, none⟩) row.length row.length))
      have hl1 := ho1.lt
      clear ho1 o1 hA hb b1 HO HB c0 NEW HM og hg
      go_wp2_with fail
      go_roundw
      case rel =>
        refine ⟨k + 1, ys ++ [(.slice (some ⟨g, 0, none⟩) row.length row.length, row)], U, by omega, by go_num, by have := HU.out; omega, by simp [HYL.out], ?_, ?_, ?_, HB1.out⟩
        · rw [List.map_append, HS.out, List.take_succ_eq_append_getElem hlt, List.map_append, ← HROW.out]; rfl
        · intro y hy
          rcases List.mem_append.1 hy with hy | hy
          · exact ALL.out y hy
          · obtain rfl := List.mem_singleton.1 hy
            exact NEW2.out
        · rw [List.flatMap_append]; simpa [putV] using O1.out
      case measure => simp [intOf]; omega
    · have e : Hid (k = xs.length) := (by omega : k = xs.length)
      have HO := Lib.hid ho
      have HM := Lib.hid hmine
      have HS := Lib.hid hsaid
      clear ho hmine hsaid
      go_wp2
      go_ret
      have ho := HO.out
      have hs := HS.out
      obtain rfl := e.out
      have : U = [] := List.eq_nil_of_length_eq_zero (by rw [hU]; omega)
      subst this
      refine ⟨w.heap.size, ys, rfl, Nat.le_refl _, by simpa using ho, ?_, HM.out, hb⟩
      rwa [List.take_of_length_le (Nat.le_refl _)] at hs
set_option maxHeartbeats 1000000 in
theorem eqRows (w : World) (v1 v2 : Value) (xs ys : List Row) (h1 : Rd w.heap.size w v1 1 xs.length (xs.flatMap putV)) (h2 : Rd w.heap.size w v2 1 ys.length (ys.flatMap putV)) (hn : xs.length ≤ 1048576) (hs : ys.map Prod.snd = xs.map Prod.snd)
    (r1 : ∀ x ∈ xs, Rd w.heap.size w x.1 1 x.2.length (x.2.flatMap putI) ∧ x.2.length ≤ 1048576) (r2 : ∀ x ∈ ys, Rd w.heap.size w x.1 1 x.2.length (x.2.flatMap putI)) :
    Calls Tryz.prog 44 #[v1, v2] w fun e w' => e = .returned (.bool true) ∧ Below w.heap.size w w' := by
  obtain ⟨hL, ao, cap, rfl, hcap, hmax, hnil, hsome⟩ := h1
  obtain ⟨hL2, ao2, cap2, rfl, hcap2, hmax2, hnil2, hsome2⟩ := h2
  have hl := rowLen hs
  have HSD := Lib.hid hs; clear hs
  have R1 := Lib.hid r1; clear r1
  have R2 := Lib.hid r2; clear r2
  have hz0 : ((xs.length : Int) != (ys.length : Int)) = false := by simp [hl]
  have hle : xs.length ≤ ys.length := by omega
  have hge : ys.length ≤ xs.length := by omega
  clear hl
  go_enter Tryz.func44, Tryz.ntmps44
  go_wp2
  go_loopw [5] (fun i wr => ∃ (k : Nat), k ≤ xs.length ∧ i = .int .i64 k ∧ Below w.heap.size w wr) (fun i _ => xs.length - (intOf i).toNat)
  case atStart => exact ⟨0, Nat.zero_le _, rfl, Below.refl _ _⟩
  case round =>
    obtain ⟨k, hk, rfl, hb⟩ := hrel
    by_cases hlt : k < xs.length
    · have hlt2 : k < ys.length := by omega
      obtain ⟨b, off, rfl, hbB, hc⟩ := hsome (by omega)
      obtain ⟨b2, off2, rfl, hbB2, hc2⟩ := hsome2 (by omega)
      have s0 := rowAt HSD.out k hlt2 hlt
      have ra := Lib.hid (((R1.out xs[k] (List.getElem_mem hlt)).1).up hb)
      have hnk := (R1.out xs[k] (List.getElem_mem hlt)).2
      have rb := Lib.hid ((R2.out ys[k] (List.getElem_mem hlt2)).up hb)
      have hnk2 : ys[k].2.length ≤ 1048576 := by rw [s0]; exact hnk
      have c0 : wr.cell? ⟨b, off + k, none⟩ = some xs[k].1 := by rw [hb.cell (p := ⟨b, off + k, none⟩) hbB, hc k (by omega), putV_get xs k hlt]
      have d0 : wr.cell? ⟨b2, off2 + k, none⟩ = some ys[k].1 := by rw [hb.cell (p := ⟨b2, off2 + k, none⟩) hbB2, hc2 k (by omega), putV_get ys k hlt2]
      have hbr : b < wr.heap.size := Nat.lt_of_lt_of_le hbB hb.size
      have hbr2 : b2 < wr.heap.size := Nat.lt_of_lt_of_le hbB2 hb.size
      have HB := Lib.hid hb
      have HEQ := Lib.hid (fun (w' : World) => eqInt64S wr.heap.size wr.heap.size w' xs[k].1 ys[k].1 xs[k].2 ys[k].2)
      have S0 := Lib.hid s0
      clear hc hc2 hsome hsome2 hnil hnil2 hb s0
      go_wp2_with fail
      refine wp_region_above (by kernel_rfl) (by kernel_rfl) ?_
      repeat (go_big_quiet_step ((go_at_call 14; exact aboveC ((eqInt64S wr.heap.size wr.heap.size _ xs[k].1 ys[k].1 xs[k].2 ys[k].2 (ra.out.below (above_below _ _)) (rb.out.below (above_below _ _)) hnk hnk2 S0.out.symm).mono fun e w'' h => ⟨h.1, h.2.below⟩))))
      refine wpQuiet_nil ?_
      intro w1 b1
      have HB1 := Lib.hid (HB.out.trans (b1.mono HB.out.size)); clear b1 HB
      go_wp2_with fail
      go_roundw
      case rel => exact ⟨k + 1, by omega, by go_num, HB1.out⟩
      case measure => simp [intOf]; omega
    · go_wp2
      go_ret
      exact ⟨rfl, hb⟩
end Go.Proofs.YtcjekailcljaaaaGreat
namespace Go.Proofs.YtcjekailcljaaaaGreat
open Go.ChangeShapes Go.WideShapes Go.ChangeAt Go.RowKit Go.Deep Go.Joins
set_option linter.unusedVariables false
set_option maxRecDepth 100000
set_option linter.unusedSimpArgs false
theorem toB {P : Program} {f : FuncId} {args : Array Value} {w : World} {v : Value} (h : Calls P f args w fun e w' => e = .returned v ∧ w = w') :
    Calls P f args w fun e w' => e = .returned v ∧ Below w.heap.size w w' := h.mono fun _ _ ⟨he, hw⟩ => ⟨he, hw ▸ Below.refl _ _⟩
theorem dB {P : Program} {f : FuncId} {args : Array Value} {w : World} {v : Value} (h : Calls P f args w fun e w' => e = .returned v ∧ Drew w w') :
    Calls P f args w fun e w' => e = .returned v ∧ Below w.heap.size w w' := h.mono fun _ _ ⟨he, hw⟩ => ⟨he, hw.below⟩
theorem Own.drew1 {w : World} {g : Nat} {E : TypeId} {L : List Value} (h : Own w g E L) : Own w.drew g E L := h
end Go.Proofs.YtcjekailcljaaaaGreat
