/- Contracts and plain facts, joined: HMelts, RdM, Search, SearchMelt, Part, Alloy, HAlloy. -/
import Derived.Test.YtnbodmbagendnaaRows
import Derived.Test.YtnbodmbagendnaaZFnExactAddMeltB
namespace Go.Proofs.Ytnbodmbagendnaa
open Go.ChangeShapes Go.WideShapes Go.ChangeAt Go.RowKit Go.Deep Go.Joins
set_option linter.unusedVariables false
set_option maxRecDepth 100000
set_option linter.unusedSimpArgs false
theorem Melt_len (xs : List Melt) : (xs.flatMap Melt.put).length = xs.length * 3 := flat_len xs (fun _ _ => rfl)
theorem Melt_get0 (xs : List Melt) (k : Nat) (h : k < xs.length) : (xs.flatMap Melt.put)[k * 3 + 0]? = some (.string xs[k].id) := by
  rw [flat_get (f := Melt.put) (s := 3) xs (fun _ _ => rfl) (j := 0) (by omega) k, List.getElem?_eq_getElem h]
  rfl
theorem Melt_get1 (xs : List Melt) (k : Nat) (h : k < xs.length) : (xs.flatMap Melt.put)[k * 3 + 1]? = some xs[k].list := by
  rw [flat_get (f := Melt.put) (s := 3) xs (fun _ _ => rfl) (j := 1) (by omega) k, List.getElem?_eq_getElem h]
  rfl
theorem Melt_get2 (xs : List Melt) (k : Nat) (h : k < xs.length) : (xs.flatMap Melt.put)[k * 3 + 2]? = some (.int .i64 xs[k].mass) := by
  rw [flat_get (f := Melt.put) (s := 3) xs (fun _ _ => rfl) (j := 2) (by omega) k, List.getElem?_eq_getElem h]
  rfl
theorem Melt_info : (Try.prog.info? 63).map (fun i => (i.zero, i.size, i.bytes)) = some (some (.agg #[.string ByteArray.empty, .slice none 0 0, .int .i64 0]), 3, 48) := by kernel_rfl

/-- what a melt says, wherever its list lies -/
def Melt.said (x : Melt) : ByteArray × List ByteArray × Int := (x.id, x.ingots, x.mass)

theorem Melt.ok.up {w w' : World} {x : Melt} (h : x.ok w) (hb : Below w.heap.size w w') : x.ok w' := ⟨h.1, ⟨h.2.1.1.up hb, h.2.1.2⟩, h.2.2⟩

/-- a melt whose list is a block of its own above block B -/
def Melt.mine (B : Nat) (w : World) (x : Melt) : Prop := ∃ g, x.list = .slice (some ⟨g, 0, none⟩) x.ingots.length x.ingots.length ∧ B < g ∧ Own w g 9 (x.ingots.flatMap putStr)
theorem Melt.mine.below {B C : Nat} {w w' : World} {x : Melt} (h : x.mine B w) (hC : w.heap.size ≤ C) (hb : Below C w w') : x.mine B w' := by
  obtain ⟨g, h1, h2, h3⟩ := h
  exact ⟨g, h1, h2, h3.below hb (Nat.lt_of_lt_of_le h3.lt hC)⟩
theorem Melt.mine.set {B i : Nat} {w : World} {x : Melt} (h : x.mine B w) (v : Value) : x.mine B (w.setCell ⟨B, i, none⟩ v) := by
  obtain ⟨g, h1, h2, h3⟩ := h
  exact ⟨g, h1, h2, h3.other (by simp; omega) v⟩
theorem Melt.mine.rd {B : Nat} {w : World} {x : Melt} (h : x.mine B w) (hn : x.ingots.length ≤ 1048576) : Rd w.heap.size w x.list 1 x.ingots.length (x.ingots.flatMap putStr) := by
  obtain ⟨g, h1, h2, h3⟩ := h
  rw [h1]
  exact h3.rd h3.lt (putStr_len _) (by unfold maxLen; omega) _ (Nat.le_refl _) (by unfold maxLen; omega)

set_option maxHeartbeats 1000000 in
theorem toMeltS (w : World) (v : Value) (xs : List Melt) (h : Rd w.heap.size w v 3 xs.length (xs.flatMap Melt.put)) (hn : xs.length ≤ 1048576) (hx : ∀ x ∈ xs, x.ok w ∧ x.ingots.length ≤ 1048576) :
    Calls Try.prog 28 #[v] w fun e w' => ∃ (g : Nat) (ys : List Melt), e = .returned (.slice (some ⟨g, 0, none⟩) xs.length xs.length) ∧ w.heap.size ≤ g ∧ Own w' g 63 (ys.flatMap Melt.put) ∧ ys.map Melt.said = xs.map Melt.said ∧ (∀ y ∈ ys, y.mine g w') ∧ Below w.heap.size w w' := by
  obtain ⟨hL, ao, cap, rfl, hcap, hmax, hnil, hsome⟩ := h
  obtain ⟨i0, hi, hz0, hz1, hz2⟩ := info_parts Melt_info
  have HX := Lib.hid hx
  clear hx
  go_enter Try.func28, Try.ntmps28
  go_wp2_with (at_make; refine wpList_make_blk _ rfl _ _ 57 rfl 63 i0 (.agg #[.string ByteArray.empty, .slice none 0 0, .int .i64 0]) 3 48 Try.underlying57 hi hz0 hz1 hz2 _ _ _ _ xs.length rfl rfl rfl rfl (by omega) (by unfold maxLen; omega) ?_; intro w1 ho hb hs)
  have hml := made_len (Value.agg #[.string ByteArray.empty, .slice none 0 0, .int .i64 0]).cells (xs.length * 3)
  go_loopw [4] (fun i wr => ∃ (k : Nat) (ys : List Melt) (U : List Value), k ≤ xs.length ∧ i = .int .i64 k ∧ U.length = (xs.length - k) * 3 ∧ ys.length = k ∧ ys.map Melt.said = (xs.take k).map Melt.said ∧ (∀ y ∈ ys, y.mine w.heap.size wr) ∧ Own wr w.heap.size 63 (ys.flatMap Melt.put ++ U) ∧ Below w.heap.size w wr) (fun i _ => xs.length - (intOf i).toNat)
  case atStart => exact ⟨0, [], _, Nat.zero_le _, rfl, by rw [Nat.sub_zero]; exact hml, rfl, rfl, by simp, by simpa using ho, hb⟩
  case round =>
    clear ho hb hs hml hi hz0 hz1 hz2
    obtain ⟨k, ys, U, hk, rfl, hU, hyl, hsaid, hmine, ho, hb⟩ := hrel
    by_cases hlt : k < xs.length
    · obtain ⟨b, off, rfl, hbB, hc⟩ := hsome (by omega)
      obtain ⟨t0, t1, t2, U, rfl, hU2⟩ := cons3 hU (by omega)
      have hA : (ys.flatMap Melt.put).length = k * 3 := by rw [Melt_len, hyl]
      have c0 : wr.cell? ⟨b, off + k * 3, none⟩ = some (.string xs[k].id) := by
        rw [show off + k * 3 = off + (k * 3 + 0) from by omega, hb.cell (p := ⟨b, off + (k * 3 + 0), none⟩) hbB, hc (k * 3 + 0) (by omega), Melt_get0 xs k hlt]
      have c1 : wr.cell? ⟨b, off + k * 3 + 1, none⟩ = some xs[k].list := by
        rw [show off + k * 3 + 1 = off + (k * 3 + 1) from by omega, hb.cell (p := ⟨b, off + (k * 3 + 1), none⟩) hbB, hc (k * 3 + 1) (by omega), Melt_get1 xs k hlt]
      have c2 : wr.cell? ⟨b, off + k * 3 + 2, none⟩ = some (.int .i64 xs[k].mass) := by
        rw [show off + k * 3 + 2 = off + (k * 3 + 2) from by omega, hb.cell (p := ⟨b, off + (k * 3 + 2), none⟩) hbB, hc (k * 3 + 2) (by omega), Melt_get2 xs k hlt]
      have hxk := HX.out xs[k] (List.getElem_mem hlt)
      have hrd := Lib.hid ((hxk.1.up hb).2.1.1)
      have hnk := hxk.2
      clear hxk
      have HB := Lib.hid hb
      have HO := Lib.hid ho
      have HA := Lib.hid hA
      have HU := Lib.hid hU2
      have HM := Lib.hid hmine
      have HS := Lib.hid hsaid
      have HYL := Lib.hid hyl
      clear hc ho hb hA hsome hnil hU hU2 hmine hsaid hyl
      go_wp2_with fail
      refine (toMelt xs[k] _ hrd.out hnk).mono ?_; rintro e w1 ⟨g, rfl, hg, og, b1⟩
      have ho1 := HO.out.below b1 HO.out.lt
      have hgl := HO.out.lt
      have hA := HA.out
      have d0 : w1.cell? ⟨w.heap.size, k * 3, none⟩ = some t0 := by
        rw [ho1.cell, List.getElem?_append_right (by omega), hA]
        simp
      have d1 : w1.cell? ⟨w.heap.size, k * 3 + 1, none⟩ = some t1 := by
        rw [ho1.cell, List.getElem?_append_right (by omega), hA]
        simp
      have d2 : w1.cell? ⟨w.heap.size, k * 3 + 2, none⟩ = some t2 := by
        rw [ho1.cell, List.getElem?_append_right (by omega), hA]
        simp
      have f0 := ho1.free (k * 3)
      have f1 := ho1.free (k * 3 + 1)
      have f2 := ho1.free (k * 3 + 2)
      have o1 := (((ho1.set (k * 3) (.string xs[k].id)).set (k * 3 + 1) (.slice (some ⟨g, 0, none⟩) xs[k].ingots.length xs[k].ingots.length)).set (k * 3 + 2) (.int .i64 xs[k].mass))
      rw [set3 _ _ _ _ _ _ _ _ _ hA] at o1
      have hb := HB.out
      have O1 := Lib.hid o1
      have NEW : Melt.mine w.heap.size w1 ⟨xs[k].id, .slice (some ⟨g, 0, none⟩) xs[k].ingots.length xs[k].ingots.length, xs[k].ingots, xs[k].mass⟩ := ⟨g, rfl, by omega, og⟩
      have ALL := Lib.hid (fun y hy => ((((HM.out y hy).below (Nat.le_refl _) b1).set (i := k * 3) (.string xs[k].id)).set (i := k * 3 + 1) (.slice (some ⟨g, 0, none⟩) xs[k].ingots.length xs[k].ingots.length)).set (i := k * 3 + 2) (.int .i64 xs[k].mass))
      have NEW2 := Lib.hid (((NEW.set (i := k * 3) (.string xs[k].id)).set (i := k * 3 + 1) (.slice (some ⟨g, 0, none⟩) xs[k].ingots.length xs[k].ingots.length)).set (i := k * 3 + 2) (.int .i64 xs[k].mass))
      have HB1 := Lib.hid (Below.setCell (Below.setCell (Below.setCell (hb.trans (b1.mono hb.size)) (p := ⟨w.heap.size, k * 3, none⟩) (Nat.le_refl _) (.string xs[k].id)) (p := ⟨w.heap.size, k * 3 + 1, none⟩) (Nat.le_refl _) (.slice (some ⟨g, 0, none⟩) xs[k].ingots.length xs[k].ingots.length)) (p := ⟨w.heap.size, k * 3 + 2, none⟩) (Nat.le_refl _) (.int .i64 xs[k].mass))
      clear ho1 o1 hA hb b1 HO HB c0 c1 c2 NEW HM og hg
      go_wp2_with fail
      go_roundw
      case rel =>
        refine ⟨k + 1, ys ++ [⟨xs[k].id, .slice (some ⟨g, 0, none⟩) xs[k].ingots.length xs[k].ingots.length, xs[k].ingots, xs[k].mass⟩], U, by omega, by go_num, by have := HU.out; omega, by simp [HYL.out], ?_, ?_, ?_, HB1.out⟩
        · rw [List.map_append, HS.out, List.take_succ_eq_append_getElem hlt, List.map_append]; rfl
        · intro y hy
          rcases List.mem_append.1 hy with hy | hy
          · exact ALL.out y hy
          · obtain rfl := List.mem_singleton.1 hy
            exact NEW2.out
        · rw [List.flatMap_append]; simpa [Melt.put] using O1.out
      case measure => simp [intOf]; omega
    · have e : Hid (k = xs.length) := (by omega : k = xs.length)
      have HO := Lib.hid ho
      have HM := Lib.hid hmine
      have HS := Lib.hid hsaid
      clear ho hmine hsaid
      go_wp2
      go_ret
      have ho := HO.out
      have hs := HS.out
      obtain rfl := e.out
      have : U = [] := List.eq_nil_of_length_eq_zero (by rw [hU]; omega)
      subst this
      refine ⟨w.heap.size, ys, rfl, Nat.le_refl _, by simpa using ho, ?_, HM.out, hb⟩
      rwa [List.take_of_length_le (Nat.le_refl _)] at hs

theorem said_at {ys zs : List Melt} (h : ys.map Melt.said = zs.map Melt.said) (k : Nat) (hy : k < ys.length) (hz : k < zs.length) : zs[k].id = ys[k].id ∧ zs[k].ingots = ys[k].ingots ∧ zs[k].mass = ys[k].mass := by
  have h2 : (ys.map Melt.said)[k]? = (zs.map Melt.said)[k]? := by rw [h]
  simp only [List.getElem?_map, List.getElem?_eq_getElem hy, List.getElem?_eq_getElem hz, Option.map_some, Option.some.injEq, Melt.said, Prod.mk.injEq] at h2
  exact ⟨h2.1.symm, h2.2.1.symm, h2.2.2.symm⟩

theorem said_len {ys zs : List Melt} (h : ys.map Melt.said = zs.map Melt.said) : ys.length = zs.length := by
  have := congrArg List.length h
  simpa using this

set_option maxHeartbeats 1000000 in
theorem eqMeltS (w : World) (v1 v2 : Value) (xs ys : List Melt) (h1 : Rd w.heap.size w v1 3 xs.length (xs.flatMap Melt.put)) (h2 : Rd w.heap.size w v2 3 ys.length (ys.flatMap Melt.put)) (hn : xs.length ≤ 1048576) (hs : xs.map Melt.said = ys.map Melt.said)
    (r1 : ∀ x ∈ xs, Rd w.heap.size w x.list 1 x.ingots.length (x.ingots.flatMap putStr) ∧ x.ingots.length ≤ 1048576) (r2 : ∀ x ∈ ys, Rd w.heap.size w x.list 1 x.ingots.length (x.ingots.flatMap putStr)) :
    Calls Try.prog 31 #[v1, v2] w fun e w' => e = .returned (.bool true) ∧ Below w.heap.size w w' := by
  obtain ⟨hL, ao, cap, rfl, hcap, hmax, hnil, hsome⟩ := h1
  obtain ⟨hL2, ao2, cap2, rfl, hcap2, hmax2, hnil2, hsome2⟩ := h2
  have hl := said_len hs
  have HSD := Lib.hid hs; clear hs
  have R1 := Lib.hid r1; clear r1
  have R2 := Lib.hid r2; clear r2
  have hz0 : ((xs.length : Int) != (ys.length : Int)) = false := by simp [hl]
  have Hl := Lib.hid hl
  have hle : xs.length ≤ ys.length := by omega
  have hge : ys.length ≤ xs.length := by omega
  clear hl
  go_enter Try.func31, Try.ntmps31
  go_wp2
  go_loopw [5] (fun i wr => ∃ (k : Nat), k ≤ xs.length ∧ i = .int .i64 k ∧ Below w.heap.size w wr) (fun i _ => xs.length - (intOf i).toNat)
  case atStart => exact ⟨0, Nat.zero_le _, rfl, Below.refl _ _⟩
  case round =>
    obtain ⟨k, hk, rfl, hb⟩ := hrel
    by_cases hlt : k < xs.length
    · have hlt2 : k < ys.length := by omega
      obtain ⟨b, off, rfl, hbB, hc⟩ := hsome (by omega)
      obtain ⟨b2, off2, rfl, hbB2, hc2⟩ := hsome2 (by omega)
      obtain ⟨s0, s1, s2⟩ := said_at HSD.out k hlt hlt2
      have ra := Lib.hid (((R1.out xs[k] (List.getElem_mem hlt)).1).up hb)
      have hnk := (R1.out xs[k] (List.getElem_mem hlt)).2
      have rb := Lib.hid (show Rd wr.heap.size wr ys[k].list 1 xs[k].ingots.length (xs[k].ingots.flatMap putStr) by rw [← s1]; exact (R2.out ys[k] (List.getElem_mem hlt2)).up hb)
      have c0 : wr.cell? ⟨b, off + k * 3, none⟩ = some (.string xs[k].id) := by
        rw [show off + k * 3 = off + (k * 3 + 0) from by omega, hb.cell (p := ⟨b, off + (k * 3 + 0), none⟩) hbB, hc (k * 3 + 0) (by omega), Melt_get0 xs k hlt]
      have c1 : wr.cell? ⟨b, off + k * 3 + 1, none⟩ = some xs[k].list := by
        rw [show off + k * 3 + 1 = off + (k * 3 + 1) from by omega, hb.cell (p := ⟨b, off + (k * 3 + 1), none⟩) hbB, hc (k * 3 + 1) (by omega), Melt_get1 xs k hlt]
      have c2 : wr.cell? ⟨b, off + k * 3 + 2, none⟩ = some (.int .i64 xs[k].mass) := by
        rw [show off + k * 3 + 2 = off + (k * 3 + 2) from by omega, hb.cell (p := ⟨b, off + (k * 3 + 2), none⟩) hbB, hc (k * 3 + 2) (by omega), Melt_get2 xs k hlt]
      have d0 : wr.cell? ⟨b2, off2 + k * 3, none⟩ = some (.string xs[k].id) := by
        rw [show off2 + k * 3 = off2 + (k * 3 + 0) from by omega, hb.cell (p := ⟨b2, off2 + (k * 3 + 0), none⟩) hbB2, hc2 (k * 3 + 0) (by omega), Melt_get0 ys k hlt2, s0]
      have d1 : wr.cell? ⟨b2, off2 + k * 3 + 1, none⟩ = some ys[k].list := by
        rw [show off2 + k * 3 + 1 = off2 + (k * 3 + 1) from by omega, hb.cell (p := ⟨b2, off2 + (k * 3 + 1), none⟩) hbB2, hc2 (k * 3 + 1) (by omega), Melt_get1 ys k hlt2]
      have d2 : wr.cell? ⟨b2, off2 + k * 3 + 2, none⟩ = some (.int .i64 xs[k].mass) := by
        rw [show off2 + k * 3 + 2 = off2 + (k * 3 + 2) from by omega, hb.cell (p := ⟨b2, off2 + (k * 3 + 2), none⟩) hbB2, hc2 (k * 3 + 2) (by omega), Melt_get2 ys k hlt2, s2]
      have HB := Lib.hid hb
      clear hc hc2 hsome hsome2 hnil hnil2 hb s0 s1 s2
      go_wp2_with fail
      have hbr : b < wr.heap.size := Nat.lt_of_lt_of_le hbB HB.out.size
      have hbr2 : b2 < wr.heap.size := Nat.lt_of_lt_of_le hbB2 HB.out.size
      refine wp_region_above (by kernel_rfl) (by kernel_rfl) ?_
      repeat (go_big_quiet_step ((go_at_call 33; exact aboveC (eqMelt xs[k] xs[k].list ys[k].list _ (by exact ra.out.up (above_below _ _)) (by exact rb.out.up (above_below _ _)) hnk))))
      refine wpQuiet_nil ?_
      intro w1 b1
      have HB1 := Lib.hid (HB.out.trans (b1.mono HB.out.size)); clear b1 HB
      go_wp2_with fail
      go_roundw
      case rel => exact ⟨k + 1, by omega, by go_num, HB1.out⟩
      case measure => simp [intOf]; omega
    · go_wp2
      go_ret
      exact ⟨rfl, hb⟩

def Melt.wt (x : Melt) : Nat := x.id.size + (x.ingots.length + wtStr x.ingots)
def wtMelt (xs : List Melt) : Nat := (xs.map Melt.wt).sum
theorem wtMelt_succ (xs : List Melt) (k : Nat) (h : k < xs.length) : wtMelt (xs.take (k + 1)) = wtMelt (xs.take k) + xs[k].wt := by
  unfold wtMelt
  rw [List.take_succ_eq_append_getElem h, List.map_append, List.sum_append]
  simp only [List.map_cons, List.map_nil, List.sum_cons, List.sum_nil, Nat.add_zero]
theorem wtMelt_le (xs : List Melt) (k : Nat) : wtMelt (xs.take k) ≤ wtMelt xs := by
  have h : wtMelt xs = wtMelt (xs.take k) + wtMelt (xs.drop k) := by
    unfold wtMelt
    rw [← List.sum_append, ← List.map_append, List.take_append_drop]
  omega
theorem wtMelt_mem (xs : List Melt) (x : Melt) (h : x ∈ xs) : x.wt ≤ wtMelt xs := by
  unfold wtMelt
  exact le_sum_of (List.mem_map.2 ⟨x, h, rfl⟩)

set_option maxHeartbeats 1000000 in
theorem szMeltS (w : World) (v : Value) (xs : List Melt) (left : Int) (h : Rd w.heap.size w v 3 xs.length (xs.flatMap Melt.put)) (hm : xs.length ≤ maxLen) (hx : ∀ x ∈ xs, x.ok w) (h0 : 0 ≤ left) (h1 : left ≤ 1048576) :
    Calls Try.prog 24 #[v, .int .i64 left] w fun e w' => e = .returned (.int .i64 (szR left (xs.length + wtMelt xs))) ∧ Below w.heap.size w w' := by
  obtain ⟨hL, ao, cap, rfl, hcap, hmax, hnil, hsome⟩ := h
  have hm2 := hm
  unfold maxLen at hm2
  by_cases hn : (xs.length : Int) ≤ left
  case neg =>
    have e : Hid (szR left (xs.length + wtMelt xs) = -1) := (if_neg (by omega) : szR left (xs.length + wtMelt xs) = -1)
    clear hsome hnil hx
    go_enter Try.func24, Try.ntmps24
    go_wp2
    go_ret
    exact ⟨by rw [e.out]; rfl, by (repeat' (first | (with_reducible exact Below.refl _ _) | (with_reducible assumption) | (with_reducible refine below_dn ?_ _) | (with_reducible refine Below.drew ?_) | (with_reducible refine Below.alloc ?_ ?_ _) | (with_reducible refine Below.setCell ?_ ?_ _) | go_size))⟩
  go_enter Try.func24, Try.ntmps24
  have Hx := Lib.hid hx; clear hx
  go_wp2
  go_loopw [1, 5] (fun l i wr => ∃ (k : Nat), k ≤ xs.length ∧ i = .int .i64 k ∧ l = .int .i64 (left - xs.length - wtMelt (xs.take k)) ∧ 0 ≤ left - xs.length - wtMelt (xs.take k) ∧ Below w.heap.size w wr) (fun _ i _ => xs.length - (intOf i).toNat)
  case atStart => exact ⟨0, Nat.zero_le _, rfl, by simp [wtMelt], by simp [wtMelt]; omega, Below.refl _ _⟩
  case round =>
    obtain ⟨k, hk, rfl, rfl, hp, hb⟩ := hrel
    by_cases hlt : k < xs.length
    · obtain ⟨b, off, rfl, hbB, hc⟩ := hsome (by omega)
      have c0 : wr.cell? ⟨b, off + k * 3, none⟩ = some (.string xs[k].id) := by
        rw [show off + k * 3 = off + (k * 3 + 0) from by omega, hb.cell (p := ⟨b, off + (k * 3 + 0), none⟩) hbB, hc (k * 3 + 0) (by omega), Melt_get0 xs k hlt]
      have c1 : wr.cell? ⟨b, off + k * 3 + 1, none⟩ = some xs[k].list := by
        rw [show off + k * 3 + 1 = off + (k * 3 + 1) from by omega, hb.cell (p := ⟨b, off + (k * 3 + 1), none⟩) hbB, hc (k * 3 + 1) (by omega), Melt_get1 xs k hlt]
      have c2 : wr.cell? ⟨b, off + k * 3 + 2, none⟩ = some (.int .i64 xs[k].mass) := by
        rw [show off + k * 3 + 2 = off + (k * 3 + 2) from by omega, hb.cell (p := ⟨b, off + (k * 3 + 2), none⟩) hbB, hc (k * 3 + 2) (by omega), Melt_get2 xs k hlt]
      have hs := Lib.hid (wtMelt_succ xs k hlt)
      have hle := Lib.hid (wtMelt_le xs (k + 1))
      have hxk := Lib.hid ((Hx.out xs[k] (List.getElem_mem hlt)).up hb)
      have HB := Lib.hid hb
      clear hc hsome hnil hb
      by_cases hq : (xs[k].wt : Int) ≤ left - xs.length - wtMelt (xs.take k)
      · have es : Hid (szR (left - xs.length - wtMelt (xs.take k)) xs[k].wt = left - xs.length - wtMelt (xs.take (k + 1))) := (by unfold szR; rw [if_pos hq, hs.out]; push_cast; omega : szR (left - xs.length - wtMelt (xs.take k)) xs[k].wt = left - xs.length - wtMelt (xs.take (k + 1)))
        have hp2 : 0 ≤ left - xs.length - wtMelt (xs.take (k + 1)) := by have := hs.out; omega
        go_wp2_with fail
        refine (szMelt xs[k] _ _ hxk.out hp (by omega)).mono ?_; rw [show xs[k].id.size + (xs[k].ingots.length + wtStr xs[k].ingots) = xs[k].wt from rfl, es.out]; rintro e w1 ⟨rfl, b1⟩
        have HB1 := Lib.hid (HB.out.trans (b1.mono HB.out.size)); clear b1 HB
        clear es hp
        go_wp2_with fail
        go_roundw
        case rel => exact ⟨k + 1, by omega, by go_num, rfl, hp2, HB1.out⟩
        case measure => simp [intOf]; omega
      · have es : Hid (szR (left - xs.length - wtMelt (xs.take k)) xs[k].wt = -1) := (if_neg hq : szR (left - xs.length - wtMelt (xs.take k)) xs[k].wt = -1)
        have e : Hid (szR left (xs.length + wtMelt xs) = -1) := (if_neg (by have := hs.out; have := hle.out; omega) : szR left (xs.length + wtMelt xs) = -1)
        go_wp2_with fail
        refine (szMelt xs[k] _ _ hxk.out hp (by omega)).mono ?_; rw [show xs[k].id.size + (xs[k].ingots.length + wtStr xs[k].ingots) = xs[k].wt from rfl, es.out]; rintro e w1 ⟨rfl, b1⟩
        have HB1 := Lib.hid (HB.out.trans (b1.mono HB.out.size)); clear b1 HB es hp
        go_wp2_with fail
        go_ret
        exact ⟨by rw [e.out]; rfl, HB1.out⟩
    · have e : Hid (szR left (xs.length + wtMelt xs) = left - xs.length - wtMelt (xs.take k)) := (by
        rw [List.take_of_length_le (by omega)] at hp ⊢
        unfold szR
        rw [if_pos (by push_cast; omega)]; push_cast; omega : szR left (xs.length + wtMelt xs) = left - xs.length - wtMelt (xs.take k))
      go_wp2
      go_ret
      exact ⟨by rw [e.out]; rfl, hb⟩
end Go.Proofs.Ytnbodmbagendnaa
namespace Go.Proofs.Ytnbodmbagendnaa
open Go.ChangeShapes Go.WideShapes Go.ChangeAt Go.RowKit Go.Deep Go.Joins
set_option linter.unusedVariables false
set_option maxRecDepth 100000
set_option linter.unusedSimpArgs false
/-- v is a slice of the melts xs: ids, masses and lists read as they say -/
def RdM (B : Nat) (w : World) (v : Value) (xs : List Melt) : Prop :=
  ∃ ao cap, v = .slice ao xs.length cap ∧ xs.length ≤ cap ∧ cap ≤ maxLen ∧
    (0 < xs.length → ∃ b off, ao = some ⟨b, off, none⟩ ∧ b < B ∧ ∀ k (h : k < xs.length), ∃ l, w.cell? ⟨b, off + k * 3, none⟩ = some (.string xs[k].id) ∧ w.cell? ⟨b, off + k * 3 + 1, none⟩ = some l ∧
      w.cell? ⟨b, off + k * 3 + 2, none⟩ = some (.int .i64 xs[k].mass) ∧ Rd B w l 1 xs[k].ingots.length (xs[k].ingots.flatMap putStr))
theorem RdM.below {B : Nat} {w w' : World} {v : Value} {xs : List Melt} (h : RdM B w v xs) (hb : Below B w w') : RdM B w' v xs := by
  obtain ⟨ao, cap, h1, h2, h3, h4⟩ := h
  refine ⟨ao, cap, h1, h2, h3, fun hp => ?_⟩
  obtain ⟨b, off, e, hB, hc⟩ := h4 hp
  refine ⟨b, off, e, hB, fun k hk => ?_⟩
  obtain ⟨l, c0, c1, c2, hr⟩ := hc k hk
  exact ⟨l, (hb.cell (p := ⟨b, _, none⟩) hB).trans c0, (hb.cell (p := ⟨b, _, none⟩) hB).trans c1, (hb.cell (p := ⟨b, _, none⟩) hB).trans c2, hr.below hb⟩
theorem RdM.mono {B B' : Nat} {w : World} {v : Value} {xs : List Melt} (h : RdM B w v xs) (hB : B ≤ B') : RdM B' w v xs := by
  obtain ⟨ao, cap, h1, h2, h3, h4⟩ := h
  refine ⟨ao, cap, h1, h2, h3, fun hp => ?_⟩
  obtain ⟨b, off, e, hb, hc⟩ := h4 hp
  refine ⟨b, off, e, Nat.lt_of_lt_of_le hb hB, fun k hk => ?_⟩
  obtain ⟨l, c0, c1, c2, hr⟩ := hc k hk
  exact ⟨l, c0, c1, c2, hr.mono hB⟩
theorem RdM.up {w w' : World} {v : Value} {xs : List Melt} (h : RdM w.heap.size w v xs) (hb : Below w.heap.size w w') : RdM w'.heap.size w' v xs := (h.below hb).mono hb.size

/-- block g holds the melts ys, each with a list of its own, which say what xs say -/
def MeltsAt (w : World) (g : Nat) (ys xs : List Melt) : Prop := Own w g 63 (ys.flatMap Melt.put) ∧ ys.map Melt.said = xs.map Melt.said ∧ ∀ y ∈ ys, y.mine g w
theorem MeltsAt.lt {w : World} {g : Nat} {ys xs : List Melt} (h : MeltsAt w g ys xs) : g < w.heap.size := h.1.lt
theorem MeltsAt.below {w w' : World} {g : Nat} {ys xs : List Melt} (h : MeltsAt w g ys xs) (hb : Below w.heap.size w w') (_ : g < w.heap.size) : MeltsAt w' g ys xs :=
  ⟨h.1.below hb h.1.lt, h.2.1, fun y hy => (h.2.2 y hy).below (Nat.le_refl _) hb⟩
theorem MeltsAt.rdm {w : World} {g : Nat} {ys xs : List Melt} (h : MeltsAt w g ys xs) (hn : xs.length ≤ 1048576) (hi : ∀ x ∈ xs, x.ingots.length ≤ 1048576) : RdM w.heap.size w (.slice (some ⟨g, 0, none⟩) xs.length xs.length) xs := by
  refine ⟨_, _, rfl, Nat.le_refl _, by unfold maxLen; omega, fun hp => ⟨g, 0, rfl, h.lt, fun k hk => ?_⟩⟩
  have hl := said_len h.2.1
  have hk2 : k < ys.length := by omega
  obtain ⟨s0, s1, s2⟩ := said_at h.2.1 k hk2 hk
  have hm := h.2.2 ys[k] (List.getElem_mem hk2)
  have hz := hi xs[k] (List.getElem_mem hk)
  rw [s1] at hz
  refine ⟨ys[k].list, ?_, ?_, ?_, by rw [s1]; exact hm.rd hz⟩
  · rw [Nat.zero_add, h.1.cell, s0]; exact Melt_get0 ys k hk2
  · rw [Nat.zero_add, h.1.cell]; exact Melt_get1 ys k hk2
  · rw [Nat.zero_add, h.1.cell, s2]; exact Melt_get2 ys k hk2

theorem toMeltL (w : World) (v : Value) (xs : List Melt) (h : Rd w.heap.size w v 3 xs.length (xs.flatMap Melt.put)) (hn : xs.length ≤ 1048576) (hx : ∀ x ∈ xs, x.ok w ∧ x.ingots.length ≤ 1048576) :
    Calls Try.prog 28 #[v] w fun e w' => ∃ (g : Nat) (ys : List Melt), e = .returned (.slice (some ⟨g, 0, none⟩) xs.length xs.length) ∧ w.heap.size ≤ g ∧ MeltsAt w' g ys xs ∧ Below w.heap.size w w' :=
  (toMeltS w v xs h hn hx).mono fun _ _ ⟨g, ys, h1, h2, h3, h4, h5, h6⟩ => ⟨g, ys, h1, h2, ⟨h3, h4, h5⟩, h6⟩

theorem said_mem {ys xs : List Melt} (h : ys.map Melt.said = xs.map Melt.said) {y : Melt} (hy : y ∈ ys) : ∃ x ∈ xs, x.ingots = y.ingots := by
  have : y.said ∈ xs.map Melt.said := by rw [← h]; exact List.mem_map.2 ⟨y, hy, rfl⟩
  obtain ⟨x, hx, e⟩ := List.mem_map.1 this
  exact ⟨x, hx, by have := congrArg (fun t => t.2.1) e; exact this⟩

theorem eqMeltL (w : World) (g1 g2 : Nat) (ys zs xs : List Melt) (h1 : MeltsAt w g1 ys xs) (h2 : MeltsAt w g2 zs xs) (hn : xs.length ≤ 1048576) (hi : ∀ x ∈ xs, x.ingots.length ≤ 1048576) :
    Calls Try.prog 31 #[.slice (some ⟨g1, 0, none⟩) xs.length xs.length, .slice (some ⟨g2, 0, none⟩) xs.length xs.length] w fun e w' => e = .returned (.bool true) ∧ Below w.heap.size w w' := by
  have l1 := said_len h1.2.1
  have l2 := said_len h2.2.1
  have r1 : ∀ y ∈ ys, y.ingots.length ≤ 1048576 := fun y hy => by
    obtain ⟨x, hx, e⟩ := said_mem h1.2.1 hy
    rw [← e]; exact hi x hx
  have r2 : ∀ y ∈ zs, y.ingots.length ≤ 1048576 := fun y hy => by
    obtain ⟨x, hx, e⟩ := said_mem h2.2.1 hy
    rw [← e]; exact hi x hx
  have q1 : Rd w.heap.size w (.slice (some ⟨g1, 0, none⟩) xs.length xs.length) 3 ys.length (ys.flatMap Melt.put) := by
    rw [← l1]; exact h1.1.rd h1.lt (Melt_len ys) (by unfold maxLen; omega) _ (Nat.le_refl _) (by unfold maxLen; omega)
  have q2 : Rd w.heap.size w (.slice (some ⟨g2, 0, none⟩) xs.length xs.length) 3 zs.length (zs.flatMap Melt.put) := by
    rw [← l2]; exact h2.1.rd h2.lt (Melt_len zs) (by unfold maxLen; omega) _ (Nat.le_refl _) (by unfold maxLen; omega)
  exact eqMeltS w _ _ ys zs q1 q2 (by omega) (by rw [h1.2.1, h2.2.1]) (fun y hy => ⟨(h1.2.2 y hy).rd (r1 y hy), r1 y hy⟩) (fun y hy => (h2.2.2 y hy).rd (r2 y hy))
/-- a list of one melt, just laid -/
theorem rdm_one (w : World) (x : Melt) (lo : Option Addr) (lc : Nat) (h : Rd w.heap.size w (.slice lo x.ingots.length lc) 1 x.ingots.length (x.ingots.flatMap putStr)) :
    RdM (w.alloc (.cells #[.string x.id, .slice lo x.ingots.length lc, .int .i64 x.mass] 63)).heap.size (w.alloc (.cells #[.string x.id, .slice lo x.ingots.length lc, .int .i64 x.mass] 63)) (.slice (some ⟨w.heap.size, 0, none⟩) 1 1) [x] := by
  have O := Own.new w 63 [.string x.id, .slice lo x.ingots.length lc, .int .i64 x.mass]
  refine ⟨_, _, rfl, Nat.le_refl _, by unfold maxLen; omega, fun _ => ⟨w.heap.size, 0, rfl, O.lt, fun k hk => ?_⟩⟩
  obtain rfl : k = 0 := by simpa using hk
  exact ⟨_, O.cell 0, O.cell 1, O.cell 2, h.up ((Below.refl _ _).alloc (Nat.le_refl _) _)⟩
end Go.Proofs.Ytnbodmbagendnaa
namespace Go.Proofs.Ytnbodmbagendnaa
open Go.ChangeShapes Go.WideShapes Go.ChangeAt Go.RowKit Go.Deep Go.Joins
set_option linter.unusedVariables false
set_option maxRecDepth 100000
set_option linter.unusedSimpArgs false
/-- the comparisons fall: less, then not less -/
def Falls (c : Nat → Int) (n : Nat) : Prop := ∀ a b, a ≤ b → b < n → c b < 0 → c a < 0
/-- what is known of the part that is left -/
def Part (c : Nat → Int) (n a b : Nat) : Prop := Falls c n → (∀ k, k < a → c k < 0) ∧ (∀ k, b ≤ k → k < n → 0 ≤ c k)
/-- what is found: all before it are less, all from it on are not -/
def Found (c : Nat → Int) (n i : Nat) : Prop := i ≤ n ∧ Part c n i i
theorem part_start (c : Nat → Int) (n : Nat) : Part c n 0 n := fun _ => ⟨fun k h => by omega, fun k h1 h2 => by omega⟩
theorem part_up {c : Nat → Int} {n a b m : Nat} (h : Part c n a b) (hm : m < n) (hc : c m < 0) : Part c n (m + 1) b := fun hf => ⟨fun k hk => hf k m (by omega) hm hc, (h hf).2⟩
theorem part_down {c : Nat → Int} {n a b m : Nat} (h : Part c n a b) (hc : 0 ≤ c m) : Part c n a m := fun hf => ⟨(h hf).1, fun k h1 h2 => by
  rcases Int.lt_or_le (c k) 0 with h3 | h3
  · have := hf m k h1 h2 h3; omega
  · exact h3⟩
theorem part_end {c : Nat → Int} {n a : Nat} (h : Part c n a a) (ha : a ≤ n) : Found c n a := ⟨ha, h⟩
end Go.Proofs.Ytnbodmbagendnaa
namespace Go.Proofs.Ytnbodmbagendnaa
open Go.ChangeShapes Go.WideShapes Go.ChangeAt Go.RowKit Go.Deep Go.Joins
set_option linter.unusedVariables false
set_option maxRecDepth 100000
set_option linter.unusedSimpArgs false
theorem impl_meltAt1 (x : Melt) (lo : Option Addr) (lc : Nat) (a : ByteArray) (w : World) : Calls Try.prog 124 #[.agg #[.string x.id, .slice lo x.ingots.length lc, .int .i64 x.mass], .string a] w fun e w' => e = .returned (.int .i64 (cmpS x.id a)) ∧ Below w.heap.size w w' := by
  go_enter Try.func124, Try.ntmps124
  go_wp2_with (first | (go_at_call 125; refine (cmp_Compare_str _ _ _).mono ?_; rintro e w' ⟨rfl, rfl⟩))
  go_ret
  exact ⟨rfl, by (repeat' (first | (with_reducible exact Below.refl _ _) | (with_reducible assumption) | (with_reducible refine below_dn ?_ _) | (with_reducible refine Below.drew ?_) | (with_reducible refine Below.alloc ?_ ?_ _) | (with_reducible refine Below.setCell ?_ ?_ _) | go_size))⟩

def cmpMelt (xs : List Melt) (t : ByteArray) (k : Nat) : Int := (xs[k]?).elim 1 fun x => cmpS x.id t
theorem cmpMelt_at {xs : List Melt} {t : ByteArray} {k : Nat} (h : k < xs.length) : cmpMelt xs t k = (fun x : Melt => cmpS x.id t) xs[k] := by
  unfold cmpMelt
  rw [List.getElem?_eq_getElem h]
  rfl

set_option maxHeartbeats 2000000 in
theorem BinarySearch_Melt (w : World) (v : Value) (xs : List Melt) (t : ByteArray) (h : RdM w.heap.size w v xs) (hn : xs.length ≤ 1048576) :
    Calls Try.prog 123 #[v, .string t, .func (.func 124) #[] #[]] w fun e w' => (∃ i : Nat, e = .returned (.tuple #[.int .i64 i, .bool (decide (i < xs.length) && decide (cmpMelt xs t i = 0))]) ∧ Found (cmpMelt xs t) xs.length i) ∧ Below w.heap.size w w' := by
  obtain ⟨ao, cap, rfl, hcap, hmax, hsome⟩ := h
  go_enter Try.func123, Try.ntmps123
  go_wp2
  go_loopw [9, 10] (fun i j wr => ∃ (a b : Nat), a ≤ b ∧ b ≤ xs.length ∧ i = .int .i64 a ∧ j = .int .i64 b ∧ Part (cmpMelt xs t) xs.length a b ∧ Below w.heap.size w wr) (fun i j _ => (intOf j).toNat - (intOf i).toNat)
  case atStart => exact ⟨0, xs.length, Nat.zero_le _, Nat.le_refl _, rfl, rfl, part_start _ _, Below.refl _ _⟩
  case round =>
    obtain ⟨a, b, hab, hbn, rfl, rfl, hpart, hb⟩ := hrel
    have HP := Lib.hid hpart; clear hpart
    by_cases hlt : a < b
    · obtain ⟨b0, off, rfl, hbB, hc⟩ := hsome (by omega)
      obtain ⟨m, hm, ham, hmb⟩ : ∃ m : Nat, ((a : Int) + (b : Int)) / 2 = ((m : Nat) : Int) ∧ a ≤ m ∧ m < b := ⟨(a + b) / 2, by omega, by omega, by omega⟩
      have hml : m < xs.length := by omega
      obtain ⟨l, p0, p1, p2, hr⟩ := hc m hml
      obtain ⟨lo, lc, rfl⟩ := hr.form
      have c0 := (hb.cell (p := ⟨b0, off + m * 3, none⟩) hbB).trans p0
      have c1 := (hb.cell (p := ⟨b0, off + m * 3 + 1, none⟩) hbB).trans p1
      have c2 := (hb.cell (p := ⟨b0, off + m * 3 + 2, none⟩) hbB).trans p2
      clear p0 p1 p2 hr
      have HC := Lib.hid (cmpMelt_at (t := t) hml)
      have HB := Lib.hid hb
      have hws := hb.size
      have hbr : b0 < wr.heap.size := Nat.lt_of_lt_of_le hbB hws
      clear hc hsome hb
      by_cases hneg : cmpMelt xs t m < 0
      · have HN := Lib.hid hneg
        rw [HC.out] at hneg
        go_wp2_with fail
        go_at_call 124
        refine (impl_meltAt1 xs[m] _ _ t _).mono ?_; rintro e1 w1 ⟨rfl, b1⟩
        have HB1 := Lib.hid (HB.out.trans (b1.mono HB.out.size)); clear b1 HB
        go_wp2_with fail
        go_roundw
        case rel => exact ⟨m + 1, b, by omega, by omega, by go_num, rfl, part_up HP.out hml HN.out, HB1.out⟩
        case measure => simp [intOf]; omega
      · have HN := Lib.hid hneg
        rw [HC.out] at hneg
        go_wp2_with fail
        go_at_call 124
        refine (impl_meltAt1 xs[m] _ _ t _).mono ?_; rintro e1 w1 ⟨rfl, b1⟩
        have HB1 := Lib.hid (HB.out.trans (b1.mono HB.out.size)); clear b1 HB
        go_wp2_with fail
        go_roundw
        case rel => exact ⟨a, m, by omega, by omega, rfl, by go_num, part_down HP.out (by have := HN.out; omega), HB1.out⟩
        case measure => simp [intOf]; omega
    · obtain rfl : a = b := by omega
      by_cases hml : a < xs.length
      · obtain ⟨b0, off, rfl, hbB, hc⟩ := hsome (by omega)
        obtain ⟨l, p0, p1, p2, hr⟩ := hc a hml
        obtain ⟨lo, lc, rfl⟩ := hr.form
        have c0 := (hb.cell (p := ⟨b0, off + a * 3, none⟩) hbB).trans p0
        have c1 := (hb.cell (p := ⟨b0, off + a * 3 + 1, none⟩) hbB).trans p1
        have c2 := (hb.cell (p := ⟨b0, off + a * 3 + 2, none⟩) hbB).trans p2
        clear p0 p1 p2 hr
        have HC := Lib.hid (cmpMelt_at (t := t) hml)
        have HB := Lib.hid hb
        have hws := hb.size
        have hbr : b0 < wr.heap.size := Nat.lt_of_lt_of_le hbB hws
        clear hc hsome hb
        by_cases hz : cmpMelt xs t a = 0
        · have E : Hid ((decide (a < xs.length) && decide (cmpMelt xs t a = 0)) = true) := (by simp [hml, hz] : (decide (a < xs.length) && decide (cmpMelt xs t a = 0)) = true)
          rw [HC.out] at hz
          have hz2 := (beq_iff_eq (α := Int)).2 hz
          have HZ := Lib.hid hz; clear hz
          simp only at hz2
          go_wp2_with fail
          go_at_call 124
          refine (impl_meltAt1 xs[a] _ _ t _).mono ?_; rintro e1 w1 ⟨rfl, b1⟩
          have HB1 := Lib.hid (HB.out.trans (b1.mono HB.out.size)); clear b1 HB
          go_wp2_with fail
          go_ret2
          exact ⟨⟨a, by rw [E.out]; rfl, part_end HP.out hbn⟩, HB1.out⟩
        · have E : Hid ((decide (a < xs.length) && decide (cmpMelt xs t a = 0)) = false) := (by simp [hz] : (decide (a < xs.length) && decide (cmpMelt xs t a = 0)) = false)
          rw [HC.out] at hz
          have hz2 := (beq_eq_false_iff_ne (α := Int)).2 hz
          have HZ := Lib.hid hz; clear hz
          simp only at hz2
          go_wp2_with fail
          go_at_call 124
          refine (impl_meltAt1 xs[a] _ _ t _).mono ?_; rintro e1 w1 ⟨rfl, b1⟩
          have HB1 := Lib.hid (HB.out.trans (b1.mono HB.out.size)); clear b1 HB
          go_wp2_with fail
          go_ret2
          exact ⟨⟨a, by rw [E.out]; rfl, part_end HP.out hbn⟩, HB1.out⟩
      · have E : Hid ((decide (a < xs.length) && decide (cmpMelt xs t a = 0)) = false) := (by simp [hml] : (decide (a < xs.length) && decide (cmpMelt xs t a = 0)) = false)
        have HB := Lib.hid hb; clear hb
        go_wp2_with fail
        go_ret2
        exact ⟨⟨a, by rw [E.out]; rfl, part_end HP.out hbn⟩, HB.out⟩
end Go.Proofs.Ytnbodmbagendnaa
namespace Go.Proofs.Ytnbodmbagendnaa
open Go.ChangeShapes Go.WideShapes Go.ChangeAt Go.RowKit Go.Deep Go.Joins
set_option linter.unusedVariables false
set_option maxRecDepth 100000
set_option linter.unusedSimpArgs false
theorem impl_isPart (n : Int) (w : World) : Calls Try.prog 157 #[.int .i64 n] w fun e w' => e = .returned (.bool (inB n 0 1000000)) ∧ w = w' := by
  go_enter Try.func157, Try.ntmps157
  go_wp2_with (go_at_call 56; refine (within _ _ _ _).mono ?_; rintro e w' ⟨rfl, rfl⟩)
  go_ret
  exact ⟨rfl, rfl⟩
theorem impl_isPart_is {b : Bool} (n : Int) (w : World) (h : inB n 0 1000000 = b) : Calls Try.prog 157 #[.int .i64 n] w fun e w' => e = .returned (.bool b) ∧ w = w' := by
  rw [← h]; exact impl_isPart n w
end Go.Proofs.Ytnbodmbagendnaa
namespace Go.Proofs.Ytnbodmbagendnaa
open Go.ChangeShapes Go.WideShapes Go.ChangeAt Go.RowKit Go.Deep Go.Joins
set_option linter.unusedVariables false
set_option maxRecDepth 100000
set_option linter.unusedSimpArgs false
def alloyB (x : Alloy) : Bool := inB x.copper 0 1000000 && (inB x.tin 0 1000000 && (inB x.other 0 1000000 && decide (x.copper + x.tin + x.other = 1000000)))

theorem spec_l13Alloy (x : Alloy) (a : Nat) (w : World) (h0 : w.cell? ⟨a, 0, none⟩ = some (.int .i64 x.copper)) (h1 : w.cell? ⟨a, 1, none⟩ = some (.int .i64 x.tin)) (h2 : w.cell? ⟨a, 2, none⟩ = some (.int .i64 x.other)) :
    Calls Try.prog 100 #[.pointer (some ⟨a, 0, none⟩)] w fun e w' => e = .returned (.bool (alloyB x)) ∧ Drew w w' := by
  unfold alloyB
  cases hA : inB x.copper 0 1000000
  · go_enter Try.func100, Try.ntmps100
    go_wp2_with fail
    go_quiet ((go_at_call 119; exact quietE (l00In_is _ _ _ _ (by assumption))))
    go_wp2_with fail
    go_ret
    exact ⟨rfl, _, rfl⟩
  · cases hB : inB x.tin 0 1000000
    · go_enter Try.func100, Try.ntmps100
      go_wp2_with fail
      go_quiet ((go_at_call 119; exact quietE (l00In_is _ _ _ _ (by assumption))))
      go_wp2_with fail
      go_ret
      exact ⟨rfl, _, rfl⟩
    · cases hC : inB x.other 0 1000000
      · go_enter Try.func100, Try.ntmps100
        go_wp2_with fail
        go_quiet ((go_at_call 119; exact quietE (l00In_is _ _ _ _ (by assumption))))
        go_wp2_with fail
        go_ret
        exact ⟨rfl, _, rfl⟩
      · have a1 := inB_true hA
        have a2 := inB_true hB
        have a3 := inB_true hC
        go_enter Try.func100, Try.ntmps100
        go_wp2_with fail
        go_quiet ((go_at_call 119; exact quietE (l00In_is _ _ _ _ (by assumption))))
        go_wp2_with fail
        go_ret
        exact ⟨by simp [Bool.beq_eq_decide_eq]; try rfl, _, rfl⟩

theorem spec_ValidAlloy (x : Alloy) (w : World) :
    Calls Try.prog 44 #[.agg #[.int .i64 x.copper, .int .i64 x.tin, .int .i64 x.other]] w fun e w' => e = .returned (.bool (alloyB x)) ∧ Below w.heap.size w w' := by
  go_enter Try.func44, Try.ntmps44
  go_wp2_with (go_at_call 100; go_call (spec_l13Alloy x) as e w' ⟨rfl, n, rfl⟩)
  go_ret
  exact ⟨rfl, by (repeat' (first | (with_reducible exact Below.refl _ _) | (with_reducible assumption) | (with_reducible refine below_dn ?_ _) | (with_reducible refine Below.drew ?_) | (with_reducible refine Below.alloc ?_ ?_ _) | (with_reducible refine Below.setCell ?_ ?_ _) | go_size))⟩
theorem toAlloy (x : Alloy) (w : World) :
    Calls Try.prog 122 #[.agg #[.int .i64 x.copper, .int .i64 x.tin, .int .i64 x.other]] w fun e w' => e = .returned (.agg #[.int .i64 x.copper, .int .i64 x.tin, .int .i64 x.other]) ∧ Below w.heap.size w w' := by
  go_enter Try.func122, Try.ntmps122
  go_wp2
  go_returns
  refine ⟨rfl, ?_⟩
  go_grown
theorem impl_ValidAlloy (x : Alloy) (w : World) :
    Calls Try.prog 151 #[.agg #[.int .i64 x.copper, .int .i64 x.tin, .int .i64 x.other]] w fun e w' => e = .returned (.bool (alloyB x)) ∧ Below w.heap.size w w' := by
  unfold alloyB
  go_enter Try.func151, Try.ntmps151
  cases hA : inB x.copper 0 1000000
  · go_wp2_with (go_at_call 157; refine (impl_isPart_is _ _ (by assumption)).mono ?_; rintro e w' ⟨rfl, rfl⟩)
    go_ret
    exact ⟨rfl, by (repeat' (first | (with_reducible exact Below.refl _ _) | (with_reducible assumption) | (with_reducible refine below_dn ?_ _) | (with_reducible refine Below.drew ?_) | (with_reducible refine Below.alloc ?_ ?_ _) | (with_reducible refine Below.setCell ?_ ?_ _) | go_size))⟩
  · cases hB : inB x.tin 0 1000000
    · go_wp2_with (go_at_call 157; refine (impl_isPart_is _ _ (by assumption)).mono ?_; rintro e w' ⟨rfl, rfl⟩)
      go_ret
      exact ⟨rfl, by (repeat' (first | (with_reducible exact Below.refl _ _) | (with_reducible assumption) | (with_reducible refine below_dn ?_ _) | (with_reducible refine Below.drew ?_) | (with_reducible refine Below.alloc ?_ ?_ _) | (with_reducible refine Below.setCell ?_ ?_ _) | go_size))⟩
    · cases hC : inB x.other 0 1000000
      · go_wp2_with (go_at_call 157; refine (impl_isPart_is _ _ (by assumption)).mono ?_; rintro e w' ⟨rfl, rfl⟩)
        go_ret
        exact ⟨rfl, by (repeat' (first | (with_reducible exact Below.refl _ _) | (with_reducible assumption) | (with_reducible refine below_dn ?_ _) | (with_reducible refine Below.drew ?_) | (with_reducible refine Below.alloc ?_ ?_ _) | (with_reducible refine Below.setCell ?_ ?_ _) | go_size))⟩
      · have a1 := inB_true hA
        have a2 := inB_true hB
        have a3 := inB_true hC
        go_wp2_with (go_at_call 157; refine (impl_isPart_is _ _ (by assumption)).mono ?_; rintro e w' ⟨rfl, rfl⟩)
        go_ret
        exact ⟨by simp [Bool.beq_eq_decide_eq]; try rfl, by (repeat' (first | (with_reducible exact Below.refl _ _) | (with_reducible assumption) | (with_reducible refine below_dn ?_ _) | (with_reducible refine Below.drew ?_) | (with_reducible refine Below.alloc ?_ ?_ _) | (with_reducible refine Below.setCell ?_ ?_ _) | go_size))⟩
end Go.Proofs.Ytnbodmbagendnaa
namespace Go.Proofs.Ytnbodmbagendnaa
open Go.ChangeShapes Go.WideShapes Go.ChangeAt Go.RowKit Go.Deep Go.Joins
set_option linter.unusedVariables false
set_option maxRecDepth 100000
set_option linter.unusedSimpArgs false
theorem eqAlloy (x : Alloy) (w : World) : Calls Try.prog 137 #[.agg #[.int .i64 x.copper, .int .i64 x.tin, .int .i64 x.other], .agg #[.int .i64 x.copper, .int .i64 x.tin, .int .i64 x.other]] w fun e w' => e = .returned (.bool true) ∧ Below w.heap.size w w' := by
  go_enter Try.func137, Try.ntmps137
  repeat (go_wp2_with fail; go_quiet (fail))
  go_wp2_with fail
  go_ret
  exact ⟨rfl, by (repeat' (first | (with_reducible exact Below.refl _ _) | (with_reducible assumption) | (with_reducible refine below_dn ?_ _) | (with_reducible refine Below.drew ?_) | (with_reducible refine Below.alloc ?_ ?_ _) | (with_reducible refine Below.setCell ?_ ?_ _) | go_size))⟩
end Go.Proofs.Ytnbodmbagendnaa
