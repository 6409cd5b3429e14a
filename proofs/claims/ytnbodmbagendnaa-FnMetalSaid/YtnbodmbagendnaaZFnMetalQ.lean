/- Contracts and plain facts, joined: HMelts. -/
import Derived.Test.YtnbodmbagendnaaRows
import Derived.Test.YtnbodmbagendnaaZFnMetalN
namespace Go.Proofs.Ytnbodmbagendnaa
open Go.ChangeShapes Go.WideShapes Go.ChangeAt Go.RowKit Go.Deep Go.Joins
set_option linter.unusedVariables false
set_option maxRecDepth 100000
set_option linter.unusedSimpArgs false
theorem Melt_len (xs : List Melt) : (xs.flatMap Melt.put).length = xs.length * 3 := flat_len xs (fun _ _ => rfl)
theorem Melt_get0 (xs : List Melt) (k : Nat) (h : k < xs.length) : (xs.flatMap Melt.put)[k * 3 + 0]? = some (.string xs[k].id) := by
  rw [flat_get (f := Melt.put) (s := 3) xs (fun _ _ => rfl) (j := 0) (by omega) k, List.getElem?_eq_getElem h]
  rfl
theorem Melt_get1 (xs : List Melt) (k : Nat) (h : k < xs.length) : (xs.flatMap Melt.put)[k * 3 + 1]? = some xs[k].list := by
  rw [flat_get (f := Melt.put) (s := 3) xs (fun _ _ => rfl) (j := 1) (by omega) k, List.getElem?_eq_getElem h]
  rfl
theorem Melt_get2 (xs : List Melt) (k : Nat) (h : k < xs.length) : (xs.flatMap Melt.put)[k * 3 + 2]? = some (.int .i64 xs[k].mass) := by
  rw [flat_get (f := Melt.put) (s := 3) xs (fun _ _ => rfl) (j := 2) (by omega) k, List.getElem?_eq_getElem h]
  rfl
theorem Melt_info : (Try.prog.info? 63).map (fun i => (i.zero, i.size, i.bytes)) = some (some (.agg #[.string ByteArray.empty, .slice none 0 0, .int .i64 0]), 3, 48) := by kernel_rfl

/-- what a melt says, wherever its list lies -/
def Melt.said (x : Melt) : ByteArray × List ByteArray × Int := (x.id, x.ingots, x.mass)

theorem Melt.ok.up {w w' : World} {x : Melt} (h : x.ok w) (hb : Below w.heap.size w w') : x.ok w' := ⟨h.1, ⟨h.2.1.1.up hb, h.2.1.2⟩, h.2.2⟩

/-- a melt whose list is a block of its own above block B -/
def Melt.mine (B : Nat) (w : World) (x : Melt) : Prop := ∃ g, x.list = .slice (some ⟨g, 0, none⟩) x.ingots.length x.ingots.length ∧ B < g ∧ Own w g 9 (x.ingots.flatMap putStr)
theorem Melt.mine.below {B C : Nat} {w w' : World} {x : Melt} (h : x.mine B w) (hC : w.heap.size ≤ C) (hb : Below C w w') : x.mine B w' := by
  obtain ⟨g, h1, h2, h3⟩ := h
  exact ⟨g, h1, h2, h3.below hb (Nat.lt_of_lt_of_le h3.lt hC)⟩
theorem Melt.mine.set {B i : Nat} {w : World} {x : Melt} (h : x.mine B w) (v : Value) : x.mine B (w.setCell ⟨B, i, none⟩ v) := by
  obtain ⟨g, h1, h2, h3⟩ := h
  exact ⟨g, h1, h2, h3.other (by simp; omega) v⟩
theorem Melt.mine.rd {B : Nat} {w : World} {x : Melt} (h : x.mine B w) (hn : x.ingots.length ≤ 1048576) : Rd w.heap.size w x.list 1 x.ingots.length (x.ingots.flatMap putStr) := by
  obtain ⟨g, h1, h2, h3⟩ := h
  rw [h1]
  exact h3.rd h3.lt (putStr_len _) (by unfold maxLen; omega) _ (Nat.le_refl _) (by unfold maxLen; omega)

set_option maxHeartbeats 1000000 in
theorem toMeltS (w : World) (v : Value) (xs : List Melt) (h : Rd w.heap.size w v 3 xs.length (xs.flatMap Melt.put)) (hn : xs.length ≤ 1048576) (hx : ∀ x ∈ xs, x.ok w ∧ x.ingots.length ≤ 1048576) :
    Calls Try.prog 28 #[v] w fun e w' => ∃ (g : Nat) (ys : List Melt), e = .returned (.slice (some ⟨g, 0, none⟩) xs.length xs.length) ∧ w.heap.size ≤ g ∧ Own w' g 63 (ys.flatMap Melt.put) ∧ ys.map Melt.said = xs.map Melt.said ∧ (∀ y ∈ ys, y.mine g w') ∧ Below w.heap.size w w' := by
  obtain ⟨hL, ao, cap, rfl, hcap, hmax, hnil, hsome⟩ := h
  obtain ⟨i0, hi, hz0, hz1, hz2⟩ := info_parts Melt_info
  have HX := Lib.hid hx
  clear hx
  go_enter Try.func28, Try.ntmps28
  go_wp2_with (at_make; refine wpList_make_blk _ rfl _ _ 57 rfl 63 i0 (.agg #[.string ByteArray.empty, .slice none 0 0, .int .i64 0]) 3 48 Try.underlying57 hi hz0 hz1 hz2 _ _ _ _ xs.length rfl rfl rfl rfl (by omega) (by unfold maxLen; omega) ?_; intro w1 ho hb hs)
  have hml := made_len (Value.agg #[.string ByteArray.empty, .slice none 0 0, .int .i64 0]).cells (xs.length * 3)
  go_loopw [4] (fun i wr => ∃ (k : Nat) (ys : List Melt) (U : List Value), k ≤ xs.length ∧ i = .int .i64 k ∧ U.length = (xs.length - k) * 3 ∧ ys.length = k ∧ ys.map Melt.said = (xs.take k).map Melt.said ∧ (∀ y ∈ ys, y.mine w.heap.size wr) ∧ Own wr w.heap.size 63 (ys.flatMap Melt.put ++ U) ∧ Below w.heap.size w wr) (fun i _ => xs.length - (intOf i).toNat)
  case atStart => exact ⟨0, [], _, Nat.zero_le _, rfl, by rw [Nat.sub_zero]; exact hml, rfl, rfl, by simp, by simpa using ho, hb⟩
  case round =>
    clear ho hb hs hml hi hz0 hz1 hz2
    obtain ⟨k, ys, U, hk, rfl, hU, hyl, hsaid, hmine, ho, hb⟩ := hrel
    by_cases hlt : k < xs.length
    · obtain ⟨b, off, rfl, hbB, hc⟩ := hsome (by omega)
      obtain ⟨t0, t1, t2, U, rfl, hU2⟩ := cons3 hU (by omega)
      have hA : (ys.flatMap Melt.put).length = k * 3 := by rw [Melt_len, hyl]
      have c0 : wr.cell? ⟨b, off + k * 3, none⟩ = some (.string xs[k].id) := by
        rw [show off + k * 3 = off + (k * 3 + 0) from by omega, hb.cell (p := ⟨b, off + (k * 3 + 0), none⟩) hbB, hc (k * 3 + 0) (by omega), Melt_get0 xs k hlt]
      have c1 : wr.cell? ⟨b, off + k * 3 + 1, none⟩ = some xs[k].list := by
        rw [show off + k * 3 + 1 = off + (k * 3 + 1) from by omega, hb.cell (p := ⟨b, off + (k * 3 + 1), none⟩) hbB, hc (k * 3 + 1) (by omega), Melt_get1 xs k hlt]
      have c2 : wr.cell? ⟨b, off + k * 3 + 2, none⟩ = some (.int .i64 xs[k].mass) := by
        rw [show off + k * 3 + 2 = off + (k * 3 + 2) from by omega, hb.cell (p := ⟨b, off + (k * 3 + 2), none⟩) hbB, hc (k * 3 + 2) (by omega), Melt_get2 xs k hlt]
      have hxk := HX.out xs[k] (List.getElem_mem hlt)
      have hrd := Lib.hid ((hxk.1.up hb).2.1.1)
      have hnk := hxk.2
      clear hxk
      have HB := Lib.hid hb
      have HO := Lib.hid ho
      have HA := Lib.hid hA
      have HU := Lib.hid hU2
      have HM := Lib.hid hmine
      have HS := Lib.hid hsaid
      have HYL := Lib.hid hyl
      clear hc ho hb hA hsome hnil hU hU2 hmine hsaid hyl
      go_wp2_with fail
      refine (toMelt xs[k] _ hrd.out hnk).mono ?_; rintro e w1 ⟨g, rfl, hg, og, b1⟩
      have ho1 := HO.out.below b1 HO.out.lt
      have hgl := HO.out.lt
      have hA := HA.out
      have d0 : w1.cell? ⟨w.heap.size, k * 3, none⟩ = some t0 := by
        rw [ho1.cell, List.getElem?_append_right (by omega), hA]
        simp
      have d1 : w1.cell? ⟨w.heap.size, k * 3 + 1, none⟩ = some t1 := by
        rw [ho1.cell, List.getElem?_append_right (by omega), hA]
        simp
      have d2 : w1.cell? ⟨w.heap.size, k * 3 + 2, none⟩ = some t2 := by
        rw [ho1.cell, List.getElem?_append_right (by omega), hA]
        simp
      have f0 := ho1.free (k * 3)
      have f1 := ho1.free (k * 3 + 1)
      have f2 := ho1.free (k * 3 + 2)
      have o1 := (((ho1.set (k * 3) (.string xs[k].id)).set (k * 3 + 1) (.slice (some ⟨g, 0, none⟩) xs[k].ingots.length xs[k].ingots.length)).set (k * 3 + 2) (.int .i64 xs[k].mass))
      rw [set3 _ _ _ _ _ _ _ _ _ hA] at o1
      have hb := HB.out
      have O1 := Lib.hid o1
      have NEW : Melt.mine w.heap.size w1 ⟨xs[k].id, .slice (some ⟨g, 0, none⟩) xs[k].ingots.length xs[k].ingots.length, xs[k].ingots, xs[k].mass⟩ := ⟨g, rfl, by omega, og⟩
      have ALL := Lib.hid (fun y hy => ((((HM.out y hy).below (Nat.le_refl _) b1).set (i := k * 3) (.string xs[k].id)).set (i := k * 3 + 1) (.slice (some ⟨g, 0, none⟩) xs[k].ingots.length xs[k].ingots.length)).set (i := k * 3 + 2) (.int .i64 xs[k].mass))
      have NEW2 := Lib.hid (((NEW.set (i := k * 3) (.string xs[k].id)).set (i := k * 3 + 1) (.slice (some ⟨g, 0, none⟩) xs[k].ingots.length xs[k].ingots.length)).set (i := k * 3 + 2) (.int .i64 xs[k].mass))
      have HB1 := Lib.hid (Below.setCell (Below.setCell (Below.setCell (hb.trans (b1.mono hb.size)) (p := ⟨w.heap.size, k * 3, none⟩) (Nat.le_refl _) (.string xs[k].id)) (p := ⟨w.heap.size, k * 3 + 1, none⟩) (Nat.le_refl _) (.slice (some ⟨g, 0, none⟩) xs[k].ingots.length xs[k].ingots.length)) (p := ⟨w.heap.size, k * 3 + 2, none⟩) (Nat.le_refl _) (.int .i64 xs[k].mass))
      clear ho1 o1 hA hb b1 HO HB c0 c1 c2 NEW HM og hg
      go_wp2_with fail
      go_roundw
      case rel =>
        refine ⟨k + 1, ys ++ [⟨xs[k].id, .slice (some ⟨g, 0, none⟩) xs[k].ingots.length xs[k].ingots.length, xs[k].ingots, xs[k].mass⟩], U, by omega, by go_num, by have := HU.out; omega, by simp [HYL.out], ?_, ?_, ?_, HB1.out⟩
        · rw [List.map_append, HS.out, List.take_succ_eq_append_getElem hlt, List.map_append]; rfl
        · intro y hy
          rcases List.mem_append.1 hy with hy | hy
          · exact ALL.out y hy
          · obtain rfl := List.mem_singleton.1 hy
            exact NEW2.out
        · rw [List.flatMap_append]; simpa [Melt.put] using O1.out
      case measure => simp [intOf]; omega
    · have e : Hid (k = xs.length) := (by omega : k = xs.length)
      have HO := Lib.hid ho
      have HM := Lib.hid hmine
      have HS := Lib.hid hsaid
      clear ho hmine hsaid
      go_wp2
      go_ret
      have ho := HO.out
      have hs := HS.out
      obtain rfl := e.out
      have : U = [] := List.eq_nil_of_length_eq_zero (by rw [hU]; omega)
      subst this
      refine ⟨w.heap.size, ys, rfl, Nat.le_refl _, by simpa using ho, ?_, HM.out, hb⟩
      rwa [List.take_of_length_le (Nat.le_refl _)] at hs

theorem said_at {ys zs : List Melt} (h : ys.map Melt.said = zs.map Melt.said) (k : Nat) (hy : k < ys.length) (hz : k < zs.length) : zs[k].id = ys[k].id ∧ zs[k].ingots = ys[k].ingots ∧ zs[k].mass = ys[k].mass := by
  have h2 : (ys.map Melt.said)[k]? = (zs.map Melt.said)[k]? := by rw [h]
  simp only [List.getElem?_map, List.getElem?_eq_getElem hy, List.getElem?_eq_getElem hz, Option.map_some, Option.some.injEq, Melt.said, Prod.mk.injEq] at h2
  exact ⟨h2.1.symm, h2.2.1.symm, h2.2.2.symm⟩

theorem said_len {ys zs : List Melt} (h : ys.map Melt.said = zs.map Melt.said) : ys.length = zs.length := by
  have := congrArg List.length h
  simpa using this

set_option maxHeartbeats 1000000 in
theorem eqMeltS (w : World) (v1 v2 : Value) (xs ys : List Melt) (h1 : Rd w.heap.size w v1 3 xs.length (xs.flatMap Melt.put)) (h2 : Rd w.heap.size w v2 3 ys.length (ys.flatMap Melt.put)) (hn : xs.length ≤ 1048576) (hs : xs.map Melt.said = ys.map Melt.said)
    (r1 : ∀ x ∈ xs, Rd w.heap.size w x.list 1 x.ingots.length (x.ingots.flatMap putStr) ∧ x.ingots.length ≤ 1048576) (r2 : ∀ x ∈ ys, Rd w.heap.size w x.list 1 x.ingots.length (x.ingots.flatMap putStr)) :
    Calls Try.prog 31 #[v1, v2] w fun e w' => e = .returned (.bool true) ∧ Below w.heap.size w w' := by
  obtain ⟨hL, ao, cap, rfl, hcap, hmax, hnil, hsome⟩ := h1
  obtain ⟨hL2, ao2, cap2, rfl, hcap2, hmax2, hnil2, hsome2⟩ := h2
  have hl := said_len hs
  have HSD := Lib.hid hs; clear hs
  have R1 := Lib.hid r1; clear r1
  have R2 := Lib.hid r2; clear r2
  have hz0 : ((xs.length : Int) != (ys.length : Int)) = false := by simp [hl]
  have Hl := Lib.hid hl
  have hle : xs.length ≤ ys.length := by omega
  have hge : ys.length ≤ xs.length := by omega
  clear hl
  go_enter Try.func31, Try.ntmps31
  go_wp2
  go_loopw [5] (fun i wr => ∃ (k : Nat), k ≤ xs.length ∧ i = .int .i64 k ∧ Below w.heap.size w wr) (fun i _ => xs.length - (intOf i).toNat)
  case atStart => exact ⟨0, Nat.zero_le _, rfl, Below.refl _ _⟩
  case round =>
    obtain ⟨k, hk, rfl, hb⟩ := hrel
    by_cases hlt : k < xs.length
    · have hlt2 : k < ys.length := by omega
      obtain ⟨b, off, rfl, hbB, hc⟩ := hsome (by omega)
      obtain ⟨b2, off2, rfl, hbB2, hc2⟩ := hsome2 (by omega)
      obtain ⟨s0, s1, s2⟩ := said_at HSD.out k hlt hlt2
      have ra := Lib.hid (((R1.out xs[k] (List.getElem_mem hlt)).1).up hb)
      have hnk := (R1.out xs[k] (List.getElem_mem hlt)).2
      have rb := Lib.hid (show Rd wr.heap.size wr ys[k].list 1 xs[k].ingots.length (xs[k].ingots.flatMap putStr) by rw [← s1]; exact (R2.out ys[k] (List.getElem_mem hlt2)).up hb)
      have c0 : wr.cell? ⟨b, off + k * 3, none⟩ = some (.string xs[k].id) := by
        rw [show off + k * 3 = off + (k * 3 + 0) from by omega, hb.cell (p := ⟨b, off + (k * 3 + 0), none⟩) hbB, hc (k * 3 + 0) (by omega), Melt_get0 xs k hlt]
      have c1 : wr.cell? ⟨b, off + k * 3 + 1, none⟩ = some xs[k].list := by
        rw [show off + k * 3 + 1 = off + (k * 3 + 1) from by omega, hb.cell (p := ⟨b, off + (k * 3 + 1), none⟩) hbB, hc (k * 3 + 1) (by omega), Melt_get1 xs k hlt]
      have c2 : wr.cell? ⟨b, off + k * 3 + 2, none⟩ = some (.int .i64 xs[k].mass) := by
        rw [show off + k * 3 + 2 = off + (k * 3 + 2) from by omega, hb.cell (p := ⟨b, off + (k * 3 + 2), none⟩) hbB, hc (k * 3 + 2) (by omega), Melt_get2 xs k hlt]
      have d0 : wr.cell? ⟨b2, off2 + k * 3, none⟩ = some (.string xs[k].id) := by
        rw [show off2 + k * 3 = off2 + (k * 3 + 0) from by omega, hb.cell (p := ⟨b2, off2 + (k * 3 + 0), none⟩) hbB2, hc2 (k * 3 + 0) (by omega), Melt_get0 ys k hlt2, s0]
      have d1 : wr.cell? ⟨b2, off2 + k * 3 + 1, none⟩ = some ys[k].list := by
        rw [show off2 + k * 3 + 1 = off2 + (k * 3 + 1) from by omega, hb.cell (p := ⟨b2, off2 + (k * 3 + 1), none⟩) hbB2, hc2 (k * 3 + 1) (by omega), Melt_get1 ys k hlt2]
      have d2 : wr.cell? ⟨b2, off2 + k * 3 + 2, none⟩ = some (.int .i64 xs[k].mass) := by
        rw [show off2 + k * 3 + 2 = off2 + (k * 3 + 2) from by omega, hb.cell (p := ⟨b2, off2 + (k * 3 + 2), none⟩) hbB2, hc2 (k * 3 + 2) (by omega), Melt_get2 ys k hlt2, s2]
      have HB := Lib.hid hb
      clear hc hc2 hsome hsome2 hnil hnil2 hb s0 s1 s2
      go_wp2_with fail
      have hbr : b < wr.heap.size := Nat.lt_of_lt_of_le hbB HB.out.size
      have hbr2 : b2 < wr.heap.size := Nat.lt_of_lt_of_le hbB2 HB.out.size
      refine wp_region_above (by kernel_rfl) (by kernel_rfl) ?_
      repeat (go_big_quiet_step ((go_at_call 33; exact aboveC (eqMelt xs[k] xs[k].list ys[k].list _ (by exact ra.out.up (above_below _ _)) (by exact rb.out.up (above_below _ _)) hnk))))
      refine wpQuiet_nil ?_
      intro w1 b1
      have HB1 := Lib.hid (HB.out.trans (b1.mono HB.out.size)); clear b1 HB
      go_wp2_with fail
      go_roundw
      case rel => exact ⟨k + 1, by omega, by go_num, HB1.out⟩
      case measure => simp [intOf]; omega
    · go_wp2
      go_ret
      exact ⟨rfl, hb⟩

def Melt.wt (x : Melt) : Nat := x.id.size + (x.ingots.length + wtStr x.ingots)
def wtMelt (xs : List Melt) : Nat := (xs.map Melt.wt).sum
theorem wtMelt_succ (xs : List Melt) (k : Nat) (h : k < xs.length) : wtMelt (xs.take (k + 1)) = wtMelt (xs.take k) + xs[k].wt := by
  unfold wtMelt
  rw [List.take_succ_eq_append_getElem h, List.map_append, List.sum_append]
  simp only [List.map_cons, List.map_nil, List.sum_cons, List.sum_nil, Nat.add_zero]
theorem wtMelt_le (xs : List Melt) (k : Nat) : wtMelt (xs.take k) ≤ wtMelt xs := by
  have h : wtMelt xs = wtMelt (xs.take k) + wtMelt (xs.drop k) := by
    unfold wtMelt
    rw [← List.sum_append, ← List.map_append, List.take_append_drop]
  omega
theorem wtMelt_mem (xs : List Melt) (x : Melt) (h : x ∈ xs) : x.wt ≤ wtMelt xs := by
  unfold wtMelt
  exact le_sum_of (List.mem_map.2 ⟨x, h, rfl⟩)

set_option maxHeartbeats 1000000 in
theorem szMeltS (w : World) (v : Value) (xs : List Melt) (left : Int) (h : Rd w.heap.size w v 3 xs.length (xs.flatMap Melt.put)) (hm : xs.length ≤ maxLen) (hx : ∀ x ∈ xs, x.ok w) (h0 : 0 ≤ left) (h1 : left ≤ 1048576) :
    Calls Try.prog 24 #[v, .int .i64 left] w fun e w' => e = .returned (.int .i64 (szR left (xs.length + wtMelt xs))) ∧ Below w.heap.size w w' := by
  obtain ⟨hL, ao, cap, rfl, hcap, hmax, hnil, hsome⟩ := h
  have hm2 := hm
  unfold maxLen at hm2
  by_cases hn : (xs.length : Int) ≤ left
  case neg =>
    have e : Hid (szR left (xs.length + wtMelt xs) = -1) := (if_neg (by omega) : szR left (xs.length + wtMelt xs) = -1)
    clear hsome hnil hx
    go_enter Try.func24, Try.ntmps24
    go_wp2
    go_ret
    exact ⟨by rw [e.out]; rfl, by (repeat' (first | (with_reducible exact Below.refl _ _) | (with_reducible assumption) | (with_reducible refine below_dn ?_ _) | (with_reducible refine Below.drew ?_) | (with_reducible refine Below.alloc ?_ ?_ _) | (with_reducible refine Below.setCell ?_ ?_ _) | go_size))⟩
  go_enter Try.func24, Try.ntmps24
  have Hx := Lib.hid hx; clear hx
  go_wp2
  go_loopw [1, 5] (fun l i wr => ∃ (k : Nat), k ≤ xs.length ∧ i = .int .i64 k ∧ l = .int .i64 (left - xs.length - wtMelt (xs.take k)) ∧ 0 ≤ left - xs.length - wtMelt (xs.take k) ∧ Below w.heap.size w wr) (fun _ i _ => xs.length - (intOf i).toNat)
  case atStart => exact ⟨0, Nat.zero_le _, rfl, by simp [wtMelt], by simp [wtMelt]; omega, Below.refl _ _⟩
  case round =>
    obtain ⟨k, hk, rfl, rfl, hp, hb⟩ := hrel
    by_cases hlt : k < xs.length
    · obtain ⟨b, off, rfl, hbB, hc⟩ := hsome (by omega)
      have c0 : wr.cell? ⟨b, off + k * 3, none⟩ = some (.string xs[k].id) := by
        rw [show off + k * 3 = off + (k * 3 + 0) from by omega, hb.cell (p := ⟨b, off + (k * 3 + 0), none⟩) hbB, hc (k * 3 + 0) (by omega), Melt_get0 xs k hlt]
      have c1 : wr.cell? ⟨b, off + k * 3 + 1, none⟩ = some xs[k].list := by
        rw [show off + k * 3 + 1 = off + (k * 3 + 1) from by omega, hb.cell (p := ⟨b, off + (k * 3 + 1), none⟩) hbB, hc (k * 3 + 1) (by omega), Melt_get1 xs k hlt]
      have c2 : wr.cell? ⟨b, off + k * 3 + 2, none⟩ = some (.int .i64 xs[k].mass) := by
        rw [show off + k * 3 + 2 = off + (k * 3 + 2) from by omega, hb.cell (p := ⟨b, off + (k * 3 + 2), none⟩) hbB, hc (k * 3 + 2) (by omega), Melt_get2 xs k hlt]
      have hs := Lib.hid (wtMelt_succ xs k hlt)
      have hle := Lib.hid (wtMelt_le xs (k + 1))
      have hxk := Lib.hid ((Hx.out xs[k] (List.getElem_mem hlt)).up hb)
      have HB := Lib.hid hb
      clear hc hsome hnil hb
      by_cases hq : (xs[k].wt : Int) ≤ left - xs.length - wtMelt (xs.take k)
      · have es : Hid (szR (left - xs.length - wtMelt (xs.take k)) xs[k].wt = left - xs.length - wtMelt (xs.take (k + 1))) := (by unfold szR; rw [if_pos hq, hs.out]; push_cast; omega : szR (left - xs.length - wtMelt (xs.take k)) xs[k].wt = left - xs.length - wtMelt (xs.take (k + 1)))
        have hp2 : 0 ≤ left - xs.length - wtMelt (xs.take (k + 1)) := by have := hs.out; omega
        go_wp2_with fail
        refine (szMelt xs[k] _ _ hxk.out hp (by omega)).mono ?_; rw [show xs[k].id.size + (xs[k].ingots.length + wtStr xs[k].ingots) = xs[k].wt from rfl, es.out]; rintro e w1 ⟨rfl, b1⟩
        have HB1 := Lib.hid (HB.out.trans (b1.mono HB.out.size)); clear b1 HB
        clear es hp
        go_wp2_with fail
        go_roundw
        case rel => exact ⟨k + 1, by omega, by go_num, rfl, hp2, HB1.out⟩
        case measure => simp [intOf]; omega
      · have es : Hid (szR (left - xs.length - wtMelt (xs.take k)) xs[k].wt = -1) := (if_neg hq : szR (left - xs.length - wtMelt (xs.take k)) xs[k].wt = -1)
        have e : Hid (szR left (xs.length + wtMelt xs) = -1) := (if_neg (by have := hs.out; have := hle.out; omega) : szR left (xs.length + wtMelt xs) = -1)
        go_wp2_with fail
        refine (szMelt xs[k] _ _ hxk.out hp (by omega)).mono ?_; rw [show xs[k].id.size + (xs[k].ingots.length + wtStr xs[k].ingots) = xs[k].wt from rfl, es.out]; rintro e w1 ⟨rfl, b1⟩
        have HB1 := Lib.hid (HB.out.trans (b1.mono HB.out.size)); clear b1 HB es hp
        go_wp2_with fail
        go_ret
        exact ⟨by rw [e.out]; rfl, HB1.out⟩
    · have e : Hid (szR left (xs.length + wtMelt xs) = left - xs.length - wtMelt (xs.take k)) := (by
        rw [List.take_of_length_le (by omega)] at hp ⊢
        unfold szR
        rw [if_pos (by push_cast; omega)]; push_cast; omega : szR left (xs.length + wtMelt xs) = left - xs.length - wtMelt (xs.take k))
      go_wp2
      go_ret
      exact ⟨by rw [e.out]; rfl, hb⟩
end Go.Proofs.Ytnbodmbagendnaa
