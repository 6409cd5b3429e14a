/- Contracts and plain facts, joined: HIngot, SearchIngot, Round, Density, AlloyAt, OneIngot, ChoiceS. -/
import Derived.Test.YtnbodmbagendnaaRows
import Derived.Test.YtnbodmbagendnaaZFnExactAddMeltC
namespace Go.Proofs.Ytnbodmbagendnaa
open Go.ChangeShapes Go.WideShapes Go.ChangeAt Go.RowKit Go.Deep Go.Joins
set_option linter.unusedVariables false
set_option maxRecDepth 100000
set_option linter.unusedSimpArgs false
theorem Ingot_len (xs : List Ingot) : (xs.flatMap Ingot.put).length = xs.length * 5 := flat_len xs (fun _ _ => rfl)
theorem Ingot_get0 (xs : List Ingot) (k : Nat) (h : k < xs.length) : (xs.flatMap Ingot.put)[k * 5 + 0]? = some (.string xs[k].id) := by
  rw [flat_get (f := Ingot.put) (s := 5) xs (fun _ _ => rfl) (j := 0) (by omega) k, List.getElem?_eq_getElem h]
  rfl
theorem Ingot_get1 (xs : List Ingot) (k : Nat) (h : k < xs.length) : (xs.flatMap Ingot.put)[k * 5 + 1]? = some (.int .i64 xs[k].mass) := by
  rw [flat_get (f := Ingot.put) (s := 5) xs (fun _ _ => rfl) (j := 1) (by omega) k, List.getElem?_eq_getElem h]
  rfl
theorem Ingot_get2 (xs : List Ingot) (k : Nat) (h : k < xs.length) : (xs.flatMap Ingot.put)[k * 5 + 2]? = some (.int .i64 xs[k].alloy.copper) := by
  rw [flat_get (f := Ingot.put) (s := 5) xs (fun _ _ => rfl) (j := 2) (by omega) k, List.getElem?_eq_getElem h]
  rfl
theorem Ingot_get3 (xs : List Ingot) (k : Nat) (h : k < xs.length) : (xs.flatMap Ingot.put)[k * 5 + 3]? = some (.int .i64 xs[k].alloy.tin) := by
  rw [flat_get (f := Ingot.put) (s := 5) xs (fun _ _ => rfl) (j := 3) (by omega) k, List.getElem?_eq_getElem h]
  rfl
theorem Ingot_get4 (xs : List Ingot) (k : Nat) (h : k < xs.length) : (xs.flatMap Ingot.put)[k * 5 + 4]? = some (.int .i64 xs[k].alloy.other) := by
  rw [flat_get (f := Ingot.put) (s := 5) xs (fun _ _ => rfl) (j := 4) (by omega) k, List.getElem?_eq_getElem h]
  rfl
theorem Ingot_info : (Try.prog.info? 85).map (fun i => (i.zero, i.size, i.bytes)) = some (some (.agg #[.string ByteArray.empty, .int .i64 0, .int .i64 0, .int .i64 0, .int .i64 0]), 5, 48) := by kernel_rfl

theorem toIngot (x : Ingot) (w : World) : Calls Try.prog 74 #[.agg #[.string x.id, .int .i64 x.mass, .int .i64 x.alloy.copper, .int .i64 x.alloy.tin, .int .i64 x.alloy.other]] w fun e w' => e = .returned (.agg #[.string x.id, .int .i64 x.mass, .int .i64 x.alloy.copper, .int .i64 x.alloy.tin, .int .i64 x.alloy.other]) ∧ Below w.heap.size w w' := by
  go_enter Try.func74, Try.ntmps74
  go_wp2_with fail
  refine (toAlloy x.alloy _).mono ?_; rintro e w1 ⟨rfl, b1⟩
  have hz := b1.size
  simp only [World.size_alloc] at hz
  have hB : Below w.heap.size w w1 := Below.trans (((Below.refl _ _).alloc (Nat.le_refl _) _ |>.alloc (by simp) _ |>.alloc (by simp; omega) _)) (b1.mono (by simp; omega))
  obtain ⟨hc, hf⟩ := bcell b1
  clear b1
  have c0 : w1.cell? ⟨w.heap.size + 1, 0, none⟩ = some (.string ByteArray.empty) := (hc _ _ (by simp)).trans (by simp [go_sem]; try rfl)
  have d0 : w1.cell? ⟨w.heap.size + 1 + 1, 0, none⟩ = some (.string x.id) := (hc _ _ (by simp)).trans (by simp [go_sem])
  have e0 : w1.frozen? ⟨w.heap.size + 1, 0, none⟩ = false := (hf _ _ (by simp)).trans (by simp [go_sem])
  have f0 : w1.frozen? ⟨w.heap.size + 1 + 1, 0, none⟩ = false := (hf _ _ (by simp)).trans (by simp [go_sem])
  have c1 : w1.cell? ⟨w.heap.size + 1, 1, none⟩ = some (.int .i64 0) := (hc _ _ (by simp)).trans (by simp [go_sem]; try rfl)
  have d1 : w1.cell? ⟨w.heap.size + 1 + 1, 1, none⟩ = some (.int .i64 x.mass) := (hc _ _ (by simp)).trans (by simp [go_sem])
  have e1 : w1.frozen? ⟨w.heap.size + 1, 1, none⟩ = false := (hf _ _ (by simp)).trans (by simp [go_sem])
  have f1 : w1.frozen? ⟨w.heap.size + 1 + 1, 1, none⟩ = false := (hf _ _ (by simp)).trans (by simp [go_sem])
  have c2 : w1.cell? ⟨w.heap.size + 1, 2, none⟩ = some (.int .i64 0) := (hc _ _ (by simp)).trans (by simp [go_sem]; try rfl)
  have d2 : w1.cell? ⟨w.heap.size + 1 + 1, 2, none⟩ = some (.int .i64 0) := (hc _ _ (by simp)).trans (by simp [go_sem])
  have e2 : w1.frozen? ⟨w.heap.size + 1, 2, none⟩ = false := (hf _ _ (by simp)).trans (by simp [go_sem])
  have f2 : w1.frozen? ⟨w.heap.size + 1 + 1, 2, none⟩ = false := (hf _ _ (by simp)).trans (by simp [go_sem])
  have c3 : w1.cell? ⟨w.heap.size + 1, 3, none⟩ = some (.int .i64 0) := (hc _ _ (by simp)).trans (by simp [go_sem]; try rfl)
  have d3 : w1.cell? ⟨w.heap.size + 1 + 1, 3, none⟩ = some (.int .i64 0) := (hc _ _ (by simp)).trans (by simp [go_sem])
  have e3 : w1.frozen? ⟨w.heap.size + 1, 3, none⟩ = false := (hf _ _ (by simp)).trans (by simp [go_sem])
  have f3 : w1.frozen? ⟨w.heap.size + 1 + 1, 3, none⟩ = false := (hf _ _ (by simp)).trans (by simp [go_sem])
  have c4 : w1.cell? ⟨w.heap.size + 1, 4, none⟩ = some (.int .i64 0) := (hc _ _ (by simp)).trans (by simp [go_sem]; try rfl)
  have d4 : w1.cell? ⟨w.heap.size + 1 + 1, 4, none⟩ = some (.int .i64 0) := (hc _ _ (by simp)).trans (by simp [go_sem])
  have e4 : w1.frozen? ⟨w.heap.size + 1, 4, none⟩ = false := (hf _ _ (by simp)).trans (by simp [go_sem])
  have f4 : w1.frozen? ⟨w.heap.size + 1 + 1, 4, none⟩ = false := (hf _ _ (by simp)).trans (by simp [go_sem])
  clear hc hf
  go_wp2_with fail
  refine bodyPost_ret (v := .agg #[.string x.id, .int .i64 x.mass, .int .i64 x.alloy.copper, .int .i64 x.alloy.tin, .int .i64 x.alloy.other]) (by simp [results, Try.results74, go_sem, c0, c1, c2, c3, c4, d0, d1, d2, d3, d4]) rfl ⟨rfl, by (repeat' (first | (with_reducible exact Below.refl _ _) | (with_reducible assumption) | (with_reducible refine below_dn ?_ _) | (with_reducible refine Below.drew ?_) | (with_reducible refine Below.alloc ?_ ?_ _) | (with_reducible refine Below.setCell ?_ ?_ _) | go_size))⟩


theorem toIngotS (w : World) (v : Value) (xs : List Ingot) (h : Rd w.heap.size w v 5 xs.length (xs.flatMap Ingot.put)) (hn : xs.length ≤ 1048576) :
    Calls Try.prog 27 #[v] w fun e w' => ∃ g, e = .returned (.slice (some ⟨g, 0, none⟩) xs.length xs.length) ∧ w.heap.size ≤ g ∧ Own w' g 85 (xs.flatMap Ingot.put) ∧ Below w.heap.size w w' := by
  obtain ⟨hL, ao, cap, rfl, hcap, hmax, hnil, hsome⟩ := h
  obtain ⟨i0, hi, hz0, hz1, hz2⟩ := info_parts Ingot_info
  go_enter Try.func27, Try.ntmps27
  go_wp2_with (at_make; refine wpList_make_blk _ rfl _ _ 60 rfl 85 i0 (.agg #[.string ByteArray.empty, .int .i64 0, .int .i64 0, .int .i64 0, .int .i64 0]) 5 48 Try.underlying60 hi hz0 hz1 hz2 _ _ _ _ xs.length rfl rfl rfl rfl (by omega) (by unfold maxLen; omega) ?_; intro w1 ho hb hs)
  have hml := made_len (Value.agg #[.string ByteArray.empty, .int .i64 0, .int .i64 0, .int .i64 0, .int .i64 0]).cells (xs.length * 5)
  go_loopw [4] (fun i wr => ∃ (k : Nat) (U : List Value), k ≤ xs.length ∧ i = .int .i64 k ∧ U.length = (xs.length - k) * 5 ∧ Own wr w.heap.size 85 ((xs.take k).flatMap Ingot.put ++ U) ∧ Below w.heap.size w wr) (fun i _ => xs.length - (intOf i).toNat)
  case atStart => exact ⟨0, _, Nat.zero_le _, rfl, by rw [Nat.sub_zero]; exact hml, by simpa using ho, hb⟩
  case round =>
    clear ho hb hs hml hi hz0 hz1 hz2
    obtain ⟨k, U, hk, rfl, hU, ho, hb⟩ := hrel
    by_cases hlt : k < xs.length
    · obtain ⟨b, off, rfl, hbB, hc⟩ := hsome (by omega)
      obtain ⟨t0, t1, t2, t3, t4, U, rfl, hU2⟩ := cons5 hU (by omega)
      have hA : ((xs.take k).flatMap Ingot.put).length = k * 5 := by rw [Ingot_len, List.length_take]; congr 1; omega
      have c0 : wr.cell? ⟨b, off + k * 5, none⟩ = some (.string xs[k].id) := by
        rw [show off + k * 5 = off + (k * 5 + 0) from by omega, hb.cell (p := ⟨b, off + (k * 5 + 0), none⟩) hbB, hc (k * 5 + 0) (by omega), Ingot_get0 xs k hlt]
      have c1 : wr.cell? ⟨b, off + k * 5 + 1, none⟩ = some (.int .i64 xs[k].mass) := by
        rw [show off + k * 5 + 1 = off + (k * 5 + 1) from by omega, hb.cell (p := ⟨b, off + (k * 5 + 1), none⟩) hbB, hc (k * 5 + 1) (by omega), Ingot_get1 xs k hlt]
      have c2 : wr.cell? ⟨b, off + k * 5 + 2, none⟩ = some (.int .i64 xs[k].alloy.copper) := by
        rw [show off + k * 5 + 2 = off + (k * 5 + 2) from by omega, hb.cell (p := ⟨b, off + (k * 5 + 2), none⟩) hbB, hc (k * 5 + 2) (by omega), Ingot_get2 xs k hlt]
      have c3 : wr.cell? ⟨b, off + k * 5 + 3, none⟩ = some (.int .i64 xs[k].alloy.tin) := by
        rw [show off + k * 5 + 3 = off + (k * 5 + 3) from by omega, hb.cell (p := ⟨b, off + (k * 5 + 3), none⟩) hbB, hc (k * 5 + 3) (by omega), Ingot_get3 xs k hlt]
      have c4 : wr.cell? ⟨b, off + k * 5 + 4, none⟩ = some (.int .i64 xs[k].alloy.other) := by
        rw [show off + k * 5 + 4 = off + (k * 5 + 4) from by omega, hb.cell (p := ⟨b, off + (k * 5 + 4), none⟩) hbB, hc (k * 5 + 4) (by omega), Ingot_get4 xs k hlt]
      have HB := Lib.hid hb
      have HO := Lib.hid ho
      have HC := Lib.hid hc
      have HA := Lib.hid hA
      have HU := Lib.hid hU2
      clear hc ho hb hA hsome hnil hU hU2
      go_wp2_with fail
      refine (toIngot xs[k] _).mono ?_; rintro e w1 ⟨rfl, b1⟩
      have ho1 := HO.out.below b1 HO.out.lt
      have hA := HA.out
      have d0 : w1.cell? ⟨w.heap.size, k * 5, none⟩ = some t0 := by
        rw [ho1.cell, List.getElem?_append_right (by omega), hA]
        simp
      have d1 : w1.cell? ⟨w.heap.size, k * 5 + 1, none⟩ = some t1 := by
        rw [ho1.cell, List.getElem?_append_right (by omega), hA]
        simp
      have d2 : w1.cell? ⟨w.heap.size, k * 5 + 2, none⟩ = some t2 := by
        rw [ho1.cell, List.getElem?_append_right (by omega), hA]
        simp
      have d3 : w1.cell? ⟨w.heap.size, k * 5 + 3, none⟩ = some t3 := by
        rw [ho1.cell, List.getElem?_append_right (by omega), hA]
        simp
      have d4 : w1.cell? ⟨w.heap.size, k * 5 + 4, none⟩ = some t4 := by
        rw [ho1.cell, List.getElem?_append_right (by omega), hA]
        simp
      have f0 := ho1.free (k * 5)
      have f1 := ho1.free (k * 5 + 1)
      have f2 := ho1.free (k * 5 + 2)
      have f3 := ho1.free (k * 5 + 3)
      have f4 := ho1.free (k * 5 + 4)
      have o1 := (((((ho1.set (k * 5) (.string xs[k].id)).set (k * 5 + 1) (.int .i64 xs[k].mass)).set (k * 5 + 2) (.int .i64 xs[k].alloy.copper)).set (k * 5 + 3) (.int .i64 xs[k].alloy.tin)).set (k * 5 + 4) (.int .i64 xs[k].alloy.other))
      rw [set5 _ _ _ _ _ _ _ _ _ _ _ _ _ hA] at o1
      have hb := HB.out
      have O1 := Lib.hid o1
      have HB1 := Lib.hid (Below.setCell (Below.setCell (Below.setCell (Below.setCell (Below.setCell (hb.trans (b1.mono hb.size)) (p := ⟨w.heap.size, k * 5, none⟩) (Nat.le_refl _) (.string xs[k].id)) (p := ⟨w.heap.size, k * 5 + 1, none⟩) (Nat.le_refl _) (.int .i64 xs[k].mass)) (p := ⟨w.heap.size, k * 5 + 2, none⟩) (Nat.le_refl _) (.int .i64 xs[k].alloy.copper)) (p := ⟨w.heap.size, k * 5 + 3, none⟩) (Nat.le_refl _) (.int .i64 xs[k].alloy.tin)) (p := ⟨w.heap.size, k * 5 + 4, none⟩) (Nat.le_refl _) (.int .i64 xs[k].alloy.other))
      clear ho1 o1 hA hb b1 HO HB c0 c1 c2 c3 c4
      go_wp2_with fail
      go_roundw
      case rel => exact ⟨k + 1, U, by omega, by go_num, by have := HU.out; omega, by rw [set_snoc Ingot.put xs k hlt]; exact O1.out, HB1.out⟩
      case measure => simp [intOf]; omega
    · have e : Hid (k = xs.length) := (by omega : k = xs.length)
      have HO := Lib.hid ho
      clear ho
      go_wp2
      go_ret
      refine ⟨w.heap.size, rfl, Nat.le_refl _, ?_, hb⟩
      have ho := HO.out
      obtain rfl := e.out
      have : U = [] := List.eq_nil_of_length_eq_zero (by rw [hU]; omega)
      subst this
      simpa using ho

theorem eqIngot (x : Ingot) (w : World) : Calls Try.prog 87 #[.agg #[.string x.id, .int .i64 x.mass, .int .i64 x.alloy.copper, .int .i64 x.alloy.tin, .int .i64 x.alloy.other], .agg #[.string x.id, .int .i64 x.mass, .int .i64 x.alloy.copper, .int .i64 x.alloy.tin, .int .i64 x.alloy.other]] w fun e w' => e = .returned (.bool true) ∧ Below w.heap.size w w' := by
  go_enter Try.func87, Try.ntmps87
  repeat (go_wp2_with fail; go_quiet (fail))
  go_wp2_with fail
  refine (eqAlloy x.alloy _).mono ?_; rintro e w1 ⟨rfl, b1⟩
  go_wp2_with fail
  go_ret
  exact ⟨rfl, Below.trans (by (repeat' (first | (with_reducible exact Below.refl _ _) | (with_reducible assumption) | (with_reducible refine below_dn ?_ _) | (with_reducible refine Below.drew ?_) | (with_reducible refine Below.alloc ?_ ?_ _) | (with_reducible refine Below.setCell ?_ ?_ _) | go_size))) (b1.mono (by simp; try omega))⟩
theorem eqIngotS (w : World) (v1 v2 : Value) (xs : List Ingot) (h1 : Rd w.heap.size w v1 5 xs.length (xs.flatMap Ingot.put)) (h2 : Rd w.heap.size w v2 5 xs.length (xs.flatMap Ingot.put)) (hn : xs.length ≤ 1048576) :
    Calls Try.prog 32 #[v1, v2] w fun e w' => e = .returned (.bool true) ∧ Below w.heap.size w w' := by
  obtain ⟨hL, ao, cap, rfl, hcap, hmax, hnil, hsome⟩ := h1
  obtain ⟨hL2, ao2, cap2, rfl, hcap2, hmax2, hnil2, hsome2⟩ := h2
  go_enter Try.func32, Try.ntmps32
  go_wp2
  go_loopw [5] (fun i wr => ∃ (k : Nat), k ≤ xs.length ∧ i = .int .i64 k ∧ Below w.heap.size w wr) (fun i _ => xs.length - (intOf i).toNat)
  case atStart => exact ⟨0, Nat.zero_le _, rfl, Below.refl _ _⟩
  case round =>
    obtain ⟨k, hk, rfl, hb⟩ := hrel
    by_cases hlt : k < xs.length
    · obtain ⟨b, off, rfl, hbB, hc⟩ := hsome (by omega)
      obtain ⟨b2, off2, rfl, hbB2, hc2⟩ := hsome2 (by omega)
      have c0 : wr.cell? ⟨b, off + k * 5, none⟩ = some (.string xs[k].id) := by
        rw [show off + k * 5 = off + (k * 5 + 0) from by omega, hb.cell (p := ⟨b, off + (k * 5 + 0), none⟩) hbB, hc (k * 5 + 0) (by omega), Ingot_get0 xs k hlt]
      have c1 : wr.cell? ⟨b, off + k * 5 + 1, none⟩ = some (.int .i64 xs[k].mass) := by
        rw [show off + k * 5 + 1 = off + (k * 5 + 1) from by omega, hb.cell (p := ⟨b, off + (k * 5 + 1), none⟩) hbB, hc (k * 5 + 1) (by omega), Ingot_get1 xs k hlt]
      have c2 : wr.cell? ⟨b, off + k * 5 + 2, none⟩ = some (.int .i64 xs[k].alloy.copper) := by
        rw [show off + k * 5 + 2 = off + (k * 5 + 2) from by omega, hb.cell (p := ⟨b, off + (k * 5 + 2), none⟩) hbB, hc (k * 5 + 2) (by omega), Ingot_get2 xs k hlt]
      have c3 : wr.cell? ⟨b, off + k * 5 + 3, none⟩ = some (.int .i64 xs[k].alloy.tin) := by
        rw [show off + k * 5 + 3 = off + (k * 5 + 3) from by omega, hb.cell (p := ⟨b, off + (k * 5 + 3), none⟩) hbB, hc (k * 5 + 3) (by omega), Ingot_get3 xs k hlt]
      have c4 : wr.cell? ⟨b, off + k * 5 + 4, none⟩ = some (.int .i64 xs[k].alloy.other) := by
        rw [show off + k * 5 + 4 = off + (k * 5 + 4) from by omega, hb.cell (p := ⟨b, off + (k * 5 + 4), none⟩) hbB, hc (k * 5 + 4) (by omega), Ingot_get4 xs k hlt]
      have d0 : wr.cell? ⟨b2, off2 + k * 5, none⟩ = some (.string xs[k].id) := by
        rw [show off2 + k * 5 = off2 + (k * 5 + 0) from by omega, hb.cell (p := ⟨b2, off2 + (k * 5 + 0), none⟩) hbB2, hc2 (k * 5 + 0) (by omega), Ingot_get0 xs k hlt]
      have d1 : wr.cell? ⟨b2, off2 + k * 5 + 1, none⟩ = some (.int .i64 xs[k].mass) := by
        rw [show off2 + k * 5 + 1 = off2 + (k * 5 + 1) from by omega, hb.cell (p := ⟨b2, off2 + (k * 5 + 1), none⟩) hbB2, hc2 (k * 5 + 1) (by omega), Ingot_get1 xs k hlt]
      have d2 : wr.cell? ⟨b2, off2 + k * 5 + 2, none⟩ = some (.int .i64 xs[k].alloy.copper) := by
        rw [show off2 + k * 5 + 2 = off2 + (k * 5 + 2) from by omega, hb.cell (p := ⟨b2, off2 + (k * 5 + 2), none⟩) hbB2, hc2 (k * 5 + 2) (by omega), Ingot_get2 xs k hlt]
      have d3 : wr.cell? ⟨b2, off2 + k * 5 + 3, none⟩ = some (.int .i64 xs[k].alloy.tin) := by
        rw [show off2 + k * 5 + 3 = off2 + (k * 5 + 3) from by omega, hb.cell (p := ⟨b2, off2 + (k * 5 + 3), none⟩) hbB2, hc2 (k * 5 + 3) (by omega), Ingot_get3 xs k hlt]
      have d4 : wr.cell? ⟨b2, off2 + k * 5 + 4, none⟩ = some (.int .i64 xs[k].alloy.other) := by
        rw [show off2 + k * 5 + 4 = off2 + (k * 5 + 4) from by omega, hb.cell (p := ⟨b2, off2 + (k * 5 + 4), none⟩) hbB2, hc2 (k * 5 + 4) (by omega), Ingot_get4 xs k hlt]
      have HB := Lib.hid hb
      clear hc hc2 hsome hsome2 hnil hnil2 hb
      go_wp2_with fail
      have hbr : b < wr.heap.size := Nat.lt_of_lt_of_le hbB HB.out.size
      have hbr2 : b2 < wr.heap.size := Nat.lt_of_lt_of_le hbB2 HB.out.size
      refine wp_region_above (by kernel_rfl) (by kernel_rfl) ?_
      repeat (go_big_quiet_step ((go_at_call 87; exact aboveC (eqIngot xs[k] _))))
      refine wpQuiet_nil ?_
      intro w1 b1
      have HB1 := Lib.hid (HB.out.trans (b1.mono HB.out.size)); clear b1 HB
      go_wp2_with fail
      go_roundw
      case rel => exact ⟨k + 1, by omega, by go_num, HB1.out⟩
      case measure => simp [intOf]; omega
    · go_wp2
      go_ret
      exact ⟨rfl, hb⟩


theorem szIngot (x : Ingot) (left : Int) (w : World) (h0 : 0 ≤ left) (h1 : left ≤ 1048576) (hx : x.id.size ≤ maxLen) : Calls Try.prog 66 #[.agg #[.string x.id, .int .i64 x.mass, .int .i64 x.alloy.copper, .int .i64 x.alloy.tin, .int .i64 x.alloy.other], .int .i64 left] w fun e w' => e = .returned (.int .i64 (szR left x.id.size)) ∧ Below w.heap.size w w' := by
  unfold maxLen at hx
  by_cases h : (x.id.size : Int) ≤ left
  · have e : Hid (szR left x.id.size = left - x.id.size) := (if_pos h : szR left x.id.size = left - x.id.size)
    go_enter Try.func66, Try.ntmps66
    go_wp2
    go_ret
    exact ⟨by rw [e.out]; rfl, by (repeat' (first | (with_reducible exact Below.refl _ _) | (with_reducible assumption) | (with_reducible refine below_dn ?_ _) | (with_reducible refine Below.drew ?_) | (with_reducible refine Below.alloc ?_ ?_ _) | (with_reducible refine Below.setCell ?_ ?_ _) | go_size))⟩
  · have e : Hid (szR left x.id.size = -1) := (if_neg h : szR left x.id.size = -1)
    go_enter Try.func66, Try.ntmps66
    go_wp2
    go_ret
    exact ⟨by rw [e.out]; rfl, by (repeat' (first | (with_reducible exact Below.refl _ _) | (with_reducible assumption) | (with_reducible refine below_dn ?_ _) | (with_reducible refine Below.drew ?_) | (with_reducible refine Below.alloc ?_ ?_ _) | (with_reducible refine Below.setCell ?_ ?_ _) | go_size))⟩
def wtIngot (xs : List Ingot) : Nat := (xs.map fun x => x.id.size).sum
theorem wtIngot_succ (xs : List Ingot) (k : Nat) (h : k < xs.length) : wtIngot (xs.take (k + 1)) = wtIngot (xs.take k) + xs[k].id.size := by
  unfold wtIngot
  rw [List.take_succ_eq_append_getElem h, List.map_append, List.sum_append]
  simp only [List.map_cons, List.map_nil, List.sum_cons, List.sum_nil, Nat.add_zero]
theorem wtIngot_le (xs : List Ingot) (k : Nat) : wtIngot (xs.take k) ≤ wtIngot xs := by
  have h : wtIngot xs = wtIngot (xs.take k) + wtIngot (xs.drop k) := by
    unfold wtIngot
    rw [← List.sum_append, ← List.map_append, List.take_append_drop]
  omega
theorem wtIngot_mem (xs : List Ingot) (x : Ingot) (h : x ∈ xs) : x.id.size ≤ wtIngot xs := by
  unfold wtIngot
  exact le_sum_of (List.mem_map.2 ⟨x, h, rfl⟩)

theorem szIngotS (w : World) (v : Value) (xs : List Ingot) (left : Int) (h : Rd w.heap.size w v 5 xs.length (xs.flatMap Ingot.put)) (hm : xs.length ≤ maxLen) (hx : ∀ x ∈ xs, x.id.size ≤ maxLen) (h0 : 0 ≤ left) (h1 : left ≤ 1048576) :
    Calls Try.prog 23 #[v, .int .i64 left] w fun e w' => e = .returned (.int .i64 (szR left (xs.length + wtIngot xs))) ∧ Below w.heap.size w w' := by
  obtain ⟨hL, ao, cap, rfl, hcap, hmax, hnil, hsome⟩ := h
  have hm2 := hm
  unfold maxLen at hm2
  by_cases hn : (xs.length : Int) ≤ left
  case neg =>
    have e : Hid (szR left (xs.length + wtIngot xs) = -1) := (if_neg (by omega) : szR left (xs.length + wtIngot xs) = -1)
    clear hsome hnil hx
    go_enter Try.func23, Try.ntmps23
    go_wp2
    go_ret
    exact ⟨by rw [e.out]; rfl, by (repeat' (first | (with_reducible exact Below.refl _ _) | (with_reducible assumption) | (with_reducible refine below_dn ?_ _) | (with_reducible refine Below.drew ?_) | (with_reducible refine Below.alloc ?_ ?_ _) | (with_reducible refine Below.setCell ?_ ?_ _) | go_size))⟩
  go_enter Try.func23, Try.ntmps23
  have Hx := Lib.hid hx; clear hx
  go_wp2
  go_loopw [1, 5] (fun l i wr => ∃ (k : Nat), k ≤ xs.length ∧ i = .int .i64 k ∧ l = .int .i64 (left - xs.length - wtIngot (xs.take k)) ∧ 0 ≤ left - xs.length - wtIngot (xs.take k) ∧ Below w.heap.size w wr) (fun _ i _ => xs.length - (intOf i).toNat)
  case atStart => exact ⟨0, Nat.zero_le _, rfl, by simp [wtIngot], by simp [wtIngot]; omega, Below.refl _ _⟩
  case round =>
    obtain ⟨k, hk, rfl, rfl, hp, hb⟩ := hrel
    by_cases hlt : k < xs.length
    · obtain ⟨b, off, rfl, hbB, hc⟩ := hsome (by omega)
      have c0 : wr.cell? ⟨b, off + k * 5, none⟩ = some (.string xs[k].id) := by
        rw [show off + k * 5 = off + (k * 5 + 0) from by omega, hb.cell (p := ⟨b, off + (k * 5 + 0), none⟩) hbB, hc (k * 5 + 0) (by omega), Ingot_get0 xs k hlt]
      have c1 : wr.cell? ⟨b, off + k * 5 + 1, none⟩ = some (.int .i64 xs[k].mass) := by
        rw [show off + k * 5 + 1 = off + (k * 5 + 1) from by omega, hb.cell (p := ⟨b, off + (k * 5 + 1), none⟩) hbB, hc (k * 5 + 1) (by omega), Ingot_get1 xs k hlt]
      have c2 : wr.cell? ⟨b, off + k * 5 + 2, none⟩ = some (.int .i64 xs[k].alloy.copper) := by
        rw [show off + k * 5 + 2 = off + (k * 5 + 2) from by omega, hb.cell (p := ⟨b, off + (k * 5 + 2), none⟩) hbB, hc (k * 5 + 2) (by omega), Ingot_get2 xs k hlt]
      have c3 : wr.cell? ⟨b, off + k * 5 + 3, none⟩ = some (.int .i64 xs[k].alloy.tin) := by
        rw [show off + k * 5 + 3 = off + (k * 5 + 3) from by omega, hb.cell (p := ⟨b, off + (k * 5 + 3), none⟩) hbB, hc (k * 5 + 3) (by omega), Ingot_get3 xs k hlt]
      have c4 : wr.cell? ⟨b, off + k * 5 + 4, none⟩ = some (.int .i64 xs[k].alloy.other) := by
        rw [show off + k * 5 + 4 = off + (k * 5 + 4) from by omega, hb.cell (p := ⟨b, off + (k * 5 + 4), none⟩) hbB, hc (k * 5 + 4) (by omega), Ingot_get4 xs k hlt]
      have hs := Lib.hid (wtIngot_succ xs k hlt)
      have hle := Lib.hid (wtIngot_le xs (k + 1))
      have hxk := Lib.hid (Hx.out xs[k] (List.getElem_mem hlt))
      have HB := Lib.hid hb
      clear hc hsome hnil hb
      by_cases hq : (xs[k].id.size : Int) ≤ left - xs.length - wtIngot (xs.take k)
      · have es : Hid (szR (left - xs.length - wtIngot (xs.take k)) xs[k].id.size = left - xs.length - wtIngot (xs.take (k + 1))) := (by unfold szR; rw [if_pos hq, hs.out]; push_cast; omega : szR (left - xs.length - wtIngot (xs.take k)) xs[k].id.size = left - xs.length - wtIngot (xs.take (k + 1)))
        have hp2 : 0 ≤ left - xs.length - wtIngot (xs.take (k + 1)) := by have := hs.out; omega
        go_wp2_with fail
        refine (szIngot xs[k] _ _ hp (by omega) hxk.out).mono ?_; rw [es.out]; rintro e w1 ⟨rfl, b1⟩
        have HB1 := Lib.hid (HB.out.trans (b1.mono HB.out.size)); clear b1 HB
        clear es hp
        go_wp2_with fail
        go_roundw
        case rel => exact ⟨k + 1, by omega, by go_num, rfl, hp2, HB1.out⟩
        case measure => simp [intOf]; omega
      · have es : Hid (szR (left - xs.length - wtIngot (xs.take k)) xs[k].id.size = -1) := (if_neg hq : szR (left - xs.length - wtIngot (xs.take k)) xs[k].id.size = -1)
        have e : Hid (szR left (xs.length + wtIngot xs) = -1) := (if_neg (by have := hs.out; have := hle.out; omega) : szR left (xs.length + wtIngot xs) = -1)
        go_wp2_with fail
        refine (szIngot xs[k] _ _ hp (by omega) hxk.out).mono ?_; rw [es.out]; rintro e w1 ⟨rfl, b1⟩
        have HB1 := Lib.hid (HB.out.trans (b1.mono HB.out.size)); clear b1 HB es hp
        go_wp2_with fail
        go_ret
        exact ⟨by rw [e.out]; rfl, HB1.out⟩
    · have e : Hid (szR left (xs.length + wtIngot xs) = left - xs.length - wtIngot (xs.take k)) := (by
        rw [List.take_of_length_le (by omega)] at hp ⊢
        unfold szR
        rw [if_pos (by push_cast; omega)]; push_cast; omega : szR left (xs.length + wtIngot xs) = left - xs.length - wtIngot (xs.take k))
      go_wp2
      go_ret
      exact ⟨by rw [e.out]; rfl, hb⟩
end Go.Proofs.Ytnbodmbagendnaa
namespace Go.Proofs.Ytnbodmbagendnaa
open Go.ChangeShapes Go.WideShapes Go.ChangeAt Go.RowKit Go.Deep Go.Joins
set_option linter.unusedVariables false
set_option maxRecDepth 100000
set_option linter.unusedSimpArgs false
theorem impl_ingotAt1 (x : Ingot) (a : ByteArray) (w : World) : Calls Try.prog 159 #[.agg #[.string x.id, .int .i64 x.mass, .int .i64 x.alloy.copper, .int .i64 x.alloy.tin, .int .i64 x.alloy.other], .string a] w fun e w' => e = .returned (.int .i64 (cmpS x.id a)) ∧ Below w.heap.size w w' := by
  go_enter Try.func159, Try.ntmps159
  go_wp2_with (first | (go_at_call 125; refine (cmp_Compare_str _ _ _).mono ?_; rintro e w' ⟨rfl, rfl⟩))
  go_ret
  exact ⟨rfl, by (repeat' (first | (with_reducible exact Below.refl _ _) | (with_reducible assumption) | (with_reducible refine below_dn ?_ _) | (with_reducible refine Below.drew ?_) | (with_reducible refine Below.alloc ?_ ?_ _) | (with_reducible refine Below.setCell ?_ ?_ _) | go_size))⟩

def cmpIngot (xs : List Ingot) (t : ByteArray) (k : Nat) : Int := (xs[k]?).elim 1 fun x => cmpS x.id t
theorem cmpIngot_at {xs : List Ingot} {t : ByteArray} {k : Nat} (h : k < xs.length) : cmpIngot xs t k = (fun x : Ingot => cmpS x.id t) xs[k] := by
  unfold cmpIngot
  rw [List.getElem?_eq_getElem h]
  rfl

set_option maxHeartbeats 2000000 in
theorem BinarySearch_Ingot (w : World) (v : Value) (xs : List Ingot) (t : ByteArray) (h : Rd w.heap.size w v 5 xs.length (xs.flatMap Ingot.put)) (hn : xs.length ≤ 1048576) :
    Calls Try.prog 158 #[v, .string t, .func (.func 159) #[] #[]] w fun e w' => (∃ i : Nat, e = .returned (.tuple #[.int .i64 i, .bool (decide (i < xs.length) && decide (cmpIngot xs t i = 0))]) ∧ Found (cmpIngot xs t) xs.length i) ∧ Below w.heap.size w w' := by
  obtain ⟨hL, ao, cap, rfl, hcap, hmax, hnil, hsome⟩ := h
  go_enter Try.func158, Try.ntmps158
  go_wp2
  go_loopw [9, 10] (fun i j wr => ∃ (a b : Nat), a ≤ b ∧ b ≤ xs.length ∧ i = .int .i64 a ∧ j = .int .i64 b ∧ Part (cmpIngot xs t) xs.length a b ∧ Below w.heap.size w wr) (fun i j _ => (intOf j).toNat - (intOf i).toNat)
  case atStart => exact ⟨0, xs.length, Nat.zero_le _, Nat.le_refl _, rfl, rfl, part_start _ _, Below.refl _ _⟩
  case round =>
    obtain ⟨a, b, hab, hbn, rfl, rfl, hpart, hb⟩ := hrel
    have HP := Lib.hid hpart; clear hpart
    by_cases hlt : a < b
    · obtain ⟨b0, off, rfl, hbB, hc⟩ := hsome (by omega)
      obtain ⟨m, hm, ham, hmb⟩ : ∃ m : Nat, ((a : Int) + (b : Int)) / 2 = ((m : Nat) : Int) ∧ a ≤ m ∧ m < b := ⟨(a + b) / 2, by omega, by omega, by omega⟩
      have hml : m < xs.length := by omega
      have c0 : wr.cell? ⟨b0, off + m * 5, none⟩ = some (.string xs[m].id) := by rw [show off + m * 5 = off + (m * 5 + 0) from by omega, hb.cell (p := ⟨b0, off + (m * 5 + 0), none⟩) hbB, hc (m * 5 + 0) (by omega), Ingot_get0 xs m hml]
      have c1 : wr.cell? ⟨b0, off + m * 5 + 1, none⟩ = some (.int .i64 xs[m].mass) := by rw [show off + m * 5 + 1 = off + (m * 5 + 1) from by omega, hb.cell (p := ⟨b0, off + (m * 5 + 1), none⟩) hbB, hc (m * 5 + 1) (by omega), Ingot_get1 xs m hml]
      have c2 : wr.cell? ⟨b0, off + m * 5 + 2, none⟩ = some (.int .i64 xs[m].alloy.copper) := by rw [show off + m * 5 + 2 = off + (m * 5 + 2) from by omega, hb.cell (p := ⟨b0, off + (m * 5 + 2), none⟩) hbB, hc (m * 5 + 2) (by omega), Ingot_get2 xs m hml]
      have c3 : wr.cell? ⟨b0, off + m * 5 + 3, none⟩ = some (.int .i64 xs[m].alloy.tin) := by rw [show off + m * 5 + 3 = off + (m * 5 + 3) from by omega, hb.cell (p := ⟨b0, off + (m * 5 + 3), none⟩) hbB, hc (m * 5 + 3) (by omega), Ingot_get3 xs m hml]
      have c4 : wr.cell? ⟨b0, off + m * 5 + 4, none⟩ = some (.int .i64 xs[m].alloy.other) := by rw [show off + m * 5 + 4 = off + (m * 5 + 4) from by omega, hb.cell (p := ⟨b0, off + (m * 5 + 4), none⟩) hbB, hc (m * 5 + 4) (by omega), Ingot_get4 xs m hml]
      have HC := Lib.hid (cmpIngot_at (t := t) hml)
      have HB := Lib.hid hb
      have hws := hb.size
      have hbr : b0 < wr.heap.size := Nat.lt_of_lt_of_le hbB hws
      clear hc hsome hb hnil
      by_cases hneg : cmpIngot xs t m < 0
      · have HN := Lib.hid hneg
        rw [HC.out] at hneg
        go_wp2_with fail
        go_at_call 159
        refine (impl_ingotAt1 xs[m] t _).mono ?_; rintro e1 w1 ⟨rfl, b1⟩
        have HB1 := Lib.hid (HB.out.trans (b1.mono HB.out.size)); clear b1 HB
        go_wp2_with fail
        go_roundw
        case rel => exact ⟨m + 1, b, by omega, by omega, by go_num, rfl, part_up HP.out hml HN.out, HB1.out⟩
        case measure => simp [intOf]; omega
      · have HN := Lib.hid hneg
        rw [HC.out] at hneg
        go_wp2_with fail
        go_at_call 159
        refine (impl_ingotAt1 xs[m] t _).mono ?_; rintro e1 w1 ⟨rfl, b1⟩
        have HB1 := Lib.hid (HB.out.trans (b1.mono HB.out.size)); clear b1 HB
        go_wp2_with fail
        go_roundw
        case rel => exact ⟨a, m, by omega, by omega, rfl, by go_num, part_down HP.out (by have := HN.out; omega), HB1.out⟩
        case measure => simp [intOf]; omega
    · obtain rfl : a = b := by omega
      by_cases hml : a < xs.length
      · obtain ⟨b0, off, rfl, hbB, hc⟩ := hsome (by omega)
        have c0 : wr.cell? ⟨b0, off + a * 5, none⟩ = some (.string xs[a].id) := by rw [show off + a * 5 = off + (a * 5 + 0) from by omega, hb.cell (p := ⟨b0, off + (a * 5 + 0), none⟩) hbB, hc (a * 5 + 0) (by omega), Ingot_get0 xs a hml]
        have c1 : wr.cell? ⟨b0, off + a * 5 + 1, none⟩ = some (.int .i64 xs[a].mass) := by rw [show off + a * 5 + 1 = off + (a * 5 + 1) from by omega, hb.cell (p := ⟨b0, off + (a * 5 + 1), none⟩) hbB, hc (a * 5 + 1) (by omega), Ingot_get1 xs a hml]
        have c2 : wr.cell? ⟨b0, off + a * 5 + 2, none⟩ = some (.int .i64 xs[a].alloy.copper) := by rw [show off + a * 5 + 2 = off + (a * 5 + 2) from by omega, hb.cell (p := ⟨b0, off + (a * 5 + 2), none⟩) hbB, hc (a * 5 + 2) (by omega), Ingot_get2 xs a hml]
        have c3 : wr.cell? ⟨b0, off + a * 5 + 3, none⟩ = some (.int .i64 xs[a].alloy.tin) := by rw [show off + a * 5 + 3 = off + (a * 5 + 3) from by omega, hb.cell (p := ⟨b0, off + (a * 5 + 3), none⟩) hbB, hc (a * 5 + 3) (by omega), Ingot_get3 xs a hml]
        have c4 : wr.cell? ⟨b0, off + a * 5 + 4, none⟩ = some (.int .i64 xs[a].alloy.other) := by rw [show off + a * 5 + 4 = off + (a * 5 + 4) from by omega, hb.cell (p := ⟨b0, off + (a * 5 + 4), none⟩) hbB, hc (a * 5 + 4) (by omega), Ingot_get4 xs a hml]
        have HC := Lib.hid (cmpIngot_at (t := t) hml)
        have HB := Lib.hid hb
        have hws := hb.size
        have hbr : b0 < wr.heap.size := Nat.lt_of_lt_of_le hbB hws
        clear hc hsome hb hnil
        by_cases hz : cmpIngot xs t a = 0
        · have E : Hid ((decide (a < xs.length) && decide (cmpIngot xs t a = 0)) = true) := (by simp [hml, hz] : (decide (a < xs.length) && decide (cmpIngot xs t a = 0)) = true)
          rw [HC.out] at hz
          have hz2 := (beq_iff_eq (α := Int)).2 hz
          have HZ := Lib.hid hz; clear hz
          simp only at hz2
          go_wp2_with fail
          go_at_call 159
          refine (impl_ingotAt1 xs[a] t _).mono ?_; rintro e1 w1 ⟨rfl, b1⟩
          have HB1 := Lib.hid (HB.out.trans (b1.mono HB.out.size)); clear b1 HB
          go_wp2_with fail
          go_ret2
          exact ⟨⟨a, by rw [E.out]; rfl, part_end HP.out hbn⟩, HB1.out⟩
        · have E : Hid ((decide (a < xs.length) && decide (cmpIngot xs t a = 0)) = false) := (by simp [hz] : (decide (a < xs.length) && decide (cmpIngot xs t a = 0)) = false)
          rw [HC.out] at hz
          have hz2 := (beq_eq_false_iff_ne (α := Int)).2 hz
          have HZ := Lib.hid hz; clear hz
          simp only at hz2
          go_wp2_with fail
          go_at_call 159
          refine (impl_ingotAt1 xs[a] t _).mono ?_; rintro e1 w1 ⟨rfl, b1⟩
          have HB1 := Lib.hid (HB.out.trans (b1.mono HB.out.size)); clear b1 HB
          go_wp2_with fail
          go_ret2
          exact ⟨⟨a, by rw [E.out]; rfl, part_end HP.out hbn⟩, HB1.out⟩
      · have E : Hid ((decide (a < xs.length) && decide (cmpIngot xs t a = 0)) = false) := (by simp [hml] : (decide (a < xs.length) && decide (cmpIngot xs t a = 0)) = false)
        have HB := Lib.hid hb; clear hb
        go_wp2_with fail
        go_ret2
        exact ⟨⟨a, by rw [E.out]; rfl, part_end HP.out hbn⟩, HB.out⟩
end Go.Proofs.Ytnbodmbagendnaa
namespace Go.Proofs.Ytnbodmbagendnaa
open Go.ChangeShapes Go.WideShapes Go.ChangeAt Go.RowKit Go.Deep Go.Joins
set_option linter.unusedVariables false
set_option maxRecDepth 100000
set_option linter.unusedSimpArgs false
/-- the nearest integer to a / b, halves away from 0; b is positive -/
def divR (a b : Int) : Int := if a < 0 then -((b - 2 * a) / (2 * b)) else (2 * a + b) / (2 * b)

theorem half (q r b : Int) (hb : 0 < b) (h0 : 0 ≤ r) (h1 : r < b) : (2 * (b * q + r) + b) / (2 * b) = if b - r ≤ r then q + 1 else q := by
  have e : 2 * (b * q + r) + b = (2 * r + b) + q * (2 * b) := by
    have h1 : 2 * (b * q + r) = 2 * (b * q) + 2 * r := by omega
    have h2 : q * (2 * b) = 2 * (b * q) := by rw [Int.mul_comm q, Int.mul_assoc]
    omega
  rw [e, Int.add_mul_ediv_right _ _ (by omega)]
  split
  · rename_i h
    have : (2 * r + b) / (2 * b) = 1 := by
      have h2 : 2 * r + b = (2 * r - b) + 1 * (2 * b) := by omega
      rw [h2, Int.add_mul_ediv_right _ _ (by omega), Int.ediv_eq_zero_of_lt (by omega) (by omega)]
      omega
    omega
  · rename_i h
    have : (2 * r + b) / (2 * b) = 0 := Int.ediv_eq_zero_of_lt (by omega) (by omega)
    omega

/-- for a that is not negative -/
theorem divR_pos (a b : Int) (hb : 0 < b) (ha : 0 ≤ a) : divR a b = if b - a % b ≤ a % b then a / b + 1 else a / b := by
  unfold divR
  rw [if_neg (by omega)]
  have h := half (a / b) (a % b) b hb (Int.emod_nonneg _ (by omega)) (Int.emod_lt_of_pos _ hb)
  rw [Int.mul_ediv_add_emod] at h
  exact h
theorem divR_neg (a b : Int) (hb : 0 < b) (ha : a < 0) : divR a b = -(if b - (-a) % b ≤ (-a) % b then (-a) / b + 1 else (-a) / b) := by
  unfold divR
  rw [if_pos ha]
  have h := half ((-a) / b) ((-a) % b) b hb (Int.emod_nonneg _ (by omega)) (Int.emod_lt_of_pos _ hb)
  rw [Int.mul_ediv_add_emod] at h
  rw [← h]
  congr 2
  omega

theorem spec_l01Div (a b : Int) (w : World) (hb : 0 < b) (hb2 : b ≤ 1000000000000000000) (ha : -1000000000000000000 ≤ a) (ha2 : a ≤ 1000000000000000000) :
    Calls Try.prog 121 #[.int .i64 a, .int .i64 b] w fun e w' => e = .returned (.int .i64 (divR a b)) ∧ w = w' := by
  unfold divR
  by_cases h : a < 0
  · rw [if_pos h]
    have h1 : 0 ≤ (b - 2 * a) / (2 * b) := Int.ediv_nonneg (by omega) (by omega)
    have h2 : (b - 2 * a) / (2 * b) ≤ 4000000000000000000 := by
      apply Int.ediv_le_of_le_mul (by omega)
      have : b - 2 * a ≤ 4000000000000000000 := by omega
      have h3 : (4000000000000000000 : Int) * 1 ≤ 4000000000000000000 * (2 * b) := Int.mul_le_mul_of_nonneg_left (by omega) (by omega)
      omega
    go_enter Try.func121, Try.ntmps121
    go_wp2
    go_ret
    exact ⟨rfl, rfl⟩
  · rw [if_neg h]
    go_enter Try.func121, Try.ntmps121
    go_wp2
    go_ret
    exact ⟨rfl, rfl⟩

theorem impl_abs_pos (a : Int) (w : World) (h : 0 ≤ a) : Calls Try.prog 51 #[.int .i64 a] w fun e w' => e = .returned (.int .i64 a) ∧ w = w' := by
  go_enter Try.func51, Try.ntmps51
  go_wp2
  all_goals go_ret
  all_goals exact ⟨rfl, rfl⟩
theorem impl_abs_neg (a : Int) (w : World) (h : 0 ≤ a) (h2 : a ≤ 1000000000000000000) : Calls Try.prog 51 #[.int .i64 (-a)] w fun e w' => e = .returned (.int .i64 a) ∧ w = w' := by
  by_cases h0 : a = 0
  · subst h0
    go_enter Try.func51, Try.ntmps51
    go_wp2
    all_goals go_ret
    all_goals exact ⟨rfl, rfl⟩
  · have h1 : -a < 0 := by omega
    go_enter Try.func51, Try.ntmps51
    go_wp2
    all_goals go_ret
    all_goals exact ⟨by simp, rfl⟩

theorem impl_nearest (a b : Int) (w : World) (hb : 0 < b) (hb2 : b ≤ 1000000000000000000) (ha : -1000000000000000000 ≤ a) (ha2 : a ≤ 1000000000000000000) :
    Calls Try.prog 109 #[.int .i64 a, .int .i64 b] w fun e w' => e = .returned (.int .i64 (divR a b)) ∧ Drew w w' := by
  by_cases h : a < 0
  · rw [divR_neg a b hb h]
    obtain ⟨m, rfl⟩ : ∃ m, a = -m := ⟨-a, by omega⟩
    rw [Int.neg_neg]
    have h0 : 0 < m := by omega
    have h1 : 0 ≤ m / b := Int.ediv_nonneg (by omega) (by omega)
    have h2 : 0 ≤ m % b := Int.emod_nonneg _ (by omega)
    have h3 : m % b < b := Int.emod_lt_of_pos _ hb
    have h4 : m / b ≤ m := by
      apply Int.ediv_le_self _ (by omega)
    have e1 : (-m).tdiv b = -(m / b) := by rw [Int.neg_tdiv, Int.tdiv_eq_ediv_of_nonneg (by omega)]
    have e2 : (-m).tmod b = -(m % b) := by rw [Int.neg_tmod, Int.tmod_eq_emod_of_nonneg (by omega)]
    have d1 : decide (-m < 0) = true := by simpa using h
    have d2 : decide (b < 0) = false := by simp; omega
    clear h
    by_cases h5 : b - m % b ≤ m % b
    all_goals
      simp only [h5, if_true, if_false]
      go_enter Try.func109, Try.ntmps109
      go_wp2
      go_quiet ((first | (go_at_call 51; exact quietE (impl_abs_neg _ _ (by assumption) (by omega))) | (go_at_call 51; exact quietE (impl_abs_pos _ _ (by omega)))))
      go_wp2
      all_goals go_ret
      all_goals exact ⟨congrArg (fun x => Ending.returned (Value.int .i64 x)) (by omega), _, rfl⟩
  · rw [divR_pos a b hb (by omega)]
    have h1 : 0 ≤ a / b := Int.ediv_nonneg (by omega) (by omega)
    have h2 : 0 ≤ a % b := Int.emod_nonneg _ (by omega)
    have h3 : a % b < b := Int.emod_lt_of_pos _ hb
    have h4 : a / b ≤ a := Int.ediv_le_self _ (by omega)
    have d1 : decide (a < 0) = false := by simpa using h
    have d2 : decide (b < 0) = false := by simp; omega
    clear h
    by_cases h5 : b - a % b ≤ a % b
    all_goals
      simp only [h5, if_true, if_false]
      go_enter Try.func109, Try.ntmps109
      go_wp2
      go_quiet ((go_at_call 51; exact quietE (impl_abs_pos _ _ (by omega))))
      go_wp2
      all_goals go_ret
      all_goals exact ⟨rfl, _, rfl⟩
end Go.Proofs.Ytnbodmbagendnaa
namespace Go.Proofs.Ytnbodmbagendnaa
open Go.ChangeShapes Go.WideShapes Go.ChangeAt Go.RowKit Go.Deep Go.Joins
set_option linter.unusedVariables false
set_option maxRecDepth 100000
set_option linter.unusedSimpArgs false
def densS (x : Alloy) : Int × Int := if alloyB x then (divR (8960 * x.copper + 7310 * x.tin + 8000 * x.other) 1000000, 0) else (0, 1)
theorem alloyB_true {x : Alloy} (h : alloyB x = true) : (0 ≤ x.copper ∧ x.copper ≤ 1000000) ∧ (0 ≤ x.tin ∧ x.tin ≤ 1000000) ∧ (0 ≤ x.other ∧ x.other ≤ 1000000) ∧ x.copper + x.tin + x.other = 1000000 := by
  simp only [alloyB, Bool.and_eq_true, decide_eq_true_eq] at h
  exact ⟨inB_true h.1, inB_true h.2.1, inB_true h.2.2.1, h.2.2.2⟩
theorem impl_ValidAlloy_is {b : Bool} (x : Alloy) (w : World) (h : alloyB x = b) :
    Calls Try.prog 151 #[.agg #[.int .i64 x.copper, .int .i64 x.tin, .int .i64 x.other]] w fun e w' => e = .returned (.bool b) ∧ Below w.heap.size w w' := by
  rw [← h]; exact impl_ValidAlloy x w
theorem spec_l13Alloy_is {b : Bool} (x : Alloy) (a : Nat) (w : World) (h : alloyB x = b) (h0 : w.cell? ⟨a, 0, none⟩ = some (.int .i64 x.copper)) (h1 : w.cell? ⟨a, 1, none⟩ = some (.int .i64 x.tin)) (h2 : w.cell? ⟨a, 2, none⟩ = some (.int .i64 x.other)) :
    Calls Try.prog 100 #[.pointer (some ⟨a, 0, none⟩)] w fun e w' => e = .returned (.bool b) ∧ Drew w w' := by
  rw [← h]; exact spec_l13Alloy x a w h0 h1 h2
end Go.Proofs.Ytnbodmbagendnaa
namespace Go.Proofs.Ytnbodmbagendnaa
open Go.ChangeShapes Go.WideShapes Go.ChangeAt Go.RowKit Go.Deep Go.Joins
set_option linter.unusedVariables false
set_option maxRecDepth 100000
set_option linter.unusedSimpArgs false
theorem spec_l13Alloy_at {r : Bool} (x : Alloy) (a o : Nat) (w : World) (h0 : w.cell? ⟨a, o, none⟩ = some (.int .i64 x.copper)) (h1 : w.cell? ⟨a, o + 1, none⟩ = some (.int .i64 x.tin)) (h2 : w.cell? ⟨a, o + 2, none⟩ = some (.int .i64 x.other)) (hr : alloyB x = r) :
    Calls Try.prog 100 #[.pointer (some ⟨a, o, none⟩)] w fun e w' => e = .returned (.bool r) ∧ Drew w w' := by
  subst hr
  unfold alloyB
  cases hA : inB x.copper 0 1000000
  · go_enter Try.func100, Try.ntmps100
    go_wp2_with fail
    go_quiet ((go_at_call 119; exact quietE (l00In_is _ _ _ _ (by assumption))))
    go_wp2_with fail
    go_ret
    exact ⟨rfl, _, rfl⟩
  · cases hB : inB x.tin 0 1000000
    · go_enter Try.func100, Try.ntmps100
      go_wp2_with fail
      go_quiet ((go_at_call 119; exact quietE (l00In_is _ _ _ _ (by assumption))))
      go_wp2_with fail
      go_ret
      exact ⟨rfl, _, rfl⟩
    · cases hC : inB x.other 0 1000000
      · go_enter Try.func100, Try.ntmps100
        go_wp2_with fail
        go_quiet ((go_at_call 119; exact quietE (l00In_is _ _ _ _ (by assumption))))
        go_wp2_with fail
        go_ret
        exact ⟨rfl, _, rfl⟩
      · have a1 := inB_true hA
        have a2 := inB_true hB
        have a3 := inB_true hC
        go_enter Try.func100, Try.ntmps100
        go_wp2_with fail
        go_quiet ((go_at_call 119; exact quietE (l00In_is _ _ _ _ (by assumption))))
        go_wp2_with fail
        go_ret
        exact ⟨by simp [Bool.beq_eq_decide_eq]; try rfl, _, rfl⟩
end Go.Proofs.Ytnbodmbagendnaa
namespace Go.Proofs.Ytnbodmbagendnaa
open Go.ChangeShapes Go.WideShapes Go.ChangeAt Go.RowKit Go.Deep Go.Joins
set_option linter.unusedVariables false
set_option maxRecDepth 100000
set_option linter.unusedSimpArgs false
def ingotB (x : Ingot) : Bool := nameB x.id && (inB x.mass 1 20000000 && alloyB x.alloy)

theorem spec_l13One_is {b : Bool} (x : Ingot) (a o : Nat) (w : World) (h : ingotB x = b) (h0 : w.cell? ⟨a, o, none⟩ = some (.string x.id)) (h1 : w.cell? ⟨a, o + 1, none⟩ = some (.int .i64 x.mass))
    (h2 : w.cell? ⟨a, o + 2, none⟩ = some (.int .i64 x.alloy.copper)) (h3 : w.cell? ⟨a, o + 3, none⟩ = some (.int .i64 x.alloy.tin)) (h4 : w.cell? ⟨a, o + 4, none⟩ = some (.int .i64 x.alloy.other)) (hx : x.ok) :
    Calls Try.prog 149 #[.pointer (some ⟨a, o, none⟩)] w fun e w' => e = .returned (.bool b) ∧ Below w.heap.size w w' := by
  subst h
  have hn := Lib.hid hx.1
  clear hx
  unfold ingotB
  cases hN : nameB x.id
  case false =>
    go_enter Try.func149, Try.ntmps149
    go_wp2_with (first | (go_at_call 110; refine (spec_l01Name_is _ _ hn.out (by assumption)).mono ?_; rintro e w' ⟨rfl, rfl⟩) | (go_at_call 119; refine (l00In_is _ _ _ _ (by assumption)).mono ?_; rintro e w' ⟨rfl, rfl⟩))
    go_ret
    exact ⟨rfl, by (repeat' (first | (with_reducible exact Below.refl _ _) | (with_reducible assumption) | (with_reducible refine below_dn ?_ _) | (with_reducible refine Below.drew ?_) | (with_reducible refine Below.alloc ?_ ?_ _) | (with_reducible refine Below.setCell ?_ ?_ _) | go_size))⟩
  cases hA : inB x.mass 1 20000000
  case false =>
    go_enter Try.func149, Try.ntmps149
    go_wp2_with (first | (go_at_call 110; refine (spec_l01Name_is _ _ hn.out (by assumption)).mono ?_; rintro e w' ⟨rfl, rfl⟩) | (go_at_call 119; refine (l00In_is _ _ _ _ (by assumption)).mono ?_; rintro e w' ⟨rfl, rfl⟩))
    go_ret
    exact ⟨rfl, by (repeat' (first | (with_reducible exact Below.refl _ _) | (with_reducible assumption) | (with_reducible refine below_dn ?_ _) | (with_reducible refine Below.drew ?_) | (with_reducible refine Below.alloc ?_ ?_ _) | (with_reducible refine Below.setCell ?_ ?_ _) | go_size))⟩
  go_enter Try.func149, Try.ntmps149
  go_wp2_with (first | (go_at_call 110; refine (spec_l01Name_is _ _ hn.out (by assumption)).mono ?_; rintro e w' ⟨rfl, rfl⟩) | (go_at_call 119; refine (l00In_is _ _ _ _ (by assumption)).mono ?_; rintro e w' ⟨rfl, rfl⟩))
  refine (spec_l13Alloy_at x.alloy _ _ _ h2 h3 h4 rfl).mono ?_; rintro e w1 ⟨rfl, n, rfl⟩
  go_wp2_with fail
  go_ret
  exact ⟨by simp, by (repeat' (first | (with_reducible exact Below.refl _ _) | (with_reducible assumption) | (with_reducible refine below_dn ?_ _) | (with_reducible refine Below.drew ?_) | (with_reducible refine Below.alloc ?_ ?_ _) | (with_reducible refine Below.setCell ?_ ?_ _) | go_size))⟩

theorem impl_validIngot_is {b : Bool} (x : Ingot) (w : World) (h : ingotB x = b) (hx : x.ok) :
    Calls Try.prog 126 #[.agg #[.string x.id, .int .i64 x.mass, .int .i64 x.alloy.copper, .int .i64 x.alloy.tin, .int .i64 x.alloy.other]] w fun e w' => e = .returned (.bool b) ∧ Below w.heap.size w w' := by
  subst h
  have hn := Lib.hid hx.1
  clear hx
  unfold ingotB
  cases hN : nameB x.id
  case false =>
    go_enter Try.func126, Try.ntmps126
    go_wp2_with fail
    refine (impl_IsName_is _ _ hn.out (by assumption)).mono ?_; rintro e w1 ⟨rfl, b1⟩
    go_wp2_with fail
    go_ret
    exact ⟨rfl, Below.trans (by (repeat' (first | (with_reducible exact Below.refl _ _) | (with_reducible assumption) | (with_reducible refine below_dn ?_ _) | (with_reducible refine Below.drew ?_) | (with_reducible refine Below.alloc ?_ ?_ _) | (with_reducible refine Below.setCell ?_ ?_ _) | go_size))) (b1.mono (by simp))⟩
  cases hA : inB x.mass 1 20000000
  case false =>
    go_enter Try.func126, Try.ntmps126
    go_wp2_with fail
    refine (impl_IsName_is _ _ hn.out (by assumption)).mono ?_; rintro e w1 ⟨rfl, b1⟩
    obtain ⟨hc, hf⟩ := bcell b1
    go_wp2_with (go_at_call 56; refine (within_is _ _ _ _ (by assumption)).mono ?_; rintro e w' ⟨rfl, rfl⟩)
    go_ret
    exact ⟨rfl, Below.trans (by (repeat' (first | (with_reducible exact Below.refl _ _) | (with_reducible assumption) | (with_reducible refine below_dn ?_ _) | (with_reducible refine Below.drew ?_) | (with_reducible refine Below.alloc ?_ ?_ _) | (with_reducible refine Below.setCell ?_ ?_ _) | go_size))) (b1.mono (by simp))⟩
  go_enter Try.func126, Try.ntmps126
  go_wp2_with fail
  refine (impl_IsName_is _ _ hn.out (by assumption)).mono ?_; rintro e w1 ⟨rfl, b1⟩
  obtain ⟨hc, hf⟩ := bcell b1
  go_wp2_with (go_at_call 56; refine (within_is _ _ _ _ (by assumption)).mono ?_; rintro e w' ⟨rfl, rfl⟩)
  clear hc hf
  refine (impl_ValidAlloy x.alloy _).mono ?_; rintro e w2 ⟨rfl, b2⟩
  have B2 := bnext b1 b2; clear b1 b2
  go_wp2_with fail
  go_ret
  exact ⟨by simp, Below.trans (by (repeat' (first | (with_reducible exact Below.refl _ _) | (with_reducible assumption) | (with_reducible refine below_dn ?_ _) | (with_reducible refine Below.drew ?_) | (with_reducible refine Below.alloc ?_ ?_ _) | (with_reducible refine Below.setCell ?_ ?_ _) | go_size))) (B2.mono (by simp))⟩
end Go.Proofs.Ytnbodmbagendnaa
namespace Go.Proofs.Ytnbodmbagendnaa
open Go.ChangeShapes Go.WideShapes Go.ChangeAt Go.RowKit Go.Deep Go.Joins
set_option linter.unusedVariables false
set_option maxRecDepth 100000
set_option linter.unusedSimpArgs false
def okC (n : Nat) (c : Int) : Bool := inB c 0 ((n : Int) - 1)
def ltC (a b : Int) : Bool := decide (a < b)
def choiceB (n : Nat) (cs : List Int) : Bool := allK (stepB (okC n) ltC cs) cs.length
theorem okC_true {n : Nat} {c : Int} (h : okC n c = true) : 0 ≤ c ∧ c ≤ (n : Int) - 1 := inB_true h
theorem choice_rises {n : Nat} {cs : List Int} (h : choiceB n cs = true) (k : Nat) (hk : k < cs.length) : okC n cs[k] = true := by
  have := allK_true h k hk
  unfold stepB at this
  rw [List.getElem?_eq_getElem hk] at this
  simp only [Bool.and_eq_true] at this
  exact this.1
theorem choice_less {n : Nat} {cs : List Int} (h : choiceB n cs = true) (k : Nat) (hk : k + 1 < cs.length) : cs[k] < cs[k + 1] := by
  have h1 := allK_true h (k + 1) hk
  rw [stepB_pos hk (by omega) (choice_rises h (k + 1) hk)] at h1
  simpa [ltC] using h1
theorem choice_ge {n : Nat} {cs : List Int} (h : choiceB n cs = true) : ∀ (k : Nat) (hk : k < cs.length), (k : Int) ≤ cs[k]
  | 0, hk => by have := okC_true (choice_rises h 0 hk); omega
  | k + 1, hk => by
    have h1 := choice_ge h k (by omega)
    have h2 := choice_less h k hk
    omega
theorem choice_len {n : Nat} {cs : List Int} (h : choiceB n cs = true) : cs.length ≤ n := by
  rcases Nat.eq_zero_or_pos cs.length with h0 | h0
  · omega
  · have h1 := choice_ge h (cs.length - 1) (by omega)
    have h2 := okC_true (choice_rises h (cs.length - 1) (by omega))
    omega
theorem choice_at {n : Nat} {cs : List Int} (h : choiceB n cs = true) (k : Nat) (hk : k < cs.length) : ∃ j : Nat, cs[k] = (j : Int) ∧ j < n := by
  have := okC_true (choice_rises h k hk)
  exact ⟨cs[k].toNat, by omega, by omega⟩

/-- a sum over chosen ingots -/
def sumK (f : Ingot → Int) (xs : List Ingot) (cs : List Int) : Int := (cs.map fun c => (xs[c.toNat]?).elim 0 f).sum
theorem sumK_succ (f : Ingot → Int) (xs : List Ingot) (cs : List Int) (k : Nat) (hk : k < cs.length) (j : Nat) (hj : cs[k] = (j : Int)) (hl : j < xs.length) : sumK f xs (cs.take (k + 1)) = sumK f xs (cs.take k) + f xs[j] := by
  unfold sumK
  rw [List.take_succ_eq_append_getElem hk, List.map_append, List.sum_append, hj]
  simp [List.getElem?_eq_getElem hl]
theorem sumK_bd (f : Ingot → Int) (xs : List Ingot) (m : Int) (hm : 0 ≤ m) (hf : ∀ x ∈ xs, 0 ≤ f x ∧ f x ≤ m) : ∀ (cs : List Int), 0 ≤ sumK f xs cs ∧ sumK f xs cs ≤ cs.length * m
  | [] => by simp [sumK]
  | c :: cs => by
    have ih := sumK_bd f xs m hm hf cs
    have h1 : 0 ≤ (xs[c.toNat]?).elim 0 f ∧ (xs[c.toNat]?).elim 0 f ≤ m := by
      cases h : xs[c.toNat]? with
      | none => simp [hm]
      | some x => exact hf x (List.mem_of_getElem? h)
    have e : sumK f xs (c :: cs) = (xs[c.toNat]?).elim 0 f + sumK f xs cs := by simp [sumK]
    have e2 : (((c :: cs).length : Nat) : Int) * m = cs.length * m + m := by
      rw [List.length_cons]; push_cast; rw [Int.add_mul]; omega
    rw [e, e2]; omega
def massF (x : Ingot) : Int := x.mass
def tinF (x : Ingot) : Int := x.mass * x.alloy.tin
def otherF (x : Ingot) : Int := x.mass * x.alloy.other
theorem part_bd (m t : Int) (h1 : 1 ≤ m ∧ m ≤ 20000000) (h2 : 0 ≤ t ∧ t ≤ 1000000) : 0 ≤ m * t ∧ m * t ≤ 20000000000000 := by
  refine ⟨Int.mul_nonneg (by omega) (by omega), ?_⟩
  have := Int.mul_le_mul h1.2 h2.2 h2.1 (by omega)
  omega
theorem ingotB_nums {x : Ingot} (h : ingotB x = true) : (1 ≤ x.mass ∧ x.mass ≤ 20000000) ∧ (0 ≤ x.alloy.tin ∧ x.alloy.tin ≤ 1000000) ∧ (0 ≤ x.alloy.other ∧ x.alloy.other ≤ 1000000) := by
  simp only [ingotB, Bool.and_eq_true, alloyB] at h
  exact ⟨inB_true h.2.1, inB_true h.2.2.2.1, inB_true h.2.2.2.2.1⟩
theorem sum_len {cs : List Int} {k : Nat} (hc : cs.length ≤ 16) (b m S : Int) (hS : S ≤ ((cs.take k).length : Nat) * m) (hm : 0 ≤ m) (hb : 16 * m ≤ b) : S ≤ b := by
  have h1 : ((cs.take k).length : Int) ≤ 16 := by have := List.length_take_le k cs; have : (cs.take k).length ≤ cs.length := by rw [List.length_take]; omega
                                                  omega
  have h2 : ((cs.take k).length : Int) * m ≤ 16 * m := Int.mul_le_mul_of_nonneg_right h1 hm
  omega
theorem massF_bd {xs : List Ingot} (hv : ∀ x ∈ xs, ingotB x = true) {cs : List Int} (hc : cs.length ≤ 16) (k : Nat) : 0 ≤ sumK massF xs (cs.take k) ∧ sumK massF xs (cs.take k) ≤ 320000000 := by
  have h := sumK_bd massF xs 20000000 (by omega) (fun x hx => by have := (ingotB_nums (hv x hx)).1; unfold massF; omega) (cs.take k)
  exact ⟨h.1, sum_len hc _ _ _ h.2 (by omega) (by omega)⟩
theorem tinF_bd {xs : List Ingot} (hv : ∀ x ∈ xs, ingotB x = true) {cs : List Int} (hc : cs.length ≤ 16) (k : Nat) : 0 ≤ sumK tinF xs (cs.take k) ∧ sumK tinF xs (cs.take k) ≤ 320000000000000 := by
  have h := sumK_bd tinF xs 20000000000000 (by omega) (fun x hx => by have := ingotB_nums (hv x hx); exact part_bd _ _ this.1 this.2.1) (cs.take k)
  exact ⟨h.1, sum_len hc _ _ _ h.2 (by omega) (by omega)⟩
theorem otherF_bd {xs : List Ingot} (hv : ∀ x ∈ xs, ingotB x = true) {cs : List Int} (hc : cs.length ≤ 16) (k : Nat) : 0 ≤ sumK otherF xs (cs.take k) ∧ sumK otherF xs (cs.take k) ≤ 320000000000000 := by
  have h := sumK_bd otherF xs 20000000000000 (by omega) (fun x hx => by have := ingotB_nums (hv x hx); exact part_bd _ _ this.1 this.2.2) (cs.take k)
  exact ⟨h.1, sum_len hc _ _ _ h.2 (by omega) (by omega)⟩
theorem take_all {α : Type} {cs : List α} {k : Nat} (h : cs.length ≤ k) : cs.take k = cs := List.take_of_length_le h
/-- the mass of a choice that is not empty is not 0 -/
theorem mass_pos {xs : List Ingot} (hv : ∀ x ∈ xs, ingotB x = true) {cs : List Int} (hc : choiceB xs.length cs = true) (h0 : 0 < cs.length) : 1 ≤ sumK massF xs cs := by
  obtain ⟨j, hj, hl⟩ := choice_at hc 0 h0
  have hs := sumK_succ massF xs cs 0 h0 j hj hl
  have h1 := (ingotB_nums (hv xs[j] (List.getElem_mem hl))).1
  have hr : sumK massF xs cs = sumK massF xs (cs.take 1) + sumK massF xs (cs.drop 1) := by
    unfold sumK; rw [← List.sum_append, ← List.map_append, List.take_append_drop]
  have h2 := (sumK_bd massF xs 20000000 (by omega) (fun x hx => by have := (ingotB_nums (hv x hx)).1; unfold massF; omega) (cs.drop 1)).1
  have e0 : sumK massF xs (cs.take 0) = 0 := rfl
  have e1 : massF xs[j] = xs[j].mass := rfl
  rw [hr, hs, e0, e1]; omega

def fitsB (d : Demand) (m t o : Int) : Bool := inB m d.least d.most && (inB t (d.minTin * m) (d.maxTin * m) && decide (o ≤ d.other * m))
end Go.Proofs.Ytnbodmbagendnaa
