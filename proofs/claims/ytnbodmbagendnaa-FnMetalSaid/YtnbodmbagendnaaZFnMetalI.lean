/- Contracts and plain facts, joined: HIngot. -/
import Derived.Test.YtnbodmbagendnaaRows
import Derived.Test.YtnbodmbagendnaaZFnMetalC
import Derived.Test.YtnbodmbagendnaaZFnMetalG
import Derived.Test.YtnbodmbagendnaaZFnMetalH
namespace Go.Proofs.Ytnbodmbagendnaa
open Go.ChangeShapes Go.WideShapes Go.ChangeAt Go.RowKit Go.Deep Go.Joins
set_option linter.unusedVariables false
set_option maxRecDepth 100000
set_option linter.unusedSimpArgs false
theorem Ingot_len (xs : List Ingot) : (xs.flatMap Ingot.put).length = xs.length * 5 := flat_len xs (fun _ _ => rfl)
theorem Ingot_get0 (xs : List Ingot) (k : Nat) (h : k < xs.length) : (xs.flatMap Ingot.put)[k * 5 + 0]? = some (.string xs[k].id) := by
  rw [flat_get (f := Ingot.put) (s := 5) xs (fun _ _ => rfl) (j := 0) (by omega) k, List.getElem?_eq_getElem h]
  rfl
theorem Ingot_get1 (xs : List Ingot) (k : Nat) (h : k < xs.length) : (xs.flatMap Ingot.put)[k * 5 + 1]? = some (.int .i64 xs[k].mass) := by
  rw [flat_get (f := Ingot.put) (s := 5) xs (fun _ _ => rfl) (j := 1) (by omega) k, List.getElem?_eq_getElem h]
  rfl
theorem Ingot_get2 (xs : List Ingot) (k : Nat) (h : k < xs.length) : (xs.flatMap Ingot.put)[k * 5 + 2]? = some (.int .i64 xs[k].alloy.copper) := by
  rw [flat_get (f := Ingot.put) (s := 5) xs (fun _ _ => rfl) (j := 2) (by omega) k, List.getElem?_eq_getElem h]
  rfl
theorem Ingot_get3 (xs : List Ingot) (k : Nat) (h : k < xs.length) : (xs.flatMap Ingot.put)[k * 5 + 3]? = some (.int .i64 xs[k].alloy.tin) := by
  rw [flat_get (f := Ingot.put) (s := 5) xs (fun _ _ => rfl) (j := 3) (by omega) k, List.getElem?_eq_getElem h]
  rfl
theorem Ingot_get4 (xs : List Ingot) (k : Nat) (h : k < xs.length) : (xs.flatMap Ingot.put)[k * 5 + 4]? = some (.int .i64 xs[k].alloy.other) := by
  rw [flat_get (f := Ingot.put) (s := 5) xs (fun _ _ => rfl) (j := 4) (by omega) k, List.getElem?_eq_getElem h]
  rfl
theorem Ingot_info : (Try.prog.info? 85).map (fun i => (i.zero, i.size, i.bytes)) = some (some (.agg #[.string ByteArray.empty, .int .i64 0, .int .i64 0, .int .i64 0, .int .i64 0]), 5, 48) := by kernel_rfl

theorem toIngot (x : Ingot) (w : World) : Calls Try.prog 74 #[.agg #[.string x.id, .int .i64 x.mass, .int .i64 x.alloy.copper, .int .i64 x.alloy.tin, .int .i64 x.alloy.other]] w fun e w' => e = .returned (.agg #[.string x.id, .int .i64 x.mass, .int .i64 x.alloy.copper, .int .i64 x.alloy.tin, .int .i64 x.alloy.other]) ∧ Below w.heap.size w w' := by
  go_enter Try.func74, Try.ntmps74
  go_wp2_with fail
  refine (toAlloy x.alloy _).mono ?_; rintro e w1 ⟨rfl, b1⟩
  have hz := b1.size
  simp only [World.size_alloc] at hz
  have hB : Below w.heap.size w w1 := Below.trans (((Below.refl _ _).alloc (Nat.le_refl _) _ |>.alloc (by simp) _ |>.alloc (by simp; omega) _)) (b1.mono (by simp; omega))
  obtain ⟨hc, hf⟩ := bcell b1
  clear b1
  have c0 : w1.cell? ⟨w.heap.size + 1, 0, none⟩ = some (.string ByteArray.empty) := (hc _ _ (by simp)).trans (by simp [go_sem]; try rfl)
  have d0 : w1.cell? ⟨w.heap.size + 1 + 1, 0, none⟩ = some (.string x.id) := (hc _ _ (by simp)).trans (by simp [go_sem])
  have e0 : w1.frozen? ⟨w.heap.size + 1, 0, none⟩ = false := (hf _ _ (by simp)).trans (by simp [go_sem])
  have f0 : w1.frozen? ⟨w.heap.size + 1 + 1, 0, none⟩ = false := (hf _ _ (by simp)).trans (by simp [go_sem])
  have c1 : w1.cell? ⟨w.heap.size + 1, 1, none⟩ = some (.int .i64 0) := (hc _ _ (by simp)).trans (by simp [go_sem]; try rfl)
  have d1 : w1.cell? ⟨w.heap.size + 1 + 1, 1, none⟩ = some (.int .i64 x.mass) := (hc _ _ (by simp)).trans (by simp [go_sem])
  have e1 : w1.frozen? ⟨w.heap.size + 1, 1, none⟩ = false := (hf _ _ (by simp)).trans (by simp [go_sem])
  have f1 : w1.frozen? ⟨w.heap.size + 1 + 1, 1, none⟩ = false := (hf _ _ (by simp)).trans (by simp [go_sem])
  have c2 : w1.cell? ⟨w.heap.size + 1, 2, none⟩ = some (.int .i64 0) := (hc _ _ (by simp)).trans (by simp [go_sem]; try rfl)
  have d2 : w1.cell? ⟨w.heap.size + 1 + 1, 2, none⟩ = some (.int .i64 0) := (hc _ _ (by simp)).trans (by simp [go_sem])
  have e2 : w1.frozen? ⟨w.heap.size + 1, 2, none⟩ = false := (hf _ _ (by simp)).trans (by simp [go_sem])
  have f2 : w1.frozen? ⟨w.heap.size + 1 + 1, 2, none⟩ = false := (hf _ _ (by simp)).trans (by simp [go_sem])
  have c3 : w1.cell? ⟨w.heap.size + 1, 3, none⟩ = some (.int .i64 0) := (hc _ _ (by simp)).trans (by simp [go_sem]; try rfl)
  have d3 : w1.cell? ⟨w.heap.size + 1 + 1, 3, none⟩ = some (.int .i64 0) := (hc _ _ (by simp)).trans (by simp [go_sem])
  have e3 : w1.frozen? ⟨w.heap.size + 1, 3, none⟩ = false := (hf _ _ (by simp)).trans (by simp [go_sem])
  have f3 : w1.frozen? ⟨w.heap.size + 1 + 1, 3, none⟩ = false := (hf _ _ (by simp)).trans (by simp [go_sem])
  have c4 : w1.cell? ⟨w.heap.size + 1, 4, none⟩ = some (.int .i64 0) := (hc _ _ (by simp)).trans (by simp [go_sem]; try rfl)
  have d4 : w1.cell? ⟨w.heap.size + 1 + 1, 4, none⟩ = some (.int .i64 0) := (hc _ _ (by simp)).trans (by simp [go_sem])
  have e4 : w1.frozen? ⟨w.heap.size + 1, 4, none⟩ = false := (hf _ _ (by simp)).trans (by simp [go_sem])
  have f4 : w1.frozen? ⟨w.heap.size + 1 + 1, 4, none⟩ = false := (hf _ _ (by simp)).trans (by simp [go_sem])
  clear hc hf
  go_wp2_with fail
  refine bodyPost_ret (v := .agg #[.string x.id, .int .i64 x.mass, .int .i64 x.alloy.copper, .int .i64 x.alloy.tin, .int .i64 x.alloy.other]) (by simp [results, Try.results74, go_sem, c0, c1, c2, c3, c4, d0, d1, d2, d3, d4]) rfl ⟨rfl, by (repeat' (first | (with_reducible exact Below.refl _ _) | (with_reducible assumption) | (with_reducible refine below_dn ?_ _) | (with_reducible refine Below.drew ?_) | (with_reducible refine Below.alloc ?_ ?_ _) | (with_reducible refine Below.setCell ?_ ?_ _) | go_size))⟩


theorem toIngotS (w : World) (v : Value) (xs : List Ingot) (h : Rd w.heap.size w v 5 xs.length (xs.flatMap Ingot.put)) (hn : xs.length ≤ 1048576) :
    Calls Try.prog 27 #[v] w fun e w' => ∃ g, e = .returned (.slice (some ⟨g, 0, none⟩) xs.length xs.length) ∧ w.heap.size ≤ g ∧ Own w' g 85 (xs.flatMap Ingot.put) ∧ Below w.heap.size w w' := by
  obtain ⟨hL, ao, cap, rfl, hcap, hmax, hnil, hsome⟩ := h
  obtain ⟨i0, hi, hz0, hz1, hz2⟩ := info_parts Ingot_info
  go_enter Try.func27, Try.ntmps27
  go_wp2_with (at_make; refine wpList_make_blk _ rfl _ _ 60 rfl 85 i0 (.agg #[.string ByteArray.empty, .int .i64 0, .int .i64 0, .int .i64 0, .int .i64 0]) 5 48 Try.underlying60 hi hz0 hz1 hz2 _ _ _ _ xs.length rfl rfl rfl rfl (by omega) (by unfold maxLen; omega) ?_; intro w1 ho hb hs)
  have hml := made_len (Value.agg #[.string ByteArray.empty, .int .i64 0, .int .i64 0, .int .i64 0, .int .i64 0]).cells (xs.length * 5)
  go_loopw [4] (fun i wr => ∃ (k : Nat) (U : List Value), k ≤ xs.length ∧ i = .int .i64 k ∧ U.length = (xs.length - k) * 5 ∧ Own wr w.heap.size 85 ((xs.take k).flatMap Ingot.put ++ U) ∧ Below w.heap.size w wr) (fun i _ => xs.length - (intOf i).toNat)
  case atStart => exact ⟨0, _, Nat.zero_le _, rfl, by rw [Nat.sub_zero]; exact hml, by simpa using ho, hb⟩
  case round =>
    clear ho hb hs hml hi hz0 hz1 hz2
    obtain ⟨k, U, hk, rfl, hU, ho, hb⟩ := hrel
    by_cases hlt : k < xs.length
    · obtain ⟨b, off, rfl, hbB, hc⟩ := hsome (by omega)
      obtain ⟨t0, t1, t2, t3, t4, U, rfl, hU2⟩ := cons5 hU (by omega)
      have hA : ((xs.take k).flatMap Ingot.put).length = k * 5 := by rw [Ingot_len, List.length_take]; congr 1; omega
      have c0 : wr.cell? ⟨b, off + k * 5, none⟩ = some (.string xs[k].id) := by
        rw [show off + k * 5 = off + (k * 5 + 0) from by omega, hb.cell (p := ⟨b, off + (k * 5 + 0), none⟩) hbB, hc (k * 5 + 0) (by omega), Ingot_get0 xs k hlt]
      have c1 : wr.cell? ⟨b, off + k * 5 + 1, none⟩ = some (.int .i64 xs[k].mass) := by
        rw [show off + k * 5 + 1 = off + (k * 5 + 1) from by omega, hb.cell (p := ⟨b, off + (k * 5 + 1), none⟩) hbB, hc (k * 5 + 1) (by omega), Ingot_get1 xs k hlt]
      have c2 : wr.cell? ⟨b, off + k * 5 + 2, none⟩ = some (.int .i64 xs[k].alloy.copper) := by
        rw [show off + k * 5 + 2 = off + (k * 5 + 2) from by omega, hb.cell (p := ⟨b, off + (k * 5 + 2), none⟩) hbB, hc (k * 5 + 2) (by omega), Ingot_get2 xs k hlt]
      have c3 : wr.cell? ⟨b, off + k * 5 + 3, none⟩ = some (.int .i64 xs[k].alloy.tin) := by
        rw [show off + k * 5 + 3 = off + (k * 5 + 3) from by omega, hb.cell (p := ⟨b, off + (k * 5 + 3), none⟩) hbB, hc (k * 5 + 3) (by omega), Ingot_get3 xs k hlt]
      have c4 : wr.cell? ⟨b, off + k * 5 + 4, none⟩ = some (.int .i64 xs[k].alloy.other) := by
        rw [show off + k * 5 + 4 = off + (k * 5 + 4) from by omega, hb.cell (p := ⟨b, off + (k * 5 + 4), none⟩) hbB, hc (k * 5 + 4) (by omega), Ingot_get4 xs k hlt]
      have HB := Lib.hid hb
      have HO := Lib.hid ho
      have HC := Lib.hid hc
      have HA := Lib.hid hA
      have HU := Lib.hid hU2
      clear hc ho hb hA hsome hnil hU hU2
      go_wp2_with fail
      refine (toIngot xs[k] _).mono ?_; rintro e w1 ⟨rfl, b1⟩
      have ho1 := HO.out.below b1 HO.out.lt
      have hA := HA.out
      have d0 : w1.cell? ⟨w.heap.size, k * 5, none⟩ = some t0 := by
        rw [ho1.cell, List.getElem?_append_right (by omega), hA]
        simp
      have d1 : w1.cell? ⟨w.heap.size, k * 5 + 1, none⟩ = some t1 := by
        rw [ho1.cell, List.getElem?_append_right (by omega), hA]
        simp
      have d2 : w1.cell? ⟨w.heap.size, k * 5 + 2, none⟩ = some t2 := by
        rw [ho1.cell, List.getElem?_append_right (by omega), hA]
        simp
      have d3 : w1.cell? ⟨w.heap.size, k * 5 + 3, none⟩ = some t3 := by
        rw [ho1.cell, List.getElem?_append_right (by omega), hA]
        simp
      have d4 : w1.cell? ⟨w.heap.size, k * 5 + 4, none⟩ = some t4 := by
        rw [ho1.cell, List.getElem?_append_right (by omega), hA]
        simp
      have f0 := ho1.free (k * 5)
      have f1 := ho1.free (k * 5 + 1)
      have f2 := ho1.free (k * 5 + 2)
      have f3 := ho1.free (k * 5 + 3)
      have f4 := ho1.free (k * 5 + 4)
      have o1 := (((((ho1.set (k * 5) (.string xs[k].id)).set (k * 5 + 1) (.int .i64 xs[k].mass)).set (k * 5 + 2) (.int .i64 xs[k].alloy.copper)).set (k * 5 + 3) (.int .i64 xs[k].alloy.tin)).set (k * 5 + 4) (.int .i64 xs[k].alloy.other))
      rw [set5 _ _ _ _ _ _ _ _ _ _ _ _ _ hA] at o1
      have hb := HB.out
      have O1 := Lib.hid o1
      have HB1 := Lib.hid (Below.setCell (Below.setCell (Below.setCell (Below.setCell (Below.setCell (hb.trans (b1.mono hb.size)) (p := ⟨w.heap.size, k * 5, none⟩) (Nat.le_refl _) (.string xs[k].id)) (p := ⟨w.heap.size, k * 5 + 1, none⟩) (Nat.le_refl _) (.int .i64 xs[k].mass)) (p := ⟨w.heap.size, k * 5 + 2, none⟩) (Nat.le_refl _) (.int .i64 xs[k].alloy.copper)) (p := ⟨w.heap.size, k * 5 + 3, none⟩) (Nat.le_refl _) (.int .i64 xs[k].alloy.tin)) (p := ⟨w.heap.size, k * 5 + 4, none⟩) (Nat.le_refl _) (.int .i64 xs[k].alloy.other))
      clear ho1 o1 hA hb b1 HO HB c0 c1 c2 c3 c4
      go_wp2_with fail
      go_roundw
      case rel => exact ⟨k + 1, U, by omega, by go_num, by have := HU.out; omega, by rw [set_snoc Ingot.put xs k hlt]; exact O1.out, HB1.out⟩
      case measure => simp [intOf]; omega
    · have e : Hid (k = xs.length) := (by omega : k = xs.length)
      have HO := Lib.hid ho
      clear ho
      go_wp2
      go_ret
      refine ⟨w.heap.size, rfl, Nat.le_refl _, ?_, hb⟩
      have ho := HO.out
      obtain rfl := e.out
      have : U = [] := List.eq_nil_of_length_eq_zero (by rw [hU]; omega)
      subst this
      simpa using ho

theorem eqIngot (x : Ingot) (w : World) : Calls Try.prog 87 #[.agg #[.string x.id, .int .i64 x.mass, .int .i64 x.alloy.copper, .int .i64 x.alloy.tin, .int .i64 x.alloy.other], .agg #[.string x.id, .int .i64 x.mass, .int .i64 x.alloy.copper, .int .i64 x.alloy.tin, .int .i64 x.alloy.other]] w fun e w' => e = .returned (.bool true) ∧ Below w.heap.size w w' := by
  go_enter Try.func87, Try.ntmps87
  repeat (go_wp2_with fail; go_quiet (fail))
  go_wp2_with fail
  refine (eqAlloy x.alloy _).mono ?_; rintro e w1 ⟨rfl, b1⟩
  go_wp2_with fail
  go_ret
  exact ⟨rfl, Below.trans (by (repeat' (first | (with_reducible exact Below.refl _ _) | (with_reducible assumption) | (with_reducible refine below_dn ?_ _) | (with_reducible refine Below.drew ?_) | (with_reducible refine Below.alloc ?_ ?_ _) | (with_reducible refine Below.setCell ?_ ?_ _) | go_size))) (b1.mono (by simp; try omega))⟩
theorem eqIngotS (w : World) (v1 v2 : Value) (xs : List Ingot) (h1 : Rd w.heap.size w v1 5 xs.length (xs.flatMap Ingot.put)) (h2 : Rd w.heap.size w v2 5 xs.length (xs.flatMap Ingot.put)) (hn : xs.length ≤ 1048576) :
    Calls Try.prog 32 #[v1, v2] w fun e w' => e = .returned (.bool true) ∧ Below w.heap.size w w' := by
  obtain ⟨hL, ao, cap, rfl, hcap, hmax, hnil, hsome⟩ := h1
  obtain ⟨hL2, ao2, cap2, rfl, hcap2, hmax2, hnil2, hsome2⟩ := h2
  go_enter Try.func32, Try.ntmps32
  go_wp2
  go_loopw [5] (fun i wr => ∃ (k : Nat), k ≤ xs.length ∧ i = .int .i64 k ∧ Below w.heap.size w wr) (fun i _ => xs.length - (intOf i).toNat)
  case atStart => exact ⟨0, Nat.zero_le _, rfl, Below.refl _ _⟩
  case round =>
    obtain ⟨k, hk, rfl, hb⟩ := hrel
    by_cases hlt : k < xs.length
    · obtain ⟨b, off, rfl, hbB, hc⟩ := hsome (by omega)
      obtain ⟨b2, off2, rfl, hbB2, hc2⟩ := hsome2 (by omega)
      have c0 : wr.cell? ⟨b, off + k * 5, none⟩ = some (.string xs[k].id) := by
        rw [show off + k * 5 = off + (k * 5 + 0) from by omega, hb.cell (p := ⟨b, off + (k * 5 + 0), none⟩) hbB, hc (k * 5 + 0) (by omega), Ingot_get0 xs k hlt]
      have c1 : wr.cell? ⟨b, off + k * 5 + 1, none⟩ = some (.int .i64 xs[k].mass) := by
        rw [show off + k * 5 + 1 = off + (k * 5 + 1) from by omega, hb.cell (p := ⟨b, off + (k * 5 + 1), none⟩) hbB, hc (k * 5 + 1) (by omega), Ingot_get1 xs k hlt]
      have c2 : wr.cell? ⟨b, off + k * 5 + 2, none⟩ = some (.int .i64 xs[k].alloy.copper) := by
        rw [show off + k * 5 + 2 = off + (k * 5 + 2) from by omega, hb.cell (p := ⟨b, off + (k * 5 + 2), none⟩) hbB, hc (k * 5 + 2) (by omega), Ingot_get2 xs k hlt]
      have c3 : wr.cell? ⟨b, off + k * 5 + 3, none⟩ = some (.int .i64 xs[k].alloy.tin) := by
        rw [show off + k * 5 + 3 = off + (k * 5 + 3) from by omega, hb.cell (p := ⟨b, off + (k * 5 + 3), none⟩) hbB, hc (k * 5 + 3) (by omega), Ingot_get3 xs k hlt]
      have c4 : wr.cell? ⟨b, off + k * 5 + 4, none⟩ = some (.int .i64 xs[k].alloy.other) := by
        rw [show off + k * 5 + 4 = off + (k * 5 + 4) from by omega, hb.cell (p := ⟨b, off + (k * 5 + 4), none⟩) hbB, hc (k * 5 + 4) (by omega), Ingot_get4 xs k hlt]
      have d0 : wr.cell? ⟨b2, off2 + k * 5, none⟩ = some (.string xs[k].id) := by
        rw [show off2 + k * 5 = off2 + (k * 5 + 0) from by omega, hb.cell (p := ⟨b2, off2 + (k * 5 + 0), none⟩) hbB2, hc2 (k * 5 + 0) (by omega), Ingot_get0 xs k hlt]
      have d1 : wr.cell? ⟨b2, off2 + k * 5 + 1, none⟩ = some (.int .i64 xs[k].mass) := by
        rw [show off2 + k * 5 + 1 = off2 + (k * 5 + 1) from by omega, hb.cell (p := ⟨b2, off2 + (k * 5 + 1), none⟩) hbB2, hc2 (k * 5 + 1) (by omega), Ingot_get1 xs k hlt]
      have d2 : wr.cell? ⟨b2, off2 + k * 5 + 2, none⟩ = some (.int .i64 xs[k].alloy.copper) := by
        rw [show off2 + k * 5 + 2 = off2 + (k * 5 + 2) from by omega, hb.cell (p := ⟨b2, off2 + (k * 5 + 2), none⟩) hbB2, hc2 (k * 5 + 2) (by omega), Ingot_get2 xs k hlt]
      have d3 : wr.cell? ⟨b2, off2 + k * 5 + 3, none⟩ = some (.int .i64 xs[k].alloy.tin) := by
        rw [show off2 + k * 5 + 3 = off2 + (k * 5 + 3) from by omega, hb.cell (p := ⟨b2, off2 + (k * 5 + 3), none⟩) hbB2, hc2 (k * 5 + 3) (by omega), Ingot_get3 xs k hlt]
      have d4 : wr.cell? ⟨b2, off2 + k * 5 + 4, none⟩ = some (.int .i64 xs[k].alloy.other) := by
        rw [show off2 + k * 5 + 4 = off2 + (k * 5 + 4) from by omega, hb.cell (p := ⟨b2, off2 + (k * 5 + 4), none⟩) hbB2, hc2 (k * 5 + 4) (by omega), Ingot_get4 xs k hlt]
      have HB := Lib.hid hb
      clear hc hc2 hsome hsome2 hnil hnil2 hb
      go_wp2_with fail
      have hbr : b < wr.heap.size := Nat.lt_of_lt_of_le hbB HB.out.size
      have hbr2 : b2 < wr.heap.size := Nat.lt_of_lt_of_le hbB2 HB.out.size
      refine wp_region_above (by kernel_rfl) (by kernel_rfl) ?_
      repeat (go_big_quiet_step ((go_at_call 87; exact aboveC (eqIngot xs[k] _))))
      refine wpQuiet_nil ?_
      intro w1 b1
      have HB1 := Lib.hid (HB.out.trans (b1.mono HB.out.size)); clear b1 HB
      go_wp2_with fail
      go_roundw
      case rel => exact ⟨k + 1, by omega, by go_num, HB1.out⟩
      case measure => simp [intOf]; omega
    · go_wp2
      go_ret
      exact ⟨rfl, hb⟩


theorem szIngot (x : Ingot) (left : Int) (w : World) (h0 : 0 ≤ left) (h1 : left ≤ 1048576) (hx : x.id.size ≤ maxLen) : Calls Try.prog 66 #[.agg #[.string x.id, .int .i64 x.mass, .int .i64 x.alloy.copper, .int .i64 x.alloy.tin, .int .i64 x.alloy.other], .int .i64 left] w fun e w' => e = .returned (.int .i64 (szR left x.id.size)) ∧ Below w.heap.size w w' := by
  unfold maxLen at hx
  by_cases h : (x.id.size : Int) ≤ left
  · have e : Hid (szR left x.id.size = left - x.id.size) := (if_pos h : szR left x.id.size = left - x.id.size)
    go_enter Try.func66, Try.ntmps66
    go_wp2
    go_ret
    exact ⟨by rw [e.out]; rfl, by (repeat' (first | (with_reducible exact Below.refl _ _) | (with_reducible assumption) | (with_reducible refine below_dn ?_ _) | (with_reducible refine Below.drew ?_) | (with_reducible refine Below.alloc ?_ ?_ _) | (with_reducible refine Below.setCell ?_ ?_ _) | go_size))⟩
  · have e : Hid (szR left x.id.size = -1) := (if_neg h : szR left x.id.size = -1)
    go_enter Try.func66, Try.ntmps66
    go_wp2
    go_ret
    exact ⟨by rw [e.out]; rfl, by (repeat' (first | (with_reducible exact Below.refl _ _) | (with_reducible assumption) | (with_reducible refine below_dn ?_ _) | (with_reducible refine Below.drew ?_) | (with_reducible refine Below.alloc ?_ ?_ _) | (with_reducible refine Below.setCell ?_ ?_ _) | go_size))⟩
def wtIngot (xs : List Ingot) : Nat := (xs.map fun x => x.id.size).sum
theorem wtIngot_succ (xs : List Ingot) (k : Nat) (h : k < xs.length) : wtIngot (xs.take (k + 1)) = wtIngot (xs.take k) + xs[k].id.size := by
  unfold wtIngot
  rw [List.take_succ_eq_append_getElem h, List.map_append, List.sum_append]
  simp only [List.map_cons, List.map_nil, List.sum_cons, List.sum_nil, Nat.add_zero]
theorem wtIngot_le (xs : List Ingot) (k : Nat) : wtIngot (xs.take k) ≤ wtIngot xs := by
  have h : wtIngot xs = wtIngot (xs.take k) + wtIngot (xs.drop k) := by
    unfold wtIngot
    rw [← List.sum_append, ← List.map_append, List.take_append_drop]
  omega
theorem wtIngot_mem (xs : List Ingot) (x : Ingot) (h : x ∈ xs) : x.id.size ≤ wtIngot xs := by
  unfold wtIngot
  exact le_sum_of (List.mem_map.2 ⟨x, h, rfl⟩)

theorem szIngotS (w : World) (v : Value) (xs : List Ingot) (left : Int) (h : Rd w.heap.size w v 5 xs.length (xs.flatMap Ingot.put)) (hm : xs.length ≤ maxLen) (hx : ∀ x ∈ xs, x.id.size ≤ maxLen) (h0 : 0 ≤ left) (h1 : left ≤ 1048576) :
    Calls Try.prog 23 #[v, .int .i64 left] w fun e w' => e = .returned (.int .i64 (szR left (xs.length + wtIngot xs))) ∧ Below w.heap.size w w' := by
  obtain ⟨hL, ao, cap, rfl, hcap, hmax, hnil, hsome⟩ := h
  have hm2 := hm
  unfold maxLen at hm2
  by_cases hn : (xs.length : Int) ≤ left
  case neg =>
    have e : Hid (szR left (xs.length + wtIngot xs) = -1) := (if_neg (by omega) : szR left (xs.length + wtIngot xs) = -1)
    clear hsome hnil hx
    go_enter Try.func23, Try.ntmps23
    go_wp2
    go_ret
    exact ⟨by rw [e.out]; rfl, by (repeat' (first | (with_reducible exact Below.refl _ _) | (with_reducible assumption) | (with_reducible refine below_dn ?_ _) | (with_reducible refine Below.drew ?_) | (with_reducible refine Below.alloc ?_ ?_ _) | (with_reducible refine Below.setCell ?_ ?_ _) | go_size))⟩
  go_enter Try.func23, Try.ntmps23
  have Hx := Lib.hid hx; clear hx
  go_wp2
  go_loopw [1, 5] (fun l i wr => ∃ (k : Nat), k ≤ xs.length ∧ i = .int .i64 k ∧ l = .int .i64 (left - xs.length - wtIngot (xs.take k)) ∧ 0 ≤ left - xs.length - wtIngot (xs.take k) ∧ Below w.heap.size w wr) (fun _ i _ => xs.length - (intOf i).toNat)
  case atStart => exact ⟨0, Nat.zero_le _, rfl, by simp [wtIngot], by simp [wtIngot]; omega, Below.refl _ _⟩
  case round =>
    obtain ⟨k, hk, rfl, rfl, hp, hb⟩ := hrel
    by_cases hlt : k < xs.length
    · obtain ⟨b, off, rfl, hbB, hc⟩ := hsome (by omega)
      have c0 : wr.cell? ⟨b, off + k * 5, none⟩ = some (.string xs[k].id) := by
        rw [show off + k * 5 = off + (k * 5 + 0) from by omega, hb.cell (p := ⟨b, off + (k * 5 + 0), none⟩) hbB, hc (k * 5 + 0) (by omega), Ingot_get0 xs k hlt]
      have c1 : wr.cell? ⟨b, off + k * 5 + 1, none⟩ = some (.int .i64 xs[k].mass) := by
        rw [show off + k * 5 + 1 = off + (k * 5 + 1) from by omega, hb.cell (p := ⟨b, off + (k * 5 + 1), none⟩) hbB, hc (k * 5 + 1) (by omega), Ingot_get1 xs k hlt]
      have c2 : wr.cell? ⟨b, off + k * 5 + 2, none⟩ = some (.int .i64 xs[k].alloy.copper) := by
        rw [show off + k * 5 + 2 = off + (k * 5 + 2) from by omega, hb.cell (p := ⟨b, off + (k * 5 + 2), none⟩) hbB, hc (k * 5 + 2) (by omega), Ingot_get2 xs k hlt]
      have c3 : wr.cell? ⟨b, off + k * 5 + 3, none⟩ = some (.int .i64 xs[k].alloy.tin) := by
        rw [show off + k * 5 + 3 = off + (k * 5 + 3) from by omega, hb.cell (p := ⟨b, off + (k * 5 + 3), none⟩) hbB, hc (k * 5 + 3) (by omega), Ingot_get3 xs k hlt]
      have c4 : wr.cell? ⟨b, off + k * 5 + 4, none⟩ = some (.int .i64 xs[k].alloy.other) := by
        rw [show off + k * 5 + 4 = off + (k * 5 + 4) from by omega, hb.cell (p := ⟨b, off + (k * 5 + 4), none⟩) hbB, hc (k * 5 + 4) (by omega), Ingot_get4 xs k hlt]
      have hs := Lib.hid (wtIngot_succ xs k hlt)
      have hle := Lib.hid (wtIngot_le xs (k + 1))
      have hxk := Lib.hid (Hx.out xs[k] (List.getElem_mem hlt))
      have HB := Lib.hid hb
      clear hc hsome hnil hb
      by_cases hq : (xs[k].id.size : Int) ≤ left - xs.length - wtIngot (xs.take k)
      · have es : Hid (szR (left - xs.length - wtIngot (xs.take k)) xs[k].id.size = left - xs.length - wtIngot (xs.take (k + 1))) := (by unfold szR; rw [if_pos hq, hs.out]; push_cast; omega : szR (left - xs.length - wtIngot (xs.take k)) xs[k].id.size = left - xs.length - wtIngot (xs.take (k + 1)))
        have hp2 : 0 ≤ left - xs.length - wtIngot (xs.take (k + 1)) := by have := hs.out; omega
        go_wp2_with fail
        refine (szIngot xs[k] _ _ hp (by omega) hxk.out).mono ?_; rw [es.out]; rintro e w1 ⟨rfl, b1⟩
        have HB1 := Lib.hid (HB.out.trans (b1.mono HB.out.size)); clear b1 HB
        clear es hp
        go_wp2_with fail
        go_roundw
        case rel => exact ⟨k + 1, by omega, by go_num, rfl, hp2, HB1.out⟩
        case measure => simp [intOf]; omega
      · have es : Hid (szR (left - xs.length - wtIngot (xs.take k)) xs[k].id.size = -1) := (if_neg hq : szR (left - xs.length - wtIngot (xs.take k)) xs[k].id.size = -1)
        have e : Hid (szR left (xs.length + wtIngot xs) = -1) := (if_neg (by have := hs.out; have := hle.out; omega) : szR left (xs.length + wtIngot xs) = -1)
        go_wp2_with fail
        refine (szIngot xs[k] _ _ hp (by omega) hxk.out).mono ?_; rw [es.out]; rintro e w1 ⟨rfl, b1⟩
        have HB1 := Lib.hid (HB.out.trans (b1.mono HB.out.size)); clear b1 HB es hp
        go_wp2_with fail
        go_ret
        exact ⟨by rw [e.out]; rfl, HB1.out⟩
    · have e : Hid (szR left (xs.length + wtIngot xs) = left - xs.length - wtIngot (xs.take k)) := (by
        rw [List.take_of_length_le (by omega)] at hp ⊢
        unfold szR
        rw [if_pos (by push_cast; omega)]; push_cast; omega : szR left (xs.length + wtIngot xs) = left - xs.length - wtIngot (xs.take k))
      go_wp2
      go_ret
      exact ⟨by rw [e.out]; rfl, hb⟩
end Go.Proofs.Ytnbodmbagendnaa
