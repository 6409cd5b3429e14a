/- Binary search: Ingot. -/
import Derived.Test.YtdliabgdgjboiaaRows
import Derived.Test.YtdliabgdgjboiaaCmpStr
import Derived.Test.YtdliabgdgjboiaaHIngot
import Derived.Test.YtdliabgdgjboiaaLaw
import Derived.Test.YtdliabgdgjboiaaSearch
namespace Go.Proofs.Ytdliabgdgjboiaa
open Go.ChangeShapes Go.WideShapes Go.ChangeAt Go.RowKit Go.Deep Go.Joins
set_option linter.unusedVariables false
set_option maxRecDepth 100000
set_option linter.unusedSimpArgs false
theorem impl_ingotAt1 (x : Ingot) (a : ByteArray) (w : World) : Calls Try.prog 165 #[.agg #[.string x.id, .int .i64 x.mass, .int .i64 x.alloy.copper, .int .i64 x.alloy.tin, .int .i64 x.alloy.other], .string a] w fun e w' => e = .returned (.int .i64 (cmpS x.id a)) ∧ Below w.heap.size w w' := by
  go_enter Try.func165, Try.ntmps165
  go_wp2_with (first | (go_at_call 124; refine (cmp_Compare_str _ _ _).mono ?_; rintro e w' ⟨rfl, rfl⟩))
  go_ret
  exact ⟨rfl, by (repeat' (first | (with_reducible exact Below.refl _ _) | (with_reducible assumption) | (with_reducible refine below_dn ?_ _) | (with_reducible refine Below.drew ?_) | (with_reducible refine Below.alloc ?_ ?_ _) | (with_reducible refine Below.setCell ?_ ?_ _) | go_size))⟩

def cmpIngot (xs : List Ingot) (t : ByteArray) (k : Nat) : Int := (xs[k]?).elim 1 fun x => cmpS x.id t
theorem cmpIngot_at {xs : List Ingot} {t : ByteArray} {k : Nat} (h : k < xs.length) : cmpIngot xs t k = (fun x : Ingot => cmpS x.id t) xs[k] := by
  unfold cmpIngot
  rw [List.getElem?_eq_getElem h]
  rfl

set_option maxHeartbeats 2000000 in
theorem BinarySearch_Ingot (w : World) (v : Value) (xs : List Ingot) (t : ByteArray) (h : Rd w.heap.size w v 5 xs.length (xs.flatMap Ingot.put)) (hn : xs.length ≤ 1048576) :
    Calls Try.prog 164 #[v, .string t, .func (.func 165) #[] #[]] w fun e w' => (∃ i : Nat, e = .returned (.tuple #[.int .i64 i, .bool (decide (i < xs.length) && decide (cmpIngot xs t i = 0))]) ∧ Found (cmpIngot xs t) xs.length i) ∧ Below w.heap.size w w' := by
  obtain ⟨hL, ao, cap, rfl, hcap, hmax, hnil, hsome⟩ := h
  go_enter Try.func164, Try.ntmps164
  go_wp2
  go_loopw [9, 10] (fun i j wr => ∃ (a b : Nat), a ≤ b ∧ b ≤ xs.length ∧ i = .int .i64 a ∧ j = .int .i64 b ∧ Part (cmpIngot xs t) xs.length a b ∧ Below w.heap.size w wr) (fun i j _ => (intOf j).toNat - (intOf i).toNat)
  case atStart => exact ⟨0, xs.length, Nat.zero_le _, Nat.le_refl _, rfl, rfl, part_start _ _, Below.refl _ _⟩
  case round =>
    obtain ⟨a, b, hab, hbn, rfl, rfl, hpart, hb⟩ := hrel
    have HP := Lib.hid hpart; clear hpart
    by_cases hlt : a < b
    · obtain ⟨b0, off, rfl, hbB, hc⟩ := hsome (by omega)
      obtain ⟨m, hm, ham, hmb⟩ : ∃ m : Nat, ((a : Int) + (b : Int)) / 2 = ((m : Nat) : Int) ∧ a ≤ m ∧ m < b := ⟨(a + b) / 2, by omega, by omega, by omega⟩
      have hml : m < xs.length := by omega
      have c0 : wr.cell? ⟨b0, off + m * 5, none⟩ = some (.string xs[m].id) := by rw [show off + m * 5 = off + (m * 5 + 0) from by omega, hb.cell (p := ⟨b0, off + (m * 5 + 0), none⟩) hbB, hc (m * 5 + 0) (by omega), Ingot_get0 xs m hml]
      have c1 : wr.cell? ⟨b0, off + m * 5 + 1, none⟩ = some (.int .i64 xs[m].mass) := by rw [show off + m * 5 + 1 = off + (m * 5 + 1) from by omega, hb.cell (p := ⟨b0, off + (m * 5 + 1), none⟩) hbB, hc (m * 5 + 1) (by omega), Ingot_get1 xs m hml]
      have c2 : wr.cell? ⟨b0, off + m * 5 + 2, none⟩ = some (.int .i64 xs[m].alloy.copper) := by rw [show off + m * 5 + 2 = off + (m * 5 + 2) from by omega, hb.cell (p := ⟨b0, off + (m * 5 + 2), none⟩) hbB, hc (m * 5 + 2) (by omega), Ingot_get2 xs m hml]
      have c3 : wr.cell? ⟨b0, off + m * 5 + 3, none⟩ = some (.int .i64 xs[m].alloy.tin) := by rw [show off + m * 5 + 3 = off + (m * 5 + 3) from by omega, hb.cell (p := ⟨b0, off + (m * 5 + 3), none⟩) hbB, hc (m * 5 + 3) (by omega), Ingot_get3 xs m hml]
      have c4 : wr.cell? ⟨b0, off + m * 5 + 4, none⟩ = some (.int .i64 xs[m].alloy.other) := by rw [show off + m * 5 + 4 = off + (m * 5 + 4) from by omega, hb.cell (p := ⟨b0, off + (m * 5 + 4), none⟩) hbB, hc (m * 5 + 4) (by omega), Ingot_get4 xs m hml]
      have HC := Lib.hid (cmpIngot_at (t := t) hml)
      have HB := Lib.hid hb
      have hws := hb.size
      have hbr : b0 < wr.heap.size := Nat.lt_of_lt_of_le hbB hws
      clear hc hsome hb hnil
      by_cases hneg : cmpIngot xs t m < 0
      · have HN := Lib.hid hneg
        rw [HC.out] at hneg
        go_wp2_with fail
        go_at_call 165
        refine (impl_ingotAt1 xs[m] t _).mono ?_; rintro e1 w1 ⟨rfl, b1⟩
        have HB1 := Lib.hid (HB.out.trans (b1.mono HB.out.size)); clear b1 HB
        go_wp2_with fail
        go_roundw
        case rel => exact ⟨m + 1, b, by omega, by omega, by go_num, rfl, part_up HP.out hml HN.out, HB1.out⟩
        case measure => simp [intOf]; omega
      · have HN := Lib.hid hneg
        rw [HC.out] at hneg
        go_wp2_with fail
        go_at_call 165
        refine (impl_ingotAt1 xs[m] t _).mono ?_; rintro e1 w1 ⟨rfl, b1⟩
        have HB1 := Lib.hid (HB.out.trans (b1.mono HB.out.size)); clear b1 HB
        go_wp2_with fail
        go_roundw
        case rel => exact ⟨a, m, by omega, by omega, rfl, by go_num, part_down HP.out (by have := HN.out; omega), HB1.out⟩
        case measure => simp [intOf]; omega
    · obtain rfl : a = b := by omega
      by_cases hml : a < xs.length
      · obtain ⟨b0, off, rfl, hbB, hc⟩ := hsome (by omega)
        have c0 : wr.cell? ⟨b0, off + a * 5, none⟩ = some (.string xs[a].id) := by rw [show off + a * 5 = off + (a * 5 + 0) from by omega, hb.cell (p := ⟨b0, off + (a * 5 + 0), none⟩) hbB, hc (a * 5 + 0) (by omega), Ingot_get0 xs a hml]
        have c1 : wr.cell? ⟨b0, off + a * 5 + 1, none⟩ = some (.int .i64 xs[a].mass) := by rw [show off + a * 5 + 1 = off + (a * 5 + 1) from by omega, hb.cell (p := ⟨b0, off + (a * 5 + 1), none⟩) hbB, hc (a * 5 + 1) (by omega), Ingot_get1 xs a hml]
        have c2 : wr.cell? ⟨b0, off + a * 5 + 2, none⟩ = some (.int .i64 xs[a].alloy.copper) := by rw [show off + a * 5 + 2 = off + (a * 5 + 2) from by omega, hb.cell (p := ⟨b0, off + (a * 5 + 2), none⟩) hbB, hc (a * 5 + 2) (by omega), Ingot_get2 xs a hml]
        have c3 : wr.cell? ⟨b0, off + a * 5 + 3, none⟩ = some (.int .i64 xs[a].alloy.tin) := by rw [show off + a * 5 + 3 = off + (a * 5 + 3) from by omega, hb.cell (p := ⟨b0, off + (a * 5 + 3), none⟩) hbB, hc (a * 5 + 3) (by omega), Ingot_get3 xs a hml]
        have c4 : wr.cell? ⟨b0, off + a * 5 + 4, none⟩ = some (.int .i64 xs[a].alloy.other) := by rw [show off + a * 5 + 4 = off + (a * 5 + 4) from by omega, hb.cell (p := ⟨b0, off + (a * 5 + 4), none⟩) hbB, hc (a * 5 + 4) (by omega), Ingot_get4 xs a hml]
        have HC := Lib.hid (cmpIngot_at (t := t) hml)
        have HB := Lib.hid hb
        have hws := hb.size
        have hbr : b0 < wr.heap.size := Nat.lt_of_lt_of_le hbB hws
        clear hc hsome hb hnil
        by_cases hz : cmpIngot xs t a = 0
        · have E : Hid ((decide (a < xs.length) && decide (cmpIngot xs t a = 0)) = true) := (by simp [hml, hz] : (decide (a < xs.length) && decide (cmpIngot xs t a = 0)) = true)
          rw [HC.out] at hz
          have hz2 := (beq_iff_eq (α := Int)).2 hz
          have HZ := Lib.hid hz; clear hz
          simp only at hz2
          go_wp2_with fail
          go_at_call 165
          refine (impl_ingotAt1 xs[a] t _).mono ?_; rintro e1 w1 ⟨rfl, b1⟩
          have HB1 := Lib.hid (HB.out.trans (b1.mono HB.out.size)); clear b1 HB
          go_wp2_with fail
          go_ret2
          exact ⟨⟨a, by rw [E.out]; rfl, part_end HP.out hbn⟩, HB1.out⟩
        · have E : Hid ((decide (a < xs.length) && decide (cmpIngot xs t a = 0)) = false) := (by simp [hz] : (decide (a < xs.length) && decide (cmpIngot xs t a = 0)) = false)
          rw [HC.out] at hz
          have hz2 := (beq_eq_false_iff_ne (α := Int)).2 hz
          have HZ := Lib.hid hz; clear hz
          simp only at hz2
          go_wp2_with fail
          go_at_call 165
          refine (impl_ingotAt1 xs[a] t _).mono ?_; rintro e1 w1 ⟨rfl, b1⟩
          have HB1 := Lib.hid (HB.out.trans (b1.mono HB.out.size)); clear b1 HB
          go_wp2_with fail
          go_ret2
          exact ⟨⟨a, by rw [E.out]; rfl, part_end HP.out hbn⟩, HB1.out⟩
      · have E : Hid ((decide (a < xs.length) && decide (cmpIngot xs t a = 0)) = false) := (by simp [hml] : (decide (a < xs.length) && decide (cmpIngot xs t a = 0)) = false)
        have HB := Lib.hid hb; clear hb
        go_wp2_with fail
        go_ret2
        exact ⟨⟨a, by rw [E.out]; rfl, part_end HP.out hbn⟩, HB.out⟩
end Go.Proofs.Ytdliabgdgjboiaa
