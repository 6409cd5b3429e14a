/- The values of a bell and a partial in ascending order. -/
import Derived.Test.YtmkemjfbmnnflaaRows
import Derived.Test.YtmkemjfbmnnflaaSortL
import Derived.Test.YtmkemjfbmnnflaaHMeasure
import Derived.Test.YtmkemjfbmnnflaaAppSl
import Derived.Test.YtmkemjfbmnnflaaAtB
namespace Go.Proofs.Ytmkemjfbmnnflaa
open Go.ChangeShapes Go.WideShapes Go.ChangeAt Go.RowKit Go.Deep Go.Joins
set_option linter.unusedVariables false
set_option maxRecDepth 100000
set_option linter.unusedSimpArgs false
def isV (bell : ByteArray) (p : Int) (m : Measure) : Bool := strEq m.bell bell && decide (m.part = p)
def valF (xs : List Measure) (bell : ByteArray) (p : Int) : List Int := (xs.filter (isV bell p)).map Measure.value
theorem valF_no {xs : List Measure} {bell : ByteArray} {p : Int} {k : Nat} (hk : k < xs.length) (h : isV bell p xs[k] = false) : valF (xs.take (k + 1)) bell p = valF (xs.take k) bell p := by
  unfold valF
  rw [List.take_succ_eq_append_getElem hk, List.filter_append, List.map_append]
  simp [h]
theorem valF_yes {xs : List Measure} {bell : ByteArray} {p : Int} {k : Nat} (hk : k < xs.length) (h : isV bell p xs[k] = true) : valF (xs.take (k + 1)) bell p = valF (xs.take k) bell p ++ [xs[k].value] := by
  unfold valF
  rw [List.take_succ_eq_append_getElem hk, List.filter_append, List.map_append]
  simp [h]
theorem valF_len (xs : List Measure) (bell : ByteArray) (p : Int) (k : Nat) : (valF (xs.take k) bell p).length ≤ k := by
  unfold valF
  rw [List.length_map]
  have := List.length_filter_le (isV bell p) (xs.take k)
  rw [List.length_take] at this
  omega
theorem int_snoc (xs : List Int) (a : Int) : (xs ++ [a]).flatMap putI = xs.flatMap putI ++ [.int .i64 a] := by rw [List.flatMap_append]; rfl

set_option maxHeartbeats 4000000 in
theorem impl_values (w : World) (v : Value) (xs : List Measure) (bell : ByteArray) (p : Int) (h : Rd w.heap.size w v 3 xs.length (xs.flatMap Measure.put)) (hn : xs.length ≤ 64) :
    Calls Try.prog 45 #[v, .string bell, .int .i64 p] w fun e w' => ∃ r : Value, e = .returned r ∧ w'.ownsRow w.heap.size 2 1 r (valF xs bell p).length ((sortI (valF xs bell p)).flatMap putI) ∧ Below w.heap.size w w' := by
  obtain ⟨hL, vo, vc, rfl, hcap1, hmax1, hnil1, hsome1⟩ := h
  obtain ⟨i0, hi, hz0, hz1, hz2⟩ := info_parts info_i64
  go_enter Try.func45, Try.ntmps45
  go_wp2
  go_loopw [7, 12] (fun r i wr => ∃ (k : Nat), k ≤ xs.length ∧ i = .int .i64 k ∧ wr.ownsRow w.heap.size 2 1 r (valF (xs.take k) bell p).length ((valF (xs.take k) bell p).flatMap putI) ∧ Below w.heap.size w wr) (fun _ i _ => xs.length - (intOf i).toNat)
  case atStart => exact ⟨0, Nat.zero_le _, rfl, own_nil _ _ _ _, Below.refl _ _⟩
  case round =>
    obtain ⟨k, hk, rfl, hown, hb⟩ := hrel
    have HO := Lib.hid hown; clear hown
    by_cases hlt : k < xs.length
    · have hfl := valF_len xs bell p k
      obtain ⟨b3, off3, rfl, hbB3, hc3⟩ := hsome1 (by omega)
      have c0 : wr.cell? ⟨b3, off3 + k * 3, none⟩ = some (.string xs[k].bell) := by rw [show off3 + k * 3 = off3 + (k * 3 + 0) from by omega, hb.cell (p := ⟨b3, off3 + (k * 3 + 0), none⟩) hbB3, hc3 (k * 3 + 0) (by omega), Measure_get0 xs k hlt]
      have c1 : wr.cell? ⟨b3, off3 + k * 3 + 1, none⟩ = some (.int .i64 xs[k].part) := by rw [show off3 + k * 3 + 1 = off3 + (k * 3 + 1) from by omega, hb.cell (p := ⟨b3, off3 + (k * 3 + 1), none⟩) hbB3, hc3 (k * 3 + 1) (by omega), Measure_get1 xs k hlt]
      have c2 : wr.cell? ⟨b3, off3 + k * 3 + 2, none⟩ = some (.int .i64 xs[k].value) := by rw [show off3 + k * 3 + 2 = off3 + (k * 3 + 2) from by omega, hb.cell (p := ⟨b3, off3 + (k * 3 + 2), none⟩) hbB3, hc3 (k * 3 + 2) (by omega), Measure_get2 xs k hlt]
      have hws := hb.size
      have HB := Lib.hid hb
      have HB2 := Lib.hid (hb.alloc hws (.cells #[.string xs[k].bell, .int .i64 xs[k].part, .int .i64 xs[k].value] 57))
      have HO2 := Lib.hid (HO.out.alloc (.cells #[.string xs[k].bell, .int .i64 xs[k].part, .int .i64 xs[k].value] 57))
      have hws1 : w.heap.size ≤ (wr.alloc (.cells #[.string xs[k].bell, .int .i64 xs[k].part, .int .i64 xs[k].value] 57)).heap.size := HB2.out.size
      clear hc3 hsome1 hnil1 hb
      cases hS : strEq xs[k].bell bell
      · have ef : Hid (valF (xs.take (k + 1)) bell p = valF (xs.take k) bell p) := valF_no hlt (by unfold isV; rw [hS]; rfl)
        have t1 := strEq_f hS
        clear hS hi hz0 hz1 hz2
        go_wp2_with fail
        go_roundw
        case rel => exact ⟨k + 1, by omega, by go_num, by rw [ef.out]; exact HO2.out, HB2.out⟩
        case measure => simp [intOf]; omega
      · have t1 := strEq_t hS
        by_cases hp : xs[k].part = p
        · have ef : Hid (valF (xs.take (k + 1)) bell p = valF (xs.take k) bell p ++ [xs[k].value]) := valF_yes hlt (by unfold isV; rw [hS, hp]; simp)
          have t2 : (xs[k].part == p) = true := beq_iff_eq.2 hp
          clear hS hp
          go_wp2_with (at_builtin; refine app_el rfl _ _ 24 2 i0 (.int .i64 0) 1 8 Try.underlying24 hi hz0 hz1 hz2 rfl (by decide) rfl (wr.alloc (.cells #[.string xs[k].bell, .int .i64 xs[k].part, .int .i64 xs[k].value] 57)) w.heap.size _ _ ((valF (xs.take k) bell p).flatMap putI) (by rfl) HO2.out [.int .i64 xs[k].value] rfl (by intro u hu; simp at hu; subst hu; rfl) (by rw [World.size_alloc]; rfl) (by omega) (by decide) hws1 ?_; intro g gc w3 hown3 hB3 hz)
          have HB3 := Lib.hid (hB3 w HB2.out)
          have HO3 := Lib.hid hown3
          clear hown3 hB3
          go_roundw
          case rel => exact ⟨k + 1, by omega, by go_num, by rw [ef.out, int_snoc, List.length_append]; exact HO3.out, HB3.out⟩
          case measure => simp [intOf]; omega
        · have ef : Hid (valF (xs.take (k + 1)) bell p = valF (xs.take k) bell p) := valF_no hlt (by unfold isV; rw [decide_eq_false hp, Bool.and_false])
          have t2 : (xs[k].part == p) = false := beq_eq_false_iff_ne.2 hp
          clear hS hp hi hz0 hz1 hz2
          go_wp2_with fail
          go_roundw
          case rel => exact ⟨k + 1, by omega, by go_num, by rw [ef.out]; exact HO2.out, HB2.out⟩
          case measure => simp [intOf]; omega
    · have em : Hid (xs.take k = xs) := (List.take_of_length_le (by omega) : xs.take k = xs)
      rw [em.out] at HO
      have hfl := valF_len xs bell p xs.length
      rw [List.take_length] at hfl
      have HB := Lib.hid hb; clear hb hsome1 hnil1 hi hz0 hz1 hz2
      have HC := Lib.hid (slices_Sort_i64 wr w.heap.size _ _ _ (valF xs bell p) HO.out (by omega))
      go_wp2_with fail
      refine HC.out.mono ?_; rintro e1 w1 ⟨rfl, o1, g1⟩
      have HB1 := Lib.hid (grown_below HB.out HO.out HB.out.size g1)
      have HO1 := Lib.hid o1
      clear o1 g1
      go_wp2_with fail
      go_ret
      exact ⟨_, rfl, HO1.out, HB1.out⟩
end Go.Proofs.Ytmkemjfbmnnflaa
