/- BellsMeasured: the program. -/
import Derived.Test.YtmkemjfbmnnflaaRows
import Derived.Test.YtmkemjfbmnnflaaSortS
import Derived.Test.YtmkemjfbmnnflaaAsk
namespace Go.Proofs.Ytmkemjfbmnnflaa
open Go.ChangeShapes Go.WideShapes Go.ChangeAt Go.RowKit Go.Deep Go.Joins
set_option linter.unusedVariables false
set_option maxRecDepth 100000
set_option linter.unusedSimpArgs false
def bellBytes (xs : List Measure) : List (List UInt8) := xs.map (fun m => m.bell.data.toList)
def bellC (xs : List Measure) : Int := if validMeasureS xs = true then 0 else 1
def bellR (xs : List Measure) : List (List UInt8) := if validMeasureS xs = true then bellK (bellBytes xs) else []
theorem bellR_len (xs : List Measure) : (bellR xs).length ≤ xs.length := by
  unfold bellR
  split
  · have := bellK_len (bellBytes xs)
    unfold bellBytes at this ⊢
    rwa [List.length_map] at this
  · simp
theorem infoStr : (Try.prog.info? 9).map (fun i => (i.zero, i.size, i.bytes)) = some (some (.string ByteArray.empty), 1, 16) := by kernel_rfl
set_option maxHeartbeats 4000000 in
theorem impl_Bells (w : World) (v : Value) (xs : List Measure) (h : Rd w.heap.size w v 3 xs.length (xs.flatMap Measure.put)) (hn : xs.length ≤ 1048576) (hok : ∀ x ∈ xs, x.ok) :
    Calls Try.prog 25 #[v] w fun e w' => ∃ r : Value, e = .returned (.tuple #[r, .int .i64 (bellC xs)]) ∧ w'.ownsRow w.heap.size 9 1 r (bellR xs).length ((bellR xs).map encStr) ∧ Below w.heap.size w w' := by
  cases hV : validMeasureS xs
  · have ec : Hid (bellC xs = 1) := Lib.hid (by unfold bellC; rw [hV]; rfl)
    have e : Hid (bellR xs = []) := Lib.hid (by unfold bellR; rw [hV]; rfl)
    have H := Lib.hid (impl_ValidMeasures_is w v xs h hn hok hV)
    clear h hok hV
    go_enter Try.func25, Try.ntmps25
    go_wp2_with fail
    refine H.out.mono ?_; rintro e1 w1 ⟨rfl, b1⟩
    go_wp2_with fail
    go_ret2
    exact ⟨_, by rw [ec.out]; try rfl, by rw [e.out]; exact own_nil _ _ _ _, b1⟩
  have h64 := (validMeasureS_parts hV).1
  have ec : Hid (bellC xs = 0) := Lib.hid (by unfold bellC; rw [hV]; rfl)
  have e : Hid (bellR xs = bellK (bellBytes xs)) := Lib.hid (by unfold bellR; rw [hV]; rfl)
  have H := Lib.hid (impl_ValidMeasures_is w v xs h hn hok hV)
  obtain ⟨hL, vo, vc, rfl, hcap1, hmax1, hnil1, hsome1⟩ := h
  obtain ⟨i0, hi, hz0, hz1, hz2⟩ := info_parts infoStr
  clear hok hV
  go_enter Try.func25, Try.ntmps25
  go_wp2_with fail
  refine H.out.mono ?_; rintro e1 w1 ⟨rfl, b1⟩
  have HB1 := Lib.hid b1
  have hs1 := b1.size
  clear b1 H
  go_wp2_with fail
  go_loopw [4, 12] (fun r i wr => ∃ (k : Nat) (J : List (List UInt8)), k ≤ xs.length ∧ i = .int .i64 k ∧ J.length = k ∧ J = (bellBytes xs).take k ∧ wr.ownsRow w.heap.size 9 1 r J.length (J.map encStr) ∧ Below w.heap.size w wr) (fun _ i _ => xs.length - (intOf i).toNat)
  case atStart => exact ⟨0, [], Nat.zero_le _, rfl, rfl, by simp, own_nil _ _ _ _, HB1.out⟩
  case round =>
    obtain ⟨k, J, hk, rfl, hJl, hJ, hown, hb⟩ := hrel
    have HJ := Lib.hid hJ; clear hJ
    have HJl := Lib.hid hJl
    have HO := Lib.hid hown; clear hown
    by_cases hlt : k < xs.length
    · obtain ⟨b3, off3, rfl, hbB3, hc3⟩ := hsome1 (by omega)
      have c0 : wr.cell? ⟨b3, off3 + k * 3, none⟩ = some (.string xs[k].bell) := by rw [show off3 + k * 3 = off3 + (k * 3 + 0) from by omega, hb.cell (p := ⟨b3, off3 + (k * 3 + 0), none⟩) hbB3, hc3 (k * 3 + 0) (by omega), Measure_get0 xs k hlt]
      have c1 : wr.cell? ⟨b3, off3 + k * 3 + 1, none⟩ = some (.int .i64 xs[k].part) := by rw [show off3 + k * 3 + 1 = off3 + (k * 3 + 1) from by omega, hb.cell (p := ⟨b3, off3 + (k * 3 + 1), none⟩) hbB3, hc3 (k * 3 + 1) (by omega), Measure_get1 xs k hlt]
      have c2 : wr.cell? ⟨b3, off3 + k * 3 + 2, none⟩ = some (.int .i64 xs[k].value) := by rw [show off3 + k * 3 + 2 = off3 + (k * 3 + 2) from by omega, hb.cell (p := ⟨b3, off3 + (k * 3 + 2), none⟩) hbB3, hc3 (k * 3 + 2) (by omega), Measure_get2 xs k hlt]
      have hws := hb.size
      have HB2 := Lib.hid (hb.alloc hws (.cells #[.string xs[k].bell, .int .i64 xs[k].part, .int .i64 xs[k].value] 57))
      have HO2 := Lib.hid (HO.out.alloc (.cells #[.string xs[k].bell, .int .i64 xs[k].part, .int .i64 xs[k].value] 57))
      have hws1 : w.heap.size ≤ (wr.alloc (.cells #[.string xs[k].bell, .int .i64 xs[k].part, .int .i64 xs[k].value] 57)).heap.size := HB2.out.size
      have eJ : Hid (J ++ [xs[k].bell.data.toList] = (bellBytes xs).take (k + 1)) := Lib.hid (by
        have hkl : k < (bellBytes xs).length := by unfold bellBytes; rw [List.length_map]; exact hlt
        rw [List.take_succ_eq_append_getElem hkl, ← HJ.out, show (bellBytes xs)[k] = xs[k].bell.data.toList from by simp [bellBytes]])
      clear hc3 hsome1 hnil1 hb hJl
      have hJ2 : J.length ≤ 64 := by have := HJl.out; omega
      go_wp2_with (at_builtin; refine app_el rfl _ _ 36 9 i0 (.string ByteArray.empty) 1 16 Try.underlying36 hi hz0 hz1 hz2 rfl (by decide) rfl (wr.alloc (.cells #[.string xs[k].bell, .int .i64 xs[k].part, .int .i64 xs[k].value] 57)) w.heap.size _ _ (J.map encStr) (by rfl) HO2.out [.string xs[k].bell] rfl (by intro u hu; simp at hu; subst hu; rfl) (by rw [World.size_alloc]; rfl) (by omega) (by decide) hws1 ?_; intro g gc w3 hown3 hB3 hz; have HB3 := Lib.hid (hB3 w HB2.out); have HO3 := Lib.hid hown3; clear hown3 hB3)
      go_roundw
      case rel => exact ⟨k + 1, J ++ [xs[k].bell.data.toList], by omega, by go_num, by rw [List.length_append, HJl.out]; rfl, eJ.out, by rw [List.map_append, List.length_append]; exact HO3.out, HB3.out⟩
      case measure => simp [intOf]; omega
    · have em : J = bellBytes xs := by
        rw [HJ.out]
        exact List.take_of_length_le (by unfold bellBytes; rw [List.length_map]; omega)
      have hJ2 : J.length ≤ 1048576 := by omega
      have HB := Lib.hid hb; clear hb hsome1 hnil1 hi hz0 hz1 hz2
      have HC := Lib.hid (slices_Sort_str wr w.heap.size _ _ _ J HO.out hJ2)
      have Hem := Lib.hid em
      clear em HJ hJl
      go_wp2_with fail
      refine HC.out.mono ?_; rintro e1 w2 ⟨rfl, o2, g2⟩
      have HB2 := Lib.hid (grown_below HB.out HO.out HB.out.size g2)
      have HO2 := Lib.hid o2
      have HC2 := Lib.hid (slices_Compact_str w2 w.heap.size _ _ _ (sortK J) o2 hJ2)
      clear o2 g2 HC
      go_wp2_with fail
      refine HC2.out.mono ?_; rintro e2 w3 ⟨r3, rfl, o3, g3⟩
      have HB3 := Lib.hid (grown_below HB2.out HO2.out HB2.out.size g3)
      have HO3 := Lib.hid o3
      clear o3 g3
      go_wp2_with fail
      go_ret2
      exact ⟨_, by rw [ec.out]; try rfl, by rw [e.out, ← Hem.out]; exact HO3.out, HB3.out⟩
end Go.Proofs.Ytmkemjfbmnnflaa
