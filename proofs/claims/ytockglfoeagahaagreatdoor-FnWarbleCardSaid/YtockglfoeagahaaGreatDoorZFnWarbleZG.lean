/- Contracts and plain facts, joined: VSpotX, ReadSp. -/
import Derived.Test.YtockglfoeagahaaGreatDoorRows
import Derived.Test.YtockglfoeagahaaGreatDoorZFnWarbleD
import Derived.Test.YtockglfoeagahaaGreatDoorZFnWarbleM
import Derived.Test.YtockglfoeagahaaGreatDoorZFnWarbleQ
import Derived.Test.YtockglfoeagahaaGreatDoorZFnWarbleW
import Derived.Test.YtockglfoeagahaaGreatDoorZFnWarbleZD
import Derived.Test.YtockglfoeagahaaGreatDoorZFnWarbleZE
import Derived.Test.YtockglfoeagahaaGreatDoorZFnWarbleZF
namespace Go.Proofs.YtockglfoeagahaaGreatDoor
open Go.ChangeShapes Go.WideShapes Go.ChangeAt Go.RowKit Go.Deep Go.Joins
set_option linter.unusedVariables false
set_option maxRecDepth 100000
set_option linter.unusedSimpArgs false
set_option maxHeartbeats 1000000 in
theorem impl_validSpotX (w : World) (v : Value) (xs : List Spot) (h : Rd w.heap.size w v 2 xs.length (xs.flatMap Spot.put)) (hn : xs.length ≤ 2097152) (hok : ∀ x ∈ xs, x.ok) :
    Calls Tryz.prog 24 #[v] w fun e w' => e = .returned (.bool (validSpotS xs)) ∧ Below w.heap.size w w' := by
  obtain ⟨hL, ao, cap, rfl, hcap, hmax, hnil, hsome⟩ := h
  have Hok := Lib.hid hok; clear hok
  go_enter Tryz.func24, Tryz.ntmps24
  go_wp2
  go_loopw [7] (fun i wr => ∃ (k : Nat), k ≤ xs.length ∧ i = .int .i64 k ∧ allK (stepB spotB ltKSpot xs) k = true ∧ Below w.heap.size w wr) (fun i _ => xs.length - (intOf i).toNat)
  case atStart => exact ⟨0, Nat.zero_le _, rfl, rfl, Below.refl _ _⟩
  case round =>
    obtain ⟨k, hk, rfl, hall, hb⟩ := hrel
    have Hall := Lib.hid hall; clear hall
    by_cases hlt : k < xs.length
    · obtain ⟨b, off, rfl, hbB, hc⟩ := hsome (by omega)
      have hok := Hok.out
      have c0 : wr.cell? ⟨b, off + k * 2, none⟩ = some (.int .i64 xs[k].angle) := by
        rw [show off + k * 2 = off + (k * 2 + 0) from by omega, hb.cell (p := ⟨b, off + (k * 2 + 0), none⟩) hbB, hc (k * 2 + 0) (by omega), Spot_get0 xs k hlt]
      have c1 : wr.cell? ⟨b, off + k * 2 + 1, none⟩ = some (.int .i64 xs[k].weight) := by
        rw [show off + k * 2 + 1 = off + (k * 2 + 1) from by omega, hb.cell (p := ⟨b, off + (k * 2 + 1), none⟩) hbB, hc (k * 2 + 1) (by omega), Spot_get1 xs k hlt]
      have hbr : b < wr.heap.size := Nat.lt_of_lt_of_le hbB hb.size
      have HS := Lib.hid (allK_succ (stepB spotB ltKSpot xs) k)
      have HF := Lib.hid (allK_false (stepB spotB ltKSpot xs) xs.length k hlt)
      cases hO : spotB xs[k]
      · have e : Hid (validSpotS xs = false) := (by unfold validSpotS; rw [HF.out (stepB_no hlt hO)]; rfl : validSpotS xs = false)
        have HB := Lib.hid hb
        clear hc hsome hnil hb hok
        go_wp2_with fail
        refine wp_region_above (by kernel_rfl) (by kernel_rfl) ?_
        repeat (go_big_quiet_step ((first | (go_at_call 32; exact aboveC (impl_isSpot_is xs[k] _ (by assumption) (Hok.out _ (List.getElem_mem hlt)))))))
        refine wpQuiet_nil ?_
        intro w1 b1
        have hsz := HB.out.size
        have HB1 := Lib.hid (HB.out.trans (Below.trans (((Below.refl _ _).alloc hsz _)) (b1.mono (by simp; omega)))); clear b1 HB
        go_wp2_with fail
        go_ret
        exact ⟨by rw [e.out]; rfl, HB1.out⟩
      by_cases hk0 : k = 0
      · have e : Hid (allK (stepB spotB ltKSpot xs) (k + 1) = true) := (by subst hk0; rw [HS.out, stepB_zero hlt hO]; rfl : allK (stepB spotB ltKSpot xs) (k + 1) = true)
        have hz : decide (0 < k) = false := decide_eq_false (by omega)
        have HB := Lib.hid hb
        clear hc hsome hnil hb hok hk0
        go_wp2_with fail
        refine wp_region_above (by kernel_rfl) (by kernel_rfl) ?_
        repeat (go_big_quiet_step ((first | (go_at_call 32; exact aboveC (impl_isSpot_is xs[k] _ (by assumption) (Hok.out _ (List.getElem_mem hlt)))))))
        refine wpQuiet_nil ?_
        intro w1 b1
        have hsz := HB.out.size
        have HB1 := Lib.hid (HB.out.trans (Below.trans (((Below.refl _ _).alloc hsz _)) (b1.mono (by simp; omega)))); clear b1 HB
        go_wp2_with fail
        go_roundw
        case rel => exact ⟨k + 1, by omega, by go_num, e.out, HB1.out⟩
        case measure => simp [intOf]; omega
      · have hpos : 0 < k := by omega
        have hz : decide (0 < k) = true := decide_eq_true (by omega)
        have p0 : wr.cell? ⟨b, off + (k - 1) * 2, none⟩ = some (.int .i64 xs[k - 1].angle) := by
          rw [show off + (k - 1) * 2 = off + ((k - 1) * 2 + 0) from by omega, hb.cell (p := ⟨b, off + ((k - 1) * 2 + 0), none⟩) hbB, hc ((k - 1) * 2 + 0) (by omega), Spot_get0 xs (k - 1) (by omega)]
        cases hT : ltKSpot xs[k - 1] xs[k]
        · have e : Hid (validSpotS xs = false) := (by unfold validSpotS; rw [HF.out (stepB_lt hlt hpos hO hT)]; rfl : validSpotS xs = false)
          have t1 : (decide (xs[k].angle ≤ xs[k - 1].angle)) = true := ltKSpot_spec_f hT
          have HB := Lib.hid hb
          clear hc hsome hnil hb hok hT
          go_wp2_with fail
          refine wp_region_above (by kernel_rfl) (by kernel_rfl) ?_
          repeat (go_big_quiet_step ((first | (go_at_call 32; exact aboveC (impl_isSpot_is xs[k] _ (by assumption) (Hok.out _ (List.getElem_mem hlt)))))))
          refine wpQuiet_nil ?_
          intro w1 b1
          have hsz := HB.out.size
          have HB1 := Lib.hid (HB.out.trans (Below.trans (((Below.refl _ _).alloc hsz _)) (b1.mono (by simp; omega)))); clear b1 HB
          go_wp2_with fail
          go_ret
          exact ⟨by rw [e.out]; rfl, HB1.out⟩
        · have e : Hid (allK (stepB spotB ltKSpot xs) (k + 1) = true) := (by rw [HS.out, Hall.out, stepB_yes hlt hpos hO hT]; rfl : allK (stepB spotB ltKSpot xs) (k + 1) = true)
          have t1 : (decide (xs[k].angle ≤ xs[k - 1].angle)) = false := ltKSpot_spec_t hT
          have HB := Lib.hid hb
          clear hc hsome hnil hb hok hT
          go_wp2_with fail
          refine wp_region_above (by kernel_rfl) (by kernel_rfl) ?_
          repeat (go_big_quiet_step ((first | (go_at_call 32; exact aboveC (impl_isSpot_is xs[k] _ (by assumption) (Hok.out _ (List.getElem_mem hlt)))))))
          refine wpQuiet_nil ?_
          intro w1 b1
          have hsz := HB.out.size
          have HB1 := Lib.hid (HB.out.trans (Below.trans (((Below.refl _ _).alloc hsz _)) (b1.mono (by simp; omega)))); clear b1 HB
          go_wp2_with fail
          go_roundw
          case rel => exact ⟨k + 1, by omega, by go_num, e.out, HB1.out⟩
          case measure => simp [intOf]; omega
    · have e : Hid (validSpotS xs = decide (xs.length ≤ 16)) := (by
        unfold validSpotS
        obtain rfl : k = xs.length := by omega
        rw [Hall.out]; rfl : validSpotS xs = decide (xs.length ≤ 16))
      go_wp2
      go_ret
      exact ⟨by rw [e.out]; congr 2; simp; try omega, hb⟩
end Go.Proofs.YtockglfoeagahaaGreatDoor
namespace Go.Proofs.YtockglfoeagahaaGreatDoor
open Go.ChangeShapes Go.WideShapes Go.ChangeAt Go.RowKit Go.Deep Go.Joins
set_option linter.unusedVariables false
set_option maxRecDepth 100000
set_option linter.unusedSimpArgs false
theorem readR_dash : readR ⟨#[45]⟩ = some [] := if_pos rfl
theorem readR_word {s : ByteArray} (h : s ≠ ⟨#[45]⟩) : readR s = (readW (partsS 32 s)).bind fun xs => if validSpotS xs = true then some xs else none := if_neg h
theorem readL_none {s : ByteArray} (h : readR s = none) : readL s = [] ∧ (readR s).isSome = false := by unfold readL; rw [h]; exact ⟨rfl, rfl⟩
theorem readL_some {s : ByteArray} {xs : List Spot} (h : readR s = some xs) : readL s = xs ∧ (readR s).isSome = true := by unfold readL; rw [h]; exact ⟨rfl, rfl⟩
theorem specW_not2 {w : ByteArray} (h : (partsS 58 w).length ≠ 2) : specW w = none := by
  unfold specW
  split
  · rename_i a b hp; rw [hp] at h; exact absurd rfl h
  · rfl
theorem specW_two {w a b : ByteArray} (h : partsS 58 w = [a, b]) : specW w = match numS a, numS b with
    | some x, some y => some ⟨x, y⟩
    | _, _ => none := by
  unfold specW
  rw [h]
  rfl
theorem spot_ok_of {xs : List Spot} {ws : List ByteArray} (h : readW ws = some xs) : ∀ x ∈ xs, x.ok := by
  obtain ⟨h1, h2⟩ := readW_some h
  intro x hx
  rw [← h2] at hx
  obtain ⟨w, _, rfl⟩ := List.mem_map.1 hx
  have a := numV_bd (cutA 58 w)
  have b := numV_bd (cutB 58 w)
  exact ⟨⟨by show _ ≤ numV _; omega, by show numV _ ≤ _; omega⟩, ⟨by show _ ≤ numV _; omega, by show numV _ ≤ _; omega⟩⟩
theorem readW_len {xs : List Spot} {ws : List ByteArray} (h : readW ws = some xs) : xs.length = ws.length := by
  obtain ⟨h1, h2⟩ := readW_some h
  rw [h1, List.length_map]
end Go.Proofs.YtockglfoeagahaaGreatDoor
