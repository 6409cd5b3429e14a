/- What a melt is: both sides compute the same. -/
import Derived.Test.YtklgkbiobggbiaaDoorRows
import Derived.Test.YtklgkbiobggbiaaDoorHMelt
import Derived.Test.YtklgkbiobggbiaaDoorNameIs
import Derived.Test.YtklgkbiobggbiaaDoorSteps
import Derived.Test.YtklgkbiobggbiaaDoorIn
namespace Go.Proofs.YtklgkbiobggbiaaDoor
open Go.ChangeShapes Go.WideShapes Go.ChangeAt Go.RowKit Go.Deep Go.Joins
set_option linter.unusedVariables false
set_option maxRecDepth 100000
set_option linter.unusedSimpArgs false
def ltName (y x : ByteArray) : Bool := Op.bytesLess y.toList x.toList
def meltB (x : Melt) : Bool := nameB x.id && (decide (1 ≤ x.ingots.length) && (decide (x.ingots.length ≤ 16) && (allK (stepB nameB ltName x.ingots) x.ingots.length && inB x.mass 1 320000000)))

theorem ltName_spec_f {y x : ByteArray} (h : ltName y x = false) : (!(Op.bytesLess y.toList x.toList)) = true := by
  unfold ltName at h; rw [h]; rfl
theorem ltName_spec_t {y x : ByteArray} (h : ltName y x = true) : (!(Op.bytesLess y.toList x.toList)) = false := by
  unfold ltName at h; rw [h]; rfl
theorem ltName_impl_f {y x : ByteArray} (h : ltName y x = false) : (Op.bytesLess x.toList y.toList || x.toList == y.toList) = true := by
  unfold ltName at h; rw [← not_less, h]; rfl
theorem ltName_impl_t {y x : ByteArray} (h : ltName y x = true) : (Op.bytesLess x.toList y.toList || x.toList == y.toList) = false := by
  unfold ltName at h; rw [← not_less, h]; rfl

set_option maxHeartbeats 1000000 in
theorem spec_l14One (x : Melt) (a o : Nat) (w : World) (hx : x.ok w) (hn : x.ingots.length ≤ 1048576) (h0 : w.cell? ⟨a, o, none⟩ = some (.string x.id)) (h1 : w.cell? ⟨a, o + 1, none⟩ = some x.list) (h2 : w.cell? ⟨a, o + 2, none⟩ = some (.int .i64 x.mass)) (ha : a < w.heap.size) :
    Calls Tryd.prog 78 #[.pointer (some ⟨a, o, none⟩)] w fun e w' => e = .returned (.bool (meltB x)) ∧ Below w.heap.size w w' := by
  obtain ⟨hi, ⟨hr, hl, hs⟩, _⟩ := hx
  have Hi := Lib.hid hi; clear hi
  obtain ⟨hL, ao, cap, hlist, hcap, hmax, hnil, hsome⟩ := hr
  rw [hlist] at h1
  clear hlist
  have Hok := Lib.hid hs; clear hs
  cases hN : nameB x.id
  case false =>
    have e : Hid (meltB x = false) := (by unfold meltB; rw [hN]; rfl : meltB x = false)
    clear hsome hnil
    go_enter Tryd.func78, Tryd.ntmps78
    go_wp2_with (first | (go_at_call 103; refine (spec_l01Name_is _ _ Hi.out (by assumption)).mono ?_; rintro e w' ⟨rfl, rfl⟩))
    go_ret
    exact ⟨by rw [e.out]; rfl, by (repeat' (first | (with_reducible exact Below.refl _ _) | (with_reducible assumption) | (with_reducible refine below_dn ?_ _) | (with_reducible refine Below.drew ?_) | (with_reducible refine Below.alloc ?_ ?_ _) | (with_reducible refine Below.setCell ?_ ?_ _) | go_size))⟩
  by_cases hz1 : 1 ≤ x.ingots.length
  case neg =>
    have e : Hid (meltB x = false) := (by unfold meltB; rw [decide_eq_false hz1]; simp : meltB x = false)
    clear hsome hnil
    go_enter Tryd.func78, Tryd.ntmps78
    go_wp2_with (first | (go_at_call 103; refine (spec_l01Name_is _ _ Hi.out (by assumption)).mono ?_; rintro e w' ⟨rfl, rfl⟩))
    go_ret
    exact ⟨by rw [e.out]; rfl, by (repeat' (first | (with_reducible exact Below.refl _ _) | (with_reducible assumption) | (with_reducible refine below_dn ?_ _) | (with_reducible refine Below.drew ?_) | (with_reducible refine Below.alloc ?_ ?_ _) | (with_reducible refine Below.setCell ?_ ?_ _) | go_size))⟩
  by_cases hz2 : x.ingots.length ≤ 16
  case neg =>
    have e : Hid (meltB x = false) := (by unfold meltB; rw [decide_eq_false hz2]; simp : meltB x = false)
    clear hsome hnil
    go_enter Tryd.func78, Tryd.ntmps78
    go_wp2_with (first | (go_at_call 103; refine (spec_l01Name_is _ _ Hi.out (by assumption)).mono ?_; rintro e w' ⟨rfl, rfl⟩))
    go_ret
    exact ⟨by rw [e.out]; rfl, by (repeat' (first | (with_reducible exact Below.refl _ _) | (with_reducible assumption) | (with_reducible refine below_dn ?_ _) | (with_reducible refine Below.drew ?_) | (with_reducible refine Below.alloc ?_ ?_ _) | (with_reducible refine Below.setCell ?_ ?_ _) | go_size))⟩
  cases hM : inB x.mass 1 320000000
  case false =>
    have e : Hid (meltB x = false) := (by unfold meltB; rw [hM]; simp : meltB x = false)
    clear hsome hnil
    go_enter Tryd.func78, Tryd.ntmps78
    go_wp2_with (first | (go_at_call 103; refine (spec_l01Name_is _ _ Hi.out (by assumption)).mono ?_; rintro e w' ⟨rfl, rfl⟩) | (go_at_call 87; refine (l00In_is _ _ _ _ (by assumption)).mono ?_; rintro e w' ⟨rfl, rfl⟩))
    go_ret
    exact ⟨by rw [e.out]; rfl, by (repeat' (first | (with_reducible exact Below.refl _ _) | (with_reducible assumption) | (with_reducible refine below_dn ?_ _) | (with_reducible refine Below.drew ?_) | (with_reducible refine Below.alloc ?_ ?_ _) | (with_reducible refine Below.setCell ?_ ?_ _) | go_size))⟩
  have es : Hid (meltB x = allK (stepB nameB ltName x.ingots) x.ingots.length) := (by unfold meltB; rw [hN, hM, decide_eq_true hz1, decide_eq_true hz2]; simp : meltB x = allK (stepB nameB ltName x.ingots) x.ingots.length)
  have HM := Lib.hid hM
  go_enter Tryd.func78, Tryd.ntmps78
  go_wp2_with (first | (go_at_call 103; refine (spec_l01Name_is _ _ Hi.out (by assumption)).mono ?_; rintro e w' ⟨rfl, rfl⟩) | (go_at_call 87; refine (l00In_is _ _ _ _ (by assumption)).mono ?_; rintro e w' ⟨rfl, rfl⟩))
  clear hM hN
  go_loopw [3] (fun i wr => ∃ (k : Nat), k ≤ x.ingots.length ∧ i = .int .i64 k ∧ allK (stepB nameB ltName x.ingots) k = true ∧ Below w.heap.size w wr) (fun i _ => x.ingots.length - (intOf i).toNat)
  case atStart => exact ⟨0, Nat.zero_le _, rfl, rfl, by (repeat' (first | (with_reducible exact Below.refl _ _) | (with_reducible assumption) | (with_reducible refine below_dn ?_ _) | (with_reducible refine Below.drew ?_) | (with_reducible refine Below.alloc ?_ ?_ _) | (with_reducible refine Below.setCell ?_ ?_ _) | go_size))⟩
  case round =>
    obtain ⟨k, hk, rfl, hall, hb⟩ := hrel
    have Hall := Lib.hid hall; clear hall
    have r0 : wr.cell? ⟨a, o, none⟩ = some (.string x.id) := (hb.cell (p := ⟨a, o, none⟩) ha).trans h0
    have r1 : wr.cell? ⟨a, o + 1, none⟩ = some (.slice ao x.ingots.length cap) := (hb.cell (p := ⟨a, o + 1, none⟩) ha).trans h1
    by_cases hlt : k < x.ingots.length
    · obtain ⟨b, off, rfl, hbB, hc⟩ := hsome (by omega)
      have c0 : wr.cell? ⟨b, off + k, none⟩ = some (.string x.ingots[k]) := by
        rw [hb.cell (p := ⟨b, off + k, none⟩) hbB, hc k (by omega), putStr_get x.ingots k hlt]
      have hbr : b < wr.heap.size := Nat.lt_of_lt_of_le hbB hb.size
      have har : a < wr.heap.size := Nat.lt_of_lt_of_le ha hb.size
      have hok : x.ingots[k].size ≤ maxLen := Hok.out _ (List.getElem_mem hlt)
      have HK := Lib.hid hok; clear hok
      have HS := Lib.hid (allK_succ (stepB nameB ltName x.ingots) k)
      have HF := Lib.hid (allK_false (stepB nameB ltName x.ingots) x.ingots.length k hlt)
      cases hO : nameB x.ingots[k]
      · have e : Hid (meltB x = false) := (by rw [es.out]; exact HF.out (stepB_no hlt hO) : meltB x = false)
        have HB := Lib.hid hb
        clear hc hsome hnil hb h0 h1 h2
        go_wp2_with fail
        refine wp_region_above (by kernel_rfl) (by kernel_rfl) ?_
        repeat (go_big_quiet_step ((first | (go_at_call 103; exact aboveE (spec_l01Name_is _ _ HK.out (by assumption))))))
        refine wpQuiet_nil ?_
        intro w1 b1
        have HB1 := Lib.hid (HB.out.trans (b1.mono HB.out.size)); clear b1 HB
        go_wp2_with fail
        go_ret
        exact ⟨by rw [e.out]; rfl, HB1.out⟩
      by_cases hk0 : k = 0
      · have e : Hid (allK (stepB nameB ltName x.ingots) (k + 1) = true) := (by subst hk0; rw [HS.out, stepB_zero hlt hO]; rfl : allK (stepB nameB ltName x.ingots) (k + 1) = true)
        have hz : decide (0 < k) = false := decide_eq_false (by omega)
        have HB := Lib.hid hb
        clear hc hsome hnil hb hk0 h0 h1 h2
        go_wp2_with fail
        refine wp_region_above (by kernel_rfl) (by kernel_rfl) ?_
        repeat (go_big_quiet_step ((first | (go_at_call 103; exact aboveE (spec_l01Name_is _ _ HK.out (by assumption))))))
        refine wpQuiet_nil ?_
        intro w1 b1
        have HB1 := Lib.hid (HB.out.trans (b1.mono HB.out.size)); clear b1 HB
        go_wp2_with fail
        go_roundw
        case rel => exact ⟨k + 1, by omega, by go_num, e.out, HB1.out⟩
        case measure => simp [intOf]; omega
      · have hpos : 0 < k := by omega
        have hz : decide (0 < k) = true := decide_eq_true (by omega)
        have p0 : wr.cell? ⟨b, off + (k - 1), none⟩ = some (.string x.ingots[k - 1]) := by
          rw [hb.cell (p := ⟨b, off + (k - 1), none⟩) hbB, hc (k - 1) (by omega), putStr_get x.ingots (k - 1) (by omega)]
        cases hT : ltName x.ingots[k - 1] x.ingots[k]
        · have e : Hid (meltB x = false) := (by rw [es.out]; exact HF.out (stepB_lt hlt hpos hO hT) : meltB x = false)
          have t1 : (!(Op.bytesLess x.ingots[k - 1].toList x.ingots[k].toList)) = true := ltName_spec_f hT
          have HB := Lib.hid hb
          clear hc hsome hnil hb hT h0 h1 h2
          go_wp2_with fail
          refine wp_region_above (by kernel_rfl) (by kernel_rfl) ?_
          repeat (go_big_quiet_step ((first | (go_at_call 103; exact aboveE (spec_l01Name_is _ _ HK.out (by assumption))))))
          refine wpQuiet_nil ?_
          intro w1 b1
          have HB1 := Lib.hid (HB.out.trans (b1.mono HB.out.size)); clear b1 HB
          go_wp2_with fail
          go_ret
          exact ⟨by rw [e.out]; rfl, HB1.out⟩
        · have e : Hid (allK (stepB nameB ltName x.ingots) (k + 1) = true) := (by rw [HS.out, Hall.out, stepB_yes hlt hpos hO hT]; rfl : allK (stepB nameB ltName x.ingots) (k + 1) = true)
          have t1 : (!(Op.bytesLess x.ingots[k - 1].toList x.ingots[k].toList)) = false := ltName_spec_t hT
          have HB := Lib.hid hb
          clear hc hsome hnil hb hT h0 h1 h2
          go_wp2_with fail
          refine wp_region_above (by kernel_rfl) (by kernel_rfl) ?_
          repeat (go_big_quiet_step ((first | (go_at_call 103; exact aboveE (spec_l01Name_is _ _ HK.out (by assumption))))))
          refine wpQuiet_nil ?_
          intro w1 b1
          have HB1 := Lib.hid (HB.out.trans (b1.mono HB.out.size)); clear b1 HB
          go_wp2_with fail
          go_roundw
          case rel => exact ⟨k + 1, by omega, by go_num, e.out, HB1.out⟩
          case measure => simp [intOf]; omega
    · have e : Hid (meltB x = true) := (by
        obtain rfl : k = x.ingots.length := by omega
        rw [es.out]; exact Hall.out : meltB x = true)
      go_wp2
      go_ret
      exact ⟨by rw [e.out]; rfl, hb⟩
end Go.Proofs.YtklgkbiobggbiaaDoor
