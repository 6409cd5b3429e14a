/- ListText at any list that is not empty: the program. -/
import Derived.Test.YtklgkbiobggbiaaDoorRows
import Derived.Test.YtklgkbiobggbiaaDoorReadLiL
namespace Go.Proofs.YtklgkbiobggbiaaDoor
open Go.ChangeShapes Go.WideShapes Go.ChangeAt Go.RowKit Go.Deep Go.Joins
set_option linter.unusedVariables false
set_option maxRecDepth 100000
set_option linter.unusedSimpArgs false
theorem isValue_at {n : Int} {b : Bool} (hv : valB n = b) (w : World) : Calls Tryd.prog 98 #[.int .i64 n] w fun e w' => e = .returned (.bool (!b)) ∧ w = w' := by
  have hb : inB n (-1000000000000) 1000000000000 = b := hv
  have H : ∀ w' : World, Calls Tryd.prog 99 #[.int .i64 n] w' fun e w'' => e = .returned (.bool b) ∧ w' = w'' := fun w' => by
    go_enter Tryd.func99, Tryd.ntmps99
    go_wp2_with (go_at_call 70; refine (within_is _ _ _ _ hb).mono ?_; rintro e w' ⟨rfl, rfl⟩)
    go_ret
    exact ⟨rfl, rfl⟩
  have HH := Lib.hid H; clear H
  go_enter Tryd.func98, Tryd.ntmps98
  go_wp2_with (go_at_call 99; refine (HH.out _).mono ?_; rintro e1 w1 ⟨rfl, rfl⟩)
  go_ret
  exact ⟨rfl, rfl⟩
theorem all_take {xs : List Int} {k : Nat} (h : k < xs.length) (ha : (xs.take k).all valB = true) (hv : valB xs[k] = true) : (xs.take (k + 1)).all valB = true := by
  rw [List.take_succ_eq_append_getElem h, List.all_append, ha]
  simp [hv]
theorem IndexFunc_any (w : World) (v : Value) (zs : List Int) (h : Rd w.heap.size w v 1 zs.length (zs.flatMap putI)) (h0 : 0 < zs.length) (hn : zs.length ≤ 64) :
    Calls Tryd.prog 124 #[v, .func (.func 98) #[] #[]] w fun e w' => ∃ r : Int, e = .returned (.int .i64 r) ∧ decide (0 ≤ r) = !(zs.all valB) ∧ w = w' := by
  obtain ⟨hL, ao, cap, rfl, hcap, hmax, hnil, hsome⟩ := h
  go_enter Tryd.func124, Tryd.ntmps124
  go_wp2
  go_loop [8] (fun i => ∃ (k : Nat), k ≤ zs.length ∧ i = .int .i64 k ∧ (zs.take k).all valB = true) (fun i => zs.length - (intOf i).toNat)
  case atStart => exact ⟨0, Nat.zero_le _, rfl, rfl⟩
  case round =>
    obtain ⟨k, hk, rfl, hal⟩ := hrel
    have HA := Lib.hid hal; clear hal
    by_cases hlt : k < zs.length
    · obtain ⟨b, off, rfl, hbB, hc⟩ := hsome (by omega)
      have c1 : w.cell? ⟨b, off + k, none⟩ = some (.int .i64 zs[k]) := by rw [hc k (by omega), putI_get zs k hlt]
      clear hc hsome hnil
      cases hv : valB zs[k]
      · have HC := Lib.hid (fun w' => isValue_at hv w')
        have e : Hid (zs.all valB = false) := Lib.hid (by
          rw [List.all_eq_false]
          exact ⟨zs[k], List.getElem_mem hlt, by rw [hv]; simp⟩)
        clear hv
        go_wp2_with (go_at_call 98; refine (HC.out _).mono ?_; rintro e1 w1 ⟨rfl, rfl⟩)
        go_ret
        exact ⟨k, rfl, by rw [e.out]; exact decide_eq_true (by omega), rfl⟩
      · have HC := Lib.hid (fun w' => isValue_at hv w')
        have e := Lib.hid (all_take hlt HA.out hv)
        clear hv
        go_wp2_with (go_at_call 98; refine (HC.out _).mono ?_; rintro e1 w1 ⟨rfl, rfl⟩)
        go_round
        case rel => exact ⟨k + 1, by omega, by go_num, e.out⟩
        case measure => simp [intOf]; omega
    · obtain rfl : k = zs.length := by omega
      have e : Hid (zs.all valB = true) := Lib.hid (by have := HA.out; rwa [List.take_length] at this)
      clear hsome hnil
      go_wp2
      go_ret
      exact ⟨-1, rfl, by rw [e.out]; rfl, rfl⟩
theorem ContainsFunc_any {b : Bool} (w : World) (v : Value) (zs : List Int) (h : Rd w.heap.size w v 1 zs.length (zs.flatMap putI)) (h0 : 0 < zs.length) (hn : zs.length ≤ 64) (hb : zs.all valB = b) :
    Calls Tryd.prog 97 #[v, .func (.func 98) #[] #[]] w fun e w' => e = .returned (.bool (!b)) ∧ w = w' := by
  have H := Lib.hid (IndexFunc_any w v zs h h0 hn)
  rw [hb] at H
  clear h hb
  go_enter Tryd.func97, Tryd.ntmps97
  go_wp2_with fail
  refine H.out.mono ?_; rintro e1 w1 ⟨r, rfl, hr, rfl⟩
  go_wp2_with fail
  go_ret
  exact ⟨by rw [← hr]; try rfl, rfl⟩
theorem listX_sizes (zs : List Int) (hz : ∀ z ∈ zs, -1000000000000 ≤ z ∧ z ≤ 1000000000000) : ∀ x ∈ zs.map decT, x.size ≤ 21 := by
  intro x hx
  obtain ⟨z, hz1, rfl⟩ := List.mem_map.1 hx
  exact decT_sizeV (hz z hz1)
set_option maxHeartbeats 2000000 in
theorem impl_ListTextX (w : World) (v : Value) (zs : List Int) (h : Rd w.heap.size w v 1 zs.length (zs.flatMap putI)) (h0 : 0 < zs.length) (hn : zs.length ≤ 2097152) (hp : Pow10 w) :
    Calls Tryd.prog 60 #[v] w fun e w' => e = .returned (.string (listX zs)) ∧ Below w.heap.size w w' := by
  by_cases h64n : 64 < zs.length
  · have e : Hid (listX zs = ⟨#[]⟩) := Lib.hid (if_neg (by omega))
    obtain ⟨ao, cap, rfl⟩ := h.form
    have h64 : decide ((64 : Int) < zs.length) = true := decide_eq_true (by omega)
    clear h hp
    go_enter Tryd.func60, Tryd.ntmps60
    go_wp2_with fail
    go_ret
    exact ⟨by rw [e.out]; try rfl, Below.refl _ _⟩
  have h64 : decide ((64 : Int) < zs.length) = false := decide_eq_false (by omega)
  cases hb : zs.all valB
  · have HCF := Lib.hid (ContainsFunc_any w v zs h h0 (by omega) hb)
    have e : Hid (listX zs = ⟨#[]⟩) := Lib.hid (if_neg (by rw [hb]; simp))
    obtain ⟨ao, cap, rfl⟩ := h.form
    clear h hp hb
    go_enter Tryd.func60, Tryd.ntmps60
    go_wp2_with (go_at_call 97; refine HCF.out.mono ?_; rintro e1 w1 ⟨rfl, rfl⟩)
    go_ret
    exact ⟨by rw [e.out]; try rfl, Below.refl _ _⟩
  have HCF := Lib.hid (ContainsFunc_any w v zs h h0 (by omega) hb)
  have el0 : Hid (listX zs = listT zs) := Lib.hid (if_pos ⟨by omega, hb⟩)
  have Hz : Hid (∀ z ∈ zs, -1000000000000 ≤ z ∧ z ≤ 1000000000000) := Lib.hid (fun z hz => valB_bd (List.all_eq_true.1 hb z hz))
  have Hs := Lib.hid (listX_sizes zs Hz.out)
  clear hb
  obtain ⟨hL, ao, cap, rfl, hcap, hmax, hnil, hsome⟩ := h
  obtain ⟨i0, hi, hz0, hz1, hz2⟩ := info_parts infoS
  have HP := Lib.hid hp; clear hp
  have hne : ((zs.length : Int) == 0) = false := beq_eq_false_iff_ne.2 (by omega)
  have hne2 : decide (zs.length = 0) = false := decide_eq_false (by omega)
  have h64b : decide (64 < zs.length) = false := decide_eq_false (by omega)
  go_enter Tryd.func60, Tryd.ntmps60
  go_wp2_with (go_at_call 97; refine HCF.out.mono ?_; rintro e1 w1 ⟨rfl, rfl⟩)
  go_loopw [3, 18] (fun r i wr => ∃ (k : Nat), k ≤ zs.length ∧ i = .int .i64 k ∧ wr.ownsRow w.heap.size 9 1 r ((zs.map decT).take k).length (((zs.map decT).take k).flatMap putStr) ∧ Below w.heap.size w wr) (fun _ i _ => zs.length - (intOf i).toNat)
  case atStart => exact ⟨0, Nat.zero_le _, rfl, own_nil _ _ _ _, Below.refl _ _⟩
  case round =>
    obtain ⟨k, hk, rfl, hown, hb⟩ := hrel
    have HO := Lib.hid hown; clear hown
    have HB := Lib.hid hb
    have hlk : ((zs.map decT).take k).length ≤ 64 := by rw [List.length_take, List.length_map]; omega
    by_cases hlt : k < zs.length
    · obtain ⟨b, off, rfl, hbB, hc⟩ := hsome (by omega)
      have c1 : wr.cell? ⟨b, off + k, none⟩ = some (.int .i64 zs[k]) := by rw [hb.cell (p := ⟨b, off + k, none⟩) hbB, hc k (by omega), putI_get zs k hlt]
      have hzk := Hz.out zs[k] (List.getElem_mem hlt)
      have HD := Lib.hid (impl_Decimal zs[k] wr (by omega) (by omega) (HP.out.below hb))
      have hlm : k < (zs.map decT).length := by rw [List.length_map]; exact hlt
      have e : Hid ((zs.map decT).take (k + 1) = (zs.map decT).take k ++ [decT zs[k]]) := Lib.hid (by rw [List.take_succ_eq_append_getElem hlm, List.getElem_map])
      clear hc hsome hnil hb hlm
      generalize (zs.map decT).take k = J at *
      go_wp2_with fail
      refine HD.out.mono ?_; rintro e1 w1 ⟨rfl, b1⟩
      have HB1 := Lib.hid (HB.out.trans (b1.mono HB.out.size))
      have HO1 := Lib.hid (own_below HO.out b1 (Nat.le_refl _))
      have hws1 := HB1.out.size
      clear b1
      go_wp2_with (at_builtin; refine app_el rfl _ _ 35 9 i0 (.string ByteArray.empty) 1 16 Tryd.underlying35 hi hz0 hz1 hz2 rfl (by decide) rfl w1 w.heap.size _ _ (J.flatMap putStr) (by rfl) HO1.out [.string (decT zs[k])] rfl (by intro u hu; simp at hu; subst hu; rfl) (by rfl) (by omega) (by decide) hws1 ?_; intro g gc w3 hown3 hB3 hz; have HB3 := Lib.hid (hB3 w HB1.out); have HO3 := Lib.hid hown3; clear hown3 hB3)
      go_roundw
      case rel => exact ⟨k + 1, by omega, by go_num, by rw [e.out, strs_snoc, List.length_append]; exact HO3.out, HB3.out⟩
      case measure => simp [intOf]; omega
    · have em : (zs.map decT).take k = zs.map decT := List.take_of_length_le (by rw [List.length_map]; omega)
      rw [em] at HO
      have hrd := own_rd HO.out
      have HJ := Lib.hid (impl_join 44 wr _ (zs.map decT) hrd (by rw [List.length_map]; exact h0) (by rw [List.length_map]; omega) 21 (by omega) Hs.out)
      have el : Hid (listX zs = joinT 44 (zs.map decT)) := Lib.hid el0.out
      obtain ⟨jo, jc, ej⟩ := hrd.form
      subst ej
      rw [List.length_map] at HJ
      generalize joinT 44 (zs.map decT) = J at *
      clear hsome hnil hb em hrd
      go_wp2_with fail
      refine HJ.out.mono ?_; rintro e1 w1 ⟨rfl, b1⟩
      have HB1 := Lib.hid (HB.out.trans (b1.mono HB.out.size)); clear b1
      go_wp2_with fail
      go_ret
      exact ⟨by rw [el.out]; try rfl, HB1.out⟩
end Go.Proofs.YtklgkbiobggbiaaDoor
