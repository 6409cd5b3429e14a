/- Texts of lists of numbers: both sides compute the same. -/
import Derived.Test.YtklgkbiobggbiaaDoorRows
import Derived.Test.YtklgkbiobggbiaaDoorDec0
import Derived.Test.YtklgkbiobggbiaaDoorJoin
namespace Go.Proofs.YtklgkbiobggbiaaDoor
open Go.ChangeShapes Go.WideShapes Go.ChangeAt Go.RowKit Go.Deep Go.Joins
set_option linter.unusedVariables false
set_option maxRecDepth 100000
set_option linter.unusedSimpArgs false
def listT (zs : List Int) : ByteArray := joinT 44 (zs.map decT)
theorem listT_sizes (zs : List Int) (hz : ∀ z ∈ zs, 0 ≤ z ∧ z ≤ 1000000000000) : ∀ x ∈ zs.map decT, x.size ≤ 20 := by
  intro x hx
  obtain ⟨z, hz1, rfl⟩ := List.mem_map.1 hx
  have := hz z hz1
  exact decT_sizeN z this.1 (by omega)
theorem listT_size (zs : List Int) (hz : ∀ z ∈ zs, 0 ≤ z ∧ z ≤ 1000000000000) : (listT zs).size ≤ 21 * zs.length := by
  have := joinT_size 44 20 (zs.map decT) (listT_sizes zs hz)
  rwa [List.length_map] at this
theorem isValue_is (n : Int) (w : World) (h : 0 ≤ n ∧ n ≤ 1000000000000) : Calls Tryd.prog 98 #[.int .i64 n] w fun e w' => e = .returned (.bool false) ∧ w = w' := by
  have hb : inB n (-1000000000000) 1000000000000 = true := inB_mk (by omega)
  have H : ∀ w' : World, Calls Tryd.prog 99 #[.int .i64 n] w' fun e w'' => e = .returned (.bool true) ∧ w' = w'' := fun w' => by
    go_enter Tryd.func99, Tryd.ntmps99
    go_wp2_with (go_at_call 70; refine (within_is _ _ _ _ hb).mono ?_; rintro e w' ⟨rfl, rfl⟩)
    go_ret
    exact ⟨rfl, rfl⟩
  have HH := Lib.hid H; clear H
  go_enter Tryd.func98, Tryd.ntmps98
  go_wp2_with (go_at_call 99; refine (HH.out _).mono ?_; rintro e1 w1 ⟨rfl, rfl⟩)
  go_ret
  exact ⟨rfl, rfl⟩
theorem IndexFunc_val (w : World) (v : Value) (zs : List Int) (h : Rd w.heap.size w v 1 zs.length (zs.flatMap putI)) (h0 : 0 < zs.length) (hn : zs.length ≤ 64) (hz : ∀ z ∈ zs, 0 ≤ z ∧ z ≤ 1000000000000) :
    Calls Tryd.prog 124 #[v, .func (.func 98) #[] #[]] w fun e w' => e = .returned (.int .i64 (-1)) ∧ w = w' := by
  obtain ⟨hL, ao, cap, rfl, hcap, hmax, hnil, hsome⟩ := h
  have Hz := Lib.hid hz; clear hz
  go_enter Tryd.func124, Tryd.ntmps124
  go_wp2
  go_loop [8] (fun i => ∃ (k : Nat), k ≤ zs.length ∧ i = .int .i64 k) (fun i => zs.length - (intOf i).toNat)
  case atStart => exact ⟨0, Nat.zero_le _, rfl⟩
  case round =>
    obtain ⟨k, hk, rfl⟩ := hrel
    by_cases hlt : k < zs.length
    · obtain ⟨b, off, rfl, hbB, hc⟩ := hsome (by omega)
      have c1 : w.cell? ⟨b, off + k, none⟩ = some (.int .i64 zs[k]) := by rw [hc k (by omega), putI_get zs k hlt]
      have HC := Lib.hid (fun w' => isValue_is zs[k] w' (Hz.out _ (List.getElem_mem hlt)))
      clear hc hsome hnil
      go_wp2_with (go_at_call 98; refine (HC.out _).mono ?_; rintro e1 w1 ⟨rfl, rfl⟩)
      go_round
      case rel => exact ⟨k + 1, by omega, by go_num⟩
      case measure => simp [intOf]; omega
    · clear hsome hnil
      go_wp2
      go_ret
      exact ⟨rfl, rfl⟩
theorem ContainsFunc_val (w : World) (v : Value) (zs : List Int) (h : Rd w.heap.size w v 1 zs.length (zs.flatMap putI)) (h0 : 0 < zs.length) (hn : zs.length ≤ 64) (hz : ∀ z ∈ zs, 0 ≤ z ∧ z ≤ 1000000000000) :
    Calls Tryd.prog 97 #[v, .func (.func 98) #[] #[]] w fun e w' => e = .returned (.bool false) ∧ w = w' := by
  have H := Lib.hid (IndexFunc_val w v zs h h0 hn hz)
  clear h hz
  go_enter Tryd.func97, Tryd.ntmps97
  go_wp2_with fail
  refine H.out.mono ?_; rintro e1 w1 ⟨rfl, rfl⟩
  go_wp2_with fail
  go_ret
  exact ⟨rfl, rfl⟩
theorem infoS : (Tryd.prog.info? 9).map (fun i => (i.zero, i.size, i.bytes)) = some (some (.string ByteArray.empty), 1, 16) := by kernel_rfl
theorem strs_snoc (xs : List ByteArray) (a : ByteArray) : (xs ++ [a]).flatMap putStr = xs.flatMap putStr ++ [.string a] := by rw [List.flatMap_append]; rfl
set_option maxHeartbeats 4000000 in
theorem impl_ListText (w : World) (v : Value) (zs : List Int) (h : Rd w.heap.size w v 1 zs.length (zs.flatMap putI)) (h0 : 0 < zs.length) (hn : zs.length ≤ 64) (hz : ∀ z ∈ zs, 0 ≤ z ∧ z ≤ 1000000000000) (hp : Pow10 w) :
    Calls Tryd.prog 60 #[v] w fun e w' => e = .returned (.string (listT zs)) ∧ Below w.heap.size w w' := by
  have HCF := Lib.hid (ContainsFunc_val w v zs h h0 hn hz)
  obtain ⟨hL, ao, cap, rfl, hcap, hmax, hnil, hsome⟩ := h
  obtain ⟨i0, hi, hz0, hz1, hz2⟩ := info_parts infoS
  have Hs := Lib.hid (listT_sizes zs hz)
  have Hz := Lib.hid hz; clear hz
  have HP := Lib.hid hp; clear hp
  have hne : ((zs.length : Int) == 0) = false := beq_eq_false_iff_ne.2 (by omega)
  have hne2 : decide (zs.length = 0) = false := decide_eq_false (by omega)
  have h64 : decide ((64 : Int) < zs.length) = false := decide_eq_false (by omega)
  have h64b : decide (64 < zs.length) = false := decide_eq_false (by omega)
  go_enter Tryd.func60, Tryd.ntmps60
  go_wp2_with (go_at_call 97; refine HCF.out.mono ?_; rintro e1 w1 ⟨rfl, rfl⟩)
  go_loopw [3, 18] (fun r i wr => ∃ (k : Nat), k ≤ zs.length ∧ i = .int .i64 k ∧ wr.ownsRow w.heap.size 9 1 r ((zs.map decT).take k).length (((zs.map decT).take k).flatMap putStr) ∧ Below w.heap.size w wr) (fun _ i _ => zs.length - (intOf i).toNat)
  case atStart => exact ⟨0, Nat.zero_le _, rfl, own_nil _ _ _ _, Below.refl _ _⟩
  case round =>
    obtain ⟨k, hk, rfl, hown, hb⟩ := hrel
    have HO := Lib.hid hown; clear hown
    have HB := Lib.hid hb
    have hlk : ((zs.map decT).take k).length ≤ 64 := by rw [List.length_take, List.length_map]; omega
    by_cases hlt : k < zs.length
    · obtain ⟨b, off, rfl, hbB, hc⟩ := hsome (by omega)
      have c1 : wr.cell? ⟨b, off + k, none⟩ = some (.int .i64 zs[k]) := by rw [hb.cell (p := ⟨b, off + k, none⟩) hbB, hc k (by omega), putI_get zs k hlt]
      have hzk := Hz.out zs[k] (List.getElem_mem hlt)
      have HD := Lib.hid (impl_Decimal zs[k] wr (by omega) (by omega) (HP.out.below hb))
      have hlm : k < (zs.map decT).length := by rw [List.length_map]; exact hlt
      have e : Hid ((zs.map decT).take (k + 1) = (zs.map decT).take k ++ [decT zs[k]]) := Lib.hid (by rw [List.take_succ_eq_append_getElem hlm, List.getElem_map])
      clear hc hsome hnil hb hlm
      generalize (zs.map decT).take k = J at *
      go_wp2_with fail
      refine HD.out.mono ?_; rintro e1 w1 ⟨rfl, b1⟩
      have HB1 := Lib.hid (HB.out.trans (b1.mono HB.out.size))
      have HO1 := Lib.hid (own_below HO.out b1 (Nat.le_refl _))
      have hws1 := HB1.out.size
      clear b1
      go_wp2_with (at_builtin; refine app_el rfl _ _ 35 9 i0 (.string ByteArray.empty) 1 16 Tryd.underlying35 hi hz0 hz1 hz2 rfl (by decide) rfl w1 w.heap.size _ _ (J.flatMap putStr) (by rfl) HO1.out [.string (decT zs[k])] rfl (by intro u hu; simp at hu; subst hu; rfl) (by rfl) (by omega) (by decide) hws1 ?_; intro g gc w3 hown3 hB3 hz; have HB3 := Lib.hid (hB3 w HB1.out); have HO3 := Lib.hid hown3; clear hown3 hB3)
      go_roundw
      case rel => exact ⟨k + 1, by omega, by go_num, by rw [e.out, strs_snoc, List.length_append]; exact HO3.out, HB3.out⟩
      case measure => simp [intOf]; omega
    · have em : (zs.map decT).take k = zs.map decT := List.take_of_length_le (by rw [List.length_map]; omega)
      rw [em] at HO
      have hrd := own_rd HO.out
      have HJ := Lib.hid (impl_join 44 wr _ (zs.map decT) hrd (by rw [List.length_map]; exact h0) (by rw [List.length_map]; omega) 20 (by omega) Hs.out)
      have el : Hid (listT zs = joinT 44 (zs.map decT)) := (rfl : listT zs = joinT 44 (zs.map decT))
      obtain ⟨jo, jc, ej⟩ := hrd.form
      subst ej
      rw [List.length_map] at HJ
      generalize joinT 44 (zs.map decT) = J at *
      clear hsome hnil hb em hrd
      go_wp2_with fail
      refine HJ.out.mono ?_; rintro e1 w1 ⟨rfl, b1⟩
      have HB1 := Lib.hid (HB.out.trans (b1.mono HB.out.size)); clear b1
      go_wp2_with fail
      go_ret
      exact ⟨by rw [el.out]; try rfl, HB1.out⟩
end Go.Proofs.YtklgkbiobggbiaaDoor
