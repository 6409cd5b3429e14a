/- Contracts and plain facts, joined: SpotsTx. -/
import Derived.Test.YtockglfoeagahaaGreatDoorRows
import Derived.Test.YtockglfoeagahaaGreatDoorZFnWarbleD
import Derived.Test.YtockglfoeagahaaGreatDoorZFnWarbleZ
import Derived.Test.YtockglfoeagahaaGreatDoorZFnWarbleZB
import Derived.Deep.RegionHeld3
namespace Go.Proofs.YtockglfoeagahaaGreatDoor
open Go.ChangeShapes Go.WideShapes Go.ChangeAt Go.RowKit Go.Deep Go.Joins
set_option linter.unusedVariables false
set_option maxRecDepth 100000
set_option linter.unusedSimpArgs false
def spotT (x : Spot) : ByteArray := decT x.angle ++ ⟨#[58]⟩ ++ decT x.weight
def spotsT (xs : List Spot) : ByteArray := if validSpotS xs = true then if xs.length = 0 then ⟨#[45]⟩ else joinT 32 (xs.map spotT) else ⟨#[]⟩
theorem impl_ValidSpots_is {r : Bool} (w : World) (v : Value) (xs : List Spot) (h : Rd w.heap.size w v 2 xs.length (xs.flatMap Spot.put)) (hn : xs.length ≤ 1048576) (hok : ∀ x ∈ xs, x.ok) (hr : validSpotS xs = r) :
    Calls Tryz.prog 24 #[v] w fun e w' => e = .returned (.bool r) ∧ Below w.heap.size w w' := by
  rw [← hr]; exact impl_validSpot w v xs h hn hok
theorem same_nt (x : ByteArray) : (!(x.toList == x.toList)) = false := by simp
theorem same_t (x : ByteArray) : (x.toList == x.toList) = true := by simp
theorem validSpotS_parts {xs : List Spot} (h : validSpotS xs = true) : xs.length ≤ 16 ∧ ∀ x ∈ xs, (0 ≤ x.angle ∧ x.angle ≤ 359) ∧ -1000 ≤ x.weight ∧ x.weight ≤ 1000 := by
  simp only [validSpotS, Bool.and_eq_true, decide_eq_true_eq] at h
  refine ⟨h.2, fun x hx => ?_⟩
  obtain ⟨i, hi, rfl⟩ := List.mem_iff_getElem.1 hx
  have := allK_true h.1 i hi
  unfold stepB at this
  rw [List.getElem?_eq_getElem hi] at this
  simp only [Bool.and_eq_true] at this
  have h1 := this.1
  unfold spotB weightB at h1
  simp only [Bool.and_eq_true] at h1
  exact ⟨inB_true h1.1, inB_true h1.2.2⟩
theorem decT_sizeZ (n : Int) (h0 : -9223372036854775807 ≤ n) (h1 : n ≤ 9223372036854775807) : (decT n).size ≤ 21 := by
  by_cases h : n < 0
  · have e : decT n = ⟨(45 :: Lib.decDigits n.natAbs).toArray⟩ := by unfold decT Lib.itoa; rw [if_pos h]
    have hd := decD_len n.natAbs (by omega)
    unfold decD at hd
    rw [if_neg (by omega)] at hd
    rw [e]
    unfold ByteArray.size
    simp
    omega
  · have := decT_sizeN n (by omega) h1
    omega
theorem spotT_size (x : Spot) (h : (0 ≤ x.angle ∧ x.angle ≤ 359) ∧ -1000 ≤ x.weight ∧ x.weight ≤ 1000) : (spotT x).size ≤ 43 := by
  have h1 := decT_sizeZ x.angle (by omega) (by omega)
  have h2 := decT_sizeZ x.weight (by omega) (by omega)
  unfold spotT
  rw [ByteArray.size_append, ByteArray.size_append]
  have h3 : (⟨#[58]⟩ : ByteArray).size = 1 := rfl
  omega

theorem infoS : (Tryz.prog.info? 9).map (fun i => (i.zero, i.size, i.bytes)) = some (some (.string ByteArray.empty), 1, 16) := by kernel_rfl
theorem strs_snoc (xs : List ByteArray) (a : ByteArray) : (xs ++ [a]).flatMap putStr = xs.flatMap putStr ++ [.string a] := by rw [List.flatMap_append]; rfl
set_option maxHeartbeats 4000000 in
theorem impl_words (w : World) (v : Value) (xs : List Spot) (h : Rd w.heap.size w v 2 xs.length (xs.flatMap Spot.put)) (hn : xs.length ≤ 1048576) (hok : ∀ x ∈ xs, x.ok) (hp : Pow10 w) :
    Calls Tryz.prog 16 #[v] w fun e w' => e = .returned (.string (spotsT xs)) ∧ Below w.heap.size w w' := by
  cases hV : validSpotS xs
  · have e : Hid (spotsT xs = ⟨#[]⟩) := Lib.hid (by unfold spotsT; rw [hV]; rfl)
    have H := Lib.hid (impl_ValidSpots_is w v xs h hn hok hV)
    clear h hok hV hp
    go_enter Tryz.func16, Tryz.ntmps16
    go_wp2_with fail
    refine H.out.mono ?_; rintro e1 w1 ⟨rfl, b1⟩
    go_wp2_with fail
    go_ret
    exact ⟨by rw [e.out]; try rfl, b1⟩
  have H := Lib.hid (impl_ValidSpots_is w v xs h hn hok hV)
  by_cases h0 : xs.length = 0
  · have e : Hid (spotsT xs = ⟨#[45]⟩) := Lib.hid (by unfold spotsT; rw [hV, h0]; rfl)
    obtain ⟨vo, vc, rfl⟩ := h.form
    have t1 : ((xs.length : Int) == 0) = true := by rw [h0]; rfl
    have t2 : decide (xs.length = 0) = true := decide_eq_true h0
    clear h hok hV hp h0
    go_enter Tryz.func16, Tryz.ntmps16
    go_wp2_with fail
    refine H.out.mono ?_; rintro e1 w1 ⟨rfl, b1⟩
    go_wp2_with fail
    go_ret
    exact ⟨by rw [e.out]; try rfl, b1⟩
  obtain ⟨h16, hx⟩ := validSpotS_parts hV
  have e : Hid (spotsT xs = joinT 32 (xs.map spotT)) := Lib.hid (by unfold spotsT; rw [hV, if_pos rfl, if_neg h0])
  have Hx := Lib.hid hx; clear hx
  have Hs := Lib.hid (show ∀ y ∈ xs.map spotT, y.size ≤ 43 from fun y hy => by
    obtain ⟨x, hx, rfl⟩ := List.mem_map.1 hy
    exact spotT_size x (Hx.out x hx))
  have HP := Lib.hid hp; clear hp
  obtain ⟨i0, hi, hz0, hz1, hz2⟩ := info_parts infoS
  obtain ⟨hL, ao, cap, rfl, hcap, hmax, hnil, hsome⟩ := h
  have hne : ((xs.length : Int) == 0) = false := beq_eq_false_iff_ne.2 (by omega)
  have hne2 : decide (xs.length = 0) = false := decide_eq_false (by omega)
  clear hV hok
  go_enter Tryz.func16, Tryz.ntmps16
  go_wp2_with fail
  refine H.out.mono ?_; rintro e1 w1 ⟨rfl, b1⟩
  have HB0 := Lib.hid b1
  have hs0 := b1.size
  clear b1 H
  go_wp2_with fail
  go_loopw [3, 14] (fun r i wr => ∃ (k : Nat), k ≤ xs.length ∧ i = .int .i64 k ∧ wr.ownsRow w.heap.size 9 1 r ((xs.map spotT).take k).length (((xs.map spotT).take k).flatMap putStr) ∧ Below w.heap.size w wr) (fun _ i _ => xs.length - (intOf i).toNat)
  case atStart => exact ⟨0, Nat.zero_le _, rfl, own_nil _ _ _ _, HB0.out⟩
  case round =>
    obtain ⟨k, hk, rfl, hown, hb⟩ := hrel
    have hlk : ((xs.map spotT).take k).length ≤ 16 := by rw [List.length_take, List.length_map]; omega
    have ES := Lib.hid (show ∀ h : k < xs.length, (xs.map spotT).take (k + 1) = (xs.map spotT).take k ++ [decT xs[k].angle ++ ⟨#[58]⟩ ++ decT xs[k].weight] from fun h => by rw [List.take_succ_eq_append_getElem (by rw [List.length_map]; exact h), List.getElem_map]; rfl)
    have EE := Lib.hid (show ¬ k < xs.length → (xs.map spotT).take k = xs.map spotT from fun h => List.take_of_length_le (by rw [List.length_map]; omega))
    generalize (xs.map spotT).take k = J at *
    obtain ⟨ro, rc, er⟩ := (own_rd hown).form
    subst er
    have HO := Lib.hid hown; clear hown
    have HB := Lib.hid hb
    have hws := hb.size
    by_cases hlt : k < xs.length
    · obtain ⟨b, off, rfl, hbB, hc⟩ := hsome (by omega)
      have c0 : wr.cell? ⟨b, off + k * 2, none⟩ = some (.int .i64 xs[k].angle) := by rw [show off + k * 2 = off + (k * 2 + 0) from by omega, hb.cell (p := ⟨b, off + (k * 2 + 0), none⟩) hbB, hc (k * 2 + 0) (by omega), Spot_get0 xs k hlt]
      have c1 : wr.cell? ⟨b, off + k * 2 + 1, none⟩ = some (.int .i64 xs[k].weight) := by rw [show off + k * 2 + 1 = off + (k * 2 + 1) from by omega, hb.cell (p := ⟨b, off + (k * 2 + 1), none⟩) hbB, hc (k * 2 + 1) (by omega), Spot_get1 xs k hlt]
      have hbr : b < wr.heap.size := Nat.lt_of_lt_of_le hbB hws
      have hxk := Hx.out xs[k] (List.getElem_mem hlt)
      have hlm : k < (xs.map spotT).length := by rw [List.length_map]; exact hlt
      have eg : (xs.map spotT)[k] = decT xs[k].angle ++ ⟨#[58]⟩ ++ decT xs[k].weight := by rw [List.getElem_map]; rfl
      have z1 := decT_sizeZ xs[k].angle (by omega) (by omega)
      have z2 := decT_sizeZ xs[k].weight (by omega) (by omega)
      have z3 : (decT xs[k].angle ++ (⟨#[58]⟩ : ByteArray)).size = (decT xs[k].angle).size + 1 := by rw [ByteArray.size_append]; rfl
      have z4 : (decT xs[k].angle ++ (⟨#[58]⟩ : ByteArray) ++ decT xs[k].weight).size = (decT xs[k].angle).size + 1 + (decT xs[k].weight).size := by rw [ByteArray.size_append, z3]
      have z5 : (⟨#[58]⟩ : ByteArray).size = 1 := rfl
      have e2 := Lib.hid (ES.out hlt)
      have HA := Lib.hid (fun W (h' : Below w.heap.size w W) => impl_Decimal xs[k].angle W (by omega) (by omega) (HP.out.below h'))
      have HW := Lib.hid (fun W (h' : Below w.heap.size w W) => impl_Decimal xs[k].weight W (by omega) (by omega) (HP.out.below h'))
      have hBx : Below w.heap.size w (wr.alloc (.cells #[.int .i64 xs[k].angle, .int .i64 xs[k].weight] 38)) := hb.alloc hws _
      have HBX := Lib.hid hBx.drew
      have HOX := Lib.hid (own_drew (HO.out.alloc (.cells #[.int .i64 xs[k].angle, .int .i64 xs[k].weight] 38)) 1)
      have HVX := Lib.hid (Own.drew1 (Own.new wr 38 [.int .i64 xs[k].angle, .int .i64 xs[k].weight]))
      have hng : ∀ g', Value.ownBlock (.slice ro J.length rc) = some g' → g' ≠ wr.heap.size := fun g' e => by have := (HO.out.lt g' e).2; omega
      clear hc hsome hnil hb eg hBx hlm ES EE
      generalize xs[k].angle = A at *
      generalize xs[k].weight = B at *
      generalize decT A = D at *
      generalize decT B = E at *
      have q1 : ¬ (9223372036854775807 < D.size + 1) := by omega
      have q2 : ¬ (9223372036854775807 ≤ D.size) := by omega
      have q3 : ¬ (9223372036854775807 < D.size + 1 + E.size) := by omega
      have g0 := HVX.out.cell 0
      have g1 := HVX.out.cell 1
      have gl := HVX.out.lt
      go_wp2_with fail
      go_region_held3 (fun w' => w'.cell? ⟨wr.heap.size, 0, none⟩ = some (.int .i64 A) ∧ w'.cell? ⟨wr.heap.size, 1, none⟩ = some (.int .i64 B)) (first | assumption | go_keep | exact ⟨HVX.out.cell 0, HVX.out.cell 1⟩) (first
        | (go_at_call_of 41 A
           refine (HA.out _ HBX.out).mono ?_; rintro ea wa ⟨rfl, ba⟩
           have HBXn := Lib.hid (bnext HBX.out ba)
           have HOXn := Lib.hid (own_below HOX.out ba (Nat.le_refl _))
           have HVXn := Lib.hid (HVX.out.below ba HVX.out.lt)
           clear HBX HOX HVX ba
           have HBX := HBXn
           have HOX := HOXn
           have HVX := HVXn
           clear HBXn HOXn HVXn
           have HSa : wa.cell? ⟨wr.heap.size, 0, none⟩ = some (.int .i64 A) ∧ wa.cell? ⟨wr.heap.size, 1, none⟩ = some (.int .i64 B) := ⟨HVX.out.cell 0, HVX.out.cell 1⟩)
        | (go_at_call_of 41 B
           refine (HW.out _ HBX.out).mono ?_; rintro ea wb ⟨rfl, ba⟩
           have HBXn := Lib.hid (bnext HBX.out ba)
           have HOXn := Lib.hid (own_below HOX.out ba (Nat.le_refl _))
           have HVXn := Lib.hid (HVX.out.below ba HVX.out.lt)
           clear HBX HOX HVX ba
           have HBX := HBXn
           have HOX := HOXn
           have HVX := HVXn
           clear HBXn HOXn HVXn
           have HSb : wb.cell? ⟨wr.heap.size, 0, none⟩ = some (.int .i64 A) ∧ wb.cell? ⟨wr.heap.size, 1, none⟩ = some (.int .i64 B) := ⟨HVX.out.cell 0, HVX.out.cell 1⟩)
        | (rw [if_pos (by rfl)]
           refine stp_el _ _ 62 9 i0 (.string ByteArray.empty) 1 16 Tryz.underlying62 hi hz0 hz1 hz2 rfl (by decide) rfl _ w.heap.size (.slice ro J.length rc) J.length (J.flatMap putStr) (by rfl) HOX.out [.string (D ++ ⟨#[58]⟩ ++ E)] rfl (by intro u hu; simp at hu; subst hu; rfl) (by rfl) (by omega) (by decide) HBX.out.size (by rfl) ?_
           intro g gc w3 hown3 hB3 hK3
           have HB3 := Lib.hid (hB3 w HBX.out)
           have HO3 := Lib.hid hown3
           have HV3 := hK3 _ _ _ HVX.out hng
           have HS3 : w3.cell? ⟨wr.heap.size, 0, none⟩ = some (.int .i64 A) ∧ w3.cell? ⟨wr.heap.size, 1, none⟩ = some (.int .i64 B) := ⟨HV3.cell 0, HV3.cell 1⟩
           clear hown3 hB3 hK3 HV3))
      all_goals go_wp2_with fail
      all_goals go_roundw
      all_goals first
        | exact ⟨k + 1, by omega, by go_num, by rw [e2.out, strs_snoc, List.length_append]; exact HO3.out, HB3.out⟩
        | (simp [intOf]; omega)
    · have em := EE.out hlt
      subst em
      have hrd := own_rd HO.out
      have HJ := Lib.hid (impl_join 32 wr _ (xs.map spotT) hrd (by rw [List.length_map]; omega) (by rw [List.length_map]; omega) 43 (by omega) Hs.out)
      rw [List.length_map] at HJ
      generalize joinT 32 (xs.map spotT) = J at *
      clear hsome hnil hb hrd ES EE
      go_wp2_with fail
      refine HJ.out.mono ?_; rintro e1 w1 ⟨rfl, b1⟩
      have HB1 := Lib.hid (HB.out.trans (b1.mono HB.out.size)); clear b1
      go_wp2_with fail
      go_ret
      exact ⟨by rw [e.out]; try rfl, HB1.out⟩
end Go.Proofs.YtockglfoeagahaaGreatDoor
