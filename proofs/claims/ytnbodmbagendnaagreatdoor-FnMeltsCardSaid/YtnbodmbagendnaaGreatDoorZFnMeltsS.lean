/- Contracts and plain facts, joined: WeakM, HSpot, OneSpot, VSpot. -/
import Derived.Test.YtnbodmbagendnaaGreatDoorRows
import Derived.Test.YtnbodmbagendnaaGreatDoorZFnMeltsC
import Derived.Test.YtnbodmbagendnaaGreatDoorZFnMeltsD
import Derived.Test.YtnbodmbagendnaaGreatDoorZFnMeltsF
import Derived.Test.YtnbodmbagendnaaGreatDoorZFnMeltsO
import Derived.Test.YtnbodmbagendnaaGreatDoorZFnMeltsR
namespace Go.Proofs.YtnbodmbagendnaaGreatDoor
open Go.ChangeShapes Go.WideShapes Go.ChangeAt Go.RowKit Go.Deep Go.Joins
set_option linter.unusedVariables false
set_option maxRecDepth 100000
set_option linter.unusedSimpArgs false
/-- ingots that a draw may give -/
def fineI (xs : List Ingot) : Prop := xs.length ≤ 20 ∧ ∀ x ∈ xs, x.ok ∧ 0 ≤ x.mass ∧ x.mass ≤ 20000001
theorem fineI_snoc {xs : List Ingot} {x : Ingot} (h : fineI xs) (hl : xs.length ≤ 19) (hx : x.ok) (h0 : 0 ≤ x.mass) (h1 : x.mass ≤ 20000001) : fineI (xs ++ [x]) := by
  refine ⟨by simp; omega, fun y hy => ?_⟩
  rcases List.mem_append.1 hy with q | q
  · exact h.2 y q
  · rw [List.mem_singleton.1 q]; exact ⟨hx, h0, h1⟩
/-- a pair of a value and a yes or no -/
def PairB (e : Ending) (u : Value) : Prop := ∃ ok : Bool, e = .returned (.tuple #[u, .bool ok])
theorem mul_bd {a b : Nat} (ha : a ≤ 100) (hb : b ≤ 20) : a * b ≤ 2000 := by
  have := Nat.mul_le_mul ha hb
  omega
set_option maxHeartbeats 4000000 in
theorem weak_chosen (w : World) (v : Value) (xs : List Ingot) (ids : List ByteArray) (a1 o1 : Nat) (v1 : Value) (h : Rd w.heap.size w v 5 xs.length (xs.flatMap Ingot.put)) (hn : xs.length ≤ 20)
    (g1 : w.cell? ⟨a1, o1 + 1, none⟩ = some v1) (ha1 : a1 < w.heap.size) (h2 : Rd w.heap.size w v1 1 ids.length (ids.flatMap putStr)) (hn2 : ids.length ≤ 100) :
    Calls Tryz.prog 82 #[v, .pointer (some ⟨a1, o1, none⟩)] w fun e w' => ∃ (u : Value) (cs : List Int), PairB e u ∧ cs.length ≤ 2000 ∧ (∀ c ∈ cs, 0 ≤ c ∧ c < xs.length) ∧ Rd w'.heap.size w' u 1 cs.length (cs.flatMap putI) ∧ Below w.heap.size w w' := by
  obtain ⟨hL, ao, cap, rfl, hcap, hmax, hnil, hsome⟩ := h
  obtain ⟨hL2, ao2, cap2, rfl, hcap2, hmax2, hnil2, hsome2⟩ := h2
  obtain ⟨i0, hi, hz0, hz1, hz2⟩ := info_parts info_i64
  go_enter Tryz.func82, Tryz.ntmps82
  go_wp2
  go_loopw [6, 7, 8, 9] (fun u i _ _ wr => ∃ (k : Nat) (cs : List Int), k ≤ ids.length ∧ i = .int .i64 k ∧ cs.length ≤ k * xs.length ∧ (∀ c ∈ cs, 0 ≤ c ∧ c < xs.length) ∧ wr.ownsRow w.heap.size 2 1 u cs.length (cs.flatMap putI) ∧ Below w.heap.size w wr) (fun _ i _ _ _ => ids.length - (intOf i).toNat)
  case atStart => exact ⟨0, [], Nat.zero_le _, rfl, Nat.zero_le _, fun c hc => (by cases hc), own_empty w _ _ _ (Nat.le_refl _), by (repeat' (first | (with_reducible exact Below.refl _ _) | (with_reducible assumption) | (with_reducible refine below_dn ?_ _) | (with_reducible refine Below.drew ?_) | (with_reducible refine Below.alloc ?_ ?_ _) | (with_reducible refine Below.setCell ?_ ?_ _) | go_size))⟩
  case round =>
    obtain ⟨k, cs, hk, rfl, hcl, hca, hown, hb⟩ := hrel
    have HCA := Lib.hid hca; clear hca
    have HCL := Lib.hid hcl; clear hcl
    have HO := Lib.hid hown; clear hown
    have e1 : wr.cell? ⟨a1, o1 + 1, none⟩ = some (.slice ao2 ids.length cap2) := (hb.cell (p := ⟨a1, o1 + 1, none⟩) ha1).trans g1
    have HB := Lib.hid hb; clear hb
    by_cases hlt : k < ids.length
    · go_wp2
      obtain ⟨wo, rfl⟩ : ∃ wo : World, wo = wr := ⟨_, rfl⟩
      clear e1
      go_loopw [6, 8, 9] (fun u f j wr => ∃ (m : Nat) (fb : Bool) (cs : List Int), m ≤ xs.length ∧ j = .int .i64 m ∧ f = .bool fb ∧ cs.length ≤ k * xs.length + m ∧ (∀ c ∈ cs, 0 ≤ c ∧ c < xs.length) ∧ wr.ownsRow w.heap.size 2 1 u cs.length (cs.flatMap putI) ∧ Below w.heap.size w wr) (fun _ _ j _ => xs.length - (intOf j).toNat)
      case atStart => exact ⟨0, false, cs, Nat.zero_le _, rfl, rfl, HCL.out, HCA.out, HO.out, HB.out⟩
      case round =>
        clear HO HB HCL HCA
        obtain ⟨m, fb, cs, hm, rfl, rfl, hcl, hca, hown, hb⟩ := hrel
        have HO := Lib.hid hown
        obtain ⟨uo, uc, eu⟩ := (own_rd hown).form
        subst eu
        clear hown
        have HCA := Lib.hid hca; clear hca
        have hbd : k * xs.length ≤ 2000 := mul_bd (by omega) hn
        have HCL := Lib.hid hcl
        have hc3 : cs.length ≤ 3000 := by omega
        clear hcl hbd
        have e1 : wr.cell? ⟨a1, o1 + 1, none⟩ = some (.slice ao2 ids.length cap2) := (hb.cell (p := ⟨a1, o1 + 1, none⟩) ha1).trans g1
        have hw1 : a1 < wr.heap.size := Nat.lt_of_lt_of_le ha1 hb.size
        by_cases hlt2 : m < xs.length
        · obtain ⟨b, off, rfl, hbB, hc⟩ := hsome (by omega)
          obtain ⟨b2, off2, rfl, hbB2, hc2⟩ := hsome2 (by omega)
          have c0 : wr.cell? ⟨b, off + m * 5, none⟩ = some (.string xs[m].id) := by
            rw [show off + m * 5 = off + (m * 5 + 0) from by omega, hb.cell (p := ⟨b, off + (m * 5 + 0), none⟩) hbB, hc (m * 5 + 0) (by omega), Ingot_get0 xs m hlt2]
          have d0 : wr.cell? ⟨b2, off2 + k, none⟩ = some (.string ids[k]) := by
            rw [hb.cell (p := ⟨b2, off2 + k, none⟩) hbB2, hc2 k (by omega), putStr_get ids k hlt]
          have hbr : b < wr.heap.size := Nat.lt_of_lt_of_le hbB hb.size
          have hbr2 : b2 < wr.heap.size := Nat.lt_of_lt_of_le hbB2 hb.size
          have hws := hb.size
          have HB := Lib.hid hb
          clear hc hc2 hsome hsome2 hnil hnil2 hb g1
          cases hE : strEq xs[m].id ids[k]
          · have t1 := strEq_f hE
            clear hE hi hz0 hz1 hz2
            go_wp2_with fail
            refine wp_region_above (by kernel_rfl) (by kernel_rfl) ?_
            repeat (go_big_quiet_step (fail))
            refine wpQuiet_nil ?_
            intro w1 b1
            have HB1 := Lib.hid (HB.out.trans (b1.mono HB.out.size))
            have HO1 := Lib.hid (own_below HO.out b1 (Nat.le_refl _)); clear b1 HB HO
            go_wp2_with fail
            go_roundw
            case rel => exact ⟨m + 1, fb, cs, by omega, by go_num, rfl, (by have := HCL.out; omega), HCA.out, HO1.out, HB1.out⟩
            case measure => simp [intOf]; omega
          · have t1 := strEq_t hE
            clear hE
            go_wp2_with fail
            refine wp_region_above (by kernel_rfl) (by kernel_rfl) ?_
            repeat (go_big_quiet_step (fail))
            refine wpQuiet_nil ?_
            intro w1 b1
            have HB1 := Lib.hid (HB.out.trans (b1.mono HB.out.size))
            have HO1 := Lib.hid (own_below HO.out b1 (Nat.le_refl _))
            have hws1 : w.heap.size ≤ w1.heap.size := HB1.out.size
            clear b1 HB HO c0 d0 e1
            go_wp2_with (at_builtin; refine app_el rfl _ _ 71 2 i0 (.int .i64 0) 1 8 Tryz.underlying71 hi hz0 hz1 hz2 rfl (by decide) rfl w1 w.heap.size _ cs.length (cs.flatMap putI) (by rfl) HO1.out [.int .i64 m] rfl (by intro u hu; simp at hu; subst hu; rfl) (by rfl) (by omega) (by decide) hws1 ?_; intro g gc w2 hown2 hB2 hz)
            have HB2 := Lib.hid (hB2 w HB1.out)
            have HO2 := Lib.hid hown2
            clear hown2 hB2
            go_roundw
            case rel => exact ⟨m + 1, true, cs ++ [(m : Int)], by omega, by go_num, rfl, (by have := HCL.out; rw [List.length_append, List.length_singleton]; omega), (fun c hc => by
              rcases List.mem_append.1 hc with q | q
              · exact HCA.out c q
              · rw [List.mem_singleton.1 q]; omega), by rw [putI_snoc, List.length_append, List.length_singleton]; exact HO2.out, HB2.out⟩
            case measure => simp [intOf]; omega
        · have HB := Lib.hid hb
          have HCL2 : Hid (cs.length ≤ (k + 1) * xs.length) := Lib.hid (by have := HCL.out; rw [Nat.succ_mul]; omega)
          clear hb hi hz0 hz1 hz2 hsome hsome2
          cases fb with
          | false =>
            clear HO
            go_wp2
            go_ret2
            exact ⟨.slice none 0 0, [], ⟨false, rfl⟩, by simp, fun c hc => (by cases hc), ⟨rfl, none, 0, rfl, Nat.le_refl _, Nat.zero_le _, fun _ => ⟨rfl, rfl⟩, fun h => by simp at h⟩, HB.out⟩
          | true =>
            go_wp2
            go_roundw
            case rel => exact ⟨k + 1, cs, by omega, by go_num, HCL2.out, HCA.out, HO.out, HB.out⟩
            case measure => simp [intOf]; omega
    · have hbd : k * xs.length ≤ 2000 := mul_bd (by omega) hn
      have h3 : Hid (cs.length ≤ 2000) := Lib.hid (Nat.le_trans HCL.out hbd)
      obtain ⟨uo, uc, eu⟩ := (own_rd HO.out).form
      subst eu
      clear hi hz0 hz1 hz2 hsome hsome2 HCL hbd
      go_wp2
      go_ret2
      exact ⟨_, cs, ⟨true, rfl⟩, h3.out, HCA.out, own_rd HO.out, HB.out⟩
set_option maxHeartbeats 2000000 in
theorem weak_metal (w : World) (v : Value) (xs : List Ingot) (ids : List ByteArray) (a1 o1 : Nat) (v1 : Value) (h : Rd w.heap.size w v 5 xs.length (xs.flatMap Ingot.put)) (hf : fineI xs)
    (g1 : w.cell? ⟨a1, o1 + 1, none⟩ = some v1) (ha1 : a1 < w.heap.size) (h2 : Rd w.heap.size w v1 1 ids.length (ids.flatMap putStr)) (hn2 : ids.length ≤ 100) :
    Calls Tryz.prog 48 #[v, .pointer (some ⟨a1, o1, none⟩)] w fun e w' => ∃ m : Int, e = .returned (.int .i64 m) ∧ 0 ≤ m ∧ m ≤ 1000000000000 ∧ Below w.heap.size w w' := by
  have HC := Lib.hid (weak_chosen w v xs ids a1 o1 v1 h hf.1 g1 ha1 h2 hn2)
  have HF := Lib.hid hf.2
  clear hf
  obtain ⟨hL, ao, cap, rfl, hcap, hmax, hnil, hsome⟩ := h
  clear h2 g1 hnil
  go_enter Tryz.func48, Tryz.ntmps48
  go_wp2_with fail
  refine HC.out.mono ?_; rintro e w1 ⟨u, cs, ⟨ok, rfl⟩, hcl, hca, hu, b1⟩
  have HCA := Lib.hid hca
  obtain ⟨hL2, ao2, cap2, rfl, hcap2, hmax2, hnil2, hsome2⟩ := hu
  clear HC hnil2 hca
  have hb1 := b1.size
  have HB1 := Lib.hid b1
  clear b1
  go_wp2
  go_loopw [7, 8] (fun m i wr => ∃ (k : Nat) (s : Int), k ≤ cs.length ∧ i = .int .i64 k ∧ m = .int .i64 s ∧ 0 ≤ s ∧ s ≤ (k : Int) * 20000001 ∧ Below w1.heap.size w1 wr) (fun _ i _ => cs.length - (intOf i).toNat)
  case atStart => exact ⟨0, 0, Nat.zero_le _, rfl, rfl, Int.le_refl _, by simp, Below.refl _ _⟩
  case round =>
    obtain ⟨k, s, hk, rfl, rfl, hs0, hs1, hb⟩ := hrel
    by_cases hlt : k < cs.length
    · obtain ⟨j, hj⟩ : ∃ j : Nat, cs[k] = (j : Int) := ⟨cs[k].toNat, by have := HCA.out cs[k] (List.getElem_mem hlt); omega⟩
      have hjl : j < xs.length := by have := HCA.out cs[k] (List.getElem_mem hlt); omega
      obtain ⟨b, off, rfl, hbB, hc⟩ := hsome (by omega)
      obtain ⟨b2, off2, rfl, hbB2, hc2⟩ := hsome2 (by omega)
      have cc : wr.cell? ⟨b2, off2 + k, none⟩ = some (.int .i64 j) := by
        rw [hb.cell (p := ⟨b2, off2 + k, none⟩) hbB2, hc2 k (by omega), putI_get cs k hlt, hj]
      have c1 : wr.cell? ⟨b, off + j * 5 + 1, none⟩ = some (.int .i64 xs[j].mass) := by
        rw [show off + j * 5 + 1 = off + (j * 5 + 1) from by omega, hb.cell (p := ⟨b, off + (j * 5 + 1), none⟩) (Nat.lt_of_lt_of_le hbB hb1), HB1.out.cell (p := ⟨b, off + (j * 5 + 1), none⟩) hbB, hc (j * 5 + 1) (by omega), Ingot_get1 xs j hjl]
      obtain ⟨_, hm0, hm1⟩ := HF.out xs[j] (List.getElem_mem hjl)
      have HB := Lib.hid hb
      clear hc hc2 hsome hsome2 hj hb
      generalize xs[j].mass = mm at *
      have hs2 : Hid (s + mm ≤ ((k + 1 : Nat) : Int) * 20000001) := Lib.hid (by push_cast; omega)
      have hs3 : s ≤ 100000000000 := by omega
      clear hs1
      go_wp2
      go_roundw
      case rel => exact ⟨k + 1, s + mm, by omega, by go_num, rfl, by omega, hs2.out, HB.out⟩
      case measure => simp [intOf]; omega
    · have HB := Lib.hid hb
      have hs3 : s ≤ 1000000000000 := by omega
      clear hb hsome hsome2 hs1
      go_wp2
      go_ret
      exact ⟨s, rfl, hs0, hs3, HB1.out.trans (HB.out.mono hb1)⟩
end Go.Proofs.YtnbodmbagendnaaGreatDoor
namespace Go.Proofs.YtnbodmbagendnaaGreatDoor
open Go.ChangeShapes Go.WideShapes Go.ChangeAt Go.RowKit Go.Deep Go.Joins
set_option linter.unusedVariables false
set_option maxRecDepth 100000
set_option linter.unusedSimpArgs false
theorem Spot_len (xs : List Spot) : (xs.flatMap Spot.put).length = xs.length * 2 := flat_len xs (fun _ _ => rfl)
theorem Spot_get0 (xs : List Spot) (k : Nat) (h : k < xs.length) : (xs.flatMap Spot.put)[k * 2 + 0]? = some (.int .i64 xs[k].angle) := by
  rw [flat_get (f := Spot.put) (s := 2) xs (fun _ _ => rfl) (j := 0) (by omega) k, List.getElem?_eq_getElem h]
  rfl
theorem Spot_get1 (xs : List Spot) (k : Nat) (h : k < xs.length) : (xs.flatMap Spot.put)[k * 2 + 1]? = some (.int .i64 xs[k].weight) := by
  rw [flat_get (f := Spot.put) (s := 2) xs (fun _ _ => rfl) (j := 1) (by omega) k, List.getElem?_eq_getElem h]
  rfl
end Go.Proofs.YtnbodmbagendnaaGreatDoor
namespace Go.Proofs.YtnbodmbagendnaaGreatDoor
open Go.ChangeShapes Go.WideShapes Go.ChangeAt Go.RowKit Go.Deep Go.Joins
set_option linter.unusedVariables false
set_option maxRecDepth 100000
set_option linter.unusedSimpArgs false
def weightB (n : Int) : Bool := (n != 0) && inB n (-1000) 1000
def spotB (x : Spot) : Bool := inB x.angle 0 359 && weightB x.weight
end Go.Proofs.YtnbodmbagendnaaGreatDoor
namespace Go.Proofs.YtnbodmbagendnaaGreatDoor
open Go.ChangeShapes Go.WideShapes Go.ChangeAt Go.RowKit Go.Deep Go.Joins
set_option linter.unusedVariables false
set_option maxRecDepth 100000
set_option linter.unusedSimpArgs false
def ltKSpot (y x : Spot) : Bool := decide (y.angle < x.angle)
def validSpotS (xs : List Spot) : Bool := allK (stepB spotB ltKSpot xs) xs.length && decide (xs.length ≤ 16)

theorem ltKSpot_spec_f {y x : Spot} (h : ltKSpot y x = false) : decide (x.angle ≤ y.angle) = true := by
  simp [ltKSpot] at h ⊢; omega
theorem ltKSpot_spec_t {y x : Spot} (h : ltKSpot y x = true) : decide (x.angle ≤ y.angle) = false := by
  simp [ltKSpot] at h ⊢; omega
end Go.Proofs.YtnbodmbagendnaaGreatDoor
