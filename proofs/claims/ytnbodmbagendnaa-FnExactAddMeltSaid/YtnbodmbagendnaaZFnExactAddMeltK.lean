/- Contracts and plain facts, joined: AddMS, DelMelt, DropMI. -/
import Derived.Test.YtnbodmbagendnaaRows
import Derived.Test.YtnbodmbagendnaaZFnExactAddMeltJ
import Derived.Deep.RegionLaw
import Derived.Shelf.Spec.SlicesInsertGrow
namespace Go.Proofs.Ytnbodmbagendnaa
open Go.ChangeShapes Go.WideShapes Go.ChangeAt Go.RowKit Go.Deep Go.Joins
set_option linter.unusedVariables false
set_option maxRecDepth 100000
set_option linter.unusedSimpArgs false
set_option maxHeartbeats 16000000 in
theorem spec_AddMelt (w : World) (v u : Value) (xs : List Ingot) (ms : List Melt) (x : Melt) (lo : Option Addr) (lc : Nat) (h : Rd w.heap.size w v 5 xs.length (xs.flatMap Ingot.put)) (hn : xs.length ≤ 1048576) (hok : ∀ x ∈ xs, x.ok) (h2 : RdM w.heap.size w u ms) (hn2 : ms.length ≤ 1048576) (hf : ∀ m ∈ ms, m.fine) (hxl : x.list = .slice lo x.ingots.length lc) (hx : Rd w.heap.size w (.slice lo x.ingots.length lc) 1 x.ingots.length (x.ingots.flatMap putStr)) (hxf : x.fine) :
    Calls Try.prog 26 #[v, u, .agg #[.string x.id, .slice lo x.ingots.length lc, .int .i64 x.mass]] w fun e w' => ∃ r os, e = .returned (.tuple #[r, .int .i64 (addM xs ms x).2]) ∧ Nest w.heap.size w'.heap.size w' r os ∧ os.map Melt.said = (addM xs ms x).1.map Melt.said ∧ Below w.heap.size w w' := by
  have hb0 : Below w.heap.size w (w.alloc (.cells #[.string x.id, .slice lo x.ingots.length lc, .int .i64 x.mass] 63)) := (Below.refl _ _).alloc (Nat.le_refl _) _
  have X0 : Hid (BoxM (w.alloc (.cells #[.string x.id, .slice lo x.ingots.length lc, .int .i64 x.mass] 63)) w.heap.size x (.slice lo x.ingots.length lc)) := Lib.hid ⟨Own.new w _ _, hx.up hb0⟩
  have V0 := Lib.hid (h.up hb0)
  have U0 := Lib.hid (h2.up hb0)
  have HB0 := Lib.hid hb0
  have Hok := Lib.hid hok
  have Hf := Lib.hid hf
  have HXF := Lib.hid hxf
  have HXL := Lib.hid hxl
  have HALL := Lib.hid (fun (c0 : Int) (hc : allS xs ms = c0) => spec_l14All_is (w.alloc (.cells #[.string x.id, .slice lo x.ingots.length lc, .int .i64 x.mass] 63)) v u xs ms V0.out hn Hok.out U0.out hn2 Hf.out hc)
  have HONE := Lib.hid (fun (w' : World) (b : Bool) (hX : BoxM w' w.heap.size x (.slice lo x.ingots.length lc)) (hb : meltB x = b) => spec_l14One_is x w.heap.size 0 w' (hX.ok HXF.out HXL.out) HXF.out.2.2.2 (hX.1.cell 0) (by rw [HXL.out]; exact hX.1.cell 1) (hX.1.cell 2) hX.1.lt hb)
  have HASK := Lib.hid (fun (w' : World) (hV : Rd w'.heap.size w' v 5 xs.length (xs.flatMap Ingot.put)) (hX : BoxM w' w.heap.size x (.slice lo x.ingots.length lc)) => spec_l14Ask w' v xs x w.heap.size 0 lo lc hV hn Hok.out (hX.1.cell 0) (hX.1.cell 1) (hX.1.cell 2) hX.1.lt hX.2 HXF.out)
  clear hok hf hxf hxl hx hb0 h
  cases h1 : (validIngotS xs && meltsB ms) with
  | false =>
    have e := Lib.hid (addM_bad (xs := xs) (ms := ms) (x := x) (by rw [← Bool.and_assoc, h1]; rfl))
    have ec : allS xs ms = 1 := by unfold allS; rw [if_neg (by rw [h1]; simp)]
    clear h1
    go_enter Try.func26, Try.ntmps26
    go_wp2_with fail
    refine (HALL.out _ ec).mono ?_; rintro e w1 ⟨rfl, b1⟩
    have X1 := Lib.hid (X0.out.up b1)
    have V1 := Lib.hid (V0.out.up b1)
    have B1 := Lib.hid (bnext HB0.out b1)
    have U1 := Lib.hid (U0.out.up b1)
    clear b1 X0 V0 U0 HB0 HALL
    go_wp2_with fail
    go_ret2
    exact ⟨_, [], by rw [e.out]; try rfl, nest_nil _ _ _, by rw [e.out]; try rfl, B1.out⟩
  | true =>
    obtain ⟨cc, ec, hc1⟩ : ∃ cc, allS xs ms = cc ∧ cc ≠ 1 := by
      refine ⟨_, rfl, ?_⟩
      unfold allS
      rw [if_pos h1]
      split <;> decide
    cases hB : meltB x with
    | false =>
      have e := Lib.hid (addM_bad (xs := xs) (ms := ms) (x := x) (by rw [← Bool.and_assoc, hB]; simp))
      have t1 : (cc == 1) = false := beq_eq_false_iff_ne.2 hc1
      clear h1
      go_enter Try.func26, Try.ntmps26
      go_wp2_with fail
      refine (HALL.out _ ec).mono ?_; rintro e w1 ⟨rfl, b1⟩
      have X1 := Lib.hid (X0.out.up b1)
      have V1 := Lib.hid (V0.out.up b1)
      have B1 := Lib.hid (bnext HB0.out b1)
      have U1 := Lib.hid (U0.out.up b1)
      clear b1 X0 V0 U0 HB0 HALL
      go_wp2_with fail
      refine (HONE.out _ _ X1.out hB).mono ?_; rintro e w2 ⟨rfl, b2⟩
      have X2 := Lib.hid (X1.out.up b2)
      have V2 := Lib.hid (V1.out.up b2)
      have U2 := Lib.hid (U1.out.up b2)
      have B2 := Lib.hid (bnext B1.out b2)
      clear b2 X1 V1 U1 B1 HONE
      go_wp2_with fail
      go_ret2
      exact ⟨_, [], by rw [e.out]; try rfl, nest_nil _ _ _, by rw [e.out]; try rfl, B2.out⟩
    | true =>
      have hV : (validIngotS xs && (meltsB ms && meltB x)) = true := by rw [← Bool.and_assoc, h1, hB]; rfl
      have hVI : validIngotS xs = true := by rw [Bool.and_eq_true] at h1; exact h1.1
      have hMM : meltsB ms = true := by rw [Bool.and_eq_true] at h1; exact h1.2
      clear ec hc1 cc
      cases hE : existB xs ms with
      | false =>
        have e := Lib.hid (addM_no hV (by rw [hE]; rfl))
        have ec : allS xs ms = 3 := by unfold allS; rw [if_pos h1, if_neg (by rw [hE]; simp)]
        clear h1 hE hV
        go_enter Try.func26, Try.ntmps26
        go_wp2_with fail
        refine (HALL.out _ ec).mono ?_; rintro e w1 ⟨rfl, b1⟩
        have X1 := Lib.hid (X0.out.up b1)
        have V1 := Lib.hid (V0.out.up b1)
        have B1 := Lib.hid (bnext HB0.out b1)
        have U1 := Lib.hid (U0.out.up b1)
        clear b1 X0 V0 U0 HB0 HALL
        go_wp2_with fail
        refine (HONE.out _ _ X1.out hB).mono ?_; rintro e w2 ⟨rfl, b2⟩
        have X2 := Lib.hid (X1.out.up b2)
        have V2 := Lib.hid (V1.out.up b2)
        have U2 := Lib.hid (U1.out.up b2)
        have B2 := Lib.hid (bnext B1.out b2)
        clear b2 X1 V1 U1 B1 HONE
        generalize askS xs x = qq at *
        go_wp2_with fail
        refine (HASK.out _ V2.out X2.out).mono ?_; rintro e w3 ⟨rfl, b3⟩
        have X3 := Lib.hid (X2.out.up b3)
        have V3 := Lib.hid (V2.out.up b3)
        have U3 := Lib.hid (U2.out.up b3)
        have B3 := Lib.hid (bnext B2.out b3)
        clear b3 X2 V2 U2 B2 HASK
        go_wp2_with fail
        go_ret2
        exact ⟨_, [], by rw [e.out]; try rfl, nest_nil _ _ _, by rw [e.out]; try rfl, B3.out⟩
      | true =>
        have ec : allS xs ms = 0 := by unfold allS; rw [if_pos h1, if_pos hE]
        cases hC : (chosenL xs x.ingots).isSome with
        | false =>
          have e := Lib.hid (addM_no hV (by rw [hE, hC]; rfl))
          have ea : askS xs x = 3 := by unfold askS; rw [if_pos (by rw [hVI, hB]; rfl), if_neg (by rw [hC]; simp)]
          rw [ea] at HASK
          clear h1 hE hC hV ea
          go_enter Try.func26, Try.ntmps26
          go_wp2_with fail
          refine (HALL.out _ ec).mono ?_; rintro e w1 ⟨rfl, b1⟩
          have X1 := Lib.hid (X0.out.up b1)
          have V1 := Lib.hid (V0.out.up b1)
          have B1 := Lib.hid (bnext HB0.out b1)
          have U1 := Lib.hid (U0.out.up b1)
          clear b1 X0 V0 U0 HB0 HALL
          go_wp2_with fail
          refine (HONE.out _ _ X1.out hB).mono ?_; rintro e w2 ⟨rfl, b2⟩
          have X2 := Lib.hid (X1.out.up b2)
          have V2 := Lib.hid (V1.out.up b2)
          have U2 := Lib.hid (U1.out.up b2)
          have B2 := Lib.hid (bnext B1.out b2)
          clear b2 X1 V1 U1 B1 HONE
          go_wp2_with fail
          refine (HASK.out _ V2.out X2.out).mono ?_; rintro e w3 ⟨rfl, b3⟩
          have X3 := Lib.hid (X2.out.up b3)
          have V3 := Lib.hid (V2.out.up b3)
          have U3 := Lib.hid (U2.out.up b3)
          have B3 := Lib.hid (bnext B2.out b3)
          clear b3 X2 V2 U2 B2 HASK
          go_wp2_with fail
          go_ret2
          exact ⟨_, [], by rw [e.out]; try rfl, nest_nil _ _ _, by rw [e.out]; try rfl, B3.out⟩
        | true =>
          obtain ⟨cs, hcs⟩ := Option.isSome_iff_exists.1 hC
          have hE2 : (existB xs ms && (chosenL xs x.ingots).isSome) = true := by rw [hE, hC]; rfl
          have ea : askS xs x = 0 := by unfold askS; rw [if_pos (by rw [hVI, hB]; rfl), if_pos hC]
          rw [ea] at HASK
          have hRise := rises_of hVI
          obtain ⟨h16, hall⟩ := validIngotS_true hVI
          have hch := ask_choice2 hRise hB hcs
          have hms : mostS xs x.ingots = mostV (sumK massF xs cs) := mostS_some hcs
          have HMO := Lib.hid (fun (w' x0 : World) (hVr : Rd w'.heap.size w' v 5 xs.length (xs.flatMap Ingot.put)) (hX : BoxM w' w.heap.size x (.slice lo x.ingots.length lc)) (m : Int) (hm : mostV (sumK massF xs cs) = m) => spec_l14Most_above w' x0 v xs x.ingots cs w.heap.size 0 _ hVr h16 hRise hall (hX.1.cell 1) hX.1.lt hX.2 HXF.out.2.2.2 hcs hch hm)
          rw [← hms] at HMO
          have HH := Lib.hid (⟨hV, hE2, hMM, hRise⟩ : (validIngotS xs && (meltsB ms && meltB x)) = true ∧ (existB xs ms && (chosenL xs x.ingots).isSome) = true ∧ meltsB ms = true ∧ Rises xs)
          obtain ⟨mo, hmo⟩ : ∃ mo, mostS xs x.ingots = mo := ⟨_, rfl⟩
          have HMOE := Lib.hid hmo
          rw [hmo] at HMO
          clear h1 hE hC hV ea hRise hall hch hms hcs hE2 hVI hmo
          have HMX := Lib.hid hB
          by_cases hgt : mo < x.mass
          · have tm : decide (mo < x.mass) = true := decide_eq_true hgt
            have e := Lib.hid (addM_much HH.out.1 HH.out.2.1 (by rw [HMOE.out]; exact hgt))
            go_enter Try.func26, Try.ntmps26
            go_wp2_with fail
            refine (HALL.out _ ec).mono ?_; rintro e w1 ⟨rfl, b1⟩
            have X1 := Lib.hid (X0.out.up b1)
            have V1 := Lib.hid (V0.out.up b1)
            have B1 := Lib.hid (bnext HB0.out b1)
            have U1 := Lib.hid (U0.out.up b1)
            clear b1 X0 V0 U0 HB0 HALL
            go_wp2_with fail
            refine (HONE.out _ _ X1.out HMX.out).mono ?_; rintro e w2 ⟨rfl, b2⟩
            have X2 := Lib.hid (X1.out.up b2)
            have V2 := Lib.hid (V1.out.up b2)
            have U2 := Lib.hid (U1.out.up b2)
            have B2 := Lib.hid (bnext B1.out b2)
            clear b2 X1 V1 U1 B1 HONE
            go_wp2_with fail
            refine (HASK.out _ V2.out X2.out).mono ?_; rintro e w3 ⟨rfl, b3⟩
            have X3 := Lib.hid (X2.out.up b3)
            have V3 := Lib.hid (V2.out.up b3)
            have U3 := Lib.hid (U2.out.up b3)
            have B3 := Lib.hid (bnext B2.out b3)
            clear b3 X2 V2 U2 B2 HASK
            have x2 : w3.cell? ⟨w.heap.size, 2, none⟩ = some (.int .i64 x.mass) := X3.out.1.cell 2
            have xl := X3.out.1.lt
            have HMO3 := Lib.hid (fun x0 => HMO.out w3 x0 V3.out X3.out _ rfl)
            go_wp2_with fail
            refine wp_region_above (by kernel_rfl) (by kernel_rfl) ?_
            repeat (go_big_quiet_step (((go_at_call 71; exact HMO3.out _))))
            refine wpQuiet_nil ?_
            intro w4 b4
            have X4 := Lib.hid (X3.out.up b4)
            have U4 := Lib.hid (U3.out.up b4)
            have B4 := Lib.hid (bnext B3.out b4)
            clear b4 X3 V3 U3 B3 HMO HMO3 x2 xl
            go_wp2_with fail
            go_ret2
            exact ⟨_, [], by rw [e.out]; try rfl, nest_nil _ _ _, by rw [e.out]; try rfl, B4.out⟩
          · have tm : decide (mo < x.mass) = false := decide_eq_false hgt
            have HGT := Lib.hid hgt
            clear hgt
            go_enter Try.func26, Try.ntmps26
            go_wp2_with fail
            refine (HALL.out _ ec).mono ?_; rintro e w1 ⟨rfl, b1⟩
            have X1 := Lib.hid (X0.out.up b1)
            have V1 := Lib.hid (V0.out.up b1)
            have B1 := Lib.hid (bnext HB0.out b1)
            have U1 := Lib.hid (U0.out.up b1)
            clear b1 X0 V0 U0 HB0 HALL
            go_wp2_with fail
            refine (HONE.out _ _ X1.out HMX.out).mono ?_; rintro e w2 ⟨rfl, b2⟩
            have X2 := Lib.hid (X1.out.up b2)
            have V2 := Lib.hid (V1.out.up b2)
            have U2 := Lib.hid (U1.out.up b2)
            have B2 := Lib.hid (bnext B1.out b2)
            clear b2 X1 V1 U1 B1 HONE
            go_wp2_with fail
            refine (HASK.out _ V2.out X2.out).mono ?_; rintro e w3 ⟨rfl, b3⟩
            have X3 := Lib.hid (X2.out.up b3)
            have V3 := Lib.hid (V2.out.up b3)
            have U3 := Lib.hid (U2.out.up b3)
            have B3 := Lib.hid (bnext B2.out b3)
            clear b3 X2 V2 U2 B2 HASK
            have x2 : w3.cell? ⟨w.heap.size, 2, none⟩ = some (.int .i64 x.mass) := X3.out.1.cell 2
            have xl := X3.out.1.lt
            have HMO3 := Lib.hid (fun x0 => HMO.out w3 x0 V3.out X3.out _ rfl)
            go_wp2_with fail
            refine wp_region_above (by kernel_rfl) (by kernel_rfl) ?_
            repeat (go_big_quiet_step (((go_at_call 71; exact HMO3.out _))))
            refine wpQuiet_nil ?_
            intro w4 b4
            have X4 := Lib.hid (X3.out.up b4)
            have U4 := Lib.hid (U3.out.up b4)
            have B4 := Lib.hid (bnext B3.out b4)
            clear b4 X3 V3 U3 B3 HMO HMO3 x2 xl
            obtain ⟨ao, cap, rfl, hcap, hmax, hsome⟩ := U4.out
            have HSM := Lib.hid hsome
            clear hsome
            go_wp2_with fail
            go_loopw [10] (fun i wr => ∃ (k : Nat), k ≤ ms.length ∧ i = .int .i64 k ∧ (∀ j (hj : j < ms.length), j < k → ms[j].id ≠ x.id) ∧ Below w4.heap.size w4 wr) (fun i _ => ms.length - (intOf i).toNat)
            case atStart => exact ⟨0, Nat.zero_le _, rfl, fun j _ hj => absurd hj (Nat.not_lt_zero _), Below.refl _ _⟩
            case round =>
              obtain ⟨k, hk, rfl, hids, hb⟩ := hrel
              have HID := Lib.hid hids
              have HB := Lib.hid hb
              have XR := Lib.hid (X4.out.up hb)
              by_cases hlt : k < ms.length
              · obtain ⟨b, off, rfl, hbB, hc⟩ := HSM.out (by omega)
                obtain ⟨l, p0, p1, p2, hrd⟩ := hc k hlt
                have c0 : wr.cell? ⟨b, off + k * 3, none⟩ = some (.string ms[k].id) := (hb.cell (p := ⟨b, off + k * 3, none⟩) hbB).trans p0
                have hbr : b < wr.heap.size := Nat.lt_of_lt_of_le hbB hb.size
                have x0 : wr.cell? ⟨w.heap.size, 0, none⟩ = some (.string x.id) := XR.out.1.cell 0
                have xl := XR.out.1.lt
                by_cases hq : ms[k].id = x.id
                · have t1 := text_eqD hq
                  have e := Lib.hid (addM_has HH.out.1 HH.out.2.1 (by rw [HMOE.out]; have q := HGT.out; omega) (idM_isSome_take hlt hq))
                  clear hids hb hc p0 p1 p2 hrd hq
                  go_wp2_with fail
                  refine wp_region_above (by kernel_rfl) (by kernel_rfl) ?_
                  repeat (go_big_quiet_step ((fail)))
                  refine wpQuiet_nil ?_
                  intro w5 b5
                  have B5 := Lib.hid (B4.out.trans ((HB.out.trans (b5.mono HB.out.size)).mono B4.out.size))
                  clear b5
                  go_wp2_with fail
                  go_ret2
                  exact ⟨_, [], by rw [e.out]; try rfl, nest_nil _ _ _, by rw [e.out]; try rfl, B5.out⟩
                · have t1 := text_neD hq
                  have hnx : Hid (∀ j (hj : j < ms.length), j < k + 1 → ms[j].id ≠ x.id) := Lib.hid (fun j hj hjk => by
                    rcases Nat.lt_or_ge j k with z | z
                    · exact HID.out j hj z
                    · obtain rfl : j = k := by omega
                      exact hq)
                  clear hids hb hc p0 p1 p2 hrd hq
                  go_wp2_with fail
                  refine wp_region_above (by kernel_rfl) (by kernel_rfl) ?_
                  repeat (go_big_quiet_step ((fail)))
                  refine wpQuiet_nil ?_
                  intro w5 b5
                  have HB5 := Lib.hid (HB.out.trans (b5.mono HB.out.size))
                  clear b5
                  go_wp2_with fail
                  go_roundw
                  case rel => exact ⟨k + 1, by omega, by go_num, hnx.out, HB5.out⟩
                  case measure => simp [intOf]; omega
              · have hno : idM ms x.id = none := idM_none_of fun j hj => hids j hj (by omega)
                have hno2 : (idM ms x.id).isSome = false := by rw [hno]; rfl
                have B5 := Lib.hid (B4.out.trans (hb.mono B4.out.size))
                have W5 := Lib.hid hb
                clear hids hb HID HB
                obtain ⟨wo, rfl⟩ : ∃ wo : World, wo = wr := ⟨_, rfl⟩
                go_wp2_with fail
                go_loopw [11] (fun i wq => ∃ (k : Nat), k ≤ ms.length ∧ i = .int .i64 k ∧ (∀ j (hj : j < ms.length), j < k → commonB ms[j].ingots x.ingots = false) ∧ Below w4.heap.size w4 wq) (fun i _ => ms.length - (intOf i).toNat)
                case atStart => exact ⟨0, Nat.zero_le _, rfl, fun j _ hj => absurd hj (Nat.not_lt_zero _), W5.out⟩
                case round =>
                  obtain ⟨wq, rfl⟩ : ∃ wq : World, wq = wr := ⟨_, rfl⟩
                  obtain ⟨k, hk, rfl, hcs, hb⟩ := hrel
                  have HCS := Lib.hid hcs
                  have HB := Lib.hid hb
                  have XQ := Lib.hid (X4.out.up hb)
                  by_cases hlt : k < ms.length
                  · obtain ⟨b, off, rfl, hbB, hc⟩ := HSM.out (by omega)
                    obtain ⟨l, p0, p1, p2, hrd⟩ := hc k hlt
                    have c1 := (hb.cell (p := ⟨b, off + k * 3 + 1, none⟩) hbB).trans p1
                    have hbr : b < wq.heap.size := Nat.lt_of_lt_of_le hbB hb.size
                    have HCM := Lib.hid (fun (b0 : Bool) (h0 : commonB ms[k].ingots x.ingots = b0) => spec_l14Common wq b (off + k * 3) w.heap.size 0 l (.slice lo x.ingots.length lc) ms[k].ingots x.ingots c1 (XQ.out.1.cell 1) hbr XQ.out.1.lt (hrd.up hb) XQ.out.2 (Hf.out ms[k] (List.getElem_mem hlt)).2.2.2 HXF.out.2.2.2 h0)
                    cases hq : commonB ms[k].ingots x.ingots with
                    | true =>
                      have e := Lib.hid (addM_com HH.out.1 HH.out.2.1 (by rw [HMOE.out]; have q := HGT.out; omega) hno2 (List.any_eq_true.2 ⟨ms[k], List.getElem_mem hlt, hq⟩))
                      clear hcs hb hc p0 p1 p2 hrd c1
                      go_wp2_with fail
                      refine (HCM.out _ hq).mono ?_; rintro e' w6 ⟨rfl, b6⟩
                      have B6 := Lib.hid (B4.out.trans ((HB.out.trans (b6.mono HB.out.size)).mono B4.out.size))
                      clear b6
                      go_wp2_with fail
                      go_ret2
                      exact ⟨_, [], by rw [e.out]; try rfl, nest_nil _ _ _, by rw [e.out]; try rfl, B6.out⟩
                    | false =>
                      have hnx : Hid (∀ j (hj : j < ms.length), j < k + 1 → commonB ms[j].ingots x.ingots = false) := Lib.hid (fun j hj hjk => by
                        rcases Nat.lt_or_ge j k with z | z
                        · exact HCS.out j hj z
                        · obtain rfl : j = k := by omega
                          exact hq)
                      clear hcs hb hc p0 p1 p2 hrd c1
                      go_wp2_with fail
                      refine (HCM.out _ hq).mono ?_; rintro e' w6 ⟨rfl, b6⟩
                      have HB6 := Lib.hid (HB.out.trans (b6.mono HB.out.size))
                      clear b6
                      go_wp2_with fail
                      go_roundw
                      case rel => exact ⟨k + 1, by omega, by go_num, hnx.out, HB6.out⟩
                      case measure => simp [intOf]; omega
                  · have hnc := any_common (ids := x.ingots) (fun j hj => hcs j hj (by omega))
                    have B6 := Lib.hid (B4.out.trans (hb.mono B4.out.size))
                    have W6 := Lib.hid hb
                    have X6 := Lib.hid (X4.out.up hb)
                    clear hcs hb HCS HB XQ X4
                    by_cases h12 : ms.length = 12
                    · have e := Lib.hid (addM_full HH.out.1 HH.out.2.1 (by rw [HMOE.out]; have q := HGT.out; omega) hno2 hnc h12)
                      have t12 : ((ms.length : Int) == 12) = true := beq_iff_eq.2 (by omega)
                      go_wp2_with fail
                      go_ret2
                      exact ⟨_, [], by rw [e.out]; try rfl, nest_nil _ _ _, by rw [e.out]; try rfl, B6.out⟩
                    have e := Lib.hid (addM_ok HH.out.1 HH.out.2.1 (by rw [HMOE.out]; have q := HGT.out; omega) hno2 hnc h12)
                    have t12 : ((ms.length : Int) == 12) = false := beq_eq_false_iff_ne.2 (by omega)
                    have hm12 := (meltsB_all HH.out.2.2.1).1
                    have hml : ms.length ≤ 11 := by omega
                    have HMB := Lib.hid (meltsB_all HH.out.2.2.1).2
                    have HNO := Lib.hid hno
                    have gxl : w.heap.size < wq.heap.size := X6.out.1.lt
                    obtain ⟨i0, hi, hz0, hz1, hz2⟩ := info_parts Melt_info1
                    clear hnc h12 hm12 hno2 hno
                    have HO0 : Hid ((wq.alloc (.cells #[] 63)).ownsRow wq.heap.size 63 3 (.slice (some ⟨wq.heap.size, 0, none⟩) 0 0) 0 []) := Lib.hid (own_empty wq wq.heap.size _ 3 (Nat.le_refl _))
                    have HB0 : Hid (Below wq.heap.size wq (wq.alloc (.cells #[] 63))) := Lib.hid ((Below.refl _ _).alloc (Nat.le_refl _) _)
                    go_wp2_with fail
                    go_loopw [12, 13, 14] (fun r d i wt => ∃ (k : Nat) (os : List Melt) (gs : List Nat), k ≤ ms.length ∧ i = .int .i64 k ∧ d = .bool (runM x ms k).2 ∧ os.map Melt.said = (runM x ms k).1.map Melt.said ∧ wt.ownsRow wq.heap.size 63 3 r os.length (os.flatMap Melt.put) ∧ Kids wq.heap.size wt os gs ∧ Below wq.heap.size wq wt) (fun _ _ i _ => ms.length - (intOf i).toNat)
                    case atStart => exact ⟨0, [], [], Nat.zero_le _, rfl, by rw [runM_zero], by rw [runM_zero], HO0.out, Kids.nil _ _, HB0.out⟩
                    case round =>
                      obtain ⟨wt, rfl⟩ : ∃ wt : World, wt = wr := ⟨_, rfl⟩
                      clear HO0 HB0
                      obtain ⟨k, os, gs, hk, rfl, rfl, hsd, hown, hkd, hb⟩ := hrel
                      have hol : os.length ≤ k + 1 := by have h1 := congrArg List.length hsd; rw [List.length_map, List.length_map] at h1; have := runM_len x ms k; omega
                      have HS := Lib.hid hsd
                      have HO := Lib.hid hown
                      obtain ⟨ro, rc, er0⟩ := (own_rd hown).form
                      subst er0
                      have HKD := Lib.hid hkd
                      have HB := Lib.hid hb
                      have XT := Lib.hid (X6.out.up hb)
                      have hwt := hb.size
                      have x0 : wt.cell? ⟨w.heap.size, 0, none⟩ = some (.string x.id) := XT.out.1.cell 0
                      have xl := XT.out.1.lt
                      clear hsd hown hkd
                      by_cases hlt : k < ms.length
                      · obtain ⟨b, off, rfl, hbB, hc⟩ := HSM.out (by omega)
                        obtain ⟨l, p0, p1, p2, hrd⟩ := hc k hlt
                        have HBW := Lib.hid (W6.out.trans (hb.mono W6.out.size))
                        have c0 : wt.cell? ⟨b, off + k * 3, none⟩ = some (.string ms[k].id) := (HBW.out.cell (p := ⟨b, off + k * 3, none⟩) hbB).trans p0
                        have hbr : b < wt.heap.size := Nat.lt_of_lt_of_le hbB HBW.out.size
                        have hmk := meltB_parts (HMB.out ms[k] (List.getElem_mem hlt))
                        have HOWN := Lib.hid (fun (w' : World) (bb : Below wq.heap.size wq w') => spec_l14Own w' b (off + k * 3) ms[k].id ms[k].ingots ms[k].mass l (((W6.out.trans (bb.mono W6.out.size)).cell (p := ⟨b, off + k * 3, none⟩) hbB).trans p0) (((W6.out.trans (bb.mono W6.out.size)).cell (p := ⟨b, off + k * 3 + 1, none⟩) hbB).trans p1) (((W6.out.trans (bb.mono W6.out.size)).cell (p := ⟨b, off + k * 3 + 2, none⟩) hbB).trans p2) (Nat.lt_of_lt_of_le hbB (W6.out.trans (bb.mono W6.out.size)).size) (hrd.up (W6.out.trans (bb.mono W6.out.size))) hmk.2.1 (by omega))
                        have hmx := meltB_parts HMX.out
                        have HOWX := Lib.hid (fun (w' : World) (bb : Below wq.heap.size wq w') => spec_l14Own w' w.heap.size 0 x.id x.ingots x.mass _ ((X6.out.up bb).1.cell 0) ((X6.out.up bb).1.cell 1) ((X6.out.up bb).1.cell 2) (X6.out.up bb).1.lt (X6.out.up bb).2 hmx.2.1 (by omega))
                        have tg := gt_spell ms[k].id x.id
                        clear hc p0 p1 p2 hrd hb HBW
                        cases hd : (runM x ms k).2 with
                        | true =>
                          have hr := runM_past hlt hd
                          go_wp2_with fail
                          refine wp_region_above (by kernel_rfl) (by kernel_rfl) ?_
                          repeat (go_big_quiet_step ((fail)))
                          refine wpQuiet_nil ?_
                          intro wa ba
                          have OA := Lib.hid (own_below HO.out ba (Nat.le_refl _))
                          have KA := Lib.hid (HKD.out.below ba)
                          have BQ := Lib.hid (HB.out.trans (ba.mono HB.out.size))
                          have hza := BQ.out.size
                          clear ba HO HKD HB
                          go_wp2_with fail
                          refine (HOWN.out _ BQ.out).mono ?_; rintro e7 w7 ⟨gk7, ck7, V7, rfl, k1, k2, k3, k4, b7⟩
                          have O7 := Lib.hid (own_below OA.out b7 (Nat.le_refl _))
                          have K7 := Lib.hid (kids_snoc2 (id := ms[k].id) (ids := ms[k].ingots) (m := ms[k].mass) (KA.out.below b7) (fun g' hg' => by have := KA.out.lt g' hg'; omega) k1 k2 (by omega) k4)
                          have BB7 := Lib.hid (BQ.out.trans (b7.mono BQ.out.size))
                          have hz7 := BB7.out.size
                          clear b7 k1 k2 k3 k4 OA KA BQ
                          go_wp2_with (at_builtin; go_loud (refine app_elK rfl _ _ 57 63 i0 (.agg #[.string ByteArray.empty, .slice none 0 0, .int .i64 0]) 3 48 Try.underlying57 hi hz0 hz1 hz2 (by rfl) (by decide) rfl w7 wq.heap.size _ os.length (os.flatMap Melt.put) (by rfl) O7.out [.string ms[k].id, .slice (some ⟨gk7, 0, none⟩) ms[k].ingots.length ck7, .int .i64 ms[k].mass] rfl (melt_one _ _ _ _ _) (by first | rfl | (rw [World.size_alloc]; rfl)) (by omega) (by decide) hz7 (by rfl) ?_; intro g8 gc8 w8 hown8 hB8 hK8 hy8; have HO8 := Lib.hid hown8; have HB8 := Lib.hid (BB7.out.trans (hB8 _ (Below.refl _ _))); have HK8 := Lib.hid (kids_app K7.out O7.out hK8); have hws8 : wq.heap.size ≤ w8.heap.size := (by omega); clear hown8 hB8 hK8 hy8))
                          go_roundw
                          case rel => exact ⟨k + 1, _, _, by omega, by go_num, by rw [hr]; try rfl, by rw [hr]; exact said_snoc HS.out rfl, by rw [melt_snoc, List.length_append]; exact HO8.out, HK8.out, HB8.out⟩
                          case measure => simp [intOf]; omega
                        | false =>
                          cases hg : ltName x.id ms[k].id with
                          | false =>
                            obtain ⟨hr0, hr⟩ := runM_before (risesM_of HH.out.2.2.1) HNO.out hlt hg
                            rw [hg] at tg
                            go_wp2_with fail
                            refine wp_region_above (by kernel_rfl) (by kernel_rfl) ?_
                            repeat (go_big_quiet_step ((fail)))
                            refine wpQuiet_nil ?_
                            intro wa ba
                            have OA := Lib.hid (own_below HO.out ba (Nat.le_refl _))
                            have KA := Lib.hid (HKD.out.below ba)
                            have BQ := Lib.hid (HB.out.trans (ba.mono HB.out.size))
                            have hza := BQ.out.size
                            clear ba HO HKD HB
                            go_wp2_with fail
                            refine (HOWN.out _ BQ.out).mono ?_; rintro e7 w7 ⟨gk7, ck7, V7, rfl, k1, k2, k3, k4, b7⟩
                            have O7 := Lib.hid (own_below OA.out b7 (Nat.le_refl _))
                            have K7 := Lib.hid (kids_snoc2 (id := ms[k].id) (ids := ms[k].ingots) (m := ms[k].mass) (KA.out.below b7) (fun g' hg' => by have := KA.out.lt g' hg'; omega) k1 k2 (by omega) k4)
                            have BB7 := Lib.hid (BQ.out.trans (b7.mono BQ.out.size))
                            have hz7 := BB7.out.size
                            clear b7 k1 k2 k3 k4 OA KA BQ
                            go_wp2_with (at_builtin; go_loud (refine app_elK rfl _ _ 57 63 i0 (.agg #[.string ByteArray.empty, .slice none 0 0, .int .i64 0]) 3 48 Try.underlying57 hi hz0 hz1 hz2 (by rfl) (by decide) rfl w7 wq.heap.size _ os.length (os.flatMap Melt.put) (by rfl) O7.out [.string ms[k].id, .slice (some ⟨gk7, 0, none⟩) ms[k].ingots.length ck7, .int .i64 ms[k].mass] rfl (melt_one _ _ _ _ _) (by first | rfl | (rw [World.size_alloc]; rfl)) (by omega) (by decide) hz7 (by rfl) ?_; intro g8 gc8 w8 hown8 hB8 hK8 hy8; have HO8 := Lib.hid hown8; have HB8 := Lib.hid (BB7.out.trans (hB8 _ (Below.refl _ _))); have HK8 := Lib.hid (kids_app K7.out O7.out hK8); have hws8 : wq.heap.size ≤ w8.heap.size := (by omega); clear hown8 hB8 hK8 hy8))
                            go_roundw
                            case rel => exact ⟨k + 1, _, _, by omega, by go_num, by rw [hr]; try rfl, by rw [hr]; exact said_snoc (by have h1 := HS.out; rw [hr0] at h1; exact h1) rfl, by rw [melt_snoc, List.length_append]; exact HO8.out, HK8.out, HB8.out⟩
                            case measure => simp [intOf]; omega
                          | true =>
                            obtain ⟨hr0, hr⟩ := runM_at hlt hg hd
                            rw [hg] at tg
                            go_wp2_with fail
                            refine wp_region_above (by kernel_rfl) (by kernel_rfl) ?_
                            repeat (go_big_quiet_step ((fail)))
                            refine wpQuiet_nil ?_
                            intro wa ba
                            have OA := Lib.hid (own_below HO.out ba (Nat.le_refl _))
                            have KA := Lib.hid (HKD.out.below ba)
                            have BQ := Lib.hid (HB.out.trans (ba.mono HB.out.size))
                            have hza := BQ.out.size
                            clear ba HO HKD HB
                            go_wp2_with fail
                            refine (HOWX.out _ BQ.out).mono ?_; rintro e5 w5 ⟨gk5, ck5, V5, rfl, k1, k2, k3, k4, b5⟩
                            have O5 := Lib.hid (own_below OA.out b5 (Nat.le_refl _))
                            have K5 := Lib.hid (kids_snoc2 (id := x.id) (ids := x.ingots) (m := x.mass) (KA.out.below b5) (fun g' hg' => by have := KA.out.lt g' hg'; omega) k1 k2 (by omega) k4)
                            have BB5 := Lib.hid (BQ.out.trans (b5.mono BQ.out.size))
                            have hz5 := BB5.out.size
                            clear b5 k1 k2 k3 k4 OA KA BQ
                            go_wp2_with (at_builtin; go_loud (refine app_elK rfl _ _ 57 63 i0 (.agg #[.string ByteArray.empty, .slice none 0 0, .int .i64 0]) 3 48 Try.underlying57 hi hz0 hz1 hz2 (by rfl) (by decide) rfl w5 wq.heap.size _ os.length (os.flatMap Melt.put) (by rfl) O5.out [.string x.id, .slice (some ⟨gk5, 0, none⟩) x.ingots.length ck5, .int .i64 x.mass] rfl (melt_one _ _ _ _ _) (by first | rfl | (rw [World.size_alloc]; rfl)) (by omega) (by decide) hz5 (by rfl) ?_; intro g6 gc6 w6 hown6 hB6 hK6 hy6; have HO6 := Lib.hid hown6; have HB6 := Lib.hid (BB5.out.trans (hB6 _ (Below.refl _ _))); have HK6 := Lib.hid (kids_app K5.out O5.out hK6); have hws6 : wq.heap.size ≤ w6.heap.size := (by omega); clear hown6 hB6 hK6 hy6))
                            go_wp2_with fail
                            refine (HOWN.out _ HB6.out).mono ?_; rintro e7 w7 ⟨gk7, ck7, V7, rfl, k1, k2, k3, k4, b7⟩
                            have O7 := Lib.hid (own_below HO6.out b7 (Nat.le_refl _))
                            have K7 := Lib.hid (kids_snoc2 (id := ms[k].id) (ids := ms[k].ingots) (m := ms[k].mass) (HK6.out.below b7) (fun g' hg' => by have := HK6.out.lt g' hg'; omega) k1 k2 (by omega) k4)
                            have BB7 := Lib.hid (HB6.out.trans (b7.mono HB6.out.size))
                            have hz7 := BB7.out.size
                            clear b7 k1 k2 k3 k4 HO6 HK6 HB6
                            go_wp2_with (at_builtin; go_loud (refine app_elK rfl _ _ 57 63 i0 (.agg #[.string ByteArray.empty, .slice none 0 0, .int .i64 0]) 3 48 Try.underlying57 hi hz0 hz1 hz2 (by rfl) (by decide) rfl w7 wq.heap.size _ (os.length + 1) (os.flatMap Melt.put ++ [.string x.id, .slice (some ⟨gk5, 0, none⟩) x.ingots.length ck5, .int .i64 x.mass]) (by rfl) O7.out [.string ms[k].id, .slice (some ⟨gk7, 0, none⟩) ms[k].ingots.length ck7, .int .i64 ms[k].mass] rfl (melt_one _ _ _ _ _) (by first | rfl | (rw [World.size_alloc]; rfl)) (by omega) (by decide) hz7 (by rfl) ?_; intro g8 gc8 w8 hown8 hB8 hK8 hy8; have HO8 := Lib.hid hown8; have HB8 := Lib.hid (BB7.out.trans (hB8 _ (Below.refl _ _))); have HK8 := Lib.hid (kids_app K7.out O7.out hK8); have hws8 : wq.heap.size ≤ w8.heap.size := (by omega); clear hown8 hB8 hK8 hy8))
                            go_roundw
                            case rel => exact ⟨k + 1, _, _, by omega, by go_num, by rw [hr]; try rfl, by rw [hr]; exact said_snoc (said_snoc (by have h1 := HS.out; rw [hr0] at h1; exact h1) rfl) rfl, by rw [melt_snoc, melt_snoc, List.length_append, List.length_append]; exact HO8.out, HK8.out, HB8.out⟩
                            case measure => simp [intOf]; omega
                      · obtain rfl : k = ms.length := by omega
                        have hb2 := hb
                        clear hb
                        cases hd : (runM x ms ms.length).2 with
                        | true =>
                          have hR := runM_end_yes hd
                          have eR := Lib.hid (show os.map Melt.said = (insM x ms).map Melt.said by rw [← hR]; exact HS.out)
                          clear hR
                          go_wp2_with fail
                          go_ret2
                          exact ⟨_, os, by rw [e.out]; try rfl, Nest.of (own_base HO.out (by omega)) (HKD.out.base (by omega)), by rw [e.out]; exact eR.out, B6.out.trans (HB.out.mono B6.out.size)⟩
                        | false =>
                          have hR := runM_end_no hd
                          have hmx := meltB_parts HMX.out
                          have HOWX := Lib.hid (fun (w' : World) (bb : Below wq.heap.size wq w') => spec_l14Own w' w.heap.size 0 x.id x.ingots x.mass _ ((X6.out.up bb).1.cell 0) ((X6.out.up bb).1.cell 1) ((X6.out.up bb).1.cell 2) (X6.out.up bb).1.lt (X6.out.up bb).2 hmx.2.1 (by omega))
                          go_wp2_with fail
                          refine (HOWX.out _ HB.out).mono ?_; rintro e7 w7 ⟨gk7, ck7, V7, rfl, k1, k2, k3, k4, b7⟩
                          have O7 := Lib.hid (own_below HO.out b7 (Nat.le_refl _))
                          have K7 := Lib.hid (kids_snoc2 (id := x.id) (ids := x.ingots) (m := x.mass) (HKD.out.below b7) (fun g' hg' => by have := HKD.out.lt g' hg'; omega) k1 k2 (by omega) k4)
                          have BB7 := Lib.hid (HB.out.trans (b7.mono HB.out.size))
                          have hz7 := BB7.out.size
                          clear b7 k1 k2 k3 k4 HO HKD HB
                          go_wp2_with (at_builtin; go_loud (refine app_elK rfl _ _ 57 63 i0 (.agg #[.string ByteArray.empty, .slice none 0 0, .int .i64 0]) 3 48 Try.underlying57 hi hz0 hz1 hz2 (by rfl) (by decide) rfl w7 wq.heap.size _ os.length (os.flatMap Melt.put) (by rfl) O7.out [.string x.id, .slice (some ⟨gk7, 0, none⟩) x.ingots.length ck7, .int .i64 x.mass] rfl (melt_one _ _ _ _ _) (by first | rfl | (rw [World.size_alloc]; rfl)) (by omega) (by decide) hz7 (by rfl) ?_; intro g8 gc8 w8 hown8 hB8 hK8 hy8; have HO8 := Lib.hid hown8; have HB8 := Lib.hid (BB7.out.trans (hB8 _ (Below.refl _ _))); have HK8 := Lib.hid (kids_app K7.out O7.out hK8); have hws8 : wq.heap.size ≤ w8.heap.size := (by omega); clear hown8 hB8 hK8 hy8))
                          have eR : Hid ((os ++ [(⟨x.id, .slice (some ⟨gk7, 0, none⟩) x.ingots.length ck7, x.ingots, x.mass⟩ : Melt)]).map Melt.said = (insM x ms).map Melt.said) := Lib.hid (by rw [← hR]; exact said_snoc HS.out rfl)
                          have OF : Hid (w8.ownsRow wq.heap.size 63 3 (.slice (some ⟨g8, 0, none⟩) (os.length + 1) gc8) (os ++ [(⟨x.id, .slice (some ⟨gk7, 0, none⟩) x.ingots.length ck7, x.ingots, x.mass⟩ : Melt)]).length ((os ++ [(⟨x.id, .slice (some ⟨gk7, 0, none⟩) x.ingots.length ck7, x.ingots, x.mass⟩ : Melt)]).flatMap Melt.put)) := Lib.hid (by rw [melt_snoc, List.length_append]; exact HO8.out)
                          clear hR HO8
                          go_wp2_with fail
                          go_ret2
                          exact ⟨_, (os ++ [(⟨x.id, .slice (some ⟨gk7, 0, none⟩) x.ingots.length ck7, x.ingots, x.mass⟩ : Melt)]), by rw [e.out]; try rfl, by have q := Nest.of (own_base OF.out (show w.heap.size ≤ wq.heap.size by omega)) (HK8.out.base (by omega)); simpa using q, by rw [e.out]; exact eR.out, B6.out.trans (HB8.out.mono B6.out.size)⟩
end Go.Proofs.Ytnbodmbagendnaa
namespace Go.Proofs.Ytnbodmbagendnaa
open Go.ChangeShapes Go.WideShapes Go.ChangeAt Go.RowKit Go.Deep Go.Joins
set_option linter.unusedVariables false
set_option maxRecDepth 100000
set_option linter.unusedSimpArgs false

end Go.Proofs.Ytnbodmbagendnaa
namespace Go.Proofs.Ytnbodmbagendnaa
open Go.ChangeShapes Go.WideShapes Go.ChangeAt Go.RowKit Go.Deep Go.Joins
set_option linter.unusedVariables false
set_option maxRecDepth 100000
set_option linter.unusedSimpArgs false
theorem own_setN {w : World} {base g : Nat} {E E' : TypeId} {s n : Nat} {v : Value} {L L' : List Value} (h : w.ownsRow base E s v n L) (hg : Own w g E' L') (hne : ∀ g', v.ownBlock = some g' → g' ≠ g) (i : Nat) (u : Value) : (w.setCell ⟨g, i, none⟩ u).ownsRow base E s v n L := by
  obtain ⟨h1, h2⟩ := h
  refine ⟨h1, ?_⟩
  rcases h2 with h2 | ⟨g1, cap, cur, rfl, hg0, hg1, rest⟩
  · exact .inl h2
  · refine .inr ⟨g1, cap, cur, rfl, hg0, ?_, rest⟩
    rw [Below.heap_setCell _ _ _ _ (fun e => hne g1 rfl e)]
    exact hg1
theorem impl_meltAt (w : World) (v : Value) (xs : List Melt) (t : ByteArray) (h : RdM w.heap.size w v xs) (hn : xs.length ≤ 1048576) :
    Calls Try.prog 76 #[v, .string t] w fun e w' => (∃ i : Nat, e = .returned (.tuple #[.int .i64 i, .bool (decide (i < xs.length) && decide (cmpMelt xs t i = 0))]) ∧ Found (cmpMelt xs t) xs.length i) ∧ Below w.heap.size w w' := by
  have H := Lib.hid (BinarySearch_Melt w v xs t h hn)
  clear h
  go_enter Try.func76, Try.ntmps76
  go_wp2_with fail
  refine H.out.mono ?_; rintro e w1 ⟨⟨i, rfl, hf⟩, b1⟩
  have HF := Lib.hid hf; clear hf
  go_wp2_with fail
  go_ret2
  exact ⟨⟨i, rfl, HF.out⟩, b1⟩
theorem clone_String (w : World) (v : Value) (n : Nat) (cs : List Value) (h : Rd w.heap.size w v 1 n cs) (h1 : ∀ u ∈ cs, u.oneCell' = true) (hn : n ≤ 1048576) :
    Calls Try.prog 136 #[v] w fun e w' => ∃ r, e = .returned r ∧ w'.ownsRow w.heap.size 9 1 r n cs ∧ Below w.heap.size w w' := by
  obtain ⟨i0, hi, hz0, hz1, hz2⟩ := info_parts infoOM
  have q22 : ∀ (w : World) (a : Option Addr) (n c n' c' : Nat), (binOp .eql 51 (.slice a n c) (.slice none n' c')).run Try.prog w = .ok (.bool a.isNone) w := fun w a n c n' c' => Lib.run_eql_slice_nil w _ _ a n c n' c' Try.underlying51
  have H := Lib.hid h
  have H1 := Lib.hid h1
  obtain ⟨hL, ao, cap, rfl, hcap, hmax, hnil, hsome⟩ := h
  clear h1 hsome
  cases ao with
  | none =>
    obtain ⟨rfl, rfl⟩ := hnil rfl
    have e : cs = [] := List.eq_nil_of_length_eq_zero (by simpa using hL)
    subst e
    go_enter Try.func136, Try.ntmps136
    go_wp2_with fail
    go_ret
    exact ⟨_, rfl, own_nil _ _ _ _, Below.refl _ _⟩
  | some p =>
    clear hnil
    go_enter Try.func136, Try.ntmps136
    go_wp2_with (at_builtin; go_loud (refine app_slE rfl _ _ 51 9 i0 (.string ByteArray.empty) 1 16 Try.underlying51 hi hz0 hz1 hz2 (by rfl) (by decide) rfl w (by rfl) _ n cs (by rfl) H.out H1.out (by omega) (by decide) ?_; intro ao' cap' w' hown hb; have HO := Lib.hid hown; have HB := Lib.hid hb; clear hown hb))
    go_ret
    exact ⟨_, rfl, HO.out, HB.out⟩
set_option maxHeartbeats 4000000 in
theorem impl_copyMelts (w : World) (v : Value) (xs : List Melt) (h : RdM w.heap.size w v xs) (hn : xs.length ≤ 1048575) (hx : ∀ x ∈ xs, 1 ≤ x.ingots.length ∧ x.ingots.length ≤ 1048576) :
    Calls Try.prog 86 #[v] w fun e w' => ∃ r os gs, e = .returned r ∧ w'.ownsRow w.heap.size 63 3 r os.length (os.flatMap Melt.put) ∧ Kids w.heap.size w' os gs ∧ os.map Melt.said = xs.map Melt.said ∧ Below w.heap.size w w' := by
  obtain ⟨ao, cap, rfl, hcap, hmax, hsome⟩ := h
  obtain ⟨i0, hi, hz0, hz1, hz2⟩ := info_parts Melt_info1
  have HX := Lib.hid hx; clear hx
  go_enter Try.func86, Try.ntmps86
  go_wp2_with fail
  go_loopw [3, 5, 8] (fun r _ i wr => ∃ (k : Nat) (os : List Melt) (gs : List Nat), k ≤ xs.length ∧ i = .int .i64 k ∧ os.map Melt.said = (xs.take k).map Melt.said ∧ wr.ownsRow w.heap.size 63 3 r os.length (os.flatMap Melt.put) ∧ Kids w.heap.size wr os gs ∧ Below w.heap.size w wr) (fun _ _ i _ => xs.length - (intOf i).toNat)
  case atStart => exact ⟨0, [], [], Nat.zero_le _, rfl, rfl, own_nil _ _ _ _, Kids.nil _ _, Below.refl _ _⟩
  case round =>
    obtain ⟨k, os, gs, hk, rfl, hsd, hown, hkd, hb⟩ := hrel
    have hol := congrArg List.length hsd
    rw [List.length_map, List.length_map, List.length_take] at hol
    have HOL : Hid (os.length ≤ k) := Lib.hid (by omega)
    clear hol
    have HS := Lib.hid hsd
    have HO := Lib.hid hown
    obtain ⟨ro, rc, er0⟩ := (own_rd hown).form
    subst er0
    have HKD := Lib.hid hkd
    have HB := Lib.hid hb
    have hws := hb.size
    clear hown hkd hsd
    by_cases hlt : k < xs.length
    · obtain ⟨b, off, rfl, hbB, hc⟩ := hsome (by omega)
      obtain ⟨l, p0, p1, p2, hrd⟩ := hc k hlt
      obtain ⟨lo, lc, rfl⟩ := hrd.form
      have hx1 := HX.out xs[k] (List.getElem_mem hlt)
      have c0 := (hb.cell (p := ⟨b, off + k * 3, none⟩) hbB).trans p0
      have c1 := (hb.cell (p := ⟨b, off + k * 3 + 1, none⟩) hbB).trans p1
      have c2 := (hb.cell (p := ⟨b, off + k * 3 + 2, none⟩) hbB).trans p2
      have hbr : b < wr.heap.size := Nat.lt_of_lt_of_le hbB hb.size
      have HX1 : Hid (Own (wr.alloc (.cells #[.string xs[k].id, .slice lo xs[k].ingots.length lc, .int .i64 xs[k].mass] 63)) wr.heap.size 63 [.string xs[k].id, .slice lo xs[k].ingots.length lc, .int .i64 xs[k].mass]) := Lib.hid (Own.new wr _ _)
      have HB1 : Hid (Below w.heap.size w (wr.alloc (.cells #[.string xs[k].id, .slice lo xs[k].ingots.length lc, .int .i64 xs[k].mass] 63))) := Lib.hid (hb.alloc hws _)
      have HL := Lib.hid (clone_String (wr.alloc (.cells #[.string xs[k].id, .slice lo xs[k].ingots.length lc, .int .i64 xs[k].mass] 63)) _ _ _ (hrd.up (hb.alloc hws _)) (putStr_one _) hx1.2)
      have hst : Hid (xs.take (k + 1) = xs.take k ++ [xs[k]]) := Lib.hid (List.take_succ_eq_append_getElem hlt)
      clear hb hc hsome p0 p1 p2 hrd
      go_wp2_with fail
      refine HL.out.mono ?_; rintro e w2 ⟨rv, rfl, o2, b2⟩
      obtain ⟨gk, ck, V, rfl, k1, k2, k3, k4⟩ := own_kid o2 (by omega)
      have hgk : wr.heap.size + 1 ≤ gk := by have q := k3; simp at q; omega
      have HX2 := Lib.hid (HX1.out.below b2 HX1.out.lt)
      have HO2 := Lib.hid (own_below (HO.out.alloc (.cells #[.string xs[k].id, .slice lo xs[k].ingots.length lc, .int .i64 xs[k].mass] 63)) b2 (Nat.le_refl _))
      have HKD2 : Hid (Kids w.heap.size w2 (os ++ [⟨xs[k].id, .slice (some ⟨gk, 0, none⟩) xs[k].ingots.length ck, xs[k].ingots, xs[k].mass⟩]) (gs ++ [gk])) := Lib.hid (kids_snoc2 ((HKD.out.below ((Below.refl _ _).alloc (Nat.le_refl _) _)).below b2) (fun g' hg' => by have := HKD.out.lt g' hg'; omega) k1 k2 (by omega) k4)
      have HB2 := Lib.hid (bnext HB1.out b2)
      have d0 : w2.cell? ⟨wr.heap.size, 0, none⟩ = some (.string xs[k].id) := HX2.out.cell 0
      have d1 : w2.cell? ⟨wr.heap.size, 1, none⟩ = some (.slice lo xs[k].ingots.length lc) := HX2.out.cell 1
      have d2 : w2.cell? ⟨wr.heap.size, 2, none⟩ = some (.int .i64 xs[k].mass) := HX2.out.cell 2
      have f1 := HX2.out.free 1
      have hlt2 := HX2.out.lt
      have hro : Hid (∀ g', Value.ownBlock (.slice ro os.length rc) = some g' → g' ≠ wr.heap.size) := Lib.hid (fun g' e => by have := (HO.out.lt g' e).2; omega)
      have HO4 := Lib.hid (own_setN HO2.out HX2.out hro.out 1 (.slice (some ⟨gk, 0, none⟩) xs[k].ingots.length ck))
      have HKD4 : Hid (Kids w.heap.size (w2.setCell ⟨wr.heap.size, 1, none⟩ (.slice (some ⟨gk, 0, none⟩) xs[k].ingots.length ck)) (os ++ [⟨xs[k].id, .slice (some ⟨gk, 0, none⟩) xs[k].ingots.length ck, xs[k].ingots, xs[k].mass⟩]) (gs ++ [gk])) := Lib.hid (HKD2.out.kept fun b L o => o.other (a := ⟨wr.heap.size, 1, none⟩) (own_neT HX2.out o (by decide)) _)
      have HB4 : Hid (Below w.heap.size w (w2.setCell ⟨wr.heap.size, 1, none⟩ (.slice (some ⟨gk, 0, none⟩) xs[k].ingots.length ck))) := Lib.hid (Below.setCell HB2.out (by show w.heap.size ≤ wr.heap.size; omega) _)
      have hws4 := HB4.out.size
      have hs4 : Hid ((w2.setCell ⟨wr.heap.size, 1, none⟩ (.slice (some ⟨gk, 0, none⟩) xs[k].ingots.length ck)).heap.size = w2.heap.size) := Lib.hid (by simp [World.setCell])
      clear b2 o2 k1 k2 k3 k4 HO HKD HB HL HO2 HKD2 HB2 HX1 HB1 hro
      go_wp2_with (at_builtin; go_loud (refine app_elK rfl _ _ 57 63 i0 (.agg #[.string ByteArray.empty, .slice none 0 0, .int .i64 0]) 3 48 Try.underlying57 hi hz0 hz1 hz2 (by rfl) (by decide) rfl (w2.setCell ⟨wr.heap.size, 1, none⟩ (.slice (some ⟨gk, 0, none⟩) xs[k].ingots.length ck)) w.heap.size _ os.length (os.flatMap Melt.put) (by rfl) HO4.out [.string xs[k].id, .slice (some ⟨gk, 0, none⟩) xs[k].ingots.length ck, .int .i64 xs[k].mass] rfl (melt_one _ _ _ _ _) (by rw [hs4.out]; rfl) (by have := HOL.out; omega) (by decide) hws4 (by rfl) ?_; intro g3 gc3 w3 hown3 hB3 hK3 hy3; have HO3 := Lib.hid hown3; have HB3 := Lib.hid (HB4.out.trans (hB3 _ (Below.refl _ _))); have HK3 := Lib.hid (kids_app HKD4.out HO4.out hK3); clear hown3 hB3 hK3 hy3))
      go_roundw
      case rel => exact ⟨k + 1, _, _, by omega, by go_num, by rw [hst.out]; exact said_snoc HS.out rfl, by rw [melt_snoc, List.length_append]; exact HO3.out, HK3.out, HB3.out⟩
      case measure => simp [intOf]; omega
    · obtain rfl : k = xs.length := by omega
      have hs := HS.out
      rw [List.take_length] at hs
      have HS2 := Lib.hid hs
      clear hb hsome hs HS
      go_wp2_with fail
      go_ret
      exact ⟨_, os, gs, rfl, HO.out, HKD.out, HS2.out, HB.out⟩
theorem melt_cells (os : List Melt) (h : ∀ x ∈ os, ∃ ao n c, x.list = .slice ao n c) : ∀ u ∈ os.flatMap Melt.put, u.oneCell' = true := by
  intro u hu
  obtain ⟨x, hx, hu⟩ := List.mem_flatMap.1 hu
  obtain ⟨ao, n, c, e⟩ := h x hx
  simp [Melt.put, e] at hu
  rcases hu with rfl | rfl | rfl <;> rfl
theorem Kids.forms {base : Nat} {w : World} {xs : List Melt} {gs : List Nat} (h : Kids base w xs gs) : ∀ x ∈ xs, ∃ ao n c, x.list = .slice ao n c := by
  intro x hx
  obtain ⟨i, hi, rfl⟩ := List.mem_iff_getElem.1 hx
  obtain ⟨V, c, e1, _⟩ := h.2.2 i hi (by have := h.1; omega)
  exact ⟨_, _, _, e1⟩
theorem take_put (xs : List Melt) : ∀ k, (xs.flatMap Melt.put).take (k * 3) = (xs.take k).flatMap Melt.put := by
  induction xs with
  | nil => intro k; simp
  | cons x xs ih =>
    intro k
    cases k with
    | zero => simp
    | succ k => simp only [List.flatMap_cons, List.take_succ_cons, Melt.put, Nat.succ_mul]; rw [show k * 3 + 3 = (k * 3) + 1 + 1 + 1 from rfl]; simp only [List.cons_append, List.nil_append, List.take_succ_cons, ih]
theorem drop_put (xs : List Melt) : ∀ k, (xs.flatMap Melt.put).drop (k * 3) = (xs.drop k).flatMap Melt.put := by
  induction xs with
  | nil => intro k; simp
  | cons x xs ih =>
    intro k
    cases k with
    | zero => simp
    | succ k => simp only [List.flatMap_cons, List.drop_succ_cons, Melt.put, Nat.succ_mul]; rw [show k * 3 + 3 = (k * 3) + 1 + 1 + 1 from rfl]; simp only [List.cons_append, List.nil_append, List.drop_succ_cons, ih]
theorem erase_put (xs : List Melt) (k : Nat) : (xs.flatMap Melt.put).take (k * 3) ++ (xs.flatMap Melt.put).drop ((k + 1) * 3) = (xs.eraseIdx k).flatMap Melt.put := by
  rw [take_put, drop_put, ← List.flatMap_append, List.eraseIdx_eq_take_drop_succ]
theorem said_erase {os xs : List Melt} (h : os.map Melt.said = xs.map Melt.said) (k : Nat) : (os.eraseIdx k).map Melt.said = (xs.eraseIdx k).map Melt.said := by
  rw [List.eraseIdx_eq_take_drop_succ, List.eraseIdx_eq_take_drop_succ, List.map_append, List.map_append, List.map_take, List.map_drop, List.map_take, List.map_drop, h]
end Go.Proofs.Ytnbodmbagendnaa
