/- Contracts and plain facts, joined: AddMS. -/
import Derived.Test.YtnbodmbagendnaaGreatDoorRows
import Derived.Test.YtnbodmbagendnaaGreatDoorZFnMeltsZC
namespace Go.Proofs.YtnbodmbagendnaaGreatDoor
open Go.ChangeShapes Go.WideShapes Go.ChangeAt Go.RowKit Go.Deep Go.Joins
set_option linter.unusedVariables false
set_option maxRecDepth 100000
set_option linter.unusedSimpArgs false
set_option maxHeartbeats 16000000 in
theorem spec_AddMeltO (w : World) (v u : Value) (xs : List Ingot) (ms : List Melt) (x : Melt) (lo : Option Addr) (lc : Nat) (h : Rd w.heap.size w v 5 xs.length (xs.flatMap Ingot.put)) (hn : xs.length ≤ 1048576) (hok : ∀ x ∈ xs, x.ok) (h2 : RdM w.heap.size w u ms) (hn2 : ms.length ≤ 1048576) (hf : ∀ m ∈ ms, m.fine) (hxl : x.list = .slice lo x.ingots.length lc) (hx : Rd w.heap.size w (.slice lo x.ingots.length lc) 1 x.ingots.length (x.ingots.flatMap putStr)) (hxf : x.fine) :
    Calls Tryz.prog 80 #[v, u, .agg #[.string x.id, .slice lo x.ingots.length lc, .int .i64 x.mass]] w fun e w' => ∃ r os gs, e = .returned (.tuple #[r, .int .i64 (addM xs ms x).2]) ∧ w'.ownsRow w.heap.size 28 3 r os.length (os.flatMap Melt.put) ∧ Kids w.heap.size w' os gs ∧ os.map Melt.said = (addM xs ms x).1.map Melt.said ∧ Below w.heap.size w w' := by
  have hb0 : Below w.heap.size w (w.alloc (.cells #[.string x.id, .slice lo x.ingots.length lc, .int .i64 x.mass] 28)) := (Below.refl _ _).alloc (Nat.le_refl _) _
  have X0 : Hid (BoxM (w.alloc (.cells #[.string x.id, .slice lo x.ingots.length lc, .int .i64 x.mass] 28)) w.heap.size x (.slice lo x.ingots.length lc)) := Lib.hid ⟨Own.new w _ _, hx.up hb0⟩
  have V0 := Lib.hid (h.up hb0)
  have U0 := Lib.hid (h2.up hb0)
  have HB0 := Lib.hid hb0
  have Hok := Lib.hid hok
  have Hf := Lib.hid hf
  have HXF := Lib.hid hxf
  have HXL := Lib.hid hxl
  have HALL := Lib.hid (fun (c0 : Int) (hc : allS xs ms = c0) => spec_l14All_is (w.alloc (.cells #[.string x.id, .slice lo x.ingots.length lc, .int .i64 x.mass] 28)) v u xs ms V0.out hn Hok.out U0.out hn2 Hf.out hc)
  have HONE := Lib.hid (fun (w' : World) (b : Bool) (hX : BoxM w' w.heap.size x (.slice lo x.ingots.length lc)) (hb : meltB x = b) => spec_l14One_is x w.heap.size 0 w' (hX.ok HXF.out HXL.out) HXF.out.2.2.2 (hX.1.cell 0) (by rw [HXL.out]; exact hX.1.cell 1) (hX.1.cell 2) hX.1.lt hb)
  have HASK := Lib.hid (fun (w' : World) (hV : Rd w'.heap.size w' v 5 xs.length (xs.flatMap Ingot.put)) (hX : BoxM w' w.heap.size x (.slice lo x.ingots.length lc)) => spec_l14Ask w' v xs x w.heap.size 0 lo lc hV hn Hok.out (hX.1.cell 0) (hX.1.cell 1) (hX.1.cell 2) hX.1.lt hX.2 HXF.out)
  clear hok hf hxf hxl hx hb0 h
  cases h1 : (validIngotS xs && meltsB ms) with
  | false =>
    have e := Lib.hid (addM_bad (xs := xs) (ms := ms) (x := x) (by rw [← Bool.and_assoc, h1]; rfl))
    have ec : allS xs ms = 1 := by unfold allS; rw [if_neg (by rw [h1]; simp)]
    clear h1
    go_enter Tryz.func80, Tryz.ntmps80
    go_wp2_with fail
    refine (HALL.out _ ec).mono ?_; rintro e w1 ⟨rfl, b1⟩
    have X1 := Lib.hid (X0.out.up b1)
    have V1 := Lib.hid (V0.out.up b1)
    have B1 := Lib.hid (bnext HB0.out b1)
    have U1 := Lib.hid (U0.out.up b1)
    clear b1 X0 V0 U0 HB0 HALL
    go_wp2_with fail
    go_ret2
    exact ⟨_, [], [], by rw [e.out]; try rfl, own_nil _ _ _ _, Kids.nil _ _, by rw [e.out]; try rfl, B1.out⟩
  | true =>
    obtain ⟨cc, ec, hc1⟩ : ∃ cc, allS xs ms = cc ∧ cc ≠ 1 := by
      refine ⟨_, rfl, ?_⟩
      unfold allS
      rw [if_pos h1]
      split <;> decide
    cases hB : meltB x with
    | false =>
      have e := Lib.hid (addM_bad (xs := xs) (ms := ms) (x := x) (by rw [← Bool.and_assoc, hB]; simp))
      have t1 : (cc == 1) = false := beq_eq_false_iff_ne.2 hc1
      clear h1
      go_enter Tryz.func80, Tryz.ntmps80
      go_wp2_with fail
      refine (HALL.out _ ec).mono ?_; rintro e w1 ⟨rfl, b1⟩
      have X1 := Lib.hid (X0.out.up b1)
      have V1 := Lib.hid (V0.out.up b1)
      have B1 := Lib.hid (bnext HB0.out b1)
      have U1 := Lib.hid (U0.out.up b1)
      clear b1 X0 V0 U0 HB0 HALL
      go_wp2_with fail
      refine (HONE.out _ _ X1.out hB).mono ?_; rintro e w2 ⟨rfl, b2⟩
      have X2 := Lib.hid (X1.out.up b2)
      have V2 := Lib.hid (V1.out.up b2)
      have U2 := Lib.hid (U1.out.up b2)
      have B2 := Lib.hid (bnext B1.out b2)
      clear b2 X1 V1 U1 B1 HONE
      go_wp2_with fail
      go_ret2
      exact ⟨_, [], [], by rw [e.out]; try rfl, own_nil _ _ _ _, Kids.nil _ _, by rw [e.out]; try rfl, B2.out⟩
    | true =>
      have hV : (validIngotS xs && (meltsB ms && meltB x)) = true := by rw [← Bool.and_assoc, h1, hB]; rfl
      have hVI : validIngotS xs = true := by rw [Bool.and_eq_true] at h1; exact h1.1
      have hMM : meltsB ms = true := by rw [Bool.and_eq_true] at h1; exact h1.2
      clear ec hc1 cc
      cases hE : existB xs ms with
      | false =>
        have e := Lib.hid (addM_no hV (by rw [hE]; rfl))
        have ec : allS xs ms = 3 := by unfold allS; rw [if_pos h1, if_neg (by rw [hE]; simp)]
        clear h1 hE hV
        go_enter Tryz.func80, Tryz.ntmps80
        go_wp2_with fail
        refine (HALL.out _ ec).mono ?_; rintro e w1 ⟨rfl, b1⟩
        have X1 := Lib.hid (X0.out.up b1)
        have V1 := Lib.hid (V0.out.up b1)
        have B1 := Lib.hid (bnext HB0.out b1)
        have U1 := Lib.hid (U0.out.up b1)
        clear b1 X0 V0 U0 HB0 HALL
        go_wp2_with fail
        refine (HONE.out _ _ X1.out hB).mono ?_; rintro e w2 ⟨rfl, b2⟩
        have X2 := Lib.hid (X1.out.up b2)
        have V2 := Lib.hid (V1.out.up b2)
        have U2 := Lib.hid (U1.out.up b2)
        have B2 := Lib.hid (bnext B1.out b2)
        clear b2 X1 V1 U1 B1 HONE
        generalize askS xs x = qq at *
        go_wp2_with fail
        refine (HASK.out _ V2.out X2.out).mono ?_; rintro e w3 ⟨rfl, b3⟩
        have X3 := Lib.hid (X2.out.up b3)
        have V3 := Lib.hid (V2.out.up b3)
        have U3 := Lib.hid (U2.out.up b3)
        have B3 := Lib.hid (bnext B2.out b3)
        clear b3 X2 V2 U2 B2 HASK
        go_wp2_with fail
        go_ret2
        exact ⟨_, [], [], by rw [e.out]; try rfl, own_nil _ _ _ _, Kids.nil _ _, by rw [e.out]; try rfl, B3.out⟩
      | true =>
        have ec : allS xs ms = 0 := by unfold allS; rw [if_pos h1, if_pos hE]
        cases hC : (chosenL xs x.ingots).isSome with
        | false =>
          have e := Lib.hid (addM_no hV (by rw [hE, hC]; rfl))
          have ea : askS xs x = 3 := by unfold askS; rw [if_pos (by rw [hVI, hB]; rfl), if_neg (by rw [hC]; simp)]
          rw [ea] at HASK
          clear h1 hE hC hV ea
          go_enter Tryz.func80, Tryz.ntmps80
          go_wp2_with fail
          refine (HALL.out _ ec).mono ?_; rintro e w1 ⟨rfl, b1⟩
          have X1 := Lib.hid (X0.out.up b1)
          have V1 := Lib.hid (V0.out.up b1)
          have B1 := Lib.hid (bnext HB0.out b1)
          have U1 := Lib.hid (U0.out.up b1)
          clear b1 X0 V0 U0 HB0 HALL
          go_wp2_with fail
          refine (HONE.out _ _ X1.out hB).mono ?_; rintro e w2 ⟨rfl, b2⟩
          have X2 := Lib.hid (X1.out.up b2)
          have V2 := Lib.hid (V1.out.up b2)
          have U2 := Lib.hid (U1.out.up b2)
          have B2 := Lib.hid (bnext B1.out b2)
          clear b2 X1 V1 U1 B1 HONE
          go_wp2_with fail
          refine (HASK.out _ V2.out X2.out).mono ?_; rintro e w3 ⟨rfl, b3⟩
          have X3 := Lib.hid (X2.out.up b3)
          have V3 := Lib.hid (V2.out.up b3)
          have U3 := Lib.hid (U2.out.up b3)
          have B3 := Lib.hid (bnext B2.out b3)
          clear b3 X2 V2 U2 B2 HASK
          go_wp2_with fail
          go_ret2
          exact ⟨_, [], [], by rw [e.out]; try rfl, own_nil _ _ _ _, Kids.nil _ _, by rw [e.out]; try rfl, B3.out⟩
        | true =>
          obtain ⟨cs, hcs⟩ := Option.isSome_iff_exists.1 hC
          have hE2 : (existB xs ms && (chosenL xs x.ingots).isSome) = true := by rw [hE, hC]; rfl
          have ea : askS xs x = 0 := by unfold askS; rw [if_pos (by rw [hVI, hB]; rfl), if_pos hC]
          rw [ea] at HASK
          have hRise := rises_of hVI
          obtain ⟨h16, hall⟩ := validIngotS_true hVI
          have hch := ask_choice2 hRise hB hcs
          have hms : mostS xs x.ingots = mostV (sumK massF xs cs) := mostS_some hcs
          have HMO := Lib.hid (fun (w' x0 : World) (hVr : Rd w'.heap.size w' v 5 xs.length (xs.flatMap Ingot.put)) (hX : BoxM w' w.heap.size x (.slice lo x.ingots.length lc)) (m : Int) (hm : mostV (sumK massF xs cs) = m) => spec_l14Most_above w' x0 v xs x.ingots cs w.heap.size 0 _ hVr h16 hRise hall (hX.1.cell 1) hX.1.lt hX.2 HXF.out.2.2.2 hcs hch hm)
          rw [← hms] at HMO
          have HH := Lib.hid (⟨hV, hE2, hMM, hRise⟩ : (validIngotS xs && (meltsB ms && meltB x)) = true ∧ (existB xs ms && (chosenL xs x.ingots).isSome) = true ∧ meltsB ms = true ∧ Rises xs)
          obtain ⟨mo, hmo⟩ : ∃ mo, mostS xs x.ingots = mo := ⟨_, rfl⟩
          have HMOE := Lib.hid hmo
          rw [hmo] at HMO
          clear h1 hE hC hV ea hRise hall hch hms hcs hE2 hVI hmo
          have HMX := Lib.hid hB
          by_cases hgt : mo < x.mass
          · have tm : decide (mo < x.mass) = true := decide_eq_true hgt
            have e := Lib.hid (addM_much HH.out.1 HH.out.2.1 (by rw [HMOE.out]; exact hgt))
            go_enter Tryz.func80, Tryz.ntmps80
            go_wp2_with fail
            refine (HALL.out _ ec).mono ?_; rintro e w1 ⟨rfl, b1⟩
            have X1 := Lib.hid (X0.out.up b1)
            have V1 := Lib.hid (V0.out.up b1)
            have B1 := Lib.hid (bnext HB0.out b1)
            have U1 := Lib.hid (U0.out.up b1)
            clear b1 X0 V0 U0 HB0 HALL
            go_wp2_with fail
            refine (HONE.out _ _ X1.out HMX.out).mono ?_; rintro e w2 ⟨rfl, b2⟩
            have X2 := Lib.hid (X1.out.up b2)
            have V2 := Lib.hid (V1.out.up b2)
            have U2 := Lib.hid (U1.out.up b2)
            have B2 := Lib.hid (bnext B1.out b2)
            clear b2 X1 V1 U1 B1 HONE
            go_wp2_with fail
            refine (HASK.out _ V2.out X2.out).mono ?_; rintro e w3 ⟨rfl, b3⟩
            have X3 := Lib.hid (X2.out.up b3)
            have V3 := Lib.hid (V2.out.up b3)
            have U3 := Lib.hid (U2.out.up b3)
            have B3 := Lib.hid (bnext B2.out b3)
            clear b3 X2 V2 U2 B2 HASK
            have x2 : w3.cell? ⟨w.heap.size, 2, none⟩ = some (.int .i64 x.mass) := X3.out.1.cell 2
            have xl := X3.out.1.lt
            have HMO3 := Lib.hid (fun x0 => HMO.out w3 x0 V3.out X3.out _ rfl)
            go_wp2_with fail
            refine wp_region_above (by kernel_rfl) (by kernel_rfl) ?_
            repeat (go_big_quiet_step (((go_at_call 104; exact HMO3.out _))))
            refine wpQuiet_nil ?_
            intro w4 b4
            have X4 := Lib.hid (X3.out.up b4)
            have U4 := Lib.hid (U3.out.up b4)
            have B4 := Lib.hid (bnext B3.out b4)
            clear b4 X3 V3 U3 B3 HMO HMO3 x2 xl
            go_wp2_with fail
            go_ret2
            exact ⟨_, [], [], by rw [e.out]; try rfl, own_nil _ _ _ _, Kids.nil _ _, by rw [e.out]; try rfl, B4.out⟩
          · have tm : decide (mo < x.mass) = false := decide_eq_false hgt
            have HGT := Lib.hid hgt
            clear hgt
            go_enter Tryz.func80, Tryz.ntmps80
            go_wp2_with fail
            refine (HALL.out _ ec).mono ?_; rintro e w1 ⟨rfl, b1⟩
            have X1 := Lib.hid (X0.out.up b1)
            have V1 := Lib.hid (V0.out.up b1)
            have B1 := Lib.hid (bnext HB0.out b1)
            have U1 := Lib.hid (U0.out.up b1)
            clear b1 X0 V0 U0 HB0 HALL
            go_wp2_with fail
            refine (HONE.out _ _ X1.out HMX.out).mono ?_; rintro e w2 ⟨rfl, b2⟩
            have X2 := Lib.hid (X1.out.up b2)
            have V2 := Lib.hid (V1.out.up b2)
            have U2 := Lib.hid (U1.out.up b2)
            have B2 := Lib.hid (bnext B1.out b2)
            clear b2 X1 V1 U1 B1 HONE
            go_wp2_with fail
            refine (HASK.out _ V2.out X2.out).mono ?_; rintro e w3 ⟨rfl, b3⟩
            have X3 := Lib.hid (X2.out.up b3)
            have V3 := Lib.hid (V2.out.up b3)
            have U3 := Lib.hid (U2.out.up b3)
            have B3 := Lib.hid (bnext B2.out b3)
            clear b3 X2 V2 U2 B2 HASK
            have x2 : w3.cell? ⟨w.heap.size, 2, none⟩ = some (.int .i64 x.mass) := X3.out.1.cell 2
            have xl := X3.out.1.lt
            have HMO3 := Lib.hid (fun x0 => HMO.out w3 x0 V3.out X3.out _ rfl)
            go_wp2_with fail
            refine wp_region_above (by kernel_rfl) (by kernel_rfl) ?_
            repeat (go_big_quiet_step (((go_at_call 104; exact HMO3.out _))))
            refine wpQuiet_nil ?_
            intro w4 b4
            have X4 := Lib.hid (X3.out.up b4)
            have U4 := Lib.hid (U3.out.up b4)
            have B4 := Lib.hid (bnext B3.out b4)
            clear b4 X3 V3 U3 B3 HMO HMO3 x2 xl
            obtain ⟨ao, cap, rfl, hcap, hmax, hsome⟩ := U4.out
            have HSM := Lib.hid hsome
            clear hsome
            go_wp2_with fail
            go_loopw [10] (fun i wr => ∃ (k : Nat), k ≤ ms.length ∧ i = .int .i64 k ∧ (∀ j (hj : j < ms.length), j < k → ms[j].id ≠ x.id) ∧ Below w4.heap.size w4 wr) (fun i _ => ms.length - (intOf i).toNat)
            case atStart => exact ⟨0, Nat.zero_le _, rfl, fun j _ hj => absurd hj (Nat.not_lt_zero _), Below.refl _ _⟩
            case round =>
              obtain ⟨k, hk, rfl, hids, hb⟩ := hrel
              have HID := Lib.hid hids
              have HB := Lib.hid hb
              have XR := Lib.hid (X4.out.up hb)
              by_cases hlt : k < ms.length
              · obtain ⟨b, off, rfl, hbB, hc⟩ := HSM.out (by omega)
                obtain ⟨l, p0, p1, p2, hrd⟩ := hc k hlt
                have c0 : wr.cell? ⟨b, off + k * 3, none⟩ = some (.string ms[k].id) := (hb.cell (p := ⟨b, off + k * 3, none⟩) hbB).trans p0
                have hbr : b < wr.heap.size := Nat.lt_of_lt_of_le hbB hb.size
                have x0 : wr.cell? ⟨w.heap.size, 0, none⟩ = some (.string x.id) := XR.out.1.cell 0
                have xl := XR.out.1.lt
                by_cases hq : ms[k].id = x.id
                · have t1 := text_eqD hq
                  have e := Lib.hid (addM_has HH.out.1 HH.out.2.1 (by rw [HMOE.out]; have q := HGT.out; omega) (idM_isSome_take hlt hq))
                  clear hids hb hc p0 p1 p2 hrd hq
                  go_wp2_with fail
                  refine wp_region_above (by kernel_rfl) (by kernel_rfl) ?_
                  repeat (go_big_quiet_step ((fail)))
                  refine wpQuiet_nil ?_
                  intro w5 b5
                  have B5 := Lib.hid (B4.out.trans ((HB.out.trans (b5.mono HB.out.size)).mono B4.out.size))
                  clear b5
                  go_wp2_with fail
                  go_ret2
                  exact ⟨_, [], [], by rw [e.out]; try rfl, own_nil _ _ _ _, Kids.nil _ _, by rw [e.out]; try rfl, B5.out⟩
                · have t1 := text_neD hq
                  have hnx : Hid (∀ j (hj : j < ms.length), j < k + 1 → ms[j].id ≠ x.id) := Lib.hid (fun j hj hjk => by
                    rcases Nat.lt_or_ge j k with z | z
                    · exact HID.out j hj z
                    · obtain rfl : j = k := by omega
                      exact hq)
                  clear hids hb hc p0 p1 p2 hrd hq
                  go_wp2_with fail
                  refine wp_region_above (by kernel_rfl) (by kernel_rfl) ?_
                  repeat (go_big_quiet_step ((fail)))
                  refine wpQuiet_nil ?_
                  intro w5 b5
                  have HB5 := Lib.hid (HB.out.trans (b5.mono HB.out.size))
                  clear b5
                  go_wp2_with fail
                  go_roundw
                  case rel => exact ⟨k + 1, by omega, by go_num, hnx.out, HB5.out⟩
                  case measure => simp [intOf]; omega
              · have hno : idM ms x.id = none := idM_none_of fun j hj => hids j hj (by omega)
                have hno2 : (idM ms x.id).isSome = false := by rw [hno]; rfl
                have B5 := Lib.hid (B4.out.trans (hb.mono B4.out.size))
                have W5 := Lib.hid hb
                clear hids hb HID HB
                obtain ⟨wo, rfl⟩ : ∃ wo : World, wo = wr := ⟨_, rfl⟩
                go_wp2_with fail
                go_loopw [11] (fun i wq => ∃ (k : Nat), k ≤ ms.length ∧ i = .int .i64 k ∧ (∀ j (hj : j < ms.length), j < k → commonB ms[j].ingots x.ingots = false) ∧ Below w4.heap.size w4 wq) (fun i _ => ms.length - (intOf i).toNat)
                case atStart => exact ⟨0, Nat.zero_le _, rfl, fun j _ hj => absurd hj (Nat.not_lt_zero _), W5.out⟩
                case round =>
                  obtain ⟨wq, rfl⟩ : ∃ wq : World, wq = wr := ⟨_, rfl⟩
                  obtain ⟨k, hk, rfl, hcs, hb⟩ := hrel
                  have HCS := Lib.hid hcs
                  have HB := Lib.hid hb
                  have XQ := Lib.hid (X4.out.up hb)
                  by_cases hlt : k < ms.length
                  · obtain ⟨b, off, rfl, hbB, hc⟩ := HSM.out (by omega)
                    obtain ⟨l, p0, p1, p2, hrd⟩ := hc k hlt
                    have c1 := (hb.cell (p := ⟨b, off + k * 3 + 1, none⟩) hbB).trans p1
                    have hbr : b < wq.heap.size := Nat.lt_of_lt_of_le hbB hb.size
                    have HCM := Lib.hid (fun (b0 : Bool) (h0 : commonB ms[k].ingots x.ingots = b0) => spec_l14Common wq b (off + k * 3) w.heap.size 0 l (.slice lo x.ingots.length lc) ms[k].ingots x.ingots c1 (XQ.out.1.cell 1) hbr XQ.out.1.lt (hrd.up hb) XQ.out.2 (Hf.out ms[k] (List.getElem_mem hlt)).2.2.2 HXF.out.2.2.2 h0)
                    cases hq : commonB ms[k].ingots x.ingots with
                    | true =>
                      have e := Lib.hid (addM_com HH.out.1 HH.out.2.1 (by rw [HMOE.out]; have q := HGT.out; omega) hno2 (List.any_eq_true.2 ⟨ms[k], List.getElem_mem hlt, hq⟩))
                      clear hcs hb hc p0 p1 p2 hrd c1
                      go_wp2_with fail
                      refine (HCM.out _ hq).mono ?_; rintro e' w6 ⟨rfl, b6⟩
                      have B6 := Lib.hid (B4.out.trans ((HB.out.trans (b6.mono HB.out.size)).mono B4.out.size))
                      clear b6
                      go_wp2_with fail
                      go_ret2
                      exact ⟨_, [], [], by rw [e.out]; try rfl, own_nil _ _ _ _, Kids.nil _ _, by rw [e.out]; try rfl, B6.out⟩
                    | false =>
                      have hnx : Hid (∀ j (hj : j < ms.length), j < k + 1 → commonB ms[j].ingots x.ingots = false) := Lib.hid (fun j hj hjk => by
                        rcases Nat.lt_or_ge j k with z | z
                        · exact HCS.out j hj z
                        · obtain rfl : j = k := by omega
                          exact hq)
                      clear hcs hb hc p0 p1 p2 hrd c1
                      go_wp2_with fail
                      refine (HCM.out _ hq).mono ?_; rintro e' w6 ⟨rfl, b6⟩
                      have HB6 := Lib.hid (HB.out.trans (b6.mono HB.out.size))
                      clear b6
                      go_wp2_with fail
                      go_roundw
                      case rel => exact ⟨k + 1, by omega, by go_num, hnx.out, HB6.out⟩
                      case measure => simp [intOf]; omega
                  · have hnc := any_common (ids := x.ingots) (fun j hj => hcs j hj (by omega))
                    have B6 := Lib.hid (B4.out.trans (hb.mono B4.out.size))
                    have W6 := Lib.hid hb
                    have X6 := Lib.hid (X4.out.up hb)
                    clear hcs hb HCS HB XQ X4
                    by_cases h12 : ms.length = 12
                    · have e := Lib.hid (addM_full HH.out.1 HH.out.2.1 (by rw [HMOE.out]; have q := HGT.out; omega) hno2 hnc h12)
                      have t12 : ((ms.length : Int) == 12) = true := beq_iff_eq.2 (by omega)
                      go_wp2_with fail
                      go_ret2
                      exact ⟨_, [], [], by rw [e.out]; try rfl, own_nil _ _ _ _, Kids.nil _ _, by rw [e.out]; try rfl, B6.out⟩
                    have e := Lib.hid (addM_ok HH.out.1 HH.out.2.1 (by rw [HMOE.out]; have q := HGT.out; omega) hno2 hnc h12)
                    have t12 : ((ms.length : Int) == 12) = false := beq_eq_false_iff_ne.2 (by omega)
                    have hm12 := (meltsB_all HH.out.2.2.1).1
                    have hml : ms.length ≤ 11 := by omega
                    have HMB := Lib.hid (meltsB_all HH.out.2.2.1).2
                    have HNO := Lib.hid hno
                    have gxl : w.heap.size < wq.heap.size := X6.out.1.lt
                    obtain ⟨i0, hi, hz0, hz1, hz2⟩ := info_parts Melt_info1
                    clear hnc h12 hm12 hno2 hno
                    have HO0 : Hid ((wq.alloc (.cells #[] 28)).ownsRow wq.heap.size 28 3 (.slice (some ⟨wq.heap.size, 0, none⟩) 0 0) 0 []) := Lib.hid (own_empty wq wq.heap.size _ 3 (Nat.le_refl _))
                    have HB0 : Hid (Below wq.heap.size wq (wq.alloc (.cells #[] 28))) := Lib.hid ((Below.refl _ _).alloc (Nat.le_refl _) _)
                    go_wp2_with fail
                    go_loopw [12, 13, 14] (fun r d i wt => ∃ (k : Nat) (os : List Melt) (gs : List Nat), k ≤ ms.length ∧ i = .int .i64 k ∧ d = .bool (runM x ms k).2 ∧ os.map Melt.said = (runM x ms k).1.map Melt.said ∧ wt.ownsRow wq.heap.size 28 3 r os.length (os.flatMap Melt.put) ∧ Kids wq.heap.size wt os gs ∧ Below wq.heap.size wq wt) (fun _ _ i _ => ms.length - (intOf i).toNat)
                    case atStart => exact ⟨0, [], [], Nat.zero_le _, rfl, by rw [runM_zero], by rw [runM_zero], HO0.out, Kids.nil _ _, HB0.out⟩
                    case round =>
                      obtain ⟨wt, rfl⟩ : ∃ wt : World, wt = wr := ⟨_, rfl⟩
                      clear HO0 HB0
                      obtain ⟨k, os, gs, hk, rfl, rfl, hsd, hown, hkd, hb⟩ := hrel
                      have hol : os.length ≤ k + 1 := by have h1 := congrArg List.length hsd; rw [List.length_map, List.length_map] at h1; have := runM_len x ms k; omega
                      have HS := Lib.hid hsd
                      have HO := Lib.hid hown
                      obtain ⟨ro, rc, er0⟩ := (own_rd hown).form
                      subst er0
                      have HKD := Lib.hid hkd
                      have HB := Lib.hid hb
                      have XT := Lib.hid (X6.out.up hb)
                      have hwt := hb.size
                      have x0 : wt.cell? ⟨w.heap.size, 0, none⟩ = some (.string x.id) := XT.out.1.cell 0
                      have xl := XT.out.1.lt
                      clear hsd hown hkd
                      by_cases hlt : k < ms.length
                      · obtain ⟨b, off, rfl, hbB, hc⟩ := HSM.out (by omega)
                        obtain ⟨l, p0, p1, p2, hrd⟩ := hc k hlt
                        have HBW := Lib.hid (W6.out.trans (hb.mono W6.out.size))
                        have c0 : wt.cell? ⟨b, off + k * 3, none⟩ = some (.string ms[k].id) := (HBW.out.cell (p := ⟨b, off + k * 3, none⟩) hbB).trans p0
                        have hbr : b < wt.heap.size := Nat.lt_of_lt_of_le hbB HBW.out.size
                        have hmk := meltB_parts (HMB.out ms[k] (List.getElem_mem hlt))
                        have HOWN := Lib.hid (fun (w' : World) (bb : Below wq.heap.size wq w') => spec_l14Own w' b (off + k * 3) ms[k].id ms[k].ingots ms[k].mass l (((W6.out.trans (bb.mono W6.out.size)).cell (p := ⟨b, off + k * 3, none⟩) hbB).trans p0) (((W6.out.trans (bb.mono W6.out.size)).cell (p := ⟨b, off + k * 3 + 1, none⟩) hbB).trans p1) (((W6.out.trans (bb.mono W6.out.size)).cell (p := ⟨b, off + k * 3 + 2, none⟩) hbB).trans p2) (Nat.lt_of_lt_of_le hbB (W6.out.trans (bb.mono W6.out.size)).size) (hrd.up (W6.out.trans (bb.mono W6.out.size))) hmk.2.1 (by omega))
                        have hmx := meltB_parts HMX.out
                        have HOWX := Lib.hid (fun (w' : World) (bb : Below wq.heap.size wq w') => spec_l14Own w' w.heap.size 0 x.id x.ingots x.mass _ ((X6.out.up bb).1.cell 0) ((X6.out.up bb).1.cell 1) ((X6.out.up bb).1.cell 2) (X6.out.up bb).1.lt (X6.out.up bb).2 hmx.2.1 (by omega))
                        have tg := gt_spell ms[k].id x.id
                        clear hc p0 p1 p2 hrd hb HBW
                        cases hd : (runM x ms k).2 with
                        | true =>
                          have hr := runM_past hlt hd
                          go_wp2_with fail
                          refine wp_region_above (by kernel_rfl) (by kernel_rfl) ?_
                          repeat (go_big_quiet_step ((fail)))
                          refine wpQuiet_nil ?_
                          intro wa ba
                          have OA := Lib.hid (own_below HO.out ba (Nat.le_refl _))
                          have KA := Lib.hid (HKD.out.below ba)
                          have BQ := Lib.hid (HB.out.trans (ba.mono HB.out.size))
                          have hza := BQ.out.size
                          clear ba HO HKD HB
                          go_wp2_with fail
                          refine (HOWN.out _ BQ.out).mono ?_; rintro e7 w7 ⟨gk7, ck7, V7, rfl, k1, k2, k3, k4, b7⟩
                          have O7 := Lib.hid (own_below OA.out b7 (Nat.le_refl _))
                          have K7 := Lib.hid (kids_snoc2 (id := ms[k].id) (ids := ms[k].ingots) (m := ms[k].mass) (KA.out.below b7) (fun g' hg' => by have := KA.out.lt g' hg'; omega) k1 k2 (by omega) k4)
                          have BB7 := Lib.hid (BQ.out.trans (b7.mono BQ.out.size))
                          have hz7 := BB7.out.size
                          clear b7 k1 k2 k3 k4 OA KA BQ
                          go_wp2_with (at_builtin; go_loud (refine app_elK rfl _ _ 25 28 i0 (.agg #[.string ByteArray.empty, .slice none 0 0, .int .i64 0]) 3 48 Tryz.underlying25 hi hz0 hz1 hz2 (by rfl) (by decide) rfl w7 wq.heap.size _ os.length (os.flatMap Melt.put) (by rfl) O7.out [.string ms[k].id, .slice (some ⟨gk7, 0, none⟩) ms[k].ingots.length ck7, .int .i64 ms[k].mass] rfl (melt_one _ _ _ _ _) (by first | rfl | (rw [World.size_alloc]; rfl)) (by omega) (by decide) hz7 (by rfl) ?_; intro g8 gc8 w8 hown8 hB8 hK8 hy8; have HO8 := Lib.hid hown8; have HB8 := Lib.hid (BB7.out.trans (hB8 _ (Below.refl _ _))); have HK8 := Lib.hid (kids_app K7.out O7.out hK8); have hws8 : wq.heap.size ≤ w8.heap.size := (by omega); clear hown8 hB8 hK8 hy8))
                          go_roundw
                          case rel => exact ⟨k + 1, _, _, by omega, by go_num, by rw [hr]; try rfl, by rw [hr]; exact said_snoc HS.out rfl, by rw [melt_snoc, List.length_append]; exact HO8.out, HK8.out, HB8.out⟩
                          case measure => simp [intOf]; omega
                        | false =>
                          cases hg : ltName x.id ms[k].id with
                          | false =>
                            obtain ⟨hr0, hr⟩ := runM_before (risesM_of HH.out.2.2.1) HNO.out hlt hg
                            rw [hg] at tg
                            go_wp2_with fail
                            refine wp_region_above (by kernel_rfl) (by kernel_rfl) ?_
                            repeat (go_big_quiet_step ((fail)))
                            refine wpQuiet_nil ?_
                            intro wa ba
                            have OA := Lib.hid (own_below HO.out ba (Nat.le_refl _))
                            have KA := Lib.hid (HKD.out.below ba)
                            have BQ := Lib.hid (HB.out.trans (ba.mono HB.out.size))
                            have hza := BQ.out.size
                            clear ba HO HKD HB
                            go_wp2_with fail
                            refine (HOWN.out _ BQ.out).mono ?_; rintro e7 w7 ⟨gk7, ck7, V7, rfl, k1, k2, k3, k4, b7⟩
                            have O7 := Lib.hid (own_below OA.out b7 (Nat.le_refl _))
                            have K7 := Lib.hid (kids_snoc2 (id := ms[k].id) (ids := ms[k].ingots) (m := ms[k].mass) (KA.out.below b7) (fun g' hg' => by have := KA.out.lt g' hg'; omega) k1 k2 (by omega) k4)
                            have BB7 := Lib.hid (BQ.out.trans (b7.mono BQ.out.size))
                            have hz7 := BB7.out.size
                            clear b7 k1 k2 k3 k4 OA KA BQ
                            go_wp2_with (at_builtin; go_loud (refine app_elK rfl _ _ 25 28 i0 (.agg #[.string ByteArray.empty, .slice none 0 0, .int .i64 0]) 3 48 Tryz.underlying25 hi hz0 hz1 hz2 (by rfl) (by decide) rfl w7 wq.heap.size _ os.length (os.flatMap Melt.put) (by rfl) O7.out [.string ms[k].id, .slice (some ⟨gk7, 0, none⟩) ms[k].ingots.length ck7, .int .i64 ms[k].mass] rfl (melt_one _ _ _ _ _) (by first | rfl | (rw [World.size_alloc]; rfl)) (by omega) (by decide) hz7 (by rfl) ?_; intro g8 gc8 w8 hown8 hB8 hK8 hy8; have HO8 := Lib.hid hown8; have HB8 := Lib.hid (BB7.out.trans (hB8 _ (Below.refl _ _))); have HK8 := Lib.hid (kids_app K7.out O7.out hK8); have hws8 : wq.heap.size ≤ w8.heap.size := (by omega); clear hown8 hB8 hK8 hy8))
                            go_roundw
                            case rel => exact ⟨k + 1, _, _, by omega, by go_num, by rw [hr]; try rfl, by rw [hr]; exact said_snoc (by have h1 := HS.out; rw [hr0] at h1; exact h1) rfl, by rw [melt_snoc, List.length_append]; exact HO8.out, HK8.out, HB8.out⟩
                            case measure => simp [intOf]; omega
                          | true =>
                            obtain ⟨hr0, hr⟩ := runM_at hlt hg hd
                            rw [hg] at tg
                            go_wp2_with fail
                            refine wp_region_above (by kernel_rfl) (by kernel_rfl) ?_
                            repeat (go_big_quiet_step ((fail)))
                            refine wpQuiet_nil ?_
                            intro wa ba
                            have OA := Lib.hid (own_below HO.out ba (Nat.le_refl _))
                            have KA := Lib.hid (HKD.out.below ba)
                            have BQ := Lib.hid (HB.out.trans (ba.mono HB.out.size))
                            have hza := BQ.out.size
                            clear ba HO HKD HB
                            go_wp2_with fail
                            refine (HOWX.out _ BQ.out).mono ?_; rintro e5 w5 ⟨gk5, ck5, V5, rfl, k1, k2, k3, k4, b5⟩
                            have O5 := Lib.hid (own_below OA.out b5 (Nat.le_refl _))
                            have K5 := Lib.hid (kids_snoc2 (id := x.id) (ids := x.ingots) (m := x.mass) (KA.out.below b5) (fun g' hg' => by have := KA.out.lt g' hg'; omega) k1 k2 (by omega) k4)
                            have BB5 := Lib.hid (BQ.out.trans (b5.mono BQ.out.size))
                            have hz5 := BB5.out.size
                            clear b5 k1 k2 k3 k4 OA KA BQ
                            go_wp2_with (at_builtin; go_loud (refine app_elK rfl _ _ 25 28 i0 (.agg #[.string ByteArray.empty, .slice none 0 0, .int .i64 0]) 3 48 Tryz.underlying25 hi hz0 hz1 hz2 (by rfl) (by decide) rfl w5 wq.heap.size _ os.length (os.flatMap Melt.put) (by rfl) O5.out [.string x.id, .slice (some ⟨gk5, 0, none⟩) x.ingots.length ck5, .int .i64 x.mass] rfl (melt_one _ _ _ _ _) (by first | rfl | (rw [World.size_alloc]; rfl)) (by omega) (by decide) hz5 (by rfl) ?_; intro g6 gc6 w6 hown6 hB6 hK6 hy6; have HO6 := Lib.hid hown6; have HB6 := Lib.hid (BB5.out.trans (hB6 _ (Below.refl _ _))); have HK6 := Lib.hid (kids_app K5.out O5.out hK6); have hws6 : wq.heap.size ≤ w6.heap.size := (by omega); clear hown6 hB6 hK6 hy6))
                            go_wp2_with fail
                            refine (HOWN.out _ HB6.out).mono ?_; rintro e7 w7 ⟨gk7, ck7, V7, rfl, k1, k2, k3, k4, b7⟩
                            have O7 := Lib.hid (own_below HO6.out b7 (Nat.le_refl _))
                            have K7 := Lib.hid (kids_snoc2 (id := ms[k].id) (ids := ms[k].ingots) (m := ms[k].mass) (HK6.out.below b7) (fun g' hg' => by have := HK6.out.lt g' hg'; omega) k1 k2 (by omega) k4)
                            have BB7 := Lib.hid (HB6.out.trans (b7.mono HB6.out.size))
                            have hz7 := BB7.out.size
                            clear b7 k1 k2 k3 k4 HO6 HK6 HB6
                            go_wp2_with (at_builtin; go_loud (refine app_elK rfl _ _ 25 28 i0 (.agg #[.string ByteArray.empty, .slice none 0 0, .int .i64 0]) 3 48 Tryz.underlying25 hi hz0 hz1 hz2 (by rfl) (by decide) rfl w7 wq.heap.size _ (os.length + 1) (os.flatMap Melt.put ++ [.string x.id, .slice (some ⟨gk5, 0, none⟩) x.ingots.length ck5, .int .i64 x.mass]) (by rfl) O7.out [.string ms[k].id, .slice (some ⟨gk7, 0, none⟩) ms[k].ingots.length ck7, .int .i64 ms[k].mass] rfl (melt_one _ _ _ _ _) (by first | rfl | (rw [World.size_alloc]; rfl)) (by omega) (by decide) hz7 (by rfl) ?_; intro g8 gc8 w8 hown8 hB8 hK8 hy8; have HO8 := Lib.hid hown8; have HB8 := Lib.hid (BB7.out.trans (hB8 _ (Below.refl _ _))); have HK8 := Lib.hid (kids_app K7.out O7.out hK8); have hws8 : wq.heap.size ≤ w8.heap.size := (by omega); clear hown8 hB8 hK8 hy8))
                            go_roundw
                            case rel => exact ⟨k + 1, _, _, by omega, by go_num, by rw [hr]; try rfl, by rw [hr]; exact said_snoc (said_snoc (by have h1 := HS.out; rw [hr0] at h1; exact h1) rfl) rfl, by rw [melt_snoc, melt_snoc, List.length_append, List.length_append]; exact HO8.out, HK8.out, HB8.out⟩
                            case measure => simp [intOf]; omega
                      · obtain rfl : k = ms.length := by omega
                        have hb2 := hb
                        clear hb
                        cases hd : (runM x ms ms.length).2 with
                        | true =>
                          have hR := runM_end_yes hd
                          have eR := Lib.hid (show os.map Melt.said = (insM x ms).map Melt.said by rw [← hR]; exact HS.out)
                          clear hR
                          go_wp2_with fail
                          go_ret2
                          exact ⟨_, os, gs, by rw [e.out]; try rfl, own_base HO.out (by omega), HKD.out.base (by omega), by rw [e.out]; exact eR.out, B6.out.trans (HB.out.mono B6.out.size)⟩
                        | false =>
                          have hR := runM_end_no hd
                          have hmx := meltB_parts HMX.out
                          have HOWX := Lib.hid (fun (w' : World) (bb : Below wq.heap.size wq w') => spec_l14Own w' w.heap.size 0 x.id x.ingots x.mass _ ((X6.out.up bb).1.cell 0) ((X6.out.up bb).1.cell 1) ((X6.out.up bb).1.cell 2) (X6.out.up bb).1.lt (X6.out.up bb).2 hmx.2.1 (by omega))
                          go_wp2_with fail
                          refine (HOWX.out _ HB.out).mono ?_; rintro e7 w7 ⟨gk7, ck7, V7, rfl, k1, k2, k3, k4, b7⟩
                          have O7 := Lib.hid (own_below HO.out b7 (Nat.le_refl _))
                          have K7 := Lib.hid (kids_snoc2 (id := x.id) (ids := x.ingots) (m := x.mass) (HKD.out.below b7) (fun g' hg' => by have := HKD.out.lt g' hg'; omega) k1 k2 (by omega) k4)
                          have BB7 := Lib.hid (HB.out.trans (b7.mono HB.out.size))
                          have hz7 := BB7.out.size
                          clear b7 k1 k2 k3 k4 HO HKD HB
                          go_wp2_with (at_builtin; go_loud (refine app_elK rfl _ _ 25 28 i0 (.agg #[.string ByteArray.empty, .slice none 0 0, .int .i64 0]) 3 48 Tryz.underlying25 hi hz0 hz1 hz2 (by rfl) (by decide) rfl w7 wq.heap.size _ os.length (os.flatMap Melt.put) (by rfl) O7.out [.string x.id, .slice (some ⟨gk7, 0, none⟩) x.ingots.length ck7, .int .i64 x.mass] rfl (melt_one _ _ _ _ _) (by first | rfl | (rw [World.size_alloc]; rfl)) (by omega) (by decide) hz7 (by rfl) ?_; intro g8 gc8 w8 hown8 hB8 hK8 hy8; have HO8 := Lib.hid hown8; have HB8 := Lib.hid (BB7.out.trans (hB8 _ (Below.refl _ _))); have HK8 := Lib.hid (kids_app K7.out O7.out hK8); have hws8 : wq.heap.size ≤ w8.heap.size := (by omega); clear hown8 hB8 hK8 hy8))
                          have eR : Hid ((os ++ [(⟨x.id, .slice (some ⟨gk7, 0, none⟩) x.ingots.length ck7, x.ingots, x.mass⟩ : Melt)]).map Melt.said = (insM x ms).map Melt.said) := Lib.hid (by rw [← hR]; exact said_snoc HS.out rfl)
                          have OF : Hid (w8.ownsRow wq.heap.size 28 3 (.slice (some ⟨g8, 0, none⟩) (os.length + 1) gc8) (os ++ [(⟨x.id, .slice (some ⟨gk7, 0, none⟩) x.ingots.length ck7, x.ingots, x.mass⟩ : Melt)]).length ((os ++ [(⟨x.id, .slice (some ⟨gk7, 0, none⟩) x.ingots.length ck7, x.ingots, x.mass⟩ : Melt)]).flatMap Melt.put)) := Lib.hid (by rw [melt_snoc, List.length_append]; exact HO8.out)
                          clear hR HO8
                          go_wp2_with fail
                          go_ret2
                          exact ⟨_, (os ++ [(⟨x.id, .slice (some ⟨gk7, 0, none⟩) x.ingots.length ck7, x.ingots, x.mass⟩ : Melt)]), _, by rw [e.out]; try rfl, own_base OF.out (by omega), HK8.out.base (by omega), by rw [e.out]; exact eR.out, B6.out.trans (HB8.out.mono B6.out.size)⟩
theorem spec_AddMelt (w : World) (v u : Value) (xs : List Ingot) (ms : List Melt) (x : Melt) (lo : Option Addr) (lc : Nat) (h : Rd w.heap.size w v 5 xs.length (xs.flatMap Ingot.put)) (hn : xs.length ≤ 1048576) (hok : ∀ x ∈ xs, x.ok) (h2 : RdM w.heap.size w u ms) (hn2 : ms.length ≤ 1048576) (hf : ∀ m ∈ ms, m.fine) (hxl : x.list = .slice lo x.ingots.length lc) (hx : Rd w.heap.size w (.slice lo x.ingots.length lc) 1 x.ingots.length (x.ingots.flatMap putStr)) (hxf : x.fine) :
    Calls Tryz.prog 80 #[v, u, .agg #[.string x.id, .slice lo x.ingots.length lc, .int .i64 x.mass]] w fun e w' => ∃ r os, e = .returned (.tuple #[r, .int .i64 (addM xs ms x).2]) ∧ Nest w.heap.size w'.heap.size w' r os ∧ os.map Melt.said = (addM xs ms x).1.map Melt.said ∧ Below w.heap.size w w' :=
  (spec_AddMeltO w v u xs ms x lo lc h hn hok h2 hn2 hf hxl hx hxf).mono fun _ _ ⟨r, os, gs, h1, h2, h3, h4, h5⟩ => ⟨r, os, h1, Nest.of h2 h3, h4, h5⟩
end Go.Proofs.YtnbodmbagendnaaGreatDoor
