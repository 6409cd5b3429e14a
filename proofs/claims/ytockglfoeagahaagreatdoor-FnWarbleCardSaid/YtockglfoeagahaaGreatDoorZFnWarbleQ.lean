/- Contracts and plain facts, joined: AddS. -/
import Derived.Test.YtockglfoeagahaaGreatDoorRows
import Derived.Test.YtockglfoeagahaaGreatDoorZFnWarbleF
namespace Go.Proofs.YtockglfoeagahaaGreatDoor
open Go.ChangeShapes Go.WideShapes Go.ChangeAt Go.RowKit Go.Deep Go.Joins
set_option linter.unusedVariables false
set_option maxRecDepth 100000
set_option linter.unusedSimpArgs false
theorem spot_one (a b : Int) : ∀ u ∈ [Value.int .i64 a, Value.int .i64 b], u.oneCell' = true := by
  intro u hu
  simp at hu
  rcases hu with rfl | rfl <;> rfl
/-- a store into a block that is not the slice's -/
theorem own_setx {w : World} {base g : Nat} {E E' : TypeId} {s n : Nat} {v : Value} {L L' : List Value} (h : w.ownsRow base E s v n L) (hg : Own w g E' L') (hne : ∀ g', v.ownBlock = some g' → g' ≠ g) (i : Nat) (u : Value) : (w.setCell ⟨g, i, none⟩ u).ownsRow base E s v n L := by
  obtain ⟨h1, h2⟩ := h
  refine ⟨h1, ?_⟩
  rcases h2 with h2 | ⟨g1, cap, cur, rfl, hg0, hg1, rest⟩
  · exact .inl h2
  · refine .inr ⟨g1, cap, cur, rfl, hg0, ?_, rest⟩
    rw [Below.heap_setCell _ _ _ _ (fun e => hne g1 rfl e)]
    exact hg1
theorem own_far {B g : Nat} {a b : World} {E : TypeId} {L : List Value} (h : Below B a b) (o : Own a g E L) (hg : g < B) : Own b g E L := (h.block g hg).trans o
set_option maxHeartbeats 4000000 in
theorem spec_l12Add (w : World) (v : Value) (xs : List Spot) (s : Spot) (h : Rd w.heap.size w v 2 xs.length (xs.flatMap Spot.put)) (hn : xs.length ≤ 16) (hw : ∀ x ∈ xs, -1000 ≤ x.weight ∧ x.weight ≤ 1000) (hs : -1000 ≤ s.weight ∧ s.weight ≤ 1000) :
    Calls Tryz.prog 61 #[v, .agg #[.int .i64 s.angle, .int .i64 s.weight]] w fun e w' => ∃ r : Value, e = .returned (.tuple #[r, .int .i64 (addL s xs).2]) ∧ w'.ownsRow (w.heap.size + 1) 38 2 r (addL s xs).1.length ((addL s xs).1.flatMap Spot.put) ∧ Below w.heap.size w w' := by
  obtain ⟨hL, vo, vc, rfl, hcap1, hmax1, hnil1, hsome1⟩ := h
  obtain ⟨i0, hi, hz0, hz1, hz2⟩ := info_parts Spot_info
  have Hw := Lib.hid hw; clear hw
  have HSx := Lib.hid (Own.new w 38 [.int .i64 s.angle, .int .i64 s.weight])
  have HS0 := Lib.hid (HSx.out.alloc (.cells #[] 38))
  have HB0 := Lib.hid (show Below w.heap.size w ((w.alloc (.cells #[.int .i64 s.angle, .int .i64 s.weight] 38)).alloc (.cells #[] 38)) from by (repeat' (first | (with_reducible exact Below.refl _ _) | (with_reducible assumption) | (with_reducible refine below_dn ?_ _) | (with_reducible refine Below.drew ?_) | (with_reducible refine Below.alloc ?_ ?_ _) | (with_reducible refine Below.setCell ?_ ?_ _) | go_size)))
  clear HSx
  go_enter Tryz.func61, Tryz.ntmps61
  go_wp2_with fail
  go_loopw [6, 7, 8, 9] (fun r d i _ wr => ∃ (k : Nat) (o : List Spot) (dd : Bool), k ≤ xs.length ∧ i = .int .i64 k ∧ d = .bool dd ∧ runA s xs k = some (o, dd) ∧ wr.ownsRow (w.heap.size + 1) 38 2 r o.length (o.flatMap Spot.put) ∧ Own wr w.heap.size 38 [.int .i64 s.angle, .int .i64 s.weight] ∧ Below w.heap.size w wr) (fun _ _ i _ _ => xs.length - (intOf i).toNat)
  case atStart => exact ⟨0, [], false, Nat.zero_le _, rfl, rfl, rfl, (by have q := own_empty (w.alloc (.cells #[.int .i64 s.angle, .int .i64 s.weight] 38)) (w.heap.size + 1) 38 2 (by rw [World.size_alloc]; exact Nat.le_refl _); rw [World.size_alloc] at q; exact q), HS0.out, HB0.out⟩
  case round =>
    clear HS0 HB0
    obtain ⟨k, o, dd, hk, rfl, rfl, hrun, hown, hS, hb⟩ := hrel
    have hol := runA_len hk hrun
    simp only at hol
    have HR := Lib.hid hrun; clear hrun
    have HO := Lib.hid hown
    obtain ⟨ro, rc, er0⟩ := (own_rd hown).form
    subst er0
    clear hown
    have hsl := hS.lt
    have s0 := hS.cell 0
    have s1 := hS.cell 1
    have HS := Lib.hid hS; clear hS
    have HB := Lib.hid hb
    by_cases hlt : k < xs.length
    · obtain ⟨b3, off3, rfl, hbB3, hc3⟩ := hsome1 (by omega)
      have c0 : wr.cell? ⟨b3, off3 + k * 2, none⟩ = some (.int .i64 xs[k].angle) := by rw [show off3 + k * 2 = off3 + (k * 2 + 0) from by omega, hb.cell (p := ⟨b3, off3 + (k * 2 + 0), none⟩) hbB3, hc3 (k * 2 + 0) (by omega), Spot_get0 xs k hlt]
      have c1 : wr.cell? ⟨b3, off3 + k * 2 + 1, none⟩ = some (.int .i64 xs[k].weight) := by rw [show off3 + k * 2 + 1 = off3 + (k * 2 + 1) from by omega, hb.cell (p := ⟨b3, off3 + (k * 2 + 1), none⟩) hbB3, hc3 (k * 2 + 1) (by omega), Spot_get1 xs k hlt]
      have hxw := Hw.out xs[k] (List.getElem_mem hlt)
      have hbr3 : b3 < wr.heap.size := Nat.lt_of_lt_of_le hbB3 hb.size
      have hws : w.heap.size + 1 ≤ (wr.alloc (.cells #[.int .i64 xs[k].angle, .int .i64 xs[k].weight] 38)).heap.size := by simp; omega
      have HO1 := Lib.hid (HO.out.alloc (.cells #[.int .i64 xs[k].angle, .int .i64 xs[k].weight] 38))
      have HS1 := Lib.hid (HS.out.alloc (.cells #[.int .i64 xs[k].angle, .int .i64 xs[k].weight] 38))
      have HB1 := Lib.hid (hb.alloc hb.size (.cells #[.int .i64 xs[k].angle, .int .i64 xs[k].weight] 38))
      have HV1 := Lib.hid (Own.new wr 38 [.int .i64 xs[k].angle, .int .i64 xs[k].weight])
      have hng : ∀ g', Value.ownBlock (.slice ro o.length rc) = some g' → g' ≠ wr.heap.size := fun g' e => by have := (HO.out.lt g' e).2; omega
      have hstep := runA_succ hlt HR.out
      clear hc3 hsome1 hnil1 hb
      by_cases hP : (!dd && decide (s.angle < xs[k].angle)) = true
      · have hd : dd = false := by cases dd <;> simp_all
        have hgt : s.angle < xs[k].angle := by subst hd; simpa using hP
        subst hd
        have er : Hid (runA s xs (k + 1) = some (o ++ [s] ++ [xs[k]], true)) := Lib.hid (by rw [hstep]; unfold stepA; simp [hgt, show ¬ xs[k].angle = s.angle from by omega])
        have t1 : decide (s.angle < xs[k].angle) = true := decide_eq_true hgt
        have t2 : (xs[k].angle == s.angle) = false := beq_eq_false_iff_ne.2 (by omega)
        clear hstep hP hgt
        go_wp2_with (at_builtin; go_loud (first | (refine app_elK rfl _ _ 24 38 i0 (.agg #[.int .i64 0, .int .i64 0]) 2 16 Tryz.underlying24 hi hz0 hz1 hz2 (by rfl) (by decide) rfl w2 (w.heap.size + 1) _ (o.length + 1) (o.flatMap Spot.put ++ [.int .i64 s.angle, .int .i64 s.weight]) (by rfl) HO2.out [.int .i64 xs[k].angle, .int .i64 xs[k].weight] rfl (spot_one _ _) (by first | rfl | (rw [World.size_alloc]; rfl)) (by omega) (by decide) hws2 (by rfl) ?_; intro g3 gc3 w3 hown3 hB3 hK3 hy3; have HO3 := Lib.hid hown3; have HBy := hB3 _ (Below.refl _ _); have HB3 := Lib.hid (HB2.out.trans (HBy.mono (by omega))); have HS3 := Lib.hid (own_far HBy HS2.out (by omega)); clear hown3 hB3 hK3 HBy) | (refine app_elK rfl _ _ 24 38 i0 (.agg #[.int .i64 0, .int .i64 0]) 2 16 Tryz.underlying24 hi hz0 hz1 hz2 (by rfl) (by decide) rfl (wr.alloc (.cells #[.int .i64 xs[k].angle, .int .i64 xs[k].weight] 38)) (w.heap.size + 1) _ o.length (o.flatMap Spot.put) (by rfl) HO1.out [.int .i64 s.angle, .int .i64 s.weight] rfl (spot_one _ _) (by first | rfl | (rw [World.size_alloc]; rfl)) (by omega) (by decide) (by first | exact hws | omega) (by rfl) ?_; intro g2 gc2 w2 hown2 hB2 hK2 hy2; have HO2 := Lib.hid hown2; have HBx := hB2 _ (Below.refl _ _); have HB2 := Lib.hid (HB1.out.trans (HBx.mono (by omega))); have HS2 := Lib.hid (own_far HBx HS1.out (by omega)); have HV2 := hK2 _ _ _ HV1.out hng; have z0 := HS2.out.cell 0; have z1 := HS2.out.cell 1; have zl := HS2.out.lt; have v0 := HV2.cell 0; have v1 := HV2.cell 1; have vl := HV2.lt; have hws2 : w.heap.size + 1 ≤ w2.heap.size := (by have := HS2.out.lt; omega); clear hown2 hB2 hK2 HBx HV2)))
        go_roundw
        case rel => exact ⟨k + 1, o ++ [s] ++ [xs[k]], true, by omega, by go_num, rfl, er.out, by rw [spot_snoc, spot_snoc, List.length_append, List.length_append]; exact HO3.out, HS3.out, HB3.out⟩
        case measure => simp [intOf]; omega
      · have hd1 : Hid ((if (!dd && decide (s.angle < xs[k].angle)) = true then o ++ [s] else o) = o) := Lib.hid (if_neg hP)
        have hgc : (!dd) = true → decide (s.angle < xs[k].angle) = false := fun e => by
          cases hx : decide (s.angle < xs[k].angle)
          · rfl
          · exact absurd (by rw [e, hx]; rfl) hP
        by_cases heq : xs[k].angle = s.angle
        · have t2 : (xs[k].angle == s.angle) = true := beq_iff_eq.2 heq
          have hsame : s.angle = xs[k].angle := heq.symm
          have t1 : decide (s.angle < xs[k].angle) = false := decide_eq_false (by omega)
          have HO4 := Lib.hid (HO.out.alloc (.cells #[.int .i64 xs[k].angle, .int .i64 (xs[k].weight + s.weight)] 38))
          have HS4 := Lib.hid (HS.out.alloc (.cells #[.int .i64 xs[k].angle, .int .i64 (xs[k].weight + s.weight)] 38))
          have HB4 := Lib.hid (HB.out.alloc HB.out.size (.cells #[.int .i64 xs[k].angle, .int .i64 (xs[k].weight + s.weight)] 38))
          have hws4 : w.heap.size + 1 ≤ (wr.alloc (.cells #[.int .i64 xs[k].angle, .int .i64 (xs[k].weight + s.weight)] 38)).heap.size := by simp; omega
          have hsum : Hid (-2000 ≤ xs[k].weight + s.weight ∧ xs[k].weight + s.weight ≤ 2000) := Lib.hid (by omega)
          by_cases hz : xs[k].weight + s.weight = 0
          · have er : Hid (runA s xs (k + 1) = some (o, true)) := Lib.hid (by rw [hstep]; unfold stepA; simp only [hd1.out, if_pos heq, if_pos hz])
            have t3 : (xs[k].weight + s.weight == 0) = true := beq_iff_eq.2 hz
            clear hstep hP hgc heq hd1 hsame hz
            cases dd
            all_goals go_wp2_with fail
            all_goals go_roundw
            all_goals first
              | exact ⟨k + 1, o, true, by omega, by go_num, rfl, er.out, HO4.out, HS4.out, HB4.out⟩
              | (simp [intOf]; omega)
          · have t3 : (xs[k].weight + s.weight == 0) = false := beq_eq_false_iff_ne.2 hz
            have HWt := Lib.hid (fun w' => spec_l12Weight (xs[k].weight + s.weight) w')
            cases hwb : weightB (xs[k].weight + s.weight)
            all_goals rw [hwb] at HWt
            · have er : Hid (addL s xs = ([], 6)) := Lib.hid (addL_bad hlt (by rw [hstep]; unfold stepA; simp [hd1.out, heq, hz, hwb]))
              clear hstep hP hgc heq hd1 hsame hz hwb
              cases dd
              all_goals go_wp2_with (go_at_call 89; refine (HWt.out _).mono ?_; rintro ew ww ⟨rfl, rfl⟩)
              all_goals go_ret2
              all_goals exact ⟨_, by rw [er.out]; try rfl, by rw [er.out]; exact own_nil _ _ _ _, HB4.out⟩
            · have er : Hid (runA s xs (k + 1) = some (o ++ [⟨xs[k].angle, xs[k].weight + s.weight⟩], true)) := Lib.hid (by rw [hstep]; unfold stepA; simp only [hd1.out, if_pos heq, if_neg hz, hwb, if_true])
              clear hstep hP hgc heq hd1 hsame hz hwb
              cases dd
              all_goals go_wp2_with (first | (go_at_call 89; refine (HWt.out _).mono ?_; rintro ew ww ⟨rfl, rfl⟩) | (at_builtin; (refine app_elK rfl _ _ 24 38 i0 (.agg #[.int .i64 0, .int .i64 0]) 2 16 Tryz.underlying24 hi hz0 hz1 hz2 (by rfl) (by decide) rfl (wr.alloc (.cells #[.int .i64 xs[k].angle, .int .i64 (xs[k].weight + s.weight)] 38)) (w.heap.size + 1) _ o.length (o.flatMap Spot.put) (by rfl) HO4.out [.int .i64 xs[k].angle, .int .i64 (xs[k].weight + s.weight)] rfl (spot_one _ _) (by first | rfl | (rw [World.size_alloc]; rfl)) (by omega) (by decide) hws4 (by rfl) ?_; intro g3 gc3 w3 hown3 hB3 hK3 hy3; have HO3 := Lib.hid hown3; have HBy := hB3 _ (Below.refl _ _); have HB3 := Lib.hid (HB4.out.trans (HBy.mono (by omega))); have HS3 := Lib.hid (own_far HBy HS4.out (by omega)); clear hown3 hB3 hK3 HBy)))
              all_goals go_roundw
              all_goals first
                | exact ⟨k + 1, o ++ [⟨xs[k].angle, xs[k].weight + s.weight⟩], true, by omega, by go_num, rfl, er.out, by rw [spot_snoc, List.length_append]; exact HO3.out, HS3.out, HB3.out⟩
                | (simp [intOf]; omega)
        · have t2 : (xs[k].angle == s.angle) = false := beq_eq_false_iff_ne.2 heq
          have er : Hid (runA s xs (k + 1) = some (o ++ [xs[k]], dd || decide (s.angle < xs[k].angle))) := Lib.hid (by rw [hstep]; unfold stepA; simp only [hd1.out, if_neg heq])
          have ed : (dd || decide (s.angle < xs[k].angle)) = dd := by
            cases hdd : dd
            · rw [hgc (by rw [hdd]; rfl)]; rfl
            · rfl
          rw [ed] at er
          cases hdd : dd
          case false =>
            have t1 := hgc (by rw [hdd]; rfl)
            rw [hdd] at er
            clear hstep hP hgc heq hd1 ed
            go_wp2_with (at_builtin; (refine app_elK rfl _ _ 24 38 i0 (.agg #[.int .i64 0, .int .i64 0]) 2 16 Tryz.underlying24 hi hz0 hz1 hz2 (by rfl) (by decide) rfl (wr.alloc (.cells #[.int .i64 xs[k].angle, .int .i64 xs[k].weight] 38)) (w.heap.size + 1) _ o.length (o.flatMap Spot.put) (by rfl) HO1.out [.int .i64 xs[k].angle, .int .i64 xs[k].weight] rfl (spot_one _ _) (by first | rfl | (rw [World.size_alloc]; rfl)) (by omega) (by decide) (by first | exact hws | omega) (by rfl) ?_; intro g3 gc3 w3 hown3 hB3 hK3 hy3; have HO3 := Lib.hid hown3; have HBy := hB3 _ (Below.refl _ _); have HB3 := Lib.hid (HB1.out.trans (HBy.mono (by omega))); have HS3 := Lib.hid (own_far HBy HS1.out (by omega)); clear hown3 hB3 hK3 HBy))
            go_roundw
            case rel => exact ⟨k + 1, o ++ [xs[k]], false, by omega, by go_num, rfl, er.out, by rw [spot_snoc, List.length_append]; exact HO3.out, HS3.out, HB3.out⟩
            case measure => simp [intOf]; omega
          case true =>
            rw [hdd] at er
            clear hstep hP hgc heq hd1 ed
            go_wp2_with (at_builtin; (refine app_elK rfl _ _ 24 38 i0 (.agg #[.int .i64 0, .int .i64 0]) 2 16 Tryz.underlying24 hi hz0 hz1 hz2 (by rfl) (by decide) rfl (wr.alloc (.cells #[.int .i64 xs[k].angle, .int .i64 xs[k].weight] 38)) (w.heap.size + 1) _ o.length (o.flatMap Spot.put) (by rfl) HO1.out [.int .i64 xs[k].angle, .int .i64 xs[k].weight] rfl (spot_one _ _) (by first | rfl | (rw [World.size_alloc]; rfl)) (by omega) (by decide) (by first | exact hws | omega) (by rfl) ?_; intro g3 gc3 w3 hown3 hB3 hK3 hy3; have HO3 := Lib.hid hown3; have HBy := hB3 _ (Below.refl _ _); have HB3 := Lib.hid (HB1.out.trans (HBy.mono (by omega))); have HS3 := Lib.hid (own_far HBy HS1.out (by omega)); clear hown3 hB3 hK3 HBy))
            go_roundw
            case rel => exact ⟨k + 1, o ++ [xs[k]], true, by omega, by go_num, rfl, er.out, by rw [spot_snoc, List.length_append]; exact HO3.out, HS3.out, HB3.out⟩
            case measure => simp [intOf]; omega
    · have hks : k = xs.length := by omega
      subst hks
      have er : Hid (addL s xs = endA s (some (o, dd))) := Lib.hid (by unfold addL; rw [HR.out])
      have hws5 : w.heap.size + 1 ≤ wr.heap.size := by omega
      clear hnil1 hsome1 hb
      cases dd
      case false =>
        by_cases hL : 16 < o.length + 1
        · have er2 : Hid (addL s xs = ([], 5)) := Lib.hid (by rw [er.out]; unfold endA; simp [hL])
          have t5 : decide (16 < o.length + 1) = true := decide_eq_true hL
          have t5i : decide ((16 : Int) < (o.length : Int) + 1) = true := decide_eq_true (by omega)
          clear hL
          go_wp2_with (at_builtin; (refine app_elK rfl _ _ 24 38 i0 (.agg #[.int .i64 0, .int .i64 0]) 2 16 Tryz.underlying24 hi hz0 hz1 hz2 (by rfl) (by decide) rfl wr (w.heap.size + 1) _ o.length (o.flatMap Spot.put) (by rfl) HO.out [.int .i64 s.angle, .int .i64 s.weight] rfl (spot_one _ _) (by first | rfl | (rw [World.size_alloc]; rfl)) (by omega) (by decide) hws5 (by rfl) ?_; intro g3 gc3 w3 hown3 hB3 hK3 hy3; have HO3 := Lib.hid hown3; have HBy := hB3 _ (Below.refl _ _); have HB3 := Lib.hid (HB.out.trans (HBy.mono (by omega))); have HS3 := Lib.hid (own_far HBy HS.out (by omega)); clear hown3 hB3 hK3 HBy))
          go_ret2
          exact ⟨_, by rw [er2.out]; try rfl, by rw [er2.out]; exact own_nil _ _ _ _, HB3.out⟩
        · have er2 : Hid (addL s xs = (o ++ [s], 0)) := Lib.hid (by rw [er.out]; unfold endA; simp [hL])
          have t5 : decide (16 < o.length + 1) = false := decide_eq_false hL
          have t5i : decide ((16 : Int) < (o.length : Int) + 1) = false := decide_eq_false (by omega)
          clear hL
          go_wp2_with (at_builtin; (refine app_elK rfl _ _ 24 38 i0 (.agg #[.int .i64 0, .int .i64 0]) 2 16 Tryz.underlying24 hi hz0 hz1 hz2 (by rfl) (by decide) rfl wr (w.heap.size + 1) _ o.length (o.flatMap Spot.put) (by rfl) HO.out [.int .i64 s.angle, .int .i64 s.weight] rfl (spot_one _ _) (by first | rfl | (rw [World.size_alloc]; rfl)) (by omega) (by decide) hws5 (by rfl) ?_; intro g3 gc3 w3 hown3 hB3 hK3 hy3; have HO3 := Lib.hid hown3; have HBy := hB3 _ (Below.refl _ _); have HB3 := Lib.hid (HB.out.trans (HBy.mono (by omega))); have HS3 := Lib.hid (own_far HBy HS.out (by omega)); clear hown3 hB3 hK3 HBy))
          go_ret2
          exact ⟨_, by rw [er2.out]; try rfl, by rw [er2.out]; show World.ownsRow _ _ _ _ _ (o ++ [s]).length ((o ++ [s]).flatMap Spot.put); rw [spot_snoc, List.length_append]; exact HO3.out, HB3.out⟩
      case true =>
        by_cases hL : 16 < o.length
        · have er2 : Hid (addL s xs = ([], 5)) := Lib.hid (by rw [er.out]; unfold endA; simp [hL])
          have t5 : decide (16 < o.length) = true := decide_eq_true hL
          have t5i : decide ((16 : Int) < (o.length : Int)) = true := decide_eq_true (by omega)
          clear hL
          go_wp2_with fail
          go_ret2
          exact ⟨_, by rw [er2.out]; try rfl, by rw [er2.out]; exact own_nil _ _ _ _, HB.out⟩
        · have er2 : Hid (addL s xs = (o, 0)) := Lib.hid (by rw [er.out]; unfold endA; simp [hL])
          have t5 : decide (16 < o.length) = false := decide_eq_false hL
          have t5i : decide ((16 : Int) < (o.length : Int)) = false := decide_eq_false (by omega)
          clear hL
          go_wp2_with fail
          go_ret2
          exact ⟨_, by rw [er2.out]; try rfl, by rw [er2.out]; exact HO.out, HB.out⟩
end Go.Proofs.YtockglfoeagahaaGreatDoor
