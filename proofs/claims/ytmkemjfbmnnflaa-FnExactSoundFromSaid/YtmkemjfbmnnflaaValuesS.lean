/- The values of a bell and a partial: the reference. -/
import Derived.Test.YtmkemjfbmnnflaaRows
import Derived.Test.YtmkemjfbmnnflaaValues
namespace Go.Proofs.Ytmkemjfbmnnflaa
open Go.ChangeShapes Go.WideShapes Go.ChangeAt Go.RowKit Go.Deep Go.Joins
set_option linter.unusedVariables false
set_option maxRecDepth 100000
set_option linter.unusedSimpArgs false
theorem putI_map (xs : List Int) : xs.flatMap putI = xs.map (Value.int .i64) := by
  induction xs with
  | nil => rfl
  | cons x xs ih => rw [List.flatMap_cons, ih]; rfl
theorem putI_one (xs : List Int) : ∀ u ∈ xs.flatMap putI, u.oneCell' = true := by
  intro u hu
  rw [putI_map] at hu
  obtain ⟨x, _, rfl⟩ := List.mem_map.1 hu
  rfl
theorem ins_cells (out : List Int) (v : Int) (j : Nat) : (out.take j ++ v :: out.drop j).flatMap putI = ((out.flatMap putI).take (j * 1) ++ [.int .i64 v]) ++ (out.flatMap putI).drop (j * 1) := by
  simp only [putI_map, Nat.mul_one, List.map_append, List.map_cons, List.map_take, List.map_drop, List.append_assoc, List.singleton_append]
theorem ins_len {α : Type} (out : List α) (v : α) (j : Nat) (h : j ≤ out.length) : (out.take j ++ v :: out.drop j).length = j + 1 + (out.length - j) := by
  rw [List.length_append, List.length_take, List.length_cons, List.length_drop]; omega

set_option maxHeartbeats 4000000 in
theorem spec_l11Values (w : World) (v : Value) (xs : List Measure) (bell : ByteArray) (p : Int) (h : Rd w.heap.size w v 3 xs.length (xs.flatMap Measure.put)) (hn : xs.length ≤ 64) :
    Calls Try.prog 41 #[v, .string bell, .int .i64 p] w fun e w' => ∃ r : Value, e = .returned r ∧ w'.ownsRow w.heap.size 2 1 r (valF xs bell p).length ((sortI (valF xs bell p)).flatMap putI) ∧ Below w.heap.size w w' := by
  obtain ⟨hL, vo, vc, rfl, hcap1, hmax1, hnil1, hsome1⟩ := h
  obtain ⟨i0, hi, hz0, hz1, hz2⟩ := info_parts info_i64
  go_enter Try.func41, Try.ntmps41
  go_wp2
  go_loopw [7, 8, 9, 10] (fun r i _ _ wr => ∃ (k : Nat) (out : List Int), k ≤ xs.length ∧ i = .int .i64 k ∧ out.Pairwise (· ≤ ·) ∧ out.Perm (valF (xs.take k) bell p) ∧ wr.ownsRow w.heap.size 2 1 r out.length (out.flatMap putI) ∧ Below w.heap.size w wr) (fun _ i _ _ _ => xs.length - (intOf i).toNat)
  case atStart => exact ⟨0, [], Nat.zero_le _, rfl, List.Pairwise.nil, List.Perm.refl _, own_empty w _ _ _ (Nat.le_refl _), by (repeat' (first | (with_reducible exact Below.refl _ _) | (with_reducible assumption) | (with_reducible refine below_dn ?_ _) | (with_reducible refine Below.drew ?_) | (with_reducible refine Below.alloc ?_ ?_ _) | (with_reducible refine Below.setCell ?_ ?_ _) | go_size))⟩
  case round =>
    obtain ⟨k, out, hk, rfl, hso, hpe, hown, hb⟩ := hrel
    have HO := Lib.hid hown
    have HS := Lib.hid hso; clear hso
    have HP := Lib.hid hpe; clear hpe
    obtain ⟨ao, cap, rfl⟩ := (own_rd hown).form
    clear hown
    by_cases hlt : k < xs.length
    · have hfl := valF_len xs bell p k
      have hol : out.length ≤ 64 := by have := HP.out.length_eq; omega
      obtain ⟨b3, off3, rfl, hbB3, hc3⟩ := hsome1 (by omega)
      have c0 : wr.cell? ⟨b3, off3 + k * 3, none⟩ = some (.string xs[k].bell) := by rw [show off3 + k * 3 = off3 + (k * 3 + 0) from by omega, hb.cell (p := ⟨b3, off3 + (k * 3 + 0), none⟩) hbB3, hc3 (k * 3 + 0) (by omega), Measure_get0 xs k hlt]
      have c1 : wr.cell? ⟨b3, off3 + k * 3 + 1, none⟩ = some (.int .i64 xs[k].part) := by rw [show off3 + k * 3 + 1 = off3 + (k * 3 + 1) from by omega, hb.cell (p := ⟨b3, off3 + (k * 3 + 1), none⟩) hbB3, hc3 (k * 3 + 1) (by omega), Measure_get1 xs k hlt]
      have c2 : wr.cell? ⟨b3, off3 + k * 3 + 2, none⟩ = some (.int .i64 xs[k].value) := by rw [show off3 + k * 3 + 2 = off3 + (k * 3 + 2) from by omega, hb.cell (p := ⟨b3, off3 + (k * 3 + 2), none⟩) hbB3, hc3 (k * 3 + 2) (by omega), Measure_get2 xs k hlt]
      have hws := hb.size
      have HB := Lib.hid hb
      clear hc3 hsome1 hnil1 hb
      cases hS : strEq xs[k].bell bell
      · have ef : Hid (valF (xs.take (k + 1)) bell p = valF (xs.take k) bell p) := valF_no hlt (by unfold isV; rw [hS]; rfl)
        have t1 := strEq_nf hS
        have t1b := strEq_f hS
        clear hS hi hz0 hz1 hz2
        go_wp2_with fail
        go_roundw
        case rel => exact ⟨k + 1, out, by omega, by go_num, HS.out, by rw [ef.out]; exact HP.out, HO.out, HB.out⟩
        case measure => simp [intOf]; omega
      · have t1 := strEq_nt hS
        have t1b := strEq_t hS
        by_cases hp : xs[k].part = p
        · have ef : Hid (valF (xs.take (k + 1)) bell p = valF (xs.take k) bell p ++ [xs[k].value]) := valF_yes hlt (by unfold isV; rw [hS, hp]; simp)
          have t2 : (xs[k].part != p) = false := by rw [bne, beq_iff_eq.2 hp]; rfl
          clear hS hp
          go_wp2_with fail
          obtain ⟨wo, rfl⟩ : ∃ wo : World, wo = wr := ⟨_, rfl⟩
          go_loopw [9] (fun a wr => ∃ (j : Nat), j ≤ out.length ∧ a = .int .i64 j ∧ (∀ i (h : i < out.length), j ≤ i → xs[k].value < out[i]) ∧ Below wo.heap.size wo wr) (fun a _ => (intOf a).toNat)
          case atStart => exact ⟨out.length, Nat.le_refl _, rfl, fun i h h2 => by omega, Below.refl _ _⟩
          case round =>
            obtain ⟨j, hj, rfl, hall, hb⟩ := hrel
            have HA := Lib.hid hall; clear hall
            have hbo3 : b3 < wo.heap.size := Nat.lt_of_lt_of_le hbB3 hws
            have f2 : wr.cell? ⟨b3, off3 + k * 3 + 2, none⟩ = some (.int .i64 xs[k].value) := (hb.cell (p := ⟨b3, off3 + k * 3 + 2, none⟩) hbo3).trans c2
            have hbr3 : b3 < wr.heap.size := Nat.lt_of_lt_of_le hbo3 hb.size
            have HO2 := Lib.hid (own_below HO.out hb (Nat.le_refl _))
            have HB2 := Lib.hid (HB.out.trans (hb.mono hws))
            have HBL := Lib.hid hb
            have hbs := HB2.out.size
            obtain ⟨_, vo2, vc2, e2, hcap2, hmax2, _, hsome2⟩ := own_rd HO2.out
            obtain ⟨rfl, rfl⟩ : ao = vo2 ∧ cap = vc2 := by cases e2; exact ⟨rfl, rfl⟩
            clear e2 hb c0 c1 c2
            by_cases hj0 : 0 < j
            · have hz : decide (0 < j) = true := decide_eq_true hj0
              obtain ⟨b4, off4, e4, hbB4, hc4⟩ := hsome2 (by omega)
              obtain ⟨g4, c4, e5⟩ : ∃ g c, Value.slice ao out.length cap = .slice (some ⟨g, 0, none⟩) out.length c := (own_form HO2.out).resolve_left (fun h => by omega)
              have e6 : ao = some ⟨g4, 0, none⟩ := by cases e5; rfl
              subst e6
              obtain ⟨rfl, rfl⟩ : g4 = b4 ∧ off4 = 0 := by cases e4; exact ⟨rfl, rfl⟩
              clear e4 e5
              have hlj : j - 1 < out.length := by omega
              have d0 : wr.cell? ⟨g4, j - 1, none⟩ = some (.int .i64 out[j - 1]) := by have := hc4 (j - 1) (by omega); rw [Nat.zero_add] at this; rw [this, putI_get out (j - 1) hlj]
              clear hc4 hsome2
              by_cases hg : xs[k].value < out[j - 1]
              · have t5 : decide (xs[k].value < out[j - 1]) = true := decide_eq_true hg
                have HA2 := Lib.hid (show ∀ i (h : i < out.length), j - 1 ≤ i → xs[k].value < out[i] from fun i h h2 => by
                  by_cases e : i = j - 1
                  · subst e; exact hg
                  · exact HA.out i h (by omega))
                clear hg
                go_wp2_with fail
                refine wp_region_above (by kernel_rfl) (by kernel_rfl) ?_
                repeat (go_big_quiet_step (fail))
                refine wpQuiet_nil ?_
                intro w1 b1
                have HB3 := Lib.hid (HBL.out.trans (b1.mono HBL.out.size)); clear b1
                go_wp2_with fail
                go_roundw
                case rel => exact ⟨j - 1, by omega, by go_num, HA2.out, HB3.out⟩
                case measure => simp [intOf]; omega
              · have t5 : decide (xs[k].value < out[j - 1]) = false := decide_eq_false hg
                have HI := Lib.hid (ins_sorted hj HS.out HA.out (fun h _ => by omega))
                clear hg
                go_wp2_with fail
                refine wp_region_above (by kernel_rfl) (by kernel_rfl) ?_
                repeat (go_big_quiet_step (fail))
                refine wpQuiet_nil ?_
                intro w1 b1
                have HO3 := Lib.hid (own_below HO2.out b1 (Nat.le_refl _))
                have HB3 := Lib.hid (HB2.out.trans (b1.mono hbs))
                have f3 : w1.cell? ⟨b3, off3 + k * 3 + 2, none⟩ = some (.int .i64 xs[k].value) := (b1.cell (p := ⟨b3, off3 + k * 3 + 2, none⟩) hbr3).trans f2
                have hbr4 : b3 < w1.heap.size := Nat.lt_of_lt_of_le hbr3 b1.size
                have hws1 := HB3.out.size
                clear b1 f2 hbr3 HO2 HB2 HO HB HBL hbs
                go_wp2_with (at_builtin; first | (refine app_slE rfl _ _ 24 2 i0 (.int .i64 0) 1 8 Try.underlying24 hi hz0 hz1 hz2 rfl (by decide) rfl w1 (by rfl) _ j ((out.flatMap putI).take (j * 1)) (by rfl) (by first | exact (own_rd HO3.out).takeX (show j ≤ out.length by omega) (by omega)) (by exact fun u hu => putI_one out u (List.mem_of_mem_take hu)) (by omega) (by decide) ?_; intro ao5 cap5 w5 hown5 hB5; have HO5 := Lib.hid hown5; have HB5 := Lib.hid hB5; have hws5 := hB5.size; have f5 : w5.cell? ⟨b3, off3 + k * 3 + 2, none⟩ = some (.int .i64 xs[k].value) := (hB5.cell (p := ⟨b3, off3 + k * 3 + 2, none⟩) hbr4).trans f3; have hbr5 : b3 < w5.heap.size := Nat.lt_of_lt_of_le hbr4 hB5.size; clear hown5 hB5 f3) | (refine app_el rfl _ _ 24 2 i0 (.int .i64 0) 1 8 Try.underlying24 hi hz0 hz1 hz2 rfl (by decide) rfl w5 w1.heap.size _ _ ((out.flatMap putI).take (j * 1)) (by rfl) HO5.out [.int .i64 xs[k].value] rfl (by intro u hu; simp at hu; subst hu; rfl) (by rfl) (by omega) (by decide) hws5 ?_; intro g6 c6 w6 hown6 hB6 hz6; have HO6 := Lib.hid hown6; have HB6 := Lib.hid (hB6 w1 HB5.out); have hws6 := HB6.out.size; clear hown6 hB6 HO5 HB5) | (refine app_sl rfl _ _ 24 2 i0 (.int .i64 0) 1 8 Try.underlying24 hi hz0 hz1 hz2 rfl (by decide) rfl w6 w1.heap.size _ _ _ (by rfl) HO6.out _ (out.length - j) ((out.flatMap putI).drop (j * 1)) (by rfl) (by first | exact ((own_rd HO3.out).up (HB6.out)).dropI (show j ≤ out.length by omega) (by omega) (by omega) (by omega) | exact ((own_rd HO3.out).up (HB6.out)).dropX (show j ≤ out.length by omega) (by omega) (by omega) (by omega) | exact ((own_rd HO3.out).up (HB6.out)).dropZ (by omega) (by omega) (by unfold maxLen at *; omega) ) (by exact fun u hu => putI_one out u (List.mem_of_mem_drop hu)) (by omega) (by decide) hws6 ?_; intro ao7 c7 w7 hown7 _ hB7; have HB7 := Lib.hid (HB3.out.trans ((hB7 w1 HB6.out).mono hws1)); have HO7 := Lib.hid (ownsRow_le hown7 hws1); clear hown7 hB7))
                all_goals go_roundw
                all_goals first
                  | exact ⟨k + 1, out.take j ++ xs[k].value :: out.drop j, by omega, by go_num, HI.out, by rw [ef.out]; exact (ins_perm out xs[k].value j).trans (HP.out.append_right _), by rw [ins_cells, ins_len out xs[k].value j (by omega)]; first | exact HO7.out | (have q := HO7.out; simp only [Nat.sub_zero, Nat.zero_add] at q ⊢; exact q) | (have q := HO7.out; simp only [HE6.out] at q ⊢; exact q), HB7.out⟩
                  | (simp [intOf]; omega)
            · have hz : decide (0 < j) = false := decide_eq_false hj0
              obtain rfl : j = 0 := by omega
              have HI := Lib.hid (ins_sorted hj HS.out HA.out (fun h h2 => by omega))
              clear hsome2
              rcases own_form HO2.out with ⟨e5, e6⟩ | ⟨g4, c4, e5⟩
              · obtain ⟨rfl, rfl⟩ : ao = none ∧ cap = 0 := by injection e5 with q1 q2 q3; exact ⟨q1, q3⟩
                clear e5
                have HE6 := Lib.hid e6; clear e6
                go_wp2_with fail
                refine wp_region_above (by kernel_rfl) (by kernel_rfl) ?_
                repeat (go_big_quiet_step (fail))
                refine wpQuiet_nil ?_
                intro w1 b1
                have HO3 := Lib.hid (own_below HO2.out b1 (Nat.le_refl _))
                have HB3 := Lib.hid (HB2.out.trans (b1.mono hbs))
                have f3 : w1.cell? ⟨b3, off3 + k * 3 + 2, none⟩ = some (.int .i64 xs[k].value) := (b1.cell (p := ⟨b3, off3 + k * 3 + 2, none⟩) hbr3).trans f2
                have hbr4 : b3 < w1.heap.size := Nat.lt_of_lt_of_le hbr3 b1.size
                have hws1 := HB3.out.size
                clear b1 f2 hbr3 HO2 HB2 HO HB HBL hbs
                go_wp2_with (at_builtin; first | (refine app_slE rfl _ _ 24 2 i0 (.int .i64 0) 1 8 Try.underlying24 hi hz0 hz1 hz2 rfl (by decide) rfl w1 (by rfl) _ 0 ((out.flatMap putI).take (0 * 1)) (by rfl) (by first | exact (own_rd HO3.out).takeX (show 0 ≤ out.length by omega) (by omega)) (by exact fun u hu => putI_one out u (List.mem_of_mem_take hu)) (by omega) (by decide) ?_; intro ao5 cap5 w5 hown5 hB5; have HO5 := Lib.hid hown5; have HB5 := Lib.hid hB5; have hws5 := hB5.size; have f5 : w5.cell? ⟨b3, off3 + k * 3 + 2, none⟩ = some (.int .i64 xs[k].value) := (hB5.cell (p := ⟨b3, off3 + k * 3 + 2, none⟩) hbr4).trans f3; have hbr5 : b3 < w5.heap.size := Nat.lt_of_lt_of_le hbr4 hB5.size; clear hown5 hB5 f3) | (refine app_el rfl _ _ 24 2 i0 (.int .i64 0) 1 8 Try.underlying24 hi hz0 hz1 hz2 rfl (by decide) rfl w5 w1.heap.size _ _ ((out.flatMap putI).take (0 * 1)) (by rfl) HO5.out [.int .i64 xs[k].value] rfl (by intro u hu; simp at hu; subst hu; rfl) (by rfl) (by omega) (by decide) hws5 ?_; intro g6 c6 w6 hown6 hB6 hz6; have HO6 := Lib.hid hown6; have HB6 := Lib.hid (hB6 w1 HB5.out); have hws6 := HB6.out.size; clear hown6 hB6 HO5 HB5) | (refine app_sl rfl _ _ 24 2 i0 (.int .i64 0) 1 8 Try.underlying24 hi hz0 hz1 hz2 rfl (by decide) rfl w6 w1.heap.size _ _ _ (by rfl) HO6.out _ (out.length - 0) ((out.flatMap putI).drop (0 * 1)) (by rfl) (by first | exact ((own_rd HO3.out).up (HB6.out)).dropI (show 0 ≤ out.length by omega) (by omega) (by omega) (by omega) | exact ((own_rd HO3.out).up (HB6.out)).dropX (show 0 ≤ out.length by omega) (by omega) (by omega) (by omega) | exact ((own_rd HO3.out).up (HB6.out)).dropZ (by omega) (by omega) (by unfold maxLen at *; omega) | exact ((own_rd HO3.out).up (HB6.out)).dropN HE6.out (by omega) (by omega)) (by exact fun u hu => putI_one out u (List.mem_of_mem_drop hu)) (by omega) (by decide) hws6 ?_; intro ao7 c7 w7 hown7 _ hB7; have HB7 := Lib.hid (HB3.out.trans ((hB7 w1 HB6.out).mono hws1)); have HO7 := Lib.hid (ownsRow_le hown7 hws1); clear hown7 hB7))
                all_goals go_roundw
                all_goals first
                  | exact ⟨k + 1, out.take 0 ++ xs[k].value :: out.drop 0, by omega, by go_num, HI.out, by rw [ef.out]; exact (ins_perm out xs[k].value 0).trans (HP.out.append_right _), by rw [ins_cells, ins_len out xs[k].value 0 (by omega)]; first | exact HO7.out | (have q := HO7.out; simp only [Nat.sub_zero, Nat.zero_add] at q ⊢; exact q) | (have q := HO7.out; simp only [HE6.out] at q ⊢; exact q), HB7.out⟩
                  | (simp [intOf]; omega)
              · obtain ⟨rfl, rfl⟩ : ao = some ⟨g4, 0, none⟩ ∧ cap = c4 := by injection e5 with q1 q2 q3; exact ⟨q1, q3⟩
                clear e5
                go_wp2_with fail
                refine wp_region_above (by kernel_rfl) (by kernel_rfl) ?_
                repeat (go_big_quiet_step (fail))
                refine wpQuiet_nil ?_
                intro w1 b1
                have HO3 := Lib.hid (own_below HO2.out b1 (Nat.le_refl _))
                have HB3 := Lib.hid (HB2.out.trans (b1.mono hbs))
                have f3 : w1.cell? ⟨b3, off3 + k * 3 + 2, none⟩ = some (.int .i64 xs[k].value) := (b1.cell (p := ⟨b3, off3 + k * 3 + 2, none⟩) hbr3).trans f2
                have hbr4 : b3 < w1.heap.size := Nat.lt_of_lt_of_le hbr3 b1.size
                have hws1 := HB3.out.size
                clear b1 f2 hbr3 HO2 HB2 HO HB HBL hbs
                go_wp2_with (at_builtin; first | (refine app_slE rfl _ _ 24 2 i0 (.int .i64 0) 1 8 Try.underlying24 hi hz0 hz1 hz2 rfl (by decide) rfl w1 (by rfl) _ 0 ((out.flatMap putI).take (0 * 1)) (by rfl) (by first | exact (own_rd HO3.out).takeX (show 0 ≤ out.length by omega) (by omega)) (by exact fun u hu => putI_one out u (List.mem_of_mem_take hu)) (by omega) (by decide) ?_; intro ao5 cap5 w5 hown5 hB5; have HO5 := Lib.hid hown5; have HB5 := Lib.hid hB5; have hws5 := hB5.size; have f5 : w5.cell? ⟨b3, off3 + k * 3 + 2, none⟩ = some (.int .i64 xs[k].value) := (hB5.cell (p := ⟨b3, off3 + k * 3 + 2, none⟩) hbr4).trans f3; have hbr5 : b3 < w5.heap.size := Nat.lt_of_lt_of_le hbr4 hB5.size; clear hown5 hB5 f3) | (refine app_el rfl _ _ 24 2 i0 (.int .i64 0) 1 8 Try.underlying24 hi hz0 hz1 hz2 rfl (by decide) rfl w5 w1.heap.size _ _ ((out.flatMap putI).take (0 * 1)) (by rfl) HO5.out [.int .i64 xs[k].value] rfl (by intro u hu; simp at hu; subst hu; rfl) (by rfl) (by omega) (by decide) hws5 ?_; intro g6 c6 w6 hown6 hB6 hz6; have HO6 := Lib.hid hown6; have HB6 := Lib.hid (hB6 w1 HB5.out); have hws6 := HB6.out.size; clear hown6 hB6 HO5 HB5) | (refine app_sl rfl _ _ 24 2 i0 (.int .i64 0) 1 8 Try.underlying24 hi hz0 hz1 hz2 rfl (by decide) rfl w6 w1.heap.size _ _ _ (by rfl) HO6.out _ (out.length - 0) ((out.flatMap putI).drop (0 * 1)) (by rfl) (by first | exact ((own_rd HO3.out).up (HB6.out)).dropI (show 0 ≤ out.length by omega) (by omega) (by omega) (by omega) | exact ((own_rd HO3.out).up (HB6.out)).dropX (show 0 ≤ out.length by omega) (by omega) (by omega) (by omega) | exact ((own_rd HO3.out).up (HB6.out)).dropZ (by omega) (by omega) (by unfold maxLen at *; omega) ) (by exact fun u hu => putI_one out u (List.mem_of_mem_drop hu)) (by omega) (by decide) hws6 ?_; intro ao7 c7 w7 hown7 _ hB7; have HB7 := Lib.hid (HB3.out.trans ((hB7 w1 HB6.out).mono hws1)); have HO7 := Lib.hid (ownsRow_le hown7 hws1); clear hown7 hB7))
                all_goals go_roundw
                all_goals first
                  | exact ⟨k + 1, out.take 0 ++ xs[k].value :: out.drop 0, by omega, by go_num, HI.out, by rw [ef.out]; exact (ins_perm out xs[k].value 0).trans (HP.out.append_right _), by rw [ins_cells, ins_len out xs[k].value 0 (by omega)]; first | exact HO7.out | (have q := HO7.out; simp only [Nat.sub_zero, Nat.zero_add] at q ⊢; exact q) | (have q := HO7.out; simp only [HE6.out] at q ⊢; exact q), HB7.out⟩
                  | (simp [intOf]; omega)
        · have ef : Hid (valF (xs.take (k + 1)) bell p = valF (xs.take k) bell p) := valF_no hlt (by unfold isV; rw [decide_eq_false hp, Bool.and_false])
          have t2 : (xs[k].part != p) = true := bne_iff_ne.2 hp
          clear hS hp hi hz0 hz1 hz2
          go_wp2_with fail
          go_roundw
          case rel => exact ⟨k + 1, out, by omega, by go_num, HS.out, by rw [ef.out]; exact HP.out, HO.out, HB.out⟩
          case measure => simp [intOf]; omega
    · have em : Hid (xs.take k = xs) := (List.take_of_length_le (by omega) : xs.take k = xs)
      rw [em.out] at HP
      have HB := Lib.hid hb; clear hb hsome1 hnil1 hi hz0 hz1 hz2
      have hl := Lib.hid (HP.out.length_eq)
      have he := Lib.hid (sortI_eq HP.out HS.out)
      go_wp2
      go_ret
      exact ⟨_, rfl, by rw [← he.out, ← hl.out]; exact HO.out, HB.out⟩
end Go.Proofs.Ytmkemjfbmnnflaa
