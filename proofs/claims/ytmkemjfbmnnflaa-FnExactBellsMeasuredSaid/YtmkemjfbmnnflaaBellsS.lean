/- BellsMeasured: the reference. -/
import Derived.Test.YtmkemjfbmnnflaaRows
import Derived.Test.YtmkemjfbmnnflaaBellsI
import Derived.Test.YtmkemjfbmnnflaaValuesS
namespace Go.Proofs.Ytmkemjfbmnnflaa
open Go.ChangeShapes Go.WideShapes Go.ChangeAt Go.RowKit Go.Deep Go.Joins
set_option linter.unusedVariables false
set_option maxRecDepth 100000
set_option linter.unusedSimpArgs false
theorem enc_one (xs : List (List UInt8)) : ∀ u ∈ xs.map encStr, u.oneCell' = true := by
  intro u hu
  obtain ⟨x, _, rfl⟩ := List.mem_map.1 hu
  rfl
theorem insK_cells (out : List (List UInt8)) (s : ByteArray) (j : Nat) : (out.take j ++ s.data.toList :: out.drop j).map encStr = ((out.map encStr).take (j * 1) ++ [.string s]) ++ (out.map encStr).drop (j * 1) := by
  simp only [Nat.mul_one, List.map_append, List.map_cons, List.map_take, List.map_drop, List.append_assoc, List.singleton_append]
theorem insK_len (out : List (List UInt8)) (v : List UInt8) (j : Nat) (h : j ≤ out.length) : (out.take j ++ v :: out.drop j).length = j + 1 + (out.length - j) := by
  rw [List.length_append, List.length_take, List.length_cons, List.length_drop]; omega
theorem insK_mem (out : List (List UInt8)) (v : List UInt8) (j : Nat) (x : List UInt8) : x ∈ out.take j ++ v :: out.drop j ↔ x ∈ out ∨ x = v := by
  have h : x ∈ out ↔ x ∈ out.take j ∨ x ∈ out.drop j := by
    conv => lhs; rw [← List.take_append_drop j out]
    exact List.mem_append
  rw [List.mem_append, List.mem_cons, h]
  constructor
  · rintro (a | a | a)
    · exact .inl (.inl a)
    · exact .inr a
    · exact .inl (.inr a)
  · rintro ((a | a) | a)
    · exact .inl a
    · exact .inr (.inr a)
    · exact .inr (.inl a)
theorem insK_rises {out : List (List UInt8)} {v : List UInt8} {j : Nat} (hj : j ≤ out.length) (hs : out.Pairwise ltK) (h1 : ∀ i (h : i < out.length), j ≤ i → ltK v out[i]) (h2 : ∀ h : j - 1 < out.length, 0 < j → ltK out[j - 1] v) : (out.take j ++ v :: out.drop j).Pairwise ltK := by
  have hd : ∀ b ∈ out.drop j, ltK v b := fun b hb => by
    obtain ⟨i, hi, rfl⟩ := List.mem_iff_getElem.1 hb
    rw [List.length_drop] at hi
    rw [List.getElem_drop]
    exact h1 (j + i) (by omega) (by omega)
  have ht : ∀ a ∈ out.take j, ltK a v := fun a ha => by
    obtain ⟨i, hi, rfl⟩ := List.mem_iff_getElem.1 ha
    rw [List.length_take] at hi
    rw [List.getElem_take]
    have h3 := h2 (by omega) (by omega)
    by_cases e : i = j - 1
    · subst e; exact h3
    · exact less_trans _ _ _ (List.pairwise_iff_getElem.1 hs i (j - 1) (by omega) (by omega) (by omega)) h3
  rw [List.pairwise_append]
  refine ⟨hs.sublist (List.take_sublist j out), ?_, fun a ha b hb => ?_⟩
  · rw [List.pairwise_cons]
    exact ⟨hd, hs.sublist (List.drop_sublist j out)⟩
  · rcases List.mem_cons.1 hb with rfl | hb
    · exact ht a ha
    · exact less_trans _ _ _ (ht a ha) (hd b hb)
theorem mem_take_succ {L : List (List UInt8)} {k : Nat} {x : List UInt8} (h : k < L.length) : x ∈ L.take (k + 1) ↔ x ∈ L.take k ∨ x = L[k] := by
  rw [List.take_succ_eq_append_getElem h, List.mem_append, List.mem_singleton]

set_option maxHeartbeats 4000000 in
theorem spec_Bells (w : World) (v : Value) (xs : List Measure) (h : Rd w.heap.size w v 3 xs.length (xs.flatMap Measure.put)) (hn : xs.length ≤ 1048576) (hok : ∀ x ∈ xs, x.ok) :
    Calls Try.prog 24 #[v] w fun e w' => ∃ r : Value, e = .returned (.tuple #[r, .int .i64 (bellC xs)]) ∧ w'.ownsRow w.heap.size 9 1 r (bellR xs).length ((bellR xs).map encStr) ∧ Below w.heap.size w w' := by
  cases hV : validMeasureS xs
  · have ec : Hid (bellC xs = 1) := Lib.hid (by unfold bellC; rw [hV]; rfl)
    have e : Hid (bellR xs = []) := Lib.hid (by unfold bellR; rw [hV]; rfl)
    have H := Lib.hid (spec_l11Ok_is w v xs h hn hok hV)
    clear h hok hV
    go_enter Try.func24, Try.ntmps24
    go_wp2_with fail
    refine H.out.mono ?_; rintro e1 w1 ⟨rfl, b1⟩
    go_wp2_with fail
    go_ret2
    exact ⟨_, by rw [ec.out]; try rfl, by rw [e.out]; exact own_nil _ _ _ _, b1⟩
  have h64 := (validMeasureS_parts hV).1
  have ec : Hid (bellC xs = 0) := Lib.hid (by unfold bellC; rw [hV]; rfl)
  have e : Hid (bellR xs = bellK (bellBytes xs)) := Lib.hid (by unfold bellR; rw [hV]; rfl)
  have H := Lib.hid (spec_l11Ok_is w v xs h hn hok hV)
  obtain ⟨hL, vo, vc, rfl, hcap1, hmax1, hnil1, hsome1⟩ := h
  obtain ⟨i0, hi, hz0, hz1, hz2⟩ := info_parts infoStr
  clear hok hV
  go_enter Try.func24, Try.ntmps24
  go_wp2_with fail
  refine H.out.mono ?_; rintro e1 w0 ⟨rfl, b0⟩
  have HB0 := Lib.hid b0
  have hs0 := b0.size
  clear b0 H
  go_wp2_with fail
  go_loopw [4, 5, 6, 7] (fun r i _ _ wr => ∃ (k : Nat) (out : List (List UInt8)), k ≤ xs.length ∧ i = .int .i64 k ∧ out.length ≤ k ∧ out.Pairwise ltK ∧ (∀ x, x ∈ out ↔ x ∈ (bellBytes xs).take k) ∧ wr.ownsRow w.heap.size 9 1 r out.length (out.map encStr) ∧ Below w.heap.size w wr) (fun _ i _ _ _ => xs.length - (intOf i).toNat)
  case atStart => exact ⟨0, [], Nat.zero_le _, rfl, Nat.le_refl _, List.Pairwise.nil, fun x => by simp, own_empty w0 _ _ _ hs0, HB0.out.alloc hs0 _⟩
  case round =>
    obtain ⟨k, out, hk, rfl, hol, hso, hme, hown, hb⟩ := hrel
    have HO := Lib.hid hown
    have HS := Lib.hid hso; clear hso
    have HM := Lib.hid hme; clear hme
    obtain ⟨ao, cap, rfl⟩ := (own_rd hown).form
    clear hown
    by_cases hlt : k < xs.length
    · obtain ⟨b3, off3, rfl, hbB3, hc3⟩ := hsome1 (by omega)
      have c0 : wr.cell? ⟨b3, off3 + k * 3, none⟩ = some (.string xs[k].bell) := by rw [show off3 + k * 3 = off3 + (k * 3 + 0) from by omega, hb.cell (p := ⟨b3, off3 + (k * 3 + 0), none⟩) hbB3, hc3 (k * 3 + 0) (by omega), Measure_get0 xs k hlt]
      have hkl' : k < (bellBytes xs).length := by unfold bellBytes; rw [List.length_map]; exact hlt
      have eb : Hid ((bellBytes xs)[k] = xs[k].bell.data.toList) := Lib.hid (by simp [bellBytes])
      have hws := hb.size
      have HB := Lib.hid hb
      clear hc3 hsome1 hnil1 hb
      go_wp2_with fail
      obtain ⟨wo, rfl⟩ : ∃ wo : World, wo = wr := ⟨_, rfl⟩
      go_loopw [6] (fun a wr => ∃ (j : Nat), j ≤ out.length ∧ a = .int .i64 j ∧ (∀ i (h : i < out.length), j ≤ i → ltK xs[k].bell.data.toList out[i]) ∧ Below wo.heap.size wo wr) (fun a _ => (intOf a).toNat)
      case atStart => exact ⟨out.length, Nat.le_refl _, rfl, fun i h h2 => by omega, Below.refl _ _⟩
      case round =>
        obtain ⟨j, hj, rfl, hall, hb⟩ := hrel
        have HA := Lib.hid hall; clear hall
        have hbo3 : b3 < wo.heap.size := Nat.lt_of_lt_of_le hbB3 hws
        have f2 : wr.cell? ⟨b3, off3 + k * 3, none⟩ = some (.string xs[k].bell) := (hb.cell (p := ⟨b3, off3 + k * 3, none⟩) hbo3).trans c0
        have hbr3 : b3 < wr.heap.size := Nat.lt_of_lt_of_le hbo3 hb.size
        have HO2 := Lib.hid (own_below HO.out hb (Nat.le_refl _))
        have HB2 := Lib.hid (HB.out.trans (hb.mono hws))
        have HBL := Lib.hid hb
        have hbs := HB2.out.size
        obtain ⟨_, vo2, vc2, e2, hcap2, hmax2, _, hsome2⟩ := own_rd HO2.out
        obtain ⟨rfl, rfl⟩ : ao = vo2 ∧ cap = vc2 := by cases e2; exact ⟨rfl, rfl⟩
        clear e2 hb c0
        by_cases hj0 : 0 < j
        · have hz : decide (0 < j) = true := decide_eq_true hj0
          obtain ⟨b4, off4, e4, hbB4, hc4⟩ := hsome2 (by omega)
          obtain ⟨g4, c4, e5⟩ : ∃ g c, Value.slice ao out.length cap = .slice (some ⟨g, 0, none⟩) out.length c := (own_form HO2.out).resolve_left (fun h => by omega)
          have e6 : ao = some ⟨g4, 0, none⟩ := by cases e5; rfl
          subst e6
          obtain ⟨rfl, rfl⟩ : g4 = b4 ∧ off4 = 0 := by cases e4; exact ⟨rfl, rfl⟩
          clear e4 e5
          have hlj : j - 1 < out.length := by omega
          obtain ⟨S, hS⟩ : ∃ S : ByteArray, S = ⟨out[j - 1].toArray⟩ := ⟨_, rfl⟩
          have hSl : S.toList = out[j - 1] := by rw [hS, ByteArray.toList_eq]
          have hBl : xs[k].bell.toList = xs[k].bell.data.toList := ByteArray.toList_eq _
          have d0 : wr.cell? ⟨g4, j - 1, none⟩ = some (.string S) := by
            have := hc4 (j - 1) (by omega)
            rw [Nat.zero_add] at this
            rw [this, List.getElem?_map, List.getElem?_eq_getElem hlj, hS]; rfl
          clear hc4 hsome2 hS
          cases hg : Op.bytesLess S.toList xs[k].bell.toList
          case false =>
            cases hq : (S.toList == xs[k].bell.toList)
            case false =>
              have hgt : ltK xs[k].bell.data.toList out[j - 1] := by
                have n := not_less xs[k].bell.toList S.toList
                rw [hg] at n
                simp only [Bool.not_false, Bool.true_eq, Bool.or_eq_true, beq_iff_eq] at n
                rcases n with a | a
                · rw [hSl, hBl] at a; exact a
                · rw [a] at hq; simp at hq
              have HA2 := Lib.hid (show ∀ i (h : i < out.length), j - 1 ≤ i → ltK xs[k].bell.data.toList out[i] from fun i h h2 => by
                by_cases e : i = j - 1
                · subst e; exact hgt
                · exact HA.out i h (by omega))
              clear hSl hBl hgt
              go_wp2_with fail
              refine wp_region_above (by kernel_rfl) (by kernel_rfl) ?_
              repeat (go_big_quiet_step (fail))
              refine wpQuiet_nil ?_
              intro w1 b1
              have HB3 := Lib.hid (HBL.out.trans (b1.mono HBL.out.size)); clear b1
              go_wp2_with fail
              go_roundw
              case rel => exact ⟨j - 1, by omega, by go_num, HA2.out, HB3.out⟩
              case measure => simp [intOf]; omega
            case true =>
              have HEQ : Hid (out[j - 1] = xs[k].bell.data.toList) := Lib.hid (by
                rw [hSl, hBl] at hq
                exact beq_iff_eq.1 hq)
              clear hSl hBl
              go_wp2_with fail
              refine wp_region_above (by kernel_rfl) (by kernel_rfl) ?_
              repeat (go_big_quiet_step (fail))
              refine wpQuiet_nil ?_
              intro w8 b8
              have HO8 := Lib.hid (own_below HO2.out b8 (Nat.le_refl _))
              have HB8 := Lib.hid (HB2.out.trans (b8.mono hbs))
              have f8 : w8.cell? ⟨b3, off3 + k * 3, none⟩ = some (.string xs[k].bell) := (b8.cell (p := ⟨b3, off3 + k * 3, none⟩) hbr3).trans f2
              have hbr8 : b3 < w8.heap.size := Nat.lt_of_lt_of_le hbr3 b8.size
              have d8 : w8.cell? ⟨g4, j - 1, none⟩ = some (.string S) := (b8.cell (p := ⟨g4, j - 1, none⟩) hbB4).trans d0
              have hbd8 : g4 < w8.heap.size := Nat.lt_of_lt_of_le hbB4 b8.size
              have hws8 := HB8.out.size
              clear b8 f2 hbr3 HO2 HB2 HO HB HBL hbs d0
              go_wp2_with fail
              refine wp_region_above (by kernel_rfl) (by kernel_rfl) ?_
              repeat (go_big_quiet_step (fail))
              refine wpQuiet_nil ?_
              intro w1 b1
              have HO3 := Lib.hid (own_below HO8.out b1 (Nat.le_refl _))
              have HB3 := Lib.hid (HB8.out.trans (b1.mono hws8))
              clear b1 f8 hbr8 HO8 HB8
              go_wp2_with fail
              go_roundw
              case rel => exact ⟨k + 1, out, by omega, by go_num, by omega, HS.out, fun x => by rw [HM.out x, mem_take_succ hkl', eb.out]; exact ⟨.inl, fun h => h.elim id fun h => by rw [h, ← HEQ.out]; exact (HM.out _).1 (List.getElem_mem _)⟩, HO3.out, HB3.out⟩
              case measure => simp [intOf]; omega
          case true =>
            have hq : (S.toList == xs[k].bell.toList) = false := by
              cases h : (S.toList == xs[k].bell.toList)
              · rfl
              · rw [beq_iff_eq.1 h, less_irrefl] at hg; cases hg
            have hlt2 : ltK out[j - 1] xs[k].bell.data.toList := by
              have hg2 := hg
              rw [hSl, hBl] at hg2
              exact hg2
            have HI := Lib.hid (insK_rises hj HS.out HA.out (fun h _ => hlt2))
            clear hlt2 hSl hBl
            go_wp2_with fail
            refine wp_region_above (by kernel_rfl) (by kernel_rfl) ?_
            repeat (go_big_quiet_step (fail))
            refine wpQuiet_nil ?_
            intro w8 b8
            have HO8 := Lib.hid (own_below HO2.out b8 (Nat.le_refl _))
            have HB8 := Lib.hid (HB2.out.trans (b8.mono hbs))
            have f8 : w8.cell? ⟨b3, off3 + k * 3, none⟩ = some (.string xs[k].bell) := (b8.cell (p := ⟨b3, off3 + k * 3, none⟩) hbr3).trans f2
            have hbr8 : b3 < w8.heap.size := Nat.lt_of_lt_of_le hbr3 b8.size
            have d8 : w8.cell? ⟨g4, j - 1, none⟩ = some (.string S) := (b8.cell (p := ⟨g4, j - 1, none⟩) hbB4).trans d0
            have hbd8 : g4 < w8.heap.size := Nat.lt_of_lt_of_le hbB4 b8.size
            have hws8 := HB8.out.size
            clear b8 f2 hbr3 HO2 HB2 HO HB HBL hbs d0
            go_wp2_with fail
            refine wp_region_above (by kernel_rfl) (by kernel_rfl) ?_
            repeat (go_big_quiet_step (fail))
            refine wpQuiet_nil ?_
            intro w1 b1
            have HO3 := Lib.hid (own_below HO8.out b1 (Nat.le_refl _))
            have HB3 := Lib.hid (HB8.out.trans (b1.mono hws8))
            have f3 : w1.cell? ⟨b3, off3 + k * 3, none⟩ = some (.string xs[k].bell) := (b1.cell (p := ⟨b3, off3 + k * 3, none⟩) hbr8).trans f8
            have hbr4 : b3 < w1.heap.size := Nat.lt_of_lt_of_le hbr8 b1.size
            have hws1 := HB3.out.size
            clear b1 f8 hbr8 HO8 HB8
            go_wp2_with (at_builtin; first | (refine app_slE rfl _ _ 36 9 i0 (.string ByteArray.empty) 1 16 Try.underlying36 hi hz0 hz1 hz2 rfl (by decide) rfl w1 (by rfl) _ j ((out.map encStr).take (j * 1)) (by rfl) (by first | exact (own_rd HO3.out).takeX (show j ≤ out.length by omega) (by omega)) (by exact fun u hu => enc_one out u (List.mem_of_mem_take hu)) (by omega) (by decide) ?_; intro ao5 cap5 w5 hown5 hB5; have HO5 := Lib.hid hown5; have HB5 := Lib.hid hB5; have hws5 := hB5.size; have f5 : w5.cell? ⟨b3, off3 + k * 3, none⟩ = some (.string xs[k].bell) := (hB5.cell (p := ⟨b3, off3 + k * 3, none⟩) hbr4).trans f3; have hbr5 : b3 < w5.heap.size := Nat.lt_of_lt_of_le hbr4 hB5.size; clear hown5 hB5 f3) | (refine app_el rfl _ _ 36 9 i0 (.string ByteArray.empty) 1 16 Try.underlying36 hi hz0 hz1 hz2 rfl (by decide) rfl w5 w1.heap.size _ _ ((out.map encStr).take (j * 1)) (by rfl) HO5.out [.string xs[k].bell] rfl (by intro u hu; simp at hu; subst hu; rfl) (by rfl) (by omega) (by decide) hws5 ?_; intro g6 c6 w6 hown6 hB6 hz6; have HO6 := Lib.hid hown6; have HB6 := Lib.hid (hB6 w1 HB5.out); have hws6 := HB6.out.size; clear hown6 hB6 HO5 HB5) | (refine app_sl rfl _ _ 36 9 i0 (.string ByteArray.empty) 1 16 Try.underlying36 hi hz0 hz1 hz2 rfl (by decide) rfl w6 w1.heap.size _ _ _ (by rfl) HO6.out _ (out.length - j) ((out.map encStr).drop (j * 1)) (by rfl) (by first | exact ((own_rd HO3.out).up (HB6.out)).dropI (show j ≤ out.length by omega) (by omega) (by omega) (by omega) | exact ((own_rd HO3.out).up (HB6.out)).dropX (show j ≤ out.length by omega) (by omega) (by omega) (by omega) | exact ((own_rd HO3.out).up (HB6.out)).dropZ (by omega) (by omega) (by unfold maxLen at *; omega)  ) (by exact fun u hu => enc_one out u (List.mem_of_mem_drop hu)) (by omega) (by decide) hws6 ?_; intro ao7 c7 w7 hown7 _ hB7; have HB7 := Lib.hid (HB3.out.trans ((hB7 w1 HB6.out).mono hws1)); have HO7 := Lib.hid (ownsRow_le hown7 hws1); clear hown7 hB7))
            all_goals go_roundw
            all_goals first
              | exact ⟨k + 1, out.take j ++ xs[k].bell.data.toList :: out.drop j, by omega, by go_num, by rw [insK_len out xs[k].bell.data.toList j (by omega)]; omega, HI.out, fun x => by rw [insK_mem, HM.out x, mem_take_succ hkl', eb.out], by rw [insK_cells, insK_len out xs[k].bell.data.toList j (by omega)]; first | exact HO7.out | (have q := HO7.out; simp only [Nat.sub_zero, Nat.zero_add] at q ⊢; exact q) | (have q := HO7.out; simp only [HE6.out] at q ⊢; exact q), HB7.out⟩
              | (simp [intOf]; omega)
        · have hz : decide (0 < j) = false := decide_eq_false hj0
          obtain rfl : j = 0 := by omega
          have HI := Lib.hid (insK_rises hj HS.out HA.out (fun h h2 => by omega))
          clear hsome2
          rcases own_form HO2.out with ⟨e5, e6⟩ | ⟨g4, c4, e5⟩
          · obtain ⟨rfl, rfl⟩ : ao = none ∧ cap = 0 := by injection e5 with q1 q2 q3; exact ⟨q1, q3⟩
            clear e5
            have HE6 := Lib.hid e6; clear e6
            go_wp2_with fail
            refine wp_region_above (by kernel_rfl) (by kernel_rfl) ?_
            repeat (go_big_quiet_step (fail))
            refine wpQuiet_nil ?_
            intro w8 b8
            have HO8 := Lib.hid (own_below HO2.out b8 (Nat.le_refl _))
            have HB8 := Lib.hid (HB2.out.trans (b8.mono hbs))
            have f8 : w8.cell? ⟨b3, off3 + k * 3, none⟩ = some (.string xs[k].bell) := (b8.cell (p := ⟨b3, off3 + k * 3, none⟩) hbr3).trans f2
            have hbr8 : b3 < w8.heap.size := Nat.lt_of_lt_of_le hbr3 b8.size
            have hws8 := HB8.out.size
            clear b8 f2 hbr3 HO2 HB2 HO HB HBL hbs
            go_wp2_with fail
            refine wp_region_above (by kernel_rfl) (by kernel_rfl) ?_
            repeat (go_big_quiet_step (fail))
            refine wpQuiet_nil ?_
            intro w1 b1
            have HO3 := Lib.hid (own_below HO8.out b1 (Nat.le_refl _))
            have HB3 := Lib.hid (HB8.out.trans (b1.mono hws8))
            have f3 : w1.cell? ⟨b3, off3 + k * 3, none⟩ = some (.string xs[k].bell) := (b1.cell (p := ⟨b3, off3 + k * 3, none⟩) hbr8).trans f8
            have hbr4 : b3 < w1.heap.size := Nat.lt_of_lt_of_le hbr8 b1.size
            have hws1 := HB3.out.size
            clear b1 f8 hbr8 HO8 HB8
            go_wp2_with (at_builtin; first | (refine app_slE rfl _ _ 36 9 i0 (.string ByteArray.empty) 1 16 Try.underlying36 hi hz0 hz1 hz2 rfl (by decide) rfl w1 (by rfl) _ 0 ((out.map encStr).take (0 * 1)) (by rfl) (by first | exact (own_rd HO3.out).takeX (show 0 ≤ out.length by omega) (by omega)) (by exact fun u hu => enc_one out u (List.mem_of_mem_take hu)) (by omega) (by decide) ?_; intro ao5 cap5 w5 hown5 hB5; have HO5 := Lib.hid hown5; have HB5 := Lib.hid hB5; have hws5 := hB5.size; have f5 : w5.cell? ⟨b3, off3 + k * 3, none⟩ = some (.string xs[k].bell) := (hB5.cell (p := ⟨b3, off3 + k * 3, none⟩) hbr4).trans f3; have hbr5 : b3 < w5.heap.size := Nat.lt_of_lt_of_le hbr4 hB5.size; clear hown5 hB5 f3) | (refine app_el rfl _ _ 36 9 i0 (.string ByteArray.empty) 1 16 Try.underlying36 hi hz0 hz1 hz2 rfl (by decide) rfl w5 w1.heap.size _ _ ((out.map encStr).take (0 * 1)) (by rfl) HO5.out [.string xs[k].bell] rfl (by intro u hu; simp at hu; subst hu; rfl) (by rfl) (by omega) (by decide) hws5 ?_; intro g6 c6 w6 hown6 hB6 hz6; have HO6 := Lib.hid hown6; have HB6 := Lib.hid (hB6 w1 HB5.out); have hws6 := HB6.out.size; clear hown6 hB6 HO5 HB5) | (refine app_sl rfl _ _ 36 9 i0 (.string ByteArray.empty) 1 16 Try.underlying36 hi hz0 hz1 hz2 rfl (by decide) rfl w6 w1.heap.size _ _ _ (by rfl) HO6.out _ (out.length - 0) ((out.map encStr).drop (0 * 1)) (by rfl) (by first | exact ((own_rd HO3.out).up (HB6.out)).dropI (show 0 ≤ out.length by omega) (by omega) (by omega) (by omega) | exact ((own_rd HO3.out).up (HB6.out)).dropX (show 0 ≤ out.length by omega) (by omega) (by omega) (by omega) | exact ((own_rd HO3.out).up (HB6.out)).dropZ (by omega) (by omega) (by unfold maxLen at *; omega) | exact ((own_rd HO3.out).up (HB6.out)).dropN HE6.out (by omega) (by omega)) (by exact fun u hu => enc_one out u (List.mem_of_mem_drop hu)) (by omega) (by decide) hws6 ?_; intro ao7 c7 w7 hown7 _ hB7; have HB7 := Lib.hid (HB3.out.trans ((hB7 w1 HB6.out).mono hws1)); have HO7 := Lib.hid (ownsRow_le hown7 hws1); clear hown7 hB7))
            all_goals go_roundw
            all_goals first
              | exact ⟨k + 1, out.take 0 ++ xs[k].bell.data.toList :: out.drop 0, by omega, by go_num, by rw [insK_len out xs[k].bell.data.toList 0 (by omega)]; omega, HI.out, fun x => by rw [insK_mem, HM.out x, mem_take_succ hkl', eb.out], by rw [insK_cells, insK_len out xs[k].bell.data.toList 0 (by omega)]; first | exact HO7.out | (have q := HO7.out; simp only [Nat.sub_zero, Nat.zero_add] at q ⊢; exact q) | (have q := HO7.out; simp only [HE6.out] at q ⊢; exact q), HB7.out⟩
              | (simp [intOf]; omega)
          · obtain ⟨rfl, rfl⟩ : ao = some ⟨g4, 0, none⟩ ∧ cap = c4 := by injection e5 with q1 q2 q3; exact ⟨q1, q3⟩
            clear e5
            go_wp2_with fail
            refine wp_region_above (by kernel_rfl) (by kernel_rfl) ?_
            repeat (go_big_quiet_step (fail))
            refine wpQuiet_nil ?_
            intro w8 b8
            have HO8 := Lib.hid (own_below HO2.out b8 (Nat.le_refl _))
            have HB8 := Lib.hid (HB2.out.trans (b8.mono hbs))
            have f8 : w8.cell? ⟨b3, off3 + k * 3, none⟩ = some (.string xs[k].bell) := (b8.cell (p := ⟨b3, off3 + k * 3, none⟩) hbr3).trans f2
            have hbr8 : b3 < w8.heap.size := Nat.lt_of_lt_of_le hbr3 b8.size
            have hws8 := HB8.out.size
            clear b8 f2 hbr3 HO2 HB2 HO HB HBL hbs
            go_wp2_with fail
            refine wp_region_above (by kernel_rfl) (by kernel_rfl) ?_
            repeat (go_big_quiet_step (fail))
            refine wpQuiet_nil ?_
            intro w1 b1
            have HO3 := Lib.hid (own_below HO8.out b1 (Nat.le_refl _))
            have HB3 := Lib.hid (HB8.out.trans (b1.mono hws8))
            have f3 : w1.cell? ⟨b3, off3 + k * 3, none⟩ = some (.string xs[k].bell) := (b1.cell (p := ⟨b3, off3 + k * 3, none⟩) hbr8).trans f8
            have hbr4 : b3 < w1.heap.size := Nat.lt_of_lt_of_le hbr8 b1.size
            have hws1 := HB3.out.size
            clear b1 f8 hbr8 HO8 HB8
            go_wp2_with (at_builtin; first | (refine app_slE rfl _ _ 36 9 i0 (.string ByteArray.empty) 1 16 Try.underlying36 hi hz0 hz1 hz2 rfl (by decide) rfl w1 (by rfl) _ 0 ((out.map encStr).take (0 * 1)) (by rfl) (by first | exact (own_rd HO3.out).takeX (show 0 ≤ out.length by omega) (by omega)) (by exact fun u hu => enc_one out u (List.mem_of_mem_take hu)) (by omega) (by decide) ?_; intro ao5 cap5 w5 hown5 hB5; have HO5 := Lib.hid hown5; have HB5 := Lib.hid hB5; have hws5 := hB5.size; have f5 : w5.cell? ⟨b3, off3 + k * 3, none⟩ = some (.string xs[k].bell) := (hB5.cell (p := ⟨b3, off3 + k * 3, none⟩) hbr4).trans f3; have hbr5 : b3 < w5.heap.size := Nat.lt_of_lt_of_le hbr4 hB5.size; clear hown5 hB5 f3) | (refine app_el rfl _ _ 36 9 i0 (.string ByteArray.empty) 1 16 Try.underlying36 hi hz0 hz1 hz2 rfl (by decide) rfl w5 w1.heap.size _ _ ((out.map encStr).take (0 * 1)) (by rfl) HO5.out [.string xs[k].bell] rfl (by intro u hu; simp at hu; subst hu; rfl) (by rfl) (by omega) (by decide) hws5 ?_; intro g6 c6 w6 hown6 hB6 hz6; have HO6 := Lib.hid hown6; have HB6 := Lib.hid (hB6 w1 HB5.out); have hws6 := HB6.out.size; clear hown6 hB6 HO5 HB5) | (refine app_sl rfl _ _ 36 9 i0 (.string ByteArray.empty) 1 16 Try.underlying36 hi hz0 hz1 hz2 rfl (by decide) rfl w6 w1.heap.size _ _ _ (by rfl) HO6.out _ (out.length - 0) ((out.map encStr).drop (0 * 1)) (by rfl) (by first | exact ((own_rd HO3.out).up (HB6.out)).dropI (show 0 ≤ out.length by omega) (by omega) (by omega) (by omega) | exact ((own_rd HO3.out).up (HB6.out)).dropX (show 0 ≤ out.length by omega) (by omega) (by omega) (by omega) | exact ((own_rd HO3.out).up (HB6.out)).dropZ (by omega) (by omega) (by unfold maxLen at *; omega) ) (by exact fun u hu => enc_one out u (List.mem_of_mem_drop hu)) (by omega) (by decide) hws6 ?_; intro ao7 c7 w7 hown7 _ hB7; have HB7 := Lib.hid (HB3.out.trans ((hB7 w1 HB6.out).mono hws1)); have HO7 := Lib.hid (ownsRow_le hown7 hws1); clear hown7 hB7))
            all_goals go_roundw
            all_goals first
              | exact ⟨k + 1, out.take 0 ++ xs[k].bell.data.toList :: out.drop 0, by omega, by go_num, by rw [insK_len out xs[k].bell.data.toList 0 (by omega)]; omega, HI.out, fun x => by rw [insK_mem, HM.out x, mem_take_succ hkl', eb.out], by rw [insK_cells, insK_len out xs[k].bell.data.toList 0 (by omega)]; first | exact HO7.out | (have q := HO7.out; simp only [Nat.sub_zero, Nat.zero_add] at q ⊢; exact q) | (have q := HO7.out; simp only [HE6.out] at q ⊢; exact q), HB7.out⟩
              | (simp [intOf]; omega)
    · have hmm := HM.out
      rw [List.take_of_length_le (by unfold bellBytes; rw [List.length_map]; omega)] at hmm
      have he := Lib.hid (bellK_eq HS.out hmm)
      have HB := Lib.hid hb; clear hb hsome1 hnil1 hi hz0 hz1 hz2 hmm
      go_wp2
      go_ret2
      exact ⟨_, by rw [ec.out]; try rfl, by rw [e.out, ← he.out]; exact HO.out, HB.out⟩
end Go.Proofs.Ytmkemjfbmnnflaa
