/- Contracts and plain facts, joined: GrdC, GrdW. -/
import Derived.Test.YtcjekailcljaaaaGreatRows
import Derived.Test.YtcjekailcljaaaaGreatZFnExactGreedyPlanR
import Derived.Test.YtcjekailcljaaaaGreatZFnExactGreedyPlanZF
namespace Go.Proofs.YtcjekailcljaaaaGreat
open Go.ChangeShapes Go.WideShapes Go.ChangeAt Go.RowKit Go.Deep Go.Joins
set_option linter.unusedVariables false
set_option maxRecDepth 100000
set_option linter.unusedSimpArgs false
theorem one2 (a b : Int) : ∀ u ∈ [Value.int .i64 a, .int .i64 b], u.oneCell' = true := by
  intro u hu
  simp only [List.mem_cons, List.not_mem_nil, or_false] at hu
  rcases hu with rfl | rfl <;> rfl
theorem cutsK_yes {st : List Int} {k : Nat} (hk : k < st.length) (h : 0 < st[k]) : cutsK st (k + 1) = cutsK st k ++ [⟨k, st[k]⟩] := by
  show cutsK st k ++ (if 0 < st.getD k 0 then [(⟨k, st.getD k 0⟩ : Cut)] else []) = _
  rw [getD_at hk, if_pos h]
theorem cutsK_no {st : List Int} {k : Nat} (hk : k < st.length) (h : ¬ 0 < st[k]) : cutsK st (k + 1) = cutsK st k := by
  show cutsK st k ++ (if 0 < st.getD k 0 then [(⟨k, st.getD k 0⟩ : Cut)] else []) = _
  rw [getD_at hk, if_neg h, List.append_nil]
set_option maxHeartbeats 2000000 in
theorem spec_l10Cuts (w : World) (ao : Option Addr) (cap : Nat) (st : List Int) (h : Rd w.heap.size w (.slice ao st.length cap) 1 st.length (st.flatMap putI)) (hn : st.length ≤ 8) :
    Calls Tryz.prog 51 #[.slice ao st.length cap] w fun e w' => (∃ r, e = .returned r ∧ w'.ownsRow w.heap.size 80 2 r (cutsZ st).length ((cutsZ st).flatMap Cut.put)) ∧ Below w.heap.size w w' := by
  obtain ⟨i0, hi, hz0, hz1, hz2⟩ := info_parts Cut_info
  have H := Lib.hid h; clear h
  go_enter Tryz.func51, Tryz.ntmps51
  go_wp2_with fail
  go_loopw [3, 4] (fun r i wr => ∃ k : Nat, k ≤ st.length ∧ i = .int .i64 k ∧ wr.ownsRow w.heap.size 80 2 r (cutsK st k).length ((cutsK st k).flatMap Cut.put) ∧ Below w.heap.size w wr) (fun _ i _ => st.length - (intOf i).toNat)
  case atStart => exact ⟨0, Nat.zero_le _, rfl, own_empty w w.heap.size _ 2 (Nat.le_refl _), (Below.refl _ _).alloc (Nat.le_refl _) _⟩
  case round =>
    obtain ⟨k, hk, rfl, ho, hb⟩ := hrel
    have OR := Lib.hid ho
    have BR := Lib.hid hb
    obtain ⟨so, sc, er⟩ := (own_rd ho).form
    subst er
    by_cases hlt : k < st.length
    · obtain ⟨b, off, rfl, hbl, c0⟩ := Rd.at (H.out.up hb) k hlt
      have hCl := cutsK_len st k
      have hws : w.heap.size ≤ wr.heap.size := hb.size
      by_cases hp : 0 < st[k]
      · have HSN := Lib.hid (cutsK_yes hlt hp)
        obtain ⟨s, hs⟩ : ∃ s, st[k] = s := ⟨_, rfl⟩
        obtain ⟨C, hC⟩ : ∃ C, cutsK st k = C := ⟨_, rfl⟩
        rw [hs] at c0 hp HSN
        rw [hC] at OR HSN hCl ⊢
        clear hs hC ho hb
        go_wp2_with (at_builtin; refine app_el rfl _ _ 49 80 i0 (.agg #[.int .i64 0, .int .i64 0]) 2 16 Tryz.underlying49 hi hz0 hz1 hz2 rfl (by decide) rfl wr w.heap.size _ C.length (C.flatMap Cut.put) (by rfl) OR.out [.int .i64 k, .int .i64 s] rfl (one2 _ _) (by rfl) (by omega) (by decide) hws ?_; intro g gc w3 hown3 hB3 hz3; have HB3 := Lib.hid (hB3 w BR.out); have HO3 := Lib.hid hown3; clear hown3 hB3)
        go_roundw
        case rel => exact ⟨k + 1, by omega, by go_num, by rw [HSN.out, List.length_append, List.flatMap_append]; exact HO3.out, HB3.out⟩
        case measure => simp [intOf]; omega
      · have HSN := Lib.hid (cutsK_no hlt hp)
        obtain ⟨s, hs⟩ : ∃ s, st[k] = s := ⟨_, rfl⟩
        rw [hs] at c0 hp
        clear hs ho hb
        go_wp2_with fail
        go_roundw
        case rel => exact ⟨k + 1, by omega, by go_num, by rw [HSN.out]; exact OR.out, BR.out⟩
        case measure => simp [intOf]; omega
    · obtain rfl : k = st.length := by omega
      clear ho hb
      go_wp2_with fail
      go_ret
      exact ⟨⟨_, rfl, OR.out⟩, BR.out⟩
set_option maxHeartbeats 2000000 in
theorem impl_cutsOf (w : World) (ao : Option Addr) (cap : Nat) (st : List Int) (h : Rd w.heap.size w (.slice ao st.length cap) 1 st.length (st.flatMap putI)) (hn : st.length ≤ 8) :
    Calls Tryz.prog 55 #[.slice ao st.length cap] w fun e w' => (∃ r, e = .returned r ∧ w'.ownsRow w.heap.size 80 2 r (cutsZ st).length ((cutsZ st).flatMap Cut.put)) ∧ Below w.heap.size w w' := by
  obtain ⟨i0, hi, hz0, hz1, hz2⟩ := info_parts Cut_info
  have H := Lib.hid h; clear h
  go_enter Tryz.func55, Tryz.ntmps55
  go_wp2_with fail
  go_loopw [3, 8] (fun r i wr => ∃ k : Nat, k ≤ st.length ∧ i = .int .i64 k ∧ wr.ownsRow w.heap.size 80 2 r (cutsK st k).length ((cutsK st k).flatMap Cut.put) ∧ Below w.heap.size w wr) (fun _ i _ => st.length - (intOf i).toNat)
  case atStart => exact ⟨0, Nat.zero_le _, rfl, own_nil _ _ _ _, Below.refl _ _⟩
  case round =>
    obtain ⟨k, hk, rfl, ho, hb⟩ := hrel
    have OR := Lib.hid ho
    have BR := Lib.hid hb
    obtain ⟨so, sc, er⟩ := (own_rd ho).form
    subst er
    by_cases hlt : k < st.length
    · obtain ⟨b, off, rfl, hbl, c0⟩ := Rd.at (H.out.up hb) k hlt
      have hCl := cutsK_len st k
      have hws : w.heap.size ≤ wr.heap.size := hb.size
      by_cases hp : 0 < st[k]
      · have HSN := Lib.hid (cutsK_yes hlt hp)
        obtain ⟨s, hs⟩ : ∃ s, st[k] = s := ⟨_, rfl⟩
        obtain ⟨C, hC⟩ : ∃ C, cutsK st k = C := ⟨_, rfl⟩
        rw [hs] at c0 hp HSN
        rw [hC] at OR HSN hCl ⊢
        clear hs hC ho hb
        go_wp2_with (at_builtin; refine app_el rfl _ _ 49 80 i0 (.agg #[.int .i64 0, .int .i64 0]) 2 16 Tryz.underlying49 hi hz0 hz1 hz2 rfl (by decide) rfl wr w.heap.size _ C.length (C.flatMap Cut.put) (by rfl) OR.out [.int .i64 k, .int .i64 s] rfl (one2 _ _) (by rfl) (by omega) (by decide) hws ?_; intro g gc w3 hown3 hB3 hz3; have HB3 := Lib.hid (hB3 w BR.out); have HO3 := Lib.hid hown3; clear hown3 hB3)
        go_roundw
        case rel => exact ⟨k + 1, by omega, by go_num, by rw [HSN.out, List.length_append, List.flatMap_append]; exact HO3.out, HB3.out⟩
        case measure => simp [intOf]; omega
      · have HSN := Lib.hid (cutsK_no hlt hp)
        obtain ⟨s, hs⟩ : ∃ s, st[k] = s := ⟨_, rfl⟩
        rw [hs] at c0 hp
        clear hs ho hb
        go_wp2_with fail
        go_roundw
        case rel => exact ⟨k + 1, by omega, by go_num, by rw [HSN.out]; exact OR.out, BR.out⟩
        case measure => simp [intOf]; omega
    · obtain rfl : k = st.length := by omega
      clear ho hb
      go_wp2_with fail
      go_ret
      exact ⟨⟨_, rfl, OR.out⟩, BR.out⟩
end Go.Proofs.YtcjekailcljaaaaGreat
namespace Go.Proofs.YtcjekailcljaaaaGreat
open Go.ChangeShapes Go.WideShapes Go.ChangeAt Go.RowKit Go.Deep Go.Joins
set_option linter.unusedVariables false
set_option maxRecDepth 100000
set_option linter.unusedSimpArgs false
theorem l00Max_Z (a b : Int) (w : World) : Calls Tryz.prog 116 #[.int .i64 a, .int .i64 b] w fun e w' => e = .returned (.int .i64 (max a b)) ∧ w = w' := by
  by_cases h : b < a
  · have e : Hid (max a b = a) := Lib.hid (by omega)
    go_enter Tryz.func116, Tryz.ntmps116
    go_wp2
    all_goals go_ret
    all_goals exact ⟨by rw [e.out] <;> rfl, rfl⟩
  · have e : Hid (max a b = b) := Lib.hid (by omega)
    go_enter Tryz.func116, Tryz.ntmps116
    go_wp2
    all_goals go_ret
    all_goals exact ⟨by rw [e.out] <;> rfl, rfl⟩
theorem abs_Z (d : Int) (w : World) (h : -312000 ≤ d ∧ d ≤ 312000) : Calls Tryz.prog 96 #[.int .i64 d] w fun e w' => e = .returned (.int .i64 (absZ d)) ∧ w = w' := by
  by_cases h0 : d < 0
  · have e : Hid (absZ d = -d) := Lib.hid (if_pos h0)
    go_enter Tryz.func96, Tryz.ntmps96
    go_wp2
    all_goals go_ret
    all_goals exact ⟨by rw [e.out] <;> rfl, rfl⟩
  · have e : Hid (absZ d = d) := Lib.hid (if_neg h0)
    go_enter Tryz.func96, Tryz.ntmps96
    go_wp2
    all_goals go_ret
    all_goals exact ⟨by rw [e.out] <;> rfl, rfl⟩
theorem max_neg (d : Int) : max d (-d) = absZ d := by unfold absZ; split <;> omega
set_option maxHeartbeats 1000000 in
theorem spec_l10Greatest (w : World) (ao : Option Addr) (cap : Nat) (L : List Int) (h : Rd w.heap.size w (.slice ao L.length cap) 1 L.length (L.flatMap putI)) (hn : L.length ≤ 1048576) (hb : ∀ x ∈ L, -312000 ≤ x ∧ x ≤ 312000) :
    Calls Tryz.prog 93 #[.slice ao L.length cap] w fun e w' => e = .returned (.int .i64 (grtZ L)) ∧ Below w.heap.size w w' := by
  have H := Lib.hid h; clear h
  have HLB := Lib.hid hb; clear hb
  go_enter Tryz.func93, Tryz.ntmps93
  go_wp2_with fail
  go_loopw [3, 4] (fun r i wr => ∃ k : Nat, k ≤ L.length ∧ i = .int .i64 k ∧ r = .int .i64 (grtZ (L.take k)) ∧ Below w.heap.size w wr) (fun _ i _ => L.length - (intOf i).toNat)
  case atStart => exact ⟨0, Nat.zero_le _, rfl, rfl, Below.refl _ _⟩
  case round =>
    obtain ⟨k, hk, rfl, rfl, hb⟩ := hrel
    have BR := Lib.hid hb
    by_cases hlt : k < L.length
    · obtain ⟨b, off, rfl, hbl, c0⟩ := Rd.at (H.out.up hb) k hlt
      have hx := HLB.out L[k] (List.getElem_mem hlt)
      have HSN := Lib.hid (grtZ_succ hlt)
      obtain ⟨d, hd⟩ : ∃ d, L[k] = d := ⟨_, rfl⟩
      obtain ⟨G, hG⟩ : ∃ G, grtZ (L.take k) = G := ⟨_, rfl⟩
      rw [hd] at c0 hx HSN
      rw [hG] at HSN ⊢
      have HM1 := Lib.hid (fun w' => l00Max_Z d (-d) w')
      have HM2 := Lib.hid (fun w' => l00Max_Z G (absZ d) w')
      rw [max_neg] at HM1
      have hkI : (k : Int) < (L.length : Int) := by omega
      have hk0 : (0 : Int) ≤ (k : Int) := by omega
      clear hb hd hG
      go_wp2_with fail
      refine wp_region_above (by kernel_rfl) (by kernel_rfl) ?_
      repeat (go_big_quiet_step ((first | (go_at_call 116; exact aboveC (toB (HM1.out _))) | (go_at_call 116; exact aboveC (toB (HM2.out _))))))
      refine wpQuiet_nil ?_
      intro w1 b1
      have BR1 := Lib.hid (bnext BR.out b1); clear b1
      go_wp2_with fail
      go_roundw
      case rel => exact ⟨k + 1, by omega, by go_num, by rw [HSN.out], BR1.out⟩
      case measure => simp [intOf]; omega
    · obtain rfl : k = L.length := by omega
      have e : Hid (grtZ (L.take L.length) = grtZ L) := Lib.hid (by rw [List.take_of_length_le (Nat.le_refl _)])
      rw [e.out]
      clear hb
      go_wp2_with fail
      go_ret
      exact ⟨rfl, BR.out⟩
set_option maxHeartbeats 1000000 in
theorem impl_worst (w : World) (ao : Option Addr) (cap : Nat) (L : List Int) (h : Rd w.heap.size w (.slice ao L.length cap) 1 L.length (L.flatMap putI)) (hn : L.length ≤ 1048576) (h1 : 0 < L.length) (hb : ∀ x ∈ L, -312000 ≤ x ∧ x ≤ 312000) :
    Calls Tryz.prog 97 #[.slice ao L.length cap] w fun e w' => (∃ a : Nat, ∃ ha : a < L.length, e = .returned (.int .i64 a) ∧ absZ L[a] = grtZ L) ∧ Below w.heap.size w w' := by
  have H := Lib.hid h; clear h
  have HLB := Lib.hid hb; clear hb
  go_enter Tryz.func97, Tryz.ntmps97
  go_wp2_with fail
  go_loopw [3, 8] (fun r i wr => ∃ (k a : Nat), k ≤ L.length ∧ i = .int .i64 k ∧ r = .int .i64 a ∧ (∃ ha : a < L.length, ∀ j (hj : j < L.length), j < k → absZ L[j] ≤ absZ L[a]) ∧ Below w.heap.size w wr) (fun _ i _ => L.length - (intOf i).toNat)
  case atStart => exact ⟨0, 0, Nat.zero_le _, rfl, rfl, ⟨h1, fun j _ hj => absurd hj (Nat.not_lt_zero _)⟩, Below.refl _ _⟩
  case round =>
    obtain ⟨k, a, hk, rfl, rfl, ⟨ha, hall⟩, hb⟩ := hrel
    have BR := Lib.hid hb
    have HALL := Lib.hid hall
    clear hall
    by_cases hlt : k < L.length
    · obtain ⟨b, off, rfl, hbl, c0⟩ := Rd.at (H.out.up hb) k hlt
      obtain ⟨b', off', e2, hbl2, c1⟩ := Rd.at (H.out.up hb) a ha
      injection e2 with e2
      injection e2 with e2 e3 e4
      subst e2 e3
      clear e4
      have hx := HLB.out L[k] (List.getElem_mem hlt)
      have hy := HLB.out L[a] (List.getElem_mem ha)
      obtain ⟨d, hd⟩ : ∃ d, L[k] = d := ⟨_, rfl⟩
      obtain ⟨u, hu⟩ : ∃ u, L[a] = u := ⟨_, rfl⟩
      have HD := Lib.hid hd
      have HU := Lib.hid hu
      rw [hd] at c0 hx
      rw [hu] at c1 hy
      have HM1 := Lib.hid (fun w' => abs_Z d w' hx)
      have HM2 := Lib.hid (fun w' => abs_Z u w' hy)
      obtain ⟨D, hD⟩ : ∃ D, absZ d = D := ⟨_, rfl⟩
      obtain ⟨U, hU⟩ : ∃ U, absZ u = U := ⟨_, rfl⟩
      rw [hD] at HM1
      rw [hU] at HM2
      have HDD := Lib.hid hD
      have HUU := Lib.hid hU
      have hkI : (k : Int) < (L.length : Int) := by omega
      have hk0 : (0 : Int) ≤ (k : Int) := by omega
      have haI : (a : Int) < (L.length : Int) := by omega
      have ha0 : (0 : Int) ≤ (a : Int) := by omega
      have hbl3 := hbl
      by_cases hc : U < D
      · have HC := Lib.hid hc
        have tc : decide (U < D) = true := decide_eq_true hc
        clear hb hd hu hD hU hc
        go_wp2_with fail
        refine wp_region_above (by kernel_rfl) (by kernel_rfl) ?_
        repeat (go_big_quiet_step ((first | (go_at_call 96; exact aboveC (toB (HM1.out _))) | (go_at_call 96; exact aboveC (toB (HM2.out _))))))
        refine wpQuiet_nil ?_
        intro w1 b1
        have BR1 := Lib.hid (bnext BR.out b1); clear b1
        go_wp2_with fail
        go_roundw
        case rel => exact ⟨k + 1, k, by omega, by go_num, rfl, ⟨hlt, fun j hj hj2 => by
          by_cases e : j = k
          · subst e; exact Int.le_refl _
          · have q := HALL.out j hj (by omega)
            rw [HU.out, HUU.out] at q
            rw [HD.out, HDD.out]
            have := HC.out
            omega⟩, BR1.out⟩
        case measure => simp [intOf]; omega
      · have HC := Lib.hid hc
        have tc : decide (U < D) = false := decide_eq_false hc
        clear hb hd hu hD hU hc
        go_wp2_with fail
        refine wp_region_above (by kernel_rfl) (by kernel_rfl) ?_
        repeat (go_big_quiet_step ((first | (go_at_call 96; exact aboveC (toB (HM1.out _))) | (go_at_call 96; exact aboveC (toB (HM2.out _))))))
        refine wpQuiet_nil ?_
        intro w1 b1
        have BR1 := Lib.hid (bnext BR.out b1); clear b1
        go_wp2_with fail
        go_roundw
        case rel => exact ⟨k + 1, a, by omega, by go_num, rfl, ⟨ha, fun j hj hj2 => by
          by_cases e : j = k
          · subst e
            rw [HU.out, HUU.out, HD.out, HDD.out]
            have := HC.out
            omega
          · exact HALL.out j hj (by omega)⟩, BR1.out⟩
        case measure => simp [intOf]; omega
    · obtain rfl : k = L.length := by omega
      have e : Hid (grtZ L = absZ L[a]) := Lib.hid (grtZ_is ha fun j hj => HALL.out j hj hj)
      clear hb
      go_wp2_with fail
      go_ret
      exact ⟨⟨a, ha, rfl, e.out.symm⟩, BR.out⟩
set_option maxHeartbeats 1000000 in
theorem impl_greatest (w : World) (ao : Option Addr) (cap : Nat) (L : List Int) (h : Rd w.heap.size w (.slice ao L.length cap) 1 L.length (L.flatMap putI)) (hn : L.length ≤ 1048576) (h1 : 0 < L.length) (hb : ∀ x ∈ L, -312000 ≤ x ∧ x ≤ 312000) :
    Calls Tryz.prog 54 #[.slice ao L.length cap] w fun e w' => e = .returned (.int .i64 (grtZ L)) ∧ Below w.heap.size w w' := by
  have HW := Lib.hid (impl_worst w ao cap L h hn h1 hb)
  have H := Lib.hid h; clear h
  have HLB := Lib.hid hb; clear hb
  go_enter Tryz.func54, Tryz.ntmps54
  go_wp2_with fail
  refine HW.out.mono ?_; rintro e w1 ⟨⟨a, ha, rfl, hg⟩, b1⟩
  obtain ⟨b, off, rfl, hbl, c0⟩ := Rd.at (H.out.up b1) a ha
  have hx := HLB.out L[a] (List.getElem_mem ha)
  have haI : (a : Int) < (L.length : Int) := by omega
  have ha0 : (0 : Int) ≤ (a : Int) := by omega
  have B1 := Lib.hid b1
  have HG := Lib.hid hg
  obtain ⟨d, hd⟩ : ∃ d, L[a] = d := ⟨_, rfl⟩
  rw [hd] at c0 hx HG
  have HM := Lib.hid (fun w' => abs_Z d w' hx)
  rw [HG.out] at HM
  clear b1 hg hd HW
  go_wp2_with fail
  refine (HM.out _).mono ?_; rintro e w2 ⟨rfl, rfl⟩
  go_wp2_with fail
  go_ret
  exact ⟨rfl, B1.out⟩
end Go.Proofs.YtcjekailcljaaaaGreat
