/- Contracts and plain facts, joined: MdlOk. -/
import Derived.Test.YtcjekailcljaaaaGreatRows
import Derived.Test.YtcjekailcljaaaaGreatZFnExactGreedyPlanH
import Derived.Test.YtcjekailcljaaaaGreatZFnExactGreedyPlanK
namespace Go.Proofs.YtcjekailcljaaaaGreat
open Go.ChangeShapes Go.WideShapes Go.ChangeAt Go.RowKit Go.Deep Go.Joins
set_option linter.unusedVariables false
set_option maxRecDepth 100000
set_option linter.unusedSimpArgs false
theorem maxL_if {xs : List Int} {k : Nat} (hk : k < xs.length) (h0 : 0 < k) : maxL (xs.take (k + 1)) = if maxL (xs.take k) < xs[k] then xs[k] else maxL (xs.take k) := by
  rw [maxL_snoc hk h0]; omega
theorem slices_Max (w : World) (v : Value) (xs : List Int) (h : Rd w.heap.size w v 1 xs.length (xs.flatMap putI)) (hn : xs.length ≤ 1048576) (h1 : 1 ≤ xs.length) :
    Calls Tryz.prog 81 #[v] w fun e w' => e = .returned (.int .i64 (maxL xs)) ∧ w = w' := by
  obtain ⟨hL, ao, cap, rfl, hcap, hmax, hnil, hsome⟩ := h
  obtain ⟨b, off, rfl, hbB, hc⟩ := hsome (by omega)
  have c0 : w.cell? ⟨b, off, none⟩ = some (.int .i64 xs[0]) := by
    have := hc 0 (by omega)
    rw [Nat.add_zero] at this
    rw [this, putI_get xs 0 (by omega)]
  have e0 : Hid (xs[0] = maxL (xs.take 1)) := Lib.hid (by
    cases xs with
    | nil => simp at h1
    | cons x xs => rfl)
  have HC := Lib.hid hc
  clear hc hsome hnil
  go_enter Tryz.func81, Tryz.ntmps81
  go_wp2
  go_loop [3, 4] (fun m i => ∃ (k : Nat), 1 ≤ k ∧ k ≤ xs.length ∧ i = .int .i64 k ∧ m = .int .i64 (maxL (xs.take k))) (fun _ i => xs.length - (intOf i).toNat)
  case atStart => exact ⟨1, Nat.le_refl _, h1, rfl, by rw [← e0.out]⟩
  case round =>
    obtain ⟨k, hk1, hk, rfl, rfl⟩ := hrel
    by_cases hlt : k < xs.length
    · have c1 : w.cell? ⟨b, off + k, none⟩ = some (.int .i64 xs[k]) := by rw [HC.out k (by omega), putI_get xs k hlt]
      have E := Lib.hid (maxL_if hlt (show 0 < k by omega))
      generalize maxL (xs.take k) = M at *
      clear c0 e0
      by_cases hM : M < xs[k]
      · have t1 : decide (M < xs[k]) = true := decide_eq_true hM
        go_wp2_with fail
        go_round
        case rel => exact ⟨k + 1, by omega, by omega, by go_num, by rw [E.out]; try rw [if_pos hM]⟩
        case measure => simp [intOf]; omega
      · have t1 : decide (M < xs[k]) = false := decide_eq_false hM
        go_wp2_with fail
        go_round
        case rel => exact ⟨k + 1, by omega, by omega, by go_num, by rw [E.out]; try rw [if_neg hM]⟩
        case measure => simp [intOf]; omega
    · obtain rfl : k = xs.length := by omega
      have e1 : Hid (xs.take xs.length = xs) := Lib.hid (List.take_of_length_le (Nat.le_refl _))
      go_wp2_with fail
      go_ret
      exact ⟨by first | rfl | (rw [e1.out]; rfl), rfl⟩

set_option maxHeartbeats 1000000 in
theorem IndexFunc_Row (w : World) (v : Value) (xs : List Int) (p : Int → Bool) (h : Rd w.heap.size w v 1 xs.length (xs.flatMap putI)) (hn : xs.length ≤ 1048576)
    (H : ∀ (wr : World) (hb : Below w.heap.size w wr) (k : Nat) (hk : k < xs.length), Calls Tryz.prog 130 #[.int .i64 xs[k]] wr fun e w' => e = .returned (.bool (p xs[k])) ∧ Below wr.heap.size wr w') :
    Calls Tryz.prog 140 #[v, .func (.func 130) #[] #[]] w fun e w' => (∃ r : Int, e = .returned (.int .i64 r) ∧ decide (0 ≤ r) = xs.any p) ∧ Below w.heap.size w w' := by
  obtain ⟨hL, ao, cap, rfl, hcap, hmax, hnil, hsome⟩ := h
  go_enter Tryz.func140, Tryz.ntmps140
  have HH := Lib.hid H; clear H
  go_wp2
  go_loopw [8] (fun i wr => ∃ (k : Nat), k ≤ xs.length ∧ i = .int .i64 k ∧ (xs.take k).any p = false ∧ Below w.heap.size w wr) (fun i _ => xs.length - (intOf i).toNat)
  case atStart => exact ⟨0, Nat.zero_le _, rfl, rfl, Below.refl _ _⟩
  case round =>
    obtain ⟨k, hk, rfl, hall, hb⟩ := hrel
    have Hall := Lib.hid hall; clear hall
    by_cases hlt : k < xs.length
    · obtain ⟨b, off, rfl, hbB, hc⟩ := hsome (by omega)
      have c0 : wr.cell? ⟨b, off + k, none⟩ = some (.int .i64 xs[k]) := by rw [hb.cell (p := ⟨b, off + k, none⟩) hbB, hc k (by omega), putI_get xs k hlt]
      have hbr : b < wr.heap.size := Nat.lt_of_lt_of_le hbB hb.size
      have HC := Lib.hid (HH.out wr hb k hlt); clear HH
      have HB := Lib.hid hb
      clear hc hsome hnil hb
      cases hO : p xs[k]
      all_goals rw [hO] at HC
      · have e : Hid ((xs.take (k + 1)).any p = false) := (by rw [any_take xs k hlt, Hall.out, hO]; rfl : (xs.take (k + 1)).any p = false)
        clear hO
        go_wp2_with fail
        go_at_call 130
        refine HC.out.mono ?_; rintro e1 w1 ⟨rfl, b1⟩
        have HB1 := Lib.hid (HB.out.trans (b1.mono HB.out.size)); clear b1 HB
        go_wp2_with fail
        go_roundw
        case rel => exact ⟨k + 1, by omega, by go_num, e.out, HB1.out⟩
        case measure => simp [intOf]; omega
      · have e : Hid (xs.any p = true) := (any_at xs k hlt hO : xs.any p = true)
        clear hO
        go_wp2_with fail
        go_at_call 130
        refine HC.out.mono ?_; rintro e1 w1 ⟨rfl, b1⟩
        have HB1 := Lib.hid (HB.out.trans (b1.mono HB.out.size)); clear b1 HB
        go_wp2_with fail
        go_ret
        exact ⟨⟨_, rfl, by rw [e.out]; simp⟩, HB1.out⟩
    · have e : Hid (xs.any p = false) := (by
        have := Hall.out
        rwa [List.take_of_length_le (by omega)] at this : xs.any p = false)
      clear HH
      go_wp2
      go_ret
      exact ⟨⟨_, rfl, by rw [e.out]; rfl⟩, hb⟩
theorem ContainsFunc_Row (w : World) (v : Value) (xs : List Int) (p : Int → Bool) (h : Rd w.heap.size w v 1 xs.length (xs.flatMap putI)) (hn : xs.length ≤ 1048576)
    (H : ∀ (wr : World) (hb : Below w.heap.size w wr) (k : Nat) (hk : k < xs.length), Calls Tryz.prog 130 #[.int .i64 xs[k]] wr fun e w' => e = .returned (.bool (p xs[k])) ∧ Below wr.heap.size wr w') :
    Calls Tryz.prog 129 #[v, .func (.func 130) #[] #[]] w fun e w' => e = .returned (.bool (xs.any p)) ∧ Below w.heap.size w w' := by
  have H2 := Lib.hid (IndexFunc_Row w v xs p h hn H)
  clear h H
  go_enter Tryz.func129, Tryz.ntmps129
  go_wp2_with fail
  refine H2.out.mono ?_; rintro e w1 ⟨⟨r, rfl, hr⟩, b1⟩
  have Hr := Lib.hid hr; clear hr
  go_wp2_with fail
  go_ret
  exact ⟨by rw [← Hr.out]; rfl, b1⟩

theorem impl_Row1 (x : Int) (w : World) : Calls Tryz.prog 130 #[.int .i64 x] w fun e w' => e = .returned (.bool (!w1000 x)) ∧ Below w.heap.size w w' := by
  have H := Lib.hid (fun w' => within x 0 1000 w')
  go_enter Tryz.func130, Tryz.ntmps130
  go_wp2_with fail
  refine (H.out _).mono ?_; rintro e w1 ⟨rfl, rfl⟩
  go_wp2_with fail
  go_ret
  exact ⟨rfl, Below.refl _ _⟩
theorem any_all (row : List Int) : row.any (fun x => !w1000 x) = !row.all w1000 := by
  induction row with
  | nil => rfl
  | cons x xs ih => simp only [List.any_cons, List.all_cons, ih, Bool.not_and]
theorem row_bad (w : World) (v : Value) (row : List Int) (h : Rd w.heap.size w v 1 row.length (row.flatMap putI)) (hn : row.length ≤ 1048576) {b : Bool} (hb : row.all w1000 = b) :
    Calls Tryz.prog 129 #[v, .func (.func 130) #[] #[]] w fun e w' => e = .returned (.bool (!b)) ∧ Below w.heap.size w w' := by
  have q := ContainsFunc_Row w v row (fun x => !w1000 x) h hn (fun wr _ k hk => impl_Row1 row[k] wr)
  rw [any_all, hb] at q
  exact q

set_option maxHeartbeats 4000000 in
theorem spec_l08Ok (w : World) (a : Nat) (zo wo bo : Option Addr) (zc wc bc : Nat) (m : Mdl) (hm : MdlAt w a (.slice zo m.zones.length zc) (.slice wo m.rows.length wc) (.slice bo m.base.length bc)) (hr : RdMdl w.heap.size w (.slice zo m.zones.length zc) (.slice wo m.rows.length wc) (.slice bo m.base.length bc) m) (hz : m.zones.length ≤ 1048576) (h5 : m.rows.length ≤ 1048576) (h6 : m.base.length ≤ 1048576) :
    Calls Tryz.prog 98 #[.pointer (some ⟨a, 0, none⟩)] w fun e w' => e = .returned (.bool (mdlB m)) ∧ Below w.heap.size w w' := by
  obtain ⟨a0, a1, a2, al⟩ := hm
  have A0 := Lib.hid a0
  have A1 := Lib.hid a1
  have A2 := Lib.hid a2
  have HR := Lib.hid hr
  have HZ := Lib.hid (spec_l08Zones w _ m.zones hr.1 hz)
  clear hr
  cases hZ : zonesB 32 m.zones
  · have e := Lib.hid (mdlB_noz hZ)
    rw [hZ] at HZ
    clear hZ a1 a2
    go_enter Tryz.func98, Tryz.ntmps98
    go_wp2_with fail
    refine HZ.out.mono ?_; rintro e1 w1 ⟨rfl, b1⟩
    go_wp2_with fail
    go_ret
    exact ⟨by rw [e.out]; rfl, b1⟩
  rw [hZ] at HZ
  have hzp := zonesB_parts hZ
  have HZP := Lib.hid hZ
  have hzl1 := hzp.1.1
  have hzl8 := hzp.1.2
  clear hZ hzp
  by_cases hr5 : m.rows.length = 5
  case neg =>
    have e := Lib.hid (mdlB_nor hr5)
    have t1 : ((m.rows.length : Int) != 5) = true := bne_iff_ne.2 (by omega)
    go_enter Tryz.func98, Tryz.ntmps98
    go_wp2_with fail
    refine HZ.out.mono ?_; rintro e1 w1 ⟨rfl, b1⟩
    have a1 := (b1.cell (p := ⟨a, 1, none⟩) al).trans A1.out
    have al1 : a < w1.heap.size := Nat.lt_of_lt_of_le al b1.size
    clear hr5
    go_wp2_with fail
    go_ret
    exact ⟨by rw [e.out]; rfl, b1⟩
  by_cases hb5 : m.base.length = 5
  case neg =>
    have e := Lib.hid (mdlB_nob hb5)
    have t1 : ((m.rows.length : Int) != 5) = false := bne_eq_false_iff_eq.2 (by omega)
    have t2 : ((m.base.length : Int) != 5) = true := bne_iff_ne.2 (by omega)
    go_enter Tryz.func98, Tryz.ntmps98
    go_wp2_with fail
    refine HZ.out.mono ?_; rintro e1 w1 ⟨rfl, b1⟩
    have a1 := (b1.cell (p := ⟨a, 1, none⟩) al).trans A1.out
    have a2 := (b1.cell (p := ⟨a, 2, none⟩) al).trans A2.out
    have al1 : a < w1.heap.size := Nat.lt_of_lt_of_le al b1.size
    clear hr5 hb5
    go_wp2_with fail
    go_ret
    exact ⟨by rw [e.out]; rfl, b1⟩
  have t1 : ((m.rows.length : Int) != 5) = false := bne_eq_false_iff_eq.2 (by omega)
  have t2 : ((m.base.length : Int) != 5) = false := bne_eq_false_iff_eq.2 (by omega)
  have HR5 := Lib.hid hr5
  have HB5 := Lib.hid hb5
  have hr5a : 5 ≤ m.rows.length := by omega
  have hb5a : 5 ≤ m.base.length := by omega
  clear hr5 hb5
  go_enter Tryz.func98, Tryz.ntmps98
  go_wp2_with fail
  refine HZ.out.mono ?_; rintro e1 w1 ⟨rfl, b1⟩
  have a1' := (b1.cell (p := ⟨a, 1, none⟩) al).trans A1.out
  have a2' := (b1.cell (p := ⟨a, 2, none⟩) al).trans A2.out
  have al1 : a < w1.heap.size := Nat.lt_of_lt_of_le al b1.size
  have B1 := Lib.hid b1
  clear b1 HZ a0 a1 a2
  go_wp2_with fail
  clear a1' a2' al1
  go_loopw [3] (fun i wr => ∃ (k : Nat), k ≤ 5 ∧ i = .int .i64 k ∧ allK (mdlK m) k = true ∧ Below w.heap.size w wr) (fun i _ => 5 - (intOf i).toNat)
  case atStart => exact ⟨0, Nat.zero_le _, rfl, rfl, B1.out⟩
  case round =>
    clear B1 t1 t2
    obtain ⟨k, hk, rfl, hall, hb⟩ := hrel
    have Hall := Lib.hid hall; clear hall
    by_cases hlt : k < 5
    · have hkI : (k : Int) < 5 := by omega
      have HRr := Lib.hid (HR.out.up hb)
      obtain ⟨wb, woff, lo, lc, rfl, hwb, cW, hrow⟩ := HRr.out.2.1.at k (by omega)
      obtain ⟨bb, boff, rfl, hbb, cB⟩ := Rd.at HRr.out.2.2 k (by omega)
      have a0 := (hb.cell (p := ⟨a, 0, none⟩) al).trans A0.out
      have a1 := (hb.cell (p := ⟨a, 1, none⟩) al).trans A1.out
      have a2 := (hb.cell (p := ⟨a, 2, none⟩) al).trans A2.out
      have alr : a < wr.heap.size := Nat.lt_of_lt_of_le al hb.size
      have HK := Lib.hid (mdlK_at (m := m) (k := k) (by omega) (by omega))
      have HNO := Lib.hid (fun h => mdlB_nok (m := m) hlt h)
      have HS := Lib.hid (allK_succ (mdlK m) k)
      have hzl : m.zones.length ≤ 1048576 := hz
      have hkr : k < m.rows.length := by omega
      have hkb : k < m.base.length := by omega
      have HB := Lib.hid hb
      have HROW := Lib.hid hrow
      clear hb hrow
      cases hB : baseB m.base[k]
      · have e : Hid (mdlB m = false) := Lib.hid (HNO.out (by rw [HK.out, hB]; rfl))
        have HO : Hid (inB m.base[k] 1 1000000000 = false) := Lib.hid hB
        clear hB
        generalize m.base[k] = bk at *
        go_wp2_with fail
        refine wp_region_above (by kernel_rfl) (by kernel_rfl) ?_
        repeat (go_big_quiet_step ((first | (go_at_call 58; exact aboveE (l00In_is _ _ _ _ HO.out)))))
        refine wpQuiet_nil ?_
        intro w1 b1
        have HB1 := Lib.hid (HB.out.trans (b1.mono HB.out.size)); clear b1
        go_wp2_with fail
        go_ret
        exact ⟨by rw [e.out]; rfl, HB1.out⟩
      have HO : Hid (inB m.base[k] 1 1000000000 = true) := Lib.hid hB
      have HBB := Lib.hid hB
      clear hB
      by_cases hl : m.rows[k].length = m.zones.length
      case neg =>
        have e : Hid (mdlB m = false) := Lib.hid (HNO.out (by rw [HK.out, rowB_nol hl, Bool.and_false]))
        have tn : ((m.rows[k].length : Int) != (m.zones.length : Int)) = true := bne_iff_ne.2 (by omega)
        have tn2 : (m.rows[k].length != m.zones.length) = true := bne_iff_ne.2 hl
        clear hl HBB
        generalize m.base[k] = bk at *
        go_wp2_with fail
        refine wp_region_above (by kernel_rfl) (by kernel_rfl) ?_
        repeat (go_big_quiet_step ((first | (go_at_call 58; exact aboveE (l00In_is _ _ _ _ HO.out)))))
        refine wpQuiet_nil ?_
        intro w1 b1
        have HB1 := Lib.hid (HB.out.trans (b1.mono HB.out.size)); clear b1
        go_wp2_with fail
        go_ret
        exact ⟨by rw [e.out]; rfl, HB1.out⟩
      have HL := Lib.hid hl
      rw [hl] at cW HROW
      clear hl
      obtain ⟨n, hn⟩ : ∃ n, m.zones.length = n := ⟨_, rfl⟩
      have hn1 : 1 ≤ n := by omega
      have hn8 : n ≤ 8 := by omega
      have HN := Lib.hid hn
      rw [hn] at a0 cW HROW
      obtain ⟨row, hrw⟩ : ∃ row, m.rows[k] = row := ⟨_, rfl⟩
      have HRW := Lib.hid hrw
      rw [hrw] at HROW
      have hrl : Hid (row.length = n) := Lib.hid (by rw [← hrw, HL.out, hn])
      have hrl1 : n ≤ row.length := by rw [hrl.out]; exact Nat.le_refl _
      have tnn : ((n : Int) != (n : Int)) = false := by simp
      clear hn hrw hzl
      obtain ⟨bk, hbk⟩ : ∃ b, m.base[k] = b := ⟨_, rfl⟩
      rw [hbk] at cB HO
      clear hbk
      go_wp2_with fail
      refine wp_region_above (by kernel_rfl) (by kernel_rfl) ?_
      repeat (go_big_quiet_step ((first | (go_at_call 58; exact aboveE (l00In_is _ _ _ _ HO.out)))))
      refine wpQuiet_nil ?_
      intro w1 b1
      have HB1 := Lib.hid (HB.out.trans (b1.mono HB.out.size))
      have b0 := (b1.cell (p := ⟨a, 0, none⟩) alr).trans a0
      have b2 := (b1.cell (p := ⟨a, 1, none⟩) alr).trans a1
      have b3 := (b1.cell (p := ⟨wb, woff + k, none⟩) hwb).trans cW
      have hl1 : a < w1.heap.size := Nat.lt_of_lt_of_le alr b1.size
      have hl2 : wb < w1.heap.size := Nat.lt_of_lt_of_le hwb b1.size
      have B0 := Lib.hid b0
      have B2 := Lib.hid b2
      have B3 := Lib.hid b3
      have RW1 := Lib.hid (HROW.out.up b1)
      clear b1 a0 a1 a2 cW cB alr hwb hbb HROW HB HO tnn b0 b2 b3
      go_wp2_with fail
      obtain ⟨wq, hwq⟩ : ∃ wq : World, wq = w1 := ⟨_, rfl⟩
      go_loopw [4, 5] (fun s i wr => ∃ (z : Nat), z ≤ n ∧ i = .int .i64 z ∧ s = .int .i64 (row.take z).sum ∧ (row.take z).all w1000 = true ∧ Below w1.heap.size w1 wr) (fun _ i _ => n - (intOf i).toNat)
      case atStart => exact ⟨0, Nat.zero_le _, rfl, rfl, rfl, Below.refl _ _⟩
      case round =>
        clear hwq
        obtain ⟨z, hz2, rfl, rfl, hzall, hbz⟩ := hrel
        have HZA := Lib.hid hzall
        have hsb := sum_bd (row := row.take z) (fun x hx => List.all_eq_true.1 hzall x hx)
        have hsl : (row.take z).length ≤ 8 := by rw [List.length_take]; omega
        have g0 := (hbz.cell (p := ⟨a, 0, none⟩) hl1).trans B0.out
        have g1 := (hbz.cell (p := ⟨a, 1, none⟩) hl1).trans B2.out
        have g2 := (hbz.cell (p := ⟨wb, woff + k, none⟩) hl2).trans B3.out
        have gl : a < wr.heap.size := Nat.lt_of_lt_of_le hl1 hbz.size
        have gw : wb < wr.heap.size := Nat.lt_of_lt_of_le hl2 hbz.size
        have RWr := Lib.hid (RW1.out.up hbz)
        have HBZ := Lib.hid hbz
        have HBW := Lib.hid (HB1.out.trans (hbz.mono HB1.out.size))
        clear hzall hbz
        by_cases hlz : z < n
        · have hrr : Rd wr.heap.size wr (.slice lo row.length lc) 1 row.length (row.flatMap putI) := by rw [hrl.out]; exact RWr.out
          obtain ⟨rb, roff, rfl, hrb, cR⟩ := Rd.at hrr z (by omega)
          have hzr : z < row.length := by omega
          have HST := Lib.hid (sum_take (row := row) (z := z) hzr)
          have HAT := Lib.hid (fun (h : w1000 (row[z]'hzr) = true) => all_take (row := row) (z := z) hzr HZA.out h)
          have HAN := Lib.hid (fun (h : w1000 (row[z]'hzr) = false) => all_no (row := row) (z := z) hzr h)
          clear hrr
          generalize (row.take z).sum = S at *
          cases hW : w1000 (row[z]'hzr)
          · have e : Hid (mdlB m = false) := Lib.hid (HNO.out (by rw [HK.out, HRW.out, rowB_now (HAN.out hW), Bool.and_false]))
            have HO : Hid (inB (row[z]'hzr) 0 1000 = false) := Lib.hid hW
            have HI := Lib.hid (fun w' => l00In_is (row[z]'hzr) 0 1000 w' HO.out)
            clear hW
            generalize row[z]'hzr = rz at *
            go_wp2_with fail
            refine (HI.out _).mono ?_; rintro e1 w2 ⟨rfl, rfl⟩
            go_wp2_with fail
            go_ret
            exact ⟨by rw [e.out]; rfl, HBW.out⟩
          · have HI := Lib.hid (fun w' => l00In_is (row[z]'hzr) 0 1000 w' hW)
            have hr0 := inB_true hW
            have HA2 := Lib.hid (HAT.out hW)
            clear hW HAN HAT
            generalize row[z]'hzr = rz at *
            go_wp2_with fail
            refine (HI.out _).mono ?_; rintro e1 w2 ⟨rfl, rfl⟩
            go_wp2_with fail
            go_roundw
            case rel => exact ⟨z + 1, by omega, by go_num, by rw [HST.out], HA2.out, HBZ.out⟩
            case measure => simp [intOf]; omega
        · obtain rfl : z = n := by omega
          have et : Hid (row.take z = row) := Lib.hid (List.take_of_length_le (by rw [hrl.out]; exact Nat.le_refl _))
          have HSUM : Hid ((row.take z).sum = row.sum) := Lib.hid (by rw [et.out])
          have HAL : Hid (row.all w1000 = true) := Lib.hid (by rw [← et.out]; exact HZA.out)
          generalize (row.take z).sum = S at *
          by_cases hS : S = 0
          · have e : Hid (mdlB m = false) := Lib.hid (HNO.out (by rw [HK.out, HRW.out, rowB_no0 (by rw [← HSUM.out]; exact hS), Bool.and_false]))
            have ts : (S == 0) = true := beq_iff_eq.2 hS
            clear hS
            go_wp2_with fail
            go_ret
            exact ⟨by rw [e.out]; rfl, HBW.out⟩
          · have eK : Hid (allK (mdlK m) (k + 1) = true) := Lib.hid (by rw [HS.out, Hall.out, HK.out, HRW.out, HBB.out, rowB_yes (by rw [hrl.out, HN.out]) HAL.out (by rw [← HSUM.out]; exact hS)]; rfl)
            have ts : (S == 0) = false := beq_eq_false_iff_ne.2 hS
            clear hS
            go_wp2_with fail
            go_roundw
            case rel => exact ⟨k + 1, by omega, by go_num, eK.out, HBW.out⟩
            case measure => simp [intOf]; omega
    · obtain rfl : k = 5 := by omega
      have e : Hid (mdlB m = true) := Lib.hid (mdlB_all HZP.out HR5.out HB5.out Hall.out)
      have HB := Lib.hid hb
      clear hb
      go_wp2_with fail
      go_ret
      exact ⟨by rw [e.out]; rfl, HB.out⟩

set_option maxHeartbeats 4000000 in
theorem impl_ValidModel (w : World) (zo wo bo : Option Addr) (zc wc bc : Nat) (m : Mdl) (hr : RdMdl w.heap.size w (.slice zo m.zones.length zc) (.slice wo m.rows.length wc) (.slice bo m.base.length bc) m) (hz : m.zones.length ≤ 1048576) (h5 : m.rows.length ≤ 1048576) (h6 : m.base.length ≤ 1048576) :
    Calls Tryz.prog 107 #[.agg #[.slice zo m.zones.length zc, .slice wo m.rows.length wc, .slice bo m.base.length bc]] w fun e w' => e = .returned (.bool (mdlB m)) ∧ Below w.heap.size w w' := by
  obtain ⟨W1, hW1⟩ : ∃ W1, w.alloc (.cells #[.slice zo m.zones.length zc, .slice wo m.rows.length wc, .slice bo m.base.length bc] 39) = W1 := ⟨_, rfl⟩
  have b0 : Below w.heap.size w W1 := hW1 ▸ (Below.refl _ _).alloc (Nat.le_refl _) _
  have OM : Own W1 w.heap.size 39 [.slice zo m.zones.length zc, .slice wo m.rows.length wc, .slice bo m.base.length bc] := hW1 ▸ Own.new w _ _
  have A0 := Lib.hid (OM.cell 0)
  have A1 := Lib.hid (OM.cell 1)
  have A2 := Lib.hid (OM.cell 2)
  have al := OM.lt
  have HR := Lib.hid (hr.up b0)
  have B0 := Lib.hid b0
  have HZ := Lib.hid (show Calls Tryz.prog 108 #[.slice zo m.zones.length zc, .int .i64 32] W1 fun e w' => e = .returned (.bool (zonesB 32 m.zones)) ∧ Below W1.heap.size W1 w' from impl_areZones W1 _ 32 m.zones HR.out.1 hz (by decide))
  have z0 := A0.out
  clear hr b0 OM
  cases hZ : zonesB 32 m.zones
  · have e := Lib.hid (mdlB_noz hZ)
    rw [hZ] at HZ
    clear hZ
    go_enter Tryz.func107, Tryz.ntmps107
    go_wp2_with fail
    refine HZ.out.mono ?_; rintro e1 w1 ⟨rfl, b1⟩
    go_wp2_with fail
    go_ret
    exact ⟨by rw [e.out]; rfl, bnext B0.out b1⟩
  rw [hZ] at HZ
  have hzp := zonesB_parts hZ
  have HZP := Lib.hid hZ
  have hzl1 := hzp.1.1
  have hzl8 := hzp.1.2
  clear hZ hzp
  by_cases hr5 : m.rows.length = 5
  case neg =>
    have e := Lib.hid (mdlB_nor hr5)
    have t1 : ((m.rows.length : Int) != 5) = true := bne_iff_ne.2 (by omega)
    clear hr5
    go_enter Tryz.func107, Tryz.ntmps107
    go_wp2_with fail
    refine HZ.out.mono ?_; rintro e1 w1 ⟨rfl, b1⟩
    have a1 := (b1.cell (p := ⟨w.heap.size, 1, none⟩) al).trans A1.out
    have al1 : w.heap.size < w1.heap.size := Nat.lt_of_lt_of_le al b1.size
    go_wp2_with fail
    go_ret
    exact ⟨by rw [e.out]; rfl, bnext B0.out b1⟩
  by_cases hb5 : m.base.length = 5
  case neg =>
    have e := Lib.hid (mdlB_nob hb5)
    have t1 : ((m.rows.length : Int) != 5) = false := bne_eq_false_iff_eq.2 (by omega)
    have t2 : ((m.base.length : Int) != 5) = true := bne_iff_ne.2 (by omega)
    clear hr5 hb5
    go_enter Tryz.func107, Tryz.ntmps107
    go_wp2_with fail
    refine HZ.out.mono ?_; rintro e1 w1 ⟨rfl, b1⟩
    have a1 := (b1.cell (p := ⟨w.heap.size, 1, none⟩) al).trans A1.out
    have a2 := (b1.cell (p := ⟨w.heap.size, 2, none⟩) al).trans A2.out
    have al1 : w.heap.size < w1.heap.size := Nat.lt_of_lt_of_le al b1.size
    go_wp2_with fail
    go_ret
    exact ⟨by rw [e.out]; rfl, bnext B0.out b1⟩
  have t1 : ((m.rows.length : Int) != 5) = false := bne_eq_false_iff_eq.2 (by omega)
  have t2 : ((m.base.length : Int) != 5) = false := bne_eq_false_iff_eq.2 (by omega)
  have HR5 := Lib.hid hr5
  have HB5 := Lib.hid hb5
  have hr5a : 5 ≤ m.rows.length := by omega
  have hb5a : 5 ≤ m.base.length := by omega
  have hr5b : m.rows.length ≤ 5 := by omega
  clear hr5 hb5
  go_enter Tryz.func107, Tryz.ntmps107
  go_wp2_with fail
  refine HZ.out.mono ?_; rintro e1 w1 ⟨rfl, b1⟩
  have a1' := (b1.cell (p := ⟨w.heap.size, 1, none⟩) al).trans A1.out
  have a2' := (b1.cell (p := ⟨w.heap.size, 2, none⟩) al).trans A2.out
  have al1 : w.heap.size < w1.heap.size := Nat.lt_of_lt_of_le al b1.size
  have B1 := Lib.hid b1
  clear b1 HZ z0
  go_wp2_with fail
  clear a1' a2' al1
  go_loopw [24] (fun i wr => ∃ (k : Nat), k ≤ m.rows.length ∧ i = .int .i64 k ∧ allK (mdlK m) k = true ∧ Below W1.heap.size W1 wr) (fun i _ => m.rows.length - (intOf i).toNat)
  case atStart => exact ⟨0, Nat.zero_le _, rfl, rfl, B1.out⟩
  case round =>
    clear B1 t1 t2 hW1
    obtain ⟨k, hk, rfl, hall, hb⟩ := hrel
    have Hall := Lib.hid hall; clear hall
    by_cases hlt : k < m.rows.length
    · have hlt5 : k < 5 := by omega
      have HRr := Lib.hid (HR.out.up hb)
      obtain ⟨wb, woff, lo, lc, rfl, hwb, cW, hrow⟩ := HRr.out.2.1.at k (by omega)
      obtain ⟨bb, boff, rfl, hbb, cB⟩ := Rd.at HRr.out.2.2 k (by omega)
      have a0 := (hb.cell (p := ⟨w.heap.size, 0, none⟩) al).trans A0.out
      have alr : w.heap.size < wr.heap.size := Nat.lt_of_lt_of_le al hb.size
      have HK := Lib.hid (mdlK_at (m := m) (k := k) (by omega) (by omega))
      have HNO := Lib.hid (fun h => mdlB_nok (m := m) hlt5 h)
      have HS := Lib.hid (allK_succ (mdlK m) k)
      have hkb : k < m.base.length := by omega
      have HB := Lib.hid hb
      have HROW := Lib.hid hrow
      clear hb hrow
      by_cases hl : m.rows[k].length = m.zones.length
      case neg =>
        have e : Hid (mdlB m = false) := Lib.hid (HNO.out (by rw [HK.out, rowB_nol hl, Bool.and_false]))
        have tn : ((m.rows[k].length : Int) != (m.zones.length : Int)) = true := bne_iff_ne.2 (by omega)
        have tn2 : (m.rows[k].length != m.zones.length) = true := bne_iff_ne.2 hl
        clear hl
        go_wp2_with fail
        go_ret
        exact ⟨by rw [e.out]; rfl, bnext B0.out HB.out⟩
      have HL := Lib.hid hl
      obtain ⟨row, hrw⟩ : ∃ row, m.rows[k] = row := ⟨_, rfl⟩
      have HRW := Lib.hid hrw
      rw [hrw] at HROW cW HL hl
      have hrl1 : 1 ≤ row.length := by omega
      have hrl8 : row.length ≤ 8 := by omega
      rw [← hl] at a0
      have HNE : Hid (row ≠ []) := Lib.hid (fun q => by rw [q] at hrl1; simp at hrl1)
      clear hl hrw
      obtain ⟨bk, hbk⟩ : ∃ b, m.base[k] = b := ⟨_, rfl⟩
      have HBK := Lib.hid hbk
      rw [hbk] at cB
      clear hbk
      have tnn : ((row.length : Int) != (row.length : Int)) = false := by simp
      have HMX := Lib.hid (slices_Max wr _ row HROW.out (by omega) hrl1)
      by_cases hM : maxL row = 0
      · have e : Hid (mdlB m = false) := Lib.hid (HNO.out (by
          rw [HK.out, HRW.out]
          cases ha : row.all w1000 with
          | false => rw [rowB_now ha, Bool.and_false]
          | true => rw [rowB_no0 (row_zero HNE.out hM ha), Bool.and_false]))
        rw [hM] at HMX
        clear hM
        go_wp2_with fail
        refine HMX.out.mono ?_; rintro e1 w2 ⟨rfl, rfl⟩
        go_wp2_with fail
        go_ret
        exact ⟨by rw [e.out]; rfl, bnext B0.out HB.out⟩
      have tm : (maxL row == 0) = false := beq_eq_false_iff_ne.2 hM
      cases ha : row.all w1000
      · have e : Hid (mdlB m = false) := Lib.hid (HNO.out (by rw [HK.out, HRW.out, rowB_now ha, Bool.and_false]))
        have HBAD := Lib.hid (row_bad wr _ row HROW.out (by omega) ha)
        clear ha hM
        generalize maxL row = MX at *
        go_wp2_with fail
        refine HMX.out.mono ?_; rintro e1 w2 ⟨rfl, rfl⟩
        go_wp2_with fail
        refine HBAD.out.mono ?_; rintro e1 w2 ⟨rfl, b2⟩
        go_wp2_with fail
        go_ret
        exact ⟨by rw [e.out]; rfl, bnext (bnext B0.out HB.out) b2⟩
      have HBAD := Lib.hid (row_bad wr _ row HROW.out (by omega) ha)
      have HRB : Hid (rowB m.zones.length row = true) := Lib.hid (rowB_yes HL.out ha (row_pos HNE.out hM ha))
      clear ha hM
      generalize maxL row = MX at *
      go_wp2_with fail
      refine HMX.out.mono ?_; rintro e1 w2 ⟨rfl, rfl⟩
      go_wp2_with fail
      refine HBAD.out.mono ?_; rintro e1 w2 ⟨rfl, b2⟩
      have a2 := (b2.cell (p := ⟨w.heap.size, 2, none⟩) alr).trans ((HB.out.cell (p := ⟨w.heap.size, 2, none⟩) al).trans A2.out)
      have cB2 := (b2.cell (p := ⟨bb, boff + k, none⟩) hbb).trans cB
      have al2 : w.heap.size < w2.heap.size := Nat.lt_of_lt_of_le alr b2.size
      have hbb2 : bb < w2.heap.size := Nat.lt_of_lt_of_le hbb b2.size
      have HB2 := Lib.hid (HB.out.trans (b2.mono HB.out.size))
      clear b2 a0 cW cB HMX HBAD tm tnn
      cases hB : baseB bk
      · have e : Hid (mdlB m = false) := Lib.hid (HNO.out (by rw [HK.out, HBK.out, hB]; rfl))
        have HI := Lib.hid (fun w' => within_is bk 1 1000000000 w' hB)
        clear hB
        go_wp2_with fail
        refine (HI.out _).mono ?_; rintro e1 w3 ⟨rfl, rfl⟩
        go_wp2_with fail
        go_ret
        exact ⟨by rw [e.out]; rfl, bnext B0.out HB2.out⟩
      · have eK : Hid (allK (mdlK m) (k + 1) = true) := Lib.hid (by rw [HS.out, Hall.out, HK.out, HBK.out, HRW.out, hB, HRB.out]; rfl)
        have HI := Lib.hid (fun w' => within_is bk 1 1000000000 w' hB)
        clear hB
        go_wp2_with fail
        refine (HI.out _).mono ?_; rintro e1 w3 ⟨rfl, rfl⟩
        go_wp2_with fail
        go_roundw
        case rel => exact ⟨k + 1, by omega, by go_num, eK.out, HB2.out⟩
        case measure => simp [intOf]; omega
    · obtain rfl : k = m.rows.length := by omega
      have e : Hid (mdlB m = true) := Lib.hid (mdlB_all HZP.out HR5.out HB5.out (by rw [← HR5.out]; exact Hall.out))
      have HB := Lib.hid hb
      clear hb
      go_wp2_with fail
      go_ret
      exact ⟨by rw [e.out]; rfl, bnext B0.out HB.out⟩
end Go.Proofs.YtcjekailcljaaaaGreat
