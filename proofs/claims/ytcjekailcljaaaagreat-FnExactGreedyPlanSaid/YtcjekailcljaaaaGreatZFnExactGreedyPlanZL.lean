/- Contracts and plain facts, joined: GrdQ, GrdS0. -/
import Derived.Test.YtcjekailcljaaaaGreatRows
import Derived.Test.YtcjekailcljaaaaGreatZFnExactGreedyPlanZA
import Derived.Test.YtcjekailcljaaaaGreatZFnExactGreedyPlanZC
import Derived.Test.YtcjekailcljaaaaGreatZFnExactGreedyPlanZJ
import Derived.Test.YtcjekailcljaaaaGreatZFnExactGreedyPlanZK
import Derived.Deep.RegionHeld3
import Derived.Deep.RegionLaw
namespace Go.Proofs.YtcjekailcljaaaaGreat
open Go.ChangeShapes Go.WideShapes Go.ChangeAt Go.RowKit Go.Deep Go.Joins
set_option linter.unusedVariables false
set_option maxRecDepth 100000
set_option linter.unusedSimpArgs false
theorem l00Min_Z (a b : Int) (w : World) : Calls Tryz.prog 90 #[.int .i64 a, .int .i64 b] w fun e w' => e = .returned (.int .i64 (min a b)) ∧ w = w' := by
  by_cases h : a < b
  · have e : Hid (min a b = a) := Lib.hid (by omega)
    go_enter Tryz.func90, Tryz.ntmps90
    go_wp2
    all_goals go_ret
    all_goals exact ⟨by rw [e.out] <;> rfl, rfl⟩
  · have e : Hid (min a b = b) := Lib.hid (by omega)
    go_enter Tryz.func90, Tryz.ntmps90
    go_wp2
    all_goals go_ret
    all_goals exact ⟨by rw [e.out] <;> rfl, rfl⟩
set_option maxHeartbeats 4000000 in
theorem spec_l10New (w : World) (bm bp bq : Nat) (zo wo bo lo : Option Addr) (zc wc bc lc : Nat) (m : Mdl) (x : Profile) (g : GoalX) (hm : MdlAt w bm (.slice zo m.zones.length zc) (.slice wo m.rows.length wc) (.slice bo m.base.length bc)) (hp : ProfAt w bp x lo lc) (hg : GoalAt w bq g)
    (hr : RdMdl w.heap.size w (.slice zo m.zones.length zc) (.slice wo m.rows.length wc) (.slice bo m.base.length bc) m) (hs : x.name.size ≤ maxLen) (hR : RdR w lo lc x.rings) (hx : profB x = true) (hzb : zonesB x.rings.length m.zones = true) :
    Calls Tryz.prog 49 #[.pointer (some ⟨bm, 0, none⟩), .pointer (some ⟨bp, 0, none⟩), .pointer (some ⟨bq, 0, none⟩), .int .i64 1] w fun e w' => ∃ (X : Nat) (rv : Value), e = .returned (.pointer (some ⟨X, 0, none⟩)) ∧ Own w' X 95 (schL bm bp bq rv (.slice none 0 0)) ∧ w'.ownsRow w.heap.size 2 1 rv m.zones.length ((roomL g m x).flatMap putI) ∧ w.heap.size ≤ X ∧ Below w.heap.size w w' := by
  have hz18 := (zonesB_parts hzb).1
  obtain ⟨i0, hi, hz0, hz1, hz2⟩ := info_parts info_i64
  have mixed : Tryz.prog.follows .mixedOrders = true := by kernel_rfl
  obtain ⟨W1, hW1⟩ : ∃ W1, w.alloc (.cells #[.pointer (some ⟨bm, 0, none⟩), .pointer (some ⟨bp, 0, none⟩), .pointer (some ⟨bq, 0, none⟩), .slice none 0 0, .slice none 0 0, .int .i64 (-1), .int .i64 0, .bool false, .bool false, .slice none 0 0, .int .i64 (-1), .int .i64 0, .int .i64 0, .int .i64 1, .bool false] 95) = W1 := ⟨_, rfl⟩
  have b1 : Below w.heap.size w W1 := hW1 ▸ (Below.refl _ _).alloc (Nat.le_refl _) _
  have X1 : Own W1 w.heap.size 95 (schL bm bp bq (.slice none 0 0) (.slice none 0 0)) := hW1 ▸ Own.new w _ _
  have HX1 := Lib.hid X1
  have HE1 : Hid (W1.heap.size = w.heap.size + 1) := Lib.hid (by rw [← hW1]; simp)
  have HB1 := Lib.hid b1
  have HM := Lib.hid (fun (w' : World) (hb : Below w.heap.size w w') => (⟨hm.below hb hm.2.2.2, (hg.below hb hg.2.2.2.2.2.2.2)⟩ : MdlAt w' bm (.slice zo m.zones.length zc) (.slice wo m.rows.length wc) (.slice bo m.base.length bc) ∧ GoalAt w' bq g))
  have HMO := Lib.hid (fun (w' : World) (hb : Below w.heap.size w w') (z : Nat) (hz' : z < m.zones.length) => spec_l09Most w' bp x lo lc zo zc m.zones z hz' (hp.below hb hp.2.2) hs (hR.up hb) hx (hr.up hb).1 hzb)
  have HSN : Hid (∀ k, k < m.zones.length → (((roomL g m x).take (k + 1)).flatMap putI = ((roomL g m x).take k).flatMap putI ++ [.int .i64 (roomZ g m x k)])) := Lib.hid (fun k hk => range_take (roomZ g m x) hk)
  have HRZ : Hid (∀ z, roomZ g m x z = min g.most (mostZ x m.zones z : Int)) := Lib.hid (fun z => by unfold roomZ; omega)
  have HF : Hid ((roomL g m x).take m.zones.length = roomL g m x) := Lib.hid (List.take_of_length_le (by rw [roomL_len]; exact Nat.le_refl _))
  generalize roomL g m x = Q at *
  have hwX : w.heap.size < W1.heap.size := X1.lt
  have hbm := hm.2.2.2
  have hbq := hg.2.2.2.2.2.2.2
  clear hm hp hg hr hs hR hx hzb b1 X1
  go_enter Tryz.func49, Tryz.ntmps49
  go_wp2_with fail
  go_loopw [10] (fun i wr => ∃ (k : Nat) (r : Value), k ≤ m.zones.length ∧ i = .int .i64 k ∧ Own wr w.heap.size 95 (schL bm bp bq r (.slice none 0 0)) ∧ wr.ownsRow W1.heap.size 2 1 r k ((Q.take k).flatMap putI) ∧ Below w.heap.size w wr) (fun i _ => m.zones.length - (intOf i).toNat)
  case atStart => exact ⟨0, _, Nat.zero_le _, rfl, HX1.out, own_nil _ _ _ _, HB1.out⟩
  case round =>
    clear HX1 HB1
    obtain ⟨k, r, hk, rfl, hX, ho, hb⟩ := hrel
    have XR := Lib.hid hX
    have OR := Lib.hid ho
    have BR := Lib.hid hb
    obtain ⟨so, sc, er⟩ := (own_rd ho).form
    subst er
    obtain ⟨hmr, hgr⟩ := HM.out wr hb
    have z0 : wr.cell? ⟨bm, 0, none⟩ = some (.slice zo m.zones.length zc) := hmr.1
    have zl : bm < wr.heap.size := hmr.2.2.2
    have g6 : wr.cell? ⟨bq, 6, none⟩ = some (.int .i64 g.most) := hgr.2.2.2.2.2.2.1
    have gl : bq < wr.heap.size := hgr.2.2.2.2.2.2.2
    have x3 : wr.cell? ⟨w.heap.size, 3, none⟩ = some (.slice so k sc) := hX.cell 3
    have xl := hX.lt
    have xf := hX.free 3
    have hw1r : W1.heap.size ≤ wr.heap.size := by rw [HE1.out]; exact xl
    by_cases hlt : k < m.zones.length
    · have HMK := Lib.hid (fun (w' : World) (hb' : Below wr.heap.size wr w') => HMO.out w' (bnext hb hb') k hlt)
      have HSK := Lib.hid (HSN.out k hlt)
      have HRK := HRZ.out k
      obtain ⟨q, hq⟩ : ∃ q, mostZ x m.zones k = q := ⟨_, rfl⟩
      obtain ⟨mo, hmo⟩ : ∃ q, g.most = q := ⟨_, rfl⟩
      rw [HRK] at HSK
      rw [hq] at HMK HSK
      rw [hmo] at g6 HSK
      have HMI := Lib.hid (fun w' => l00Min_Z mo (q : Int) w')
      obtain ⟨v, hv⟩ : ∃ v, min mo (q : Int) = v := ⟨_, rfl⟩
      rw [hv] at HMI HSK
      have hbr := hb.size
      clear hX ho hb hmr hgr HRK hq hmo hv
      go_wp2_with fail
      go_region_law_o (first
        | (rw [if_pos (by rfl)]
           refine stp_el _ _ 22 2 i0 (.int .i64 0) 1 8 Tryz.underlying22 hi hz0 hz1 hz2 rfl (by decide) rfl w6 W1.heap.size (.slice so k sc) k ((Q.take k).flatMap putI) (by rfl) O6.out [.int .i64 v] rfl (int_one _) (by first | rfl | (rw [World.size_alloc]; rfl)) (by omega) (by decide) hw6 (by rfl) ?_
           intro g7 gc7 w7 hown7 hB7 hK7
           have B7 := Lib.hid (hB7 w6 (Below.refl _ _))
           have O7 := Lib.hid hown7
           have X7 := Lib.hid (hK7 _ _ _ X6.out (own_apart_type O6.out X6.out (by decide)))
           have yy3 : w7.cell? ⟨w.heap.size, 3, none⟩ = some (.slice so k sc) := X7.out.cell 3
           have fy3 := X7.out.free 3
           have hly := X7.out.lt
           clear hown7 hB7 hK7)
        | (go_simp
           go_at_call 91
           refine (HMK.out _ (by (repeat' (first | (with_reducible exact Below.refl _ _) | (with_reducible assumption) | (with_reducible refine below_dn ?_ _) | (with_reducible refine Below.drew ?_) | (with_reducible refine Below.alloc ?_ ?_ _) | (with_reducible refine Below.setCell ?_ ?_ _) | go_size)))).mono ?_; rintro e w6 ⟨rfl, b6⟩
           have B6 : Below wr.heap.size wr w6 := Below.trans (by (repeat' (first | (with_reducible exact Below.refl _ _) | (with_reducible assumption) | (with_reducible refine below_dn ?_ _) | (with_reducible refine Below.drew ?_) | (with_reducible refine Below.alloc ?_ ?_ _) | (with_reducible refine Below.setCell ?_ ?_ _) | go_size))) (b6.mono (by simp <;> omega))
           have X6 := Lib.hid (XR.out.below B6 XR.out.lt)
           have O6 := Lib.hid (own_below OR.out B6 (Nat.le_refl _))
           have y3 : w6.cell? ⟨w.heap.size, 3, none⟩ = some (.slice so k sc) := X6.out.cell 3
           have yg6 : w6.cell? ⟨bq, 6, none⟩ = some (.int .i64 mo) := (B6.cell (p := ⟨bq, 6, none⟩) gl).trans g6
           have yl := X6.out.lt
           have ygl : bq < w6.heap.size := Nat.lt_of_lt_of_le gl B6.size
           have hw6 : W1.heap.size ≤ w6.heap.size := Nat.le_trans hw1r B6.size
           have HB6 := Lib.hid (bnext BR.out B6)
           clear b6 B6)
        | (go_simp
           go_at_call 90
           refine (HMI.out _).mono ?_; rintro e w9 ⟨rfl, rfl⟩))
      all_goals
        have hap := own_apart_type O7.out X7.out (by decide)
        obtain ⟨W8, hW8⟩ : ∃ W8, w7.setCell ⟨w.heap.size, 3, none⟩ (.slice (some ⟨g7, 0, none⟩) (k + 1) gc7) = W8 := ⟨_, rfl⟩
        have X8 : Hid (Own W8 w.heap.size 95 (schL bm bp bq (.slice (some ⟨g7, 0, none⟩) (k + 1) gc7) (.slice none 0 0))) := Lib.hid (hW8 ▸ X7.out.set 3 _)
        have O8 : Hid (W8.ownsRow W1.heap.size 2 1 (.slice (some ⟨g7, 0, none⟩) (k + 1) gc7) (k + 1) ((Q.take k).flatMap putI ++ [.int .i64 v])) := Lib.hid (hW8 ▸ own_farZ O7.out hap 3 _)
        have B8 : Hid (Below w.heap.size w W8) := Lib.hid (hW8 ▸ Below.setCell (HB6.out.trans (B7.out.mono (Nat.le_trans (Nat.le_of_lt hwX) (Nat.le_refl _)))) (Nat.le_refl _) _)
        clear hap X7 O7 X6 O6 HB6 B7 yy3 fy3 hly y3 yg6 yl ygl hw6 XR OR BR
        rw [hW8]
        clear hW8
        go_wp2_with fail
        go_roundw
        case rel => exact ⟨k + 1, _, by omega, by go_num, X8.out, by rw [HSK.out]; exact O8.out, B8.out⟩
        case measure => simp [intOf]; omega
    · obtain rfl : k = m.zones.length := by omega
      rw [HF.out] at OR
      clear hX ho hb
      go_wp2_with fail
      go_ret
      exact ⟨_, _, rfl, XR.out, own_baseZ OR.out (Nat.le_of_lt hwX), Nat.le_refl _, BR.out⟩
end Go.Proofs.YtcjekailcljaaaaGreat
namespace Go.Proofs.YtcjekailcljaaaaGreat
open Go.ChangeShapes Go.WideShapes Go.ChangeAt Go.RowKit Go.Deep Go.Joins
set_option linter.unusedVariables false
set_option maxRecDepth 100000
set_option linter.unusedSimpArgs false
def GrdE (base : Nat) (w' : World) (g : GoalX) (m : Mdl) (x : Profile) (e : Ending) : Prop := ∃ r, e = .returned (.tuple #[r, .int .i64 (grdC g m x)]) ∧ w'.ownsRow base 80 2 r (grdL g m x).length ((grdL g m x).flatMap Cut.put)
theorem GrdE_err {base : Nat} {w' : World} {g : GoalX} {m : Mdl} {x : Profile} {c : Int} (h : grdC g m x = c) (h0 : c ≠ 0) : GrdE base w' g m x (.returned (.tuple #[.slice none 0 0, .int .i64 c])) := by
  refine ⟨_, by rw [h], ?_⟩
  have : grdL g m x = [] := by unfold grdL; rw [if_neg (by rw [h]; exact h0)]
  rw [this]
  exact own_nil _ _ _ _
theorem GrdE_ok {base : Nat} {w' : World} {g : GoalX} {m : Mdl} {x : Profile} {r : Value} {st : List Int} (h : aimC g m x = 0) (h2 : grdR g m x = (st, 0)) (ho : w'.ownsRow base 80 2 r (cutsZ st).length ((cutsZ st).flatMap Cut.put)) : GrdE base w' g m x (.returned (.tuple #[r, .int .i64 0])) := by
  have hc : grdC g m x = 0 := by unfold grdC; rw [if_pos h, h2]
  refine ⟨r, by rw [hc], ?_⟩
  have : grdL g m x = cutsZ st := by unfold grdL; rw [if_pos hc, h2]
  rw [this]
  exact ho
theorem grdC_aim {g : GoalX} {m : Mdl} {x : Profile} {c : Int} (h : aimC g m x = c) (h0 : c ≠ 0) : grdC g m x = c := by unfold grdC; rw [h, if_neg h0]
theorem grdC_6 {g : GoalX} {m : Mdl} {x : Profile} {st : List Int} (h : aimC g m x = 0) (h2 : grdR g m x = (st, 6)) : grdC g m x = 6 := by unfold grdC; rw [if_pos h, h2]
theorem spS_full {f : Nat → Int} {skip : Nat → Bool} {j : Nat} (h : skip j = true) : spS f skip (j + 1) = spS f skip j := by
  show (if skip j = true then spS f skip j else _) = _
  rw [if_pos h]
theorem spS_take {f : Nat → Int} {skip : Nat → Bool} {j : Nat} (h : skip j = false) (h2 : 0 ≤ f j ∧ ((spS f skip j).1 < 0 ∨ f j < (spS f skip j).2)) : spS f skip (j + 1) = ((j : Int), f j) := by
  show (if skip j = true then spS f skip j else if 0 ≤ f j ∧ ((spS f skip j).1 < 0 ∨ f j < (spS f skip j).2) then ((j : Int), f j) else spS f skip j) = _
  rw [h, if_neg (by intro q; cases q), if_pos h2]
theorem spS_keep {f : Nat → Int} {skip : Nat → Bool} {j : Nat} (h : skip j = false) (h2 : ¬ (0 ≤ f j ∧ ((spS f skip j).1 < 0 ∨ f j < (spS f skip j).2))) : spS f skip (j + 1) = spS f skip j := by
  show (if skip j = true then spS f skip j else if 0 ≤ f j ∧ ((spS f skip j).1 < 0 ∨ f j < (spS f skip j).2) then ((j : Int), f j) else spS f skip j) = _
  rw [h, if_neg (by intro q; cases q), if_neg h2]
/-- where a search stands: what is still to come gives the answer -/
def Stands (g : GoalX) (m : Mdl) (x : Profile) (st : List Int) (now : Int) : Prop := StepsB g m x st ∧ -1 ≤ now ∧ now ≤ 312000 ∧ ((now < 0 ∧ ∃ st', grdR g m x = (st', 6)) ∨ (0 ≤ now ∧ ∃ f, now.toNat < f ∧ runG g m x f st now = grdR g m x))
theorem stands_zero {g : GoalX} {m : Mdl} {x : Profile} (hg : goalB g = true) : Stands g m x (zeroZ m) (worstZ g m x (zeroZ m)) := by
  have hb := worstZ_bd hg m x (zeroZ m)
  refine ⟨zero_ok hg m x, hb.1, hb.2, ?_⟩
  by_cases h : worstZ g m x (zeroZ m) < 0
  · exact .inl ⟨h, zeroZ m, by unfold grdR; rw [if_pos h]⟩
  · exact .inr ⟨by omega, _, Nat.lt_succ_self _, by unfold grdR; rw [if_neg h]⟩
theorem stands_neg {g : GoalX} {m : Mdl} {x : Profile} {st : List Int} {now : Int} (h : Stands g m x st now) (hn : now < 0) : ∃ st', grdR g m x = (st', 6) := by
  rcases h.2.2.2 with ⟨_, q⟩ | ⟨q, _⟩
  · exact q
  · omega
theorem stands_stop {g : GoalX} {m : Mdl} {x : Profile} {st : List Int} {now : Int} (h : Stands g m x st now) (hn : ¬ now < 0) (ht : now ≤ g.tol) : grdR g m x = (st, 0) := by
  rcases h.2.2.2 with ⟨q, _⟩ | ⟨_, f, hf, e⟩
  · omega
  · obtain ⟨f', rfl⟩ : ∃ f', f = f' + 1 := ⟨f - 1, by omega⟩
    rw [← e, runG_stop ht]
theorem stands_lost {g : GoalX} {m : Mdl} {x : Profile} {st : List Int} {now : Int} (h : Stands g m x st now) (h0 : 0 ≤ now) (ht : ¬ now ≤ g.tol) (hp : (pickS g m x st).1 < 0 ∨ now ≤ (pickS g m x st).2) : grdR g m x = (st, 6) := by
  rcases h.2.2.2 with ⟨q, _⟩ | ⟨_, f, hf, e⟩
  · omega
  · obtain ⟨f', rfl⟩ : ∃ f', f = f' + 1 := ⟨f - 1, by omega⟩
    rw [← e, runG_lost ht hp]
theorem stands_next {g : GoalX} {m : Mdl} {x : Profile} {st : List Int} {now : Int} (hg : goalB g = true) (h : Stands g m x st now) (h0 : 0 ≤ now) (ht : ¬ now ≤ g.tol) (hp : ¬ ((pickS g m x st).1 < 0 ∨ now ≤ (pickS g m x st).2)) : ∃ z : Nat, (pickS g m x st).1 = z ∧ z < m.zones.length ∧ 0 ≤ (pickS g m x st).2 ∧ (pickS g m x st).2 < now ∧ Stands g m x (incZ st z) (pickS g m x st).2 := by
  obtain ⟨z, e1, e2, e3, e4, e5⟩ := pick_ok h.1 (by omega)
  refine ⟨z, e1, e2, e4, by omega, e3, by omega, by rw [e5]; exact (worstZ_bd hg m x _).2, .inr ⟨e4, ?_⟩⟩
  rcases h.2.2.2 with ⟨q, _⟩ | ⟨_, f, hf, e⟩
  · omega
  · obtain ⟨f', rfl⟩ : ∃ f', f = f' + 1 := ⟨f - 1, by omega⟩
    rw [runG_next ht hp, e1, Int.toNat_natCast] at e
    exact ⟨f', by omega, e⟩
theorem incZ_back {st : List Int} {z : Nat} (hz : z < st.length) : (incZ st z).set z st[z] = st := by
  unfold incZ
  rw [List.set_set]
  exact List.set_getElem_self hz
theorem incZ_set {st : List Int} {z : Nat} (hz : z < st.length) : incZ st z = st.set z (st[z] + 1) := by unfold incZ; rw [getD_at hz]
/-- what a store of a step needs -/
theorem step_up {w : World} {gs z : Nat} {st : List Int} (o : Own w gs 2 (st.flatMap putI)) (hz : z < st.length) : Own (w.setCell ⟨gs, z, none⟩ (.int .i64 (st[z] + 1))) gs 2 ((incZ st z).flatMap putI) := by
  have := o.set z (.int .i64 (st[z] + 1))
  rw [set_putI _ _ _ hz, ← incZ_set hz] at this
  exact this
theorem step_down {w : World} {gs z : Nat} {st : List Int} (o : Own w gs 2 ((incZ st z).flatMap putI)) (hz : z < st.length) : Own (w.setCell ⟨gs, z, none⟩ (.int .i64 st[z])) gs 2 (st.flatMap putI) := by
  have := o.set z (.int .i64 st[z])
  rw [set_putI _ _ _ (by rw [incZ_len]; exact hz), incZ_back hz] at this
  exact this
theorem step_cell {w : World} {gs z : Nat} {st : List Int} (o : Own w gs 2 (st.flatMap putI)) (hz : z < st.length) : w.cell? ⟨gs, z, none⟩ = some (.int .i64 st[z]) := by rw [o.cell, putI_get _ z hz]
theorem step_cell2 {w : World} {gs z : Nat} {st : List Int} (o : Own w gs 2 ((incZ st z).flatMap putI)) (hz : z < st.length) : w.cell? ⟨gs, z, none⟩ = some (.int .i64 (st[z] + 1)) := by
  rw [o.cell, putI_get _ z (by rw [incZ_len]; exact hz)]
  simp only [incZ_set hz, List.getElem_set_self]
theorem room_cell {rl rh : Nat} {w : World} {rv : Value} {n : Nat} {R : List Int} (h : Held rl rh w 2 1 rv n (R.flatMap putI)) (hn : R.length = n) {j : Nat} (hj : j < n) : ∃ G cap, rv = .slice (some ⟨G, 0, none⟩) n cap ∧ G < w.heap.size ∧ w.cell? ⟨G, j, none⟩ = some (.int .i64 (R[j]'(by omega))) ∧ rl ≤ G ∧ G < rh := by
  obtain ⟨h1, ao, cap, rfl, h2, h3, h4, h5⟩ := h
  obtain ⟨G, U, rfl, hlo, hhi, ho⟩ := h5 (by omega)
  refine ⟨G, cap, rfl, ho.lt, ?_, hlo, hhi⟩
  rw [ho.cell, List.getElem?_append_left (by rw [putI_len]; omega), putI_get _ j (by omega)]
end Go.Proofs.YtcjekailcljaaaaGreat
