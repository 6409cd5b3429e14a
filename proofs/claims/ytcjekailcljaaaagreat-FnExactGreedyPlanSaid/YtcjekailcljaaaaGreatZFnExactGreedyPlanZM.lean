/- Contracts and plain facts, joined: GrdS. -/
import Derived.Test.YtcjekailcljaaaaGreatRows
import Derived.Test.YtcjekailcljaaaaGreatZFnExactGreedyPlanZL
namespace Go.Proofs.YtcjekailcljaaaaGreat
open Go.ChangeShapes Go.WideShapes Go.ChangeAt Go.RowKit Go.Deep Go.Joins
set_option linter.unusedVariables false
set_option maxRecDepth 100000
set_option linter.unusedSimpArgs false
/-- a search under way: what its steps need to know of memory -/
def SearchAt (w : World) (X gs bq Gr cap : Nat) (m : Mdl) (x : Profile) (g : GoalX) (wr : World) : Prop :=
  wr.cell? ⟨X, 3, none⟩ = some (.slice (some ⟨Gr, 0, none⟩) m.zones.length cap) ∧ wr.cell? ⟨X, 4, none⟩ = some (.slice (some ⟨gs, 0, none⟩) m.zones.length m.zones.length) ∧ X < wr.heap.size ∧ wr.cell? ⟨bq, 5, none⟩ = some (.int .i64 g.tol) ∧ bq < wr.heap.size ∧ gs < wr.heap.size ∧ Gr < wr.heap.size ∧ gs ≠ Gr ∧ w.heap.size ≤ gs ∧ Below w.heap.size w wr ∧ ∀ j, j < m.zones.length → wr.cell? ⟨Gr, j, none⟩ = some (.int .i64 (roomZ g m x j))
theorem search_of {w wr : World} {X gs bm bp bq : Nat} {zo wo bo lo : Option Addr} {zc wc bc lc : Nat} {m : Mdl} {x : Profile} {g : GoalX} {rl rh : Nat} {Gr cap : Nat} (hz : 1 ≤ m.zones.length)
    (h : GrdK w wr X gs bm bp bq zo wo bo lo zc wc bc lc m x g 95 (schL bm bp bq (.slice (some ⟨Gr, 0, none⟩) m.zones.length cap) (.slice (some ⟨gs, 0, none⟩) m.zones.length m.zones.length)) rl rh (.slice (some ⟨Gr, 0, none⟩) m.zones.length cap) (roomL g m x)) : SearchAt w X gs bq Gr cap m x g wr := by
  have hl := roomL_len g m x
  have hroom := h.room
  rw [hl] at hroom
  obtain ⟨G, cap', e, hG, _, hlo, hhi⟩ := room_cell hroom hl (j := 0) (by omega)
  injection e with e1 e2 e3
  injection e1 with e1
  injection e1 with e1
  subst e1 e3
  refine ⟨h.sch.cell 3, h.sch.cell 4, h.sch.lt, h.2.2.2.1.cell 5, h.2.2.2.1.lt, h.ltg.2, hG, ?_, h.ltg.1, h.1, fun j hj => ?_⟩
  · have := h.2.2.2.2.2.2.2.2; omega
  · obtain ⟨G', cap'', e', _, hc, _, _⟩ := room_cell hroom hl (j := j) hj
    injection e' with e1' e2' e3'
    injection e1' with e1'
    injection e1' with e1'
    subst e1'
    rw [hc, roomL_at]
theorem row_held {w : World} {base G cap n s : Nat} {E : TypeId} {L : List Value} (h : w.ownsRow base E s (.slice (some ⟨G, 0, none⟩) n cap) n L) (hp : 0 < n) : Held G (G + 1) w E s (.slice (some ⟨G, 0, none⟩) n cap) n L := by
  obtain ⟨h1, ao, cap', e, h2, h3, h4, h5⟩ := Held.of_row h
  injection e with e1 e2 e3
  subst e1 e3
  refine ⟨h1, _, _, rfl, h2, h3, h4, fun q => ?_⟩
  obtain ⟨g, U, e1, h6, h7, h8⟩ := h5 q
  injection e1 with e1
  injection e1 with e1
  subst e1
  exact ⟨G, U, rfl, Nat.le_refl _, Nat.lt_succ_self _, h8⟩
set_option maxHeartbeats 8000000 in
theorem spec_GreedyPlan (w : World) (zo wo bo lo : Option Addr) (zc wc bc lc : Nat) (m : Mdl) (x : Profile) (g : GoalX) (hr : RdMdl w.heap.size w (.slice zo m.zones.length zc) (.slice wo m.rows.length wc) (.slice bo m.base.length bc) m) (hz : m.zones.length ≤ 1048576) (h5 : m.rows.length ≤ 1048576) (h6 : m.base.length ≤ 1048576)
    (hs : x.name.size ≤ maxLen) (hR : RdR w lo lc x.rings) (hn : x.rings.length ≤ 1048576) :
    Calls Tryz.prog 23 #[.agg #[.slice zo m.zones.length zc, .slice wo m.rows.length wc, .slice bo m.base.length bc], .agg #[.string x.name, .slice lo x.rings.length lc], .agg #[.int .i64 g.a, .int .i64 g.b, .int .i64 g.c, .int .i64 g.d, .int .i64 g.e, .int .i64 g.tol, .int .i64 g.most]] w fun e w' => GrdE w.heap.size w' g m x e ∧ Below w.heap.size w w' := by
  obtain ⟨i0, hi, hz0, hz1, hz2⟩ := info_parts info_i64
  obtain ⟨W1, hW1⟩ : ∃ W1, w.alloc (.cells #[.slice zo m.zones.length zc, .slice wo m.rows.length wc, .slice bo m.base.length bc] 39) = W1 := ⟨_, rfl⟩
  obtain ⟨W2, hW2⟩ : ∃ W2, W1.alloc (.cells #[.string x.name, .slice lo x.rings.length lc] 43) = W2 := ⟨_, rfl⟩
  obtain ⟨W3, hW3⟩ : ∃ W3, W2.alloc (.cells #[.int .i64 g.a, .int .i64 g.b, .int .i64 g.c, .int .i64 g.d, .int .i64 g.e, .int .i64 g.tol, .int .i64 g.most] 47) = W3 := ⟨_, rfl⟩
  have b1 : Below w.heap.size w W1 := hW1 ▸ (Below.refl _ _).alloc (Nat.le_refl _) _
  have b2 : Below W1.heap.size W1 W2 := hW2 ▸ (Below.refl _ _).alloc (Nat.le_refl _) _
  have b3 : Below W2.heap.size W2 W3 := hW3 ▸ (Below.refl _ _).alloc (Nat.le_refl _) _
  have M1 : Own W1 w.heap.size 39 [.slice zo m.zones.length zc, .slice wo m.rows.length wc, .slice bo m.base.length bc] := hW1 ▸ Own.new w _ _
  have M3 := (M1.below b2 M1.lt).below b3 (M1.below b2 M1.lt).lt
  have P2 : Own W2 W1.heap.size 43 [.string x.name, .slice lo x.rings.length lc] := hW2 ▸ Own.new W1 _ _
  have P3 := P2.below b3 P2.lt
  have G3 : Own W3 W2.heap.size 47 g.put := hW3 ▸ Own.new W2 _ _
  have BB3 := bnext (bnext b1 b2) b3
  have HM3 := Lib.hid M3
  have HP3 := Lib.hid P3
  have HG3 := Lib.hid G3
  have B3 := Lib.hid BB3
  have HA := Lib.hid (spec_l10Ask W3 w.heap.size W1.heap.size W2.heap.size zo wo bo lo zc wc bc lc m x g ⟨M3.cell 0, M3.cell 1, M3.cell 2, M3.lt⟩ (hr.up BB3) hz h5 h6 ⟨P3.cell 0, P3.cell 1, P3.lt⟩ hs (hR.up BB3) hn (GoalAt.of G3))
  have HR := Lib.hid hr
  have HRR := Lib.hid hR
  clear hr hR b1 b2 b3 M1 M3 P2 P3 G3 BB3
  obtain ⟨ac, hac⟩ : ∃ c, aimC g m x = c := ⟨_, rfl⟩
  have HAC := Lib.hid hac
  rw [hac] at HA
  clear hac
  go_enter Tryz.func23, Tryz.ntmps23
  go_wp2_with fail
  refine HA.out.mono ?_; rintro e w4 ⟨rfl, b4⟩
  have HM4 := Lib.hid (HM3.out.below b4 HM3.out.lt)
  have HP4 := Lib.hid (HP3.out.below b4 HP3.out.lt)
  have HG4 := Lib.hid (HG3.out.below b4 HG3.out.lt)
  have B4 := Lib.hid (bnext B3.out b4)
  clear b4 HA HM3 HP3 HG3 B3 hW1 hW2 hW3
  by_cases h0 : ac = 0
  case neg =>
    have t0 : (ac != 0) = true := by simp [h0]
    have H0 := Lib.hid h0
    clear h0
    go_wp2_with fail
    refine bodyPost_ret (v := .tuple #[.slice none 0 0, .int .i64 ac]) (by simp [results, Tryz.results23, go_sem]) rfl ?_
    exact ⟨GrdE_err (grdC_aim HAC.out H0.out) H0.out, B4.out⟩
  subst h0
  obtain ⟨hgb, hmb, hx, hzb⟩ := aimC_zero HAC.out
  have hz18 := (zonesB_parts hzb).1
  have HN := Lib.hid (spec_l10New w4 w.heap.size W1.heap.size W2.heap.size zo wo bo lo zc wc bc lc m x g ⟨HM4.out.cell 0, HM4.out.cell 1, HM4.out.cell 2, HM4.out.lt⟩ ⟨HP4.out.cell 0, HP4.out.cell 1, HP4.out.lt⟩ (GoalAt.of HG4.out) (HR.out.up B4.out) hs (HRR.out.up B4.out) hx hzb)
  have HGB := Lib.hid hgb
  have HMB := Lib.hid hmb
  have HX := Lib.hid hx
  have HZB := Lib.hid hzb
  clear hgb hmb hx hzb
  go_wp2_with fail
  refine HN.out.mono ?_; rintro e w5 ⟨X, rv, rfl, oX, oR, hX, b5⟩
  obtain ⟨Gr, cap, rfl⟩ : ∃ G cap, rv = .slice (some ⟨G, 0, none⟩) m.zones.length cap := by
    rcases own_form oR with ⟨_, e⟩ | ⟨G, cap, e⟩
    · omega
    · exact ⟨G, cap, e⟩
  have HM5 := Lib.hid (HM4.out.below b5 HM4.out.lt)
  have HP5 := Lib.hid (HP4.out.below b5 HP4.out.lt)
  have HG5 := Lib.hid (HG4.out.below b5 HG4.out.lt)
  have B5 := Lib.hid (bnext B4.out b5)
  have HR5 := Lib.hid (row_held oR (by omega))
  have hGX : Gr ≠ X := own_apart_type oR oX (by decide) Gr rfl
  have hGl : Gr < w5.heap.size := (own_cellZ oR 0 (by omega)).2.2.1
  have HX5 := Lib.hid oX
  have x3 : w5.cell? ⟨X, 3, none⟩ = some (.slice (some ⟨Gr, 0, none⟩) m.zones.length cap) := oX.cell 3
  have x4 : w5.cell? ⟨X, 4, none⟩ = some (.slice none 0 0) := oX.cell 4
  have xl := oX.lt
  have xf := oX.free 4
  have hw4 : w.heap.size < w4.heap.size := HM4.out.lt
  have hXbs : ¬ X = w.heap.size ∧ ¬ X = W1.heap.size ∧ ¬ X = W2.heap.size := by
    have := HM4.out.lt
    have := HP4.out.lt
    have := HG4.out.lt
    omega
  have hw5 := b5.size
  clear oX oR b5 HN HM4 HP4 HG4
  go_wp2_with (at_make; refine wpList_make_blk _ rfl _ _ 22 rfl 2 i0 (.int .i64 0) 1 8 Tryz.underlying22 hi hz0 hz1 hz2 _ _ _ _ m.zones.length rfl rfl rfl rfl (by omega) (by unfold maxLen; omega) ?_; intro w6 ho hb hs6; rw [madeN] at ho; have X6 := Lib.hid (HX5.out.below hb HX5.out.lt); have y4 : w6.cell? ⟨X, 4, none⟩ = some (.slice none 0 0) := X6.out.cell 4; have yf := X6.out.free 4; have yl := X6.out.lt; have HO6 := Lib.hid ho; have HB6 := Lib.hid hb; clear ho hb hs6)
  obtain ⟨W7, hW7⟩ : ∃ W7, w6.setCell ⟨X, 4, none⟩ (.slice (some ⟨w5.heap.size, 0, none⟩) m.zones.length m.zones.length) = W7 := ⟨_, rfl⟩
  have hXb := hXbs
  have K7 : GrdK w W7 X w5.heap.size w.heap.size W1.heap.size W2.heap.size zo wo bo lo zc wc bc lc m x g 95 (schL w.heap.size W1.heap.size W2.heap.size (.slice (some ⟨Gr, 0, none⟩) m.zones.length cap) (.slice (some ⟨w5.heap.size, 0, none⟩) m.zones.length m.zones.length)) Gr (Gr + 1) (.slice (some ⟨Gr, 0, none⟩) m.zones.length cap) (roomL g m x) := by
    rw [← hW7]
    refine ⟨Below.setCell (bnext B5.out HB6.out) (show w.heap.size ≤ X by omega) _, (HM5.out.below HB6.out HM5.out.lt).other (a := ⟨X, 4, none⟩) hXb.1 _, (HP5.out.below HB6.out HP5.out.lt).other (a := ⟨X, 4, none⟩) hXb.2.1 _, (HG5.out.below HB6.out HG5.out.lt).other (a := ⟨X, 4, none⟩) hXb.2.2 _, X6.out.set 4 _, ?_, ⟨by omega, ?_⟩, ⟨?_, ?_, ?_, ?_⟩, .inr hGl⟩
    · rw [roomL_len]
      exact (HR5.out.below HB6.out).turn ((Turn.refl X (X + 1) w6).set (Nat.le_refl _) (Nat.lt_succ_self _) 4 _) (by omega)
    · have := HO6.out.lt
      simpa [World.setCell] using this
    · exact Nat.ne_of_lt HM5.out.lt
    · exact Nat.ne_of_lt HP5.out.lt
    · exact Nat.ne_of_lt HG5.out.lt
    · exact Nat.ne_of_lt xl
  have O7 : Own W7 w5.heap.size 2 ((zeroZ m).flatMap putI) := hW7 ▸ HO6.out.other (a := ⟨X, 4, none⟩) (show X ≠ w5.heap.size from Nat.ne_of_lt xl) _
  have hww5 : w.heap.size ≤ w5.heap.size := by omega
  rw [hW7]
  clear hW7 y4 yf yl x3 x4 xl xf X6 HO6 HB6 HM5 HP5 HG5 B5 HR5 HX5 hXb hXbs
  obtain ⟨gs, hgs⟩ : ∃ k, w5.heap.size = k := ⟨_, rfl⟩
  rw [hgs] at K7 O7 hww5
  obtain ⟨KK, hK7, hKT, hKF, hWW⟩ : ∃ KK : World → Prop, KK W7 ∧ (∀ wr wr', KK wr → Turn gs (gs + 1) wr wr' → KK wr') ∧ (∀ wr, KK wr → SearchAt w X gs W2.heap.size Gr cap m x g wr) ∧ (∀ wr st, KK wr → Own wr gs 2 (st.flatMap putI) → StepsB g m x st → Calls Tryz.prog 50 #[.pointer (some ⟨X, 0, none⟩)] wr fun e w' => e = .returned (.int .i64 (worstZ g m x st)) ∧ Below wr.heap.size wr w') :=
    ⟨fun wr => GrdK w wr X gs w.heap.size W1.heap.size W2.heap.size zo wo bo lo zc wc bc lc m x g 95 (schL w.heap.size W1.heap.size W2.heap.size (.slice (some ⟨Gr, 0, none⟩) m.zones.length cap) (.slice (some ⟨gs, 0, none⟩) m.zones.length m.zones.length)) Gr (Gr + 1) (.slice (some ⟨Gr, 0, none⟩) m.zones.length cap) (roomL g m x), K7, fun _ _ h t => h.turn t, fun _ h => search_of hz18.1 h, fun wr st h o hst => spec_worst w wr X gs w.heap.size W1.heap.size W2.heap.size zo wo bo lo zc wc bc lc m x g Gr (Gr + 1) (.slice (some ⟨Gr, 0, none⟩) m.zones.length cap) (roomL g m x) st h HR.out HRR.out HX.out HMB.out HZB.out HGB.out o hst⟩
  have HKT := Lib.hid hKT
  have HKF := Lib.hid hKF
  have HW := Lib.hid hWW
  have HS0 := Lib.hid (stands_zero (m := m) (x := x) HGB.out)
  obtain ⟨now0, hnow0⟩ : ∃ k, worstZ g m x (zeroZ m) = k := ⟨_, rfl⟩
  have HW7 := Lib.hid (hWW W7 (zeroZ m) hK7 O7 (zero_ok HGB.out m x))
  rw [hnow0] at HS0 HW7
  have K7 := Lib.hid hK7
  have O7 := Lib.hid O7
  have hmt := goalB_most HGB.out
  clear hKT hKF hWW hnow0 hK7 HR HRR HX HMB HZB
  refine HW7.out.mono ?_; rintro e w8 ⟨rfl, b8⟩
  have K8 := Lib.hid (HKT.out _ _ K7.out (Turn.of_below b8))
  have O8 := Lib.hid (O7.out.below b8 O7.out.lt)
  obtain ⟨s3, s4, sX, s5, sq, sg, sG, sne, swg, sB, sR⟩ := HKF.out _ K8.out
  clear b8 K7 O7 HW7 hi hz0 hz1 hz2 s3 s4 sX sG sne sB sR
  clear s5 sq sg swg
  go_wp2_with fail
  go_loopw [10] (fun i wr => ∃ (st : List Int) (now : Int), i = .int .i64 now ∧ Stands g m x st now ∧ KK wr ∧ Own wr gs 2 (st.flatMap putI)) (fun i _ => (intOf i).toNat)
  case atStart => exact ⟨zeroZ m, now0, rfl, HS0.out, K8.out, O8.out⟩
  case round =>
    clear HS0 K8 O8
    obtain ⟨st, now, rfl, hS, hK, hO⟩ := hrel
    obtain ⟨s3, s4, sX, s5, sq, sg, sG, sne, swg, sB, sR⟩ := HKF.out _ hK
    have HS := Lib.hid hS
    have HK := Lib.hid hK
    have HO := Lib.hid hO
    have HB := Lib.hid sB
    by_cases ht : now ≤ g.tol
    · by_cases hneg : now < 0
      · obtain ⟨st', h6'⟩ := stands_neg hS hneg
        have H6 := Lib.hid (grdC_6 HAC.out h6')
        clear hS hK hO sB sR h6' hmt
        go_wp2_with fail
        refine bodyPost_ret (v := .tuple #[.slice none 0 0, .int .i64 6]) (by simp [results, Tryz.results23, go_sem]) rfl ?_
        exact ⟨GrdE_err H6.out (by decide), HB.out⟩
      · have H0 := Lib.hid (stands_stop hS hneg ht)
        have hln : st.length = m.zones.length := hS.1.1
        have HCU := Lib.hid (by
          have q := spec_l10Cuts wr (some ⟨gs, 0, none⟩) m.zones.length st (own_ints hO hln (by omega)) (by omega)
          rw [hln] at q
          exact q : Calls Tryz.prog 51 #[.slice (some ⟨gs, 0, none⟩) m.zones.length m.zones.length] wr fun e w' => (∃ r, e = .returned r ∧ w'.ownsRow wr.heap.size 80 2 r (cutsZ st).length ((cutsZ st).flatMap Cut.put)) ∧ Below wr.heap.size wr w')
        have hwr := sB.size
        clear hS hK hO sB sR hln hmt
        go_wp2_with fail
        refine HCU.out.mono ?_; rintro e w9 ⟨⟨r9, rfl, o9⟩, b9⟩
        have O9 := Lib.hid (own_baseZ o9 hwr)
        have B9 := Lib.hid (bnext HB.out b9)
        obtain ⟨ro9, rc9, er9⟩ := (own_rd o9).form
        subst er9
        clear o9 b9 HCU
        go_wp2_with fail
        refine bodyPost_ret (v := .tuple #[.slice ro9 (cutsZ st).length rc9, .int .i64 0]) (by simp [results, Tryz.results23, go_sem]) rfl ?_
        exact ⟨GrdE_ok HAC.out H0.out O9.out, B9.out⟩
    · have h0 : 0 ≤ now := by omega
      have hln : Hid (st.length = m.zones.length) := Lib.hid hS.1.1
      have HST := Lib.hid hS.1
      have HPK : Hid (pickS g m x st = spS (moreZ g m x st) (fullZ g m x st) m.zones.length) := Lib.hid rfl
      have HI0 : Hid (spS (moreZ g m x st) (fullZ g m x st) 0 = (-1, 0)) := Lib.hid rfl
      have HVB := Lib.hid (fun j => worstZ_bd HGB.out m x (incZ st j))
      obtain ⟨wq, hwq⟩ : ∃ wq : World, wq = wr := ⟨_, rfl⟩
      subst hwq
      have hnow : now ≤ 312000 := hS.2.2.1
      clear hS hK hO sB sR s3 s4 sX sg sG sne swg
      go_wp2_with fail
      clear s5 sq
      go_loopw [11, 12, 13] (fun b l i wr => ∃ (j : Nat), j ≤ m.zones.length ∧ i = .int .i64 j ∧ b = .int .i64 (spS (moreZ g m x st) (fullZ g m x st) j).1 ∧ l = .int .i64 (spS (moreZ g m x st) (fullZ g m x st) j).2 ∧ KK wr ∧ Own wr gs 2 (st.flatMap putI)) (fun _ _ i _ => m.zones.length - (intOf i).toNat)
      case atStart => exact ⟨0, Nat.zero_le _, rfl, rfl, rfl, HK.out, HO.out⟩
      case round =>
        clear HK HO HB
        obtain ⟨j, hj, rfl, rfl, rfl, hK, hO⟩ := hrel
        obtain ⟨s3, s4, sX, s5, sq, sg, sG, sne, swg, sB, sR⟩ := HKF.out _ hK
        have HK := Lib.hid hK
        have HO := Lib.hid hO
        have HB := Lib.hid sB
        by_cases hlt : j < m.zones.length
        · have hjs : j < st.length := by rw [hln.out]; exact hlt
          have c0 := step_cell hO hjs
          have r0 := sR j hlt
          have hbd := HST.out.2 j hlt
          have hfull : Hid (fullZ g m x st j = decide (st[j] = roomZ g m x j)) := Lib.hid (by unfold fullZ; rw [getD_at hjs])
          have HUP := Lib.hid (step_up hO hjs)
          have HDN := Lib.hid (fun (w' : World) (o : Own w' gs 2 ((incZ st j).flatMap putI)) => step_down o hjs)
          have HC2 := Lib.hid (fun (w' : World) (o : Own w' gs 2 ((incZ st j).flatMap putI)) => step_cell2 o hjs)
          have hsb := HST.out.bd st[j] (List.getElem_mem hjs)
          have hs20 : st[j] ≠ roomZ g m x j → st[j] < 20 := fun q => by
            have q1 := HST.out.2 j hlt
            have q2 := mostZ_le x m.zones j
            rw [getD_at hjs] at q1
            unfold roomZ at q1 q
            omega
          have f0 := hO.free j
          obtain ⟨s, hs'⟩ : ∃ s, st[j] = s := ⟨_, rfl⟩
          rw [hs'] at c0 hfull HUP HDN HC2 hsb hs20
          obtain ⟨rz, hrz⟩ : ∃ s, roomZ g m x j = s := ⟨_, rfl⟩
          rw [hrz] at r0 hfull hs20
          have hjI : (j : Int) < (m.zones.length : Int) := by omega
          have hj0 : (0 : Int) ≤ (j : Int) := by omega
          obtain ⟨c, hc⟩ : ∃ c, spS (moreZ g m x st) (fullZ g m x st) j = c := ⟨_, rfl⟩
          have HC := Lib.hid hc
          obtain ⟨B, Lz⟩ := c
          rw [hc]
          have hcb := spS_bd (moreZ g m x st) (fullZ g m x st) j
          rw [hc] at hcb
          clear hK hO sB sR hs' hrz hc hjs hbd s5 sq swg sne
          by_cases he : s = rz
          · have hf : Hid (fullZ g m x st j = true) := Lib.hid (by rw [hfull.out]; exact decide_eq_true he)
            have HNX : Hid (spS (moreZ g m x st) (fullZ g m x st) (j + 1) = (B, Lz)) := Lib.hid ((spS_full hf.out).trans HC.out)
            subst he
            go_wp2_with fail
            go_region
            go_wp2_with fail
            go_roundw
            case rel => exact ⟨j + 1, by omega, by go_num, by rw [HNX.out], by rw [HNX.out], HKT.out _ _ HK.out (Turn.of_below (Below.refl _ _).drew), HO.out⟩
            case measure => simp [intOf]; omega
          · have hf : Hid (fullZ g m x st j = false) := Lib.hid (by rw [hfull.out]; exact decide_eq_false he)
            have tne : (s == rz) = false := by simp [he]
            have hsr : s < 20 := hs20 he
            clear hs20
            have HE := Lib.hid he
            clear he
            go_wp2_with fail
            go_region
            go_wp2_with fail
            have KU : KK (wr.setCell ⟨gs, j, none⟩ (.int .i64 (s + 1))).drew := HKT.out _ _ HK.out ((turn_one wr gs j _).trans (Turn.of_below (Below.refl _ _).drew))
            have OU : Own (wr.setCell ⟨gs, j, none⟩ (.int .i64 (s + 1))).drew gs 2 ((incZ st j).flatMap putI) := HUP.out
            refine (HW.out _ (incZ st j) KU OU (HST.out.inc hlt hf.out)).mono ?_; rintro e w9 ⟨rfl, b9⟩
            have K9 := Lib.hid (HKT.out _ _ KU (Turn.of_below b9))
            have O9 := Lib.hid (OU.below b9 OU.lt)
            obtain ⟨t3, t4, tX, t5, tq, tg, tG, tn, twg, tB, tR⟩ := HKF.out _ K9.out
            have d0 := HC2.out _ O9.out
            have df := O9.out.free j
            have ODN := Lib.hid (HDN.out _ O9.out)
            have hv : worstZ g m x (incZ st j) = moreZ g m x st j := rfl
            have hvb := HVB.out j
            rw [hv] at hvb ⊢
            obtain ⟨v, hv2⟩ : ∃ v, moreZ g m x st j = v := ⟨_, rfl⟩
            rw [hv2] at hvb ⊢
            have HNT : Hid (0 ≤ v ∧ (B < 0 ∨ v < Lz) → spS (moreZ g m x st) (fullZ g m x st) (j + 1) = ((j : Int), v)) := Lib.hid (fun q => by
              rw [spS_take hf.out (by rw [hv2, HC.out]; exact q), hv2])
            have HNK : Hid (¬ (0 ≤ v ∧ (B < 0 ∨ v < Lz)) → spS (moreZ g m x st) (fullZ g m x st) (j + 1) = (B, Lz)) := Lib.hid (fun q => by
              rw [spS_keep hf.out (by rw [hv2, HC.out]; exact q), HC.out])
            clear b9 KU OU hv hv2 s3 s4 sX sG sg c0 f0 r0 t3 t5 tq tG tn twg tB tR tne O9 HUP HC2 HDN
            have KD := Lib.hid (HKT.out _ _ K9.out (turn_one w9 gs j (.int .i64 s)))
            go_wp2_with fail
            all_goals
              refine ⟨⟨j + 1, by omega, by go_num, ?_, ?_, KD.out, ODN.out⟩, by simp [intOf]; omega⟩
            all_goals first | (rw [HNK.out (by omega)]; done) | (rw [HNT.out (by omega)]; done)
        · obtain rfl : j = m.zones.length := by omega
          obtain ⟨c, hc⟩ : ∃ c, spS (moreZ g m x st) (fullZ g m x st) m.zones.length = c := ⟨_, rfl⟩
          obtain ⟨B, Lz⟩ := c
          have hpk : pickS g m x st = (B, Lz) := HPK.out.trans hc
          have hfst : (pickS g m x st).1 = B := by rw [hpk]
          have hsnd : (pickS g m x st).2 = Lz := by rw [hpk]
          rw [hc]
          by_cases hp : B < 0 ∨ now ≤ Lz
          · have H6 := Lib.hid (grdC_6 HAC.out (stands_lost HS.out h0 (by omega) (by rw [hfst, hsnd]; exact hp)))
            clear hK hO sB sR hpk hfst hsnd hc s4 sG sg sne swg
            go_wp2_with fail
            all_goals (refine bodyPost_ret (v := .tuple #[.slice none 0 0, .int .i64 6]) (by simp [results, Tryz.results23, go_sem]) rfl ?_; exact ⟨GrdE_err H6.out (by decide), HB.out⟩)
          · obtain ⟨z, e1, e2, e3, e4, S'⟩ := stands_next HGB.out HS.out h0 (by omega) (by rw [hfst, hsnd]; exact hp)
            rw [hfst] at e1
            rw [hsnd] at e3 e4 S'
            subst e1
            have hzs : z < st.length := by rw [hln.out]; exact e2
            have c0 := step_cell hO hzs
            have f0 := hO.free z
            have hsb := HST.out.bd st[z] (List.getElem_mem hzs)
            have HUP := Lib.hid (step_up hO hzs)
            obtain ⟨s, hs'⟩ : ∃ s, st[z] = s := ⟨_, rfl⟩
            rw [hs'] at c0 hsb HUP
            have HSS := Lib.hid S'
            have KU := Lib.hid (HKT.out _ _ HK.out (turn_one wr gs z (.int .i64 (s + 1))))
            have hzI : (z : Int) < (m.zones.length : Int) := by omega
            have hz0 : (0 : Int) ≤ (z : Int) := by omega
            clear hK hO sB sR hpk hfst hsnd hc hs' S' sG sne swg hzs
            go_wp2_with fail
            exact ⟨⟨incZ st z, Lz, rfl, HSS.out, KU.out, HUP.out⟩, by simp [intOf]; omega⟩
end Go.Proofs.YtcjekailcljaaaaGreat
