/- Contracts and plain facts, joined: GrdR. -/
import Derived.Test.YtcjekailcljaaaaGreatRows
import Derived.Test.YtcjekailcljaaaaGreatZFnExactGreedyPlanZH
import Derived.Test.YtcjekailcljaaaaGreatZFnExactGreedyPlanZI
import Derived.Deep.RegionHeld3
namespace Go.Proofs.YtcjekailcljaaaaGreat
open Go.ChangeShapes Go.WideShapes Go.ChangeAt Go.RowKit Go.Deep Go.Joins
set_option linter.unusedVariables false
set_option maxRecDepth 100000
set_option linter.unusedSimpArgs false
set_option maxHeartbeats 4000000 in
theorem spec_raw (w0 w : World) (X gs bm bp bq : Nat) (zo wo bo lo : Option Addr) (zc wc bc lc : Nat) (m : Mdl) (x : Profile) (g : GoalX) (rl rh : Nat) (rv : Value) (R : List Int) (st : List Int)
    (hK : GrdK w0 w X gs bm bp bq zo wo bo lo zc wc bc lc m x g 95 (schL bm bp bq rv (.slice (some ⟨gs, 0, none⟩) m.zones.length m.zones.length)) rl rh rv R)
    (hr : RdMdl w0.heap.size w0 (.slice zo m.zones.length zc) (.slice wo m.rows.length wc) (.slice bo m.base.length bc) m) (hR : RdR w0 lo lc x.rings) (hx : profB x = true) (hmb : mdlB m = true) (hzb : zonesB x.rings.length m.zones = true) (o : Own w gs 2 (st.flatMap putI)) (hst : StepsB g m x st) :
    Calls Tryz.prog 92 #[.pointer (some ⟨X, 0, none⟩)] w fun e w' => ∃ r, e = .returned r ∧ w'.ownsRow w.heap.size 2 1 r 5 ((rawZ m (turnedS m.zones st x.rings)).flatMap putI) ∧ Below w.heap.size w w' := by
  have hz18 := (zonesB_parts hzb).1
  obtain ⟨i0, hi, hz0, hz1, hz2⟩ := info_parts info_i64
  have HK := Lib.hid hK
  have HO := Lib.hid o
  have HL := Lib.hid hst.1
  have H8 : Hid (st.length ≤ 8) := Lib.hid (by rw [hst.1]; exact hz18.2)
  have HT := Lib.hid (fun (w' : World) (hb : Below w.heap.size w w') (G : Nat) (q : Own w' G 2 ((padK st m.zones.length).flatMap putI)) => spec_turnO w' bp G 8 x lo lc zo zc m.zones (padK st m.zones.length) ((hK.below hb).prof) (hR.up (hK.below hb).1) hx ((hr.up (hK.below hb).1).1) hz18 q (padK_len (by rw [hst.1]; exact Nat.le_refl _) (by rw [hst.1]; exact hz18.2)) hz18.2 (by omega) (padK_bd hst.bd _))
  have HRW := Lib.hid (fun (w' : World) (hb : Below w.heap.size w w') (a G c : Nat) (hp : ProfAt w' a (turnX x m.zones st) (some ⟨G, 0, none⟩) c) (hRR : RdR w' (some ⟨G, 0, none⟩) c (turnX x m.zones st).rings) => spec_l08Raw w' bm a zo wo bo (some ⟨G, 0, none⟩) zc wc bc c m (turnX x m.zones st) ((hK.below hb).mdl) (hr.up (hK.below hb).1) hmb hp hRR (profB_true (hst.valid hx hz18.1)).2.2.1 (profB_true (hst.valid hx hz18.1)).1 (profB_true (hst.valid hx hz18.1)).2.1 (by rw [turnX_len]; exact hzb))
  have HPT : Hid (turnX x m.zones (padK st m.zones.length) = turnX x m.zones st) := Lib.hid (by unfold turnX; rw [pad_turn x.rings hz18.1 hst.1])
  clear hr hR hx hmb hzb hst hK o
  go_enter Tryz.func92, Tryz.ntmps92
  go_wp2_with (at_make; refine wpList_make_blk _ rfl _ _ 22 rfl 2 i0 (.int .i64 0) 1 8 Tryz.underlying22 hi hz0 hz1 hz2 _ _ _ _ 8 rfl rfl rfl rfl (by omega) (by unfold maxLen; omega) ?_; intro w1 ho hb hs)
  rw [madeN, ← padK_zero st] at ho
  have O1 := Lib.hid ho
  have B1 := Lib.hid hb
  clear ho hb hs hi hz0 hz1 hz2
  go_loopw [4] (fun i wr => ∃ (k : Nat), k ≤ m.zones.length ∧ i = .int .i64 k ∧ Own wr w.heap.size 2 ((padK st k).flatMap putI) ∧ Below w.heap.size w wr) (fun i _ => m.zones.length - (intOf i).toNat)
  case atStart => exact ⟨0, Nat.zero_le _, rfl, O1.out, B1.out⟩
  case round =>
    clear O1 B1
    obtain ⟨k, hk, rfl, ho, hb⟩ := hrel
    have BR := Lib.hid hb
    have OR := Lib.hid ho
    have KR := HK.out.below hb
    have x4 : wr.cell? ⟨X, 4, none⟩ = some (.slice (some ⟨gs, 0, none⟩) m.zones.length m.zones.length) := KR.sch.cell 4
    have xl := KR.sch.lt
    by_cases hlt : k < m.zones.length
    · have hks : k < st.length := by rw [HL.out]; exact hlt
      have os := HO.out.below hb HO.out.lt
      have s0 : wr.cell? ⟨gs, k, none⟩ = some (.int .i64 st[k]) := by rw [os.cell, putI_get _ k hks]
      have d0 := pad_cell ho hks H8.out
      have f0 := ho.free k
      have hg := ho.lt
      have hgs := os.lt
      have hk8 : (k : Int) < 8 := by omega
      have hk0 : (0 : Int) ≤ (k : Int) := by omega
      have ST := Lib.hid (pad_store ho hks H8.out)
      obtain ⟨s, hs⟩ : ∃ s, st[k] = s := ⟨_, rfl⟩
      rw [hs] at s0 ST
      clear ho hb KR os hs hks
      go_wp2_with fail
      go_roundw
      case rel => exact ⟨k + 1, by omega, by go_num, ST.out, Below.setCell BR.out (Nat.le_refl _) _⟩
      case measure => simp [intOf]; omega
    · obtain rfl : k = m.zones.length := by omega
      have x0 : wr.cell? ⟨X, 0, none⟩ = some (.pointer (some ⟨bm, 0, none⟩)) := KR.sch.cell 0
      have x1 : wr.cell? ⟨X, 1, none⟩ = some (.pointer (some ⟨bp, 0, none⟩)) := KR.sch.cell 1
      have b0 : wr.cell? ⟨bm, 0, none⟩ = some (.slice zo m.zones.length zc) := KR.2.1.cell 0
      have bl := KR.2.1.lt
      have HKR := Lib.hid KR
      have hzw : w.heap.size ≤ wr.heap.size := hb.size
      clear ho hb KR
      have hne1 : ¬ wr.heap.size = X := Nat.ne_of_gt xl
      have hne2 : ¬ X = wr.heap.size := Nat.ne_of_lt xl
      have hne3 : ¬ wr.heap.size = bm := Nat.ne_of_gt bl
      have hne4 : ¬ bm = wr.heap.size := Nat.ne_of_lt bl
      go_wp2_with fail
      go_region_held3 (fun w' => w'.cell? ⟨X, 1, none⟩ = some (.pointer (some ⟨bp, 0, none⟩)) ∧ w'.cell? ⟨X, 0, none⟩ = some (.pointer (some ⟨bm, 0, none⟩)) ∧ w'.cell? ⟨bm, 0, none⟩ = some (.slice zo m.zones.length zc)) (first | (with_reducible assumption) | (go_keep; done) | (simp [go_sem, hne1, hne2, hne3, hne4, HS3.1, HS3.2.1, HS3.2.2]; done) | (simp [go_sem, hnx1, hnx2, hnx3, hnx4, HS3.1, HS3.2.1, HS3.2.2]; done)) (first
        | (go_at_call 61
           refine (HT.out _ (by exact BR.out.trans (by (repeat' (first | (with_reducible exact Below.refl _ _) | (with_reducible assumption) | (with_reducible refine below_dn ?_ _) | (with_reducible refine Below.drew ?_) | (with_reducible refine Below.alloc ?_ ?_ _) | (with_reducible refine Below.setCell ?_ ?_ _) | go_size)))) w.heap.size (by exact OR.out.below (B := wr.heap.size) (by (repeat' (first | (with_reducible exact Below.refl _ _) | (with_reducible assumption) | (with_reducible refine below_dn ?_ _) | (with_reducible refine Below.drew ?_) | (with_reducible refine Below.alloc ?_ ?_ _) | (with_reducible refine Below.setCell ?_ ?_ _) | go_size))) OR.out.lt)).mono ?_; rintro e w3 ⟨g3, c3, rfl, o3, b3⟩
           have B3 : Below wr.heap.size wr w3 := Below.trans (by (repeat' (first | (with_reducible exact Below.refl _ _) | (with_reducible assumption) | (with_reducible refine below_dn ?_ _) | (with_reducible refine Below.drew ?_) | (with_reducible refine Below.alloc ?_ ?_ _) | (with_reducible refine Below.setCell ?_ ?_ _) | go_size))) (b3.mono (by simp <;> omega))
           have HS3 : w3.cell? ⟨X, 1, none⟩ = some (.pointer (some ⟨bp, 0, none⟩)) ∧ w3.cell? ⟨X, 0, none⟩ = some (.pointer (some ⟨bm, 0, none⟩)) ∧ w3.cell? ⟨bm, 0, none⟩ = some (.slice zo m.zones.length zc) := ⟨(B3.cell (p := ⟨X, 1, none⟩) xl).trans x1, (B3.cell (p := ⟨X, 0, none⟩) xl).trans x0, (B3.cell (p := ⟨bm, 0, none⟩) bl).trans b0⟩
           have O3 := Lib.hid o3
           have HB3 := Lib.hid B3
           first
             | (have b3' : Below (wr.alloc (.cells #[.string ⟨#[]⟩, .slice none 0 0] 43)).drew.heap.size (wr.alloc (.cells #[.string ⟨#[]⟩, .slice none 0 0] 43)).drew w3 := b3
                have ON : Own (wr.alloc (.cells #[.string ⟨#[]⟩, .slice none 0 0] 43)).drew wr.heap.size 43 [.string ⟨#[]⟩, .slice none 0 0] := Own.new wr _ _
                have OX : Hid (Own w3 wr.heap.size 43 [.string ⟨#[]⟩, .slice none 0 0]) := Lib.hid (ON.below b3' ON.lt)
                have p0 : w3.cell? ⟨wr.heap.size, 0, none⟩ = some (.string ⟨#[]⟩) := OX.out.cell 0
                have p1 : w3.cell? ⟨wr.heap.size, 1, none⟩ = some (.slice none 0 0) := OX.out.cell 1
                have fp0 := OX.out.free 0
                have fp1 := OX.out.free 1
                have hlp := OX.out.lt
                clear b3 o3 B3 b3' ON)
             | (have hnx1 : ¬ w3.heap.size = X := Nat.ne_of_gt (Nat.lt_of_lt_of_le xl B3.size)
                have hnx2 : ¬ X = w3.heap.size := Nat.ne_of_lt (Nat.lt_of_lt_of_le xl B3.size)
                have hnx3 : ¬ w3.heap.size = bm := Nat.ne_of_gt (Nat.lt_of_lt_of_le bl B3.size)
                have hnx4 : ¬ bm = w3.heap.size := Nat.ne_of_lt (Nat.lt_of_lt_of_le bl B3.size)
                clear b3 o3 B3)))
      · obtain ⟨W4, hW4⟩ : ∃ W4, w3.alloc (.cells #[.string x.name, .slice (some ⟨g3, 0, none⟩) x.rings.length c3] 43) = W4 := ⟨_, rfl⟩
        have b4 : Below w3.heap.size w3 W4 := hW4 ▸ (Below.refl _ _).alloc (Nat.le_refl _) _
        have P4 : Own W4 w3.heap.size 43 [.string x.name, .slice (some ⟨g3, 0, none⟩) x.rings.length c3] := hW4 ▸ Own.new w3 _ _
        have O4 := RdR.up (turn_rd O3.out) b4
        have B4 := bnext HB3.out b4
        have BB4 := Lib.hid (BR.out.trans (B4.mono hzw))
        have y0 : W4.cell? ⟨X, 0, none⟩ = some (.pointer (some ⟨bm, 0, none⟩)) := (B4.cell (p := ⟨X, 0, none⟩) xl).trans x0
        have yl : X < W4.heap.size := Nat.lt_of_lt_of_le xl B4.size
        rw [HPT.out] at O4
        have HRR := Lib.hid (HRW.out W4 BB4.out w3.heap.size g3 c3 ⟨P4.cell 0, by rw [turnX_len]; exact P4.cell 1, P4.lt⟩ O4)
        clear b4 P4 O4 B4 HS3 O3 HB3 hnx1 hnx2 hnx3 hnx4
        subst hW4
        go_wp2_with fail
        refine HRR.out.mono ?_; rintro e w5 ⟨r5, rfl, o5, b5⟩
        have O5 := Lib.hid (own_baseZ o5 BB4.out.size)
        have B5 := Lib.hid (bnext BB4.out b5)
        clear o5 b5
        go_wp2_with fail
        go_ret
        exact ⟨_, rfl, O5.out, B5.out⟩
      · obtain ⟨W4, hW4⟩ : ∃ W4, (w3.setCell ⟨wr.heap.size, 0, none⟩ (.string x.name)).setCell ⟨wr.heap.size, 1, none⟩ (.slice (some ⟨g3, 0, none⟩) x.rings.length c3) = W4 := ⟨_, rfl⟩
        have P4 : Own W4 wr.heap.size 43 [.string x.name, .slice (some ⟨g3, 0, none⟩) x.rings.length c3] := hW4 ▸ (OX.out.set 0 _).set 1 _
        have q1 := own_farZ O3.out (own_apart_type O3.out OX.out (by decide)) 0 (.string x.name)
        have q2 := own_farZ q1 (own_apart_type q1 (OX.out.set 0 (.string x.name)) (by decide)) 1 (.slice (some ⟨g3, 0, none⟩) x.rings.length c3)
        rw [hW4] at q2
        have O4 := turn_rd q2
        have B4 : Below wr.heap.size wr W4 := hW4 ▸ Below.setCell (Below.setCell HB3.out (Nat.le_refl wr.heap.size) _) (Nat.le_refl wr.heap.size) _
        have BB4 := Lib.hid (BR.out.trans (B4.mono hzw))
        have y0 : W4.cell? ⟨X, 0, none⟩ = some (.pointer (some ⟨bm, 0, none⟩)) := (B4.cell (p := ⟨X, 0, none⟩) xl).trans x0
        have yl : X < W4.heap.size := Nat.lt_of_lt_of_le xl B4.size
        rw [HPT.out] at O4
        have HRR := Lib.hid (HRW.out W4 BB4.out wr.heap.size g3 c3 ⟨P4.cell 0, by rw [turnX_len]; exact P4.cell 1, P4.lt⟩ O4)
        clear P4 q1 q2 O4 B4 HS3 O3 HB3 p0 p1 fp0 fp1 hlp OX
        rw [hW4]
        go_wp2_with fail
        refine HRR.out.mono ?_; rintro e w5 ⟨r5, rfl, o5, b5⟩
        have O5 := Lib.hid (own_baseZ o5 BB4.out.size)
        have B5 := Lib.hid (bnext BB4.out b5)
        clear o5 b5
        go_wp2_with fail
        go_ret
        exact ⟨_, rfl, O5.out, B5.out⟩
/-- the greatest deviation of a search's steps -/
theorem devL_bd {g : GoalX} (hg : goalB g = true) {R : List Int} (h5 : R.length = 5) (h : sndL R = true) : ∀ x ∈ devZ (goalL g) R, -312000 ≤ x ∧ x ≤ 312000 := devZ_bd (goalL_all hg) (sndL_all h5 h)
set_option maxHeartbeats 2000000 in
theorem spec_worst (w0 w : World) (X gs bm bp bq : Nat) (zo wo bo lo : Option Addr) (zc wc bc lc : Nat) (m : Mdl) (x : Profile) (g : GoalX) (rl rh : Nat) (rv : Value) (R : List Int) (st : List Int)
    (hK : GrdK w0 w X gs bm bp bq zo wo bo lo zc wc bc lc m x g 95 (schL bm bp bq rv (.slice (some ⟨gs, 0, none⟩) m.zones.length m.zones.length)) rl rh rv R)
    (hr : RdMdl w0.heap.size w0 (.slice zo m.zones.length zc) (.slice wo m.rows.length wc) (.slice bo m.base.length bc) m) (hR : RdR w0 lo lc x.rings) (hx : profB x = true) (hmb : mdlB m = true) (hzb : zonesB x.rings.length m.zones = true) (hgb : goalB g = true) (o : Own w gs 2 (st.flatMap putI)) (hst : StepsB g m x st) :
    Calls Tryz.prog 50 #[.pointer (some ⟨X, 0, none⟩)] w fun e w' => e = .returned (.int .i64 (worstZ g m x st)) ∧ Below w.heap.size w w' := by
  have HRA := Lib.hid (fun (w' : World) (hb : Below w.heap.size w w') => spec_raw w0 w' X gs bm bp bq zo wo bo lo zc wc bc lc m x g rl rh rv R st (hK.below hb) hr hR hx hmb hzb (o.below hb o.lt) hst)
  have HDV := Lib.hid (fun (w' : World) (hb : Below w.heap.size w w') (ro : Option Addr) (rc : Nat) (h : Rd w'.heap.size w' (.slice ro 5 rc) 1 5 ((rawZ m (turnedS m.zones st x.rings)).flatMap putI)) => spec_l10Dev w' bq g ro rc (rawZ m (turnedS m.zones st x.rings)) ((hK.below hb).goal) hgb (rawZ_len ..) h)
  have x2 : w.cell? ⟨X, 2, none⟩ = some (.pointer (some ⟨bq, 0, none⟩)) := hK.sch.cell 2
  have xl := hK.sch.lt
  have HDB := Lib.hid (devL_bd (R := rawZ m (turnedS m.zones st x.rings)) hgb (rawZ_len ..))
  have HWZ : Hid (worstZ g m x st = if sndL (rawZ m (turnedS m.zones st x.rings)) = true then grtZ (devZ (goalL g) (rawZ m (turnedS m.zones st x.rings))) else -1) := Lib.hid rfl
  have HDL : Hid ((devZ (goalL g) (rawZ m (turnedS m.zones st x.rings))).length = 5) := Lib.hid (devZ_len rfl (rawZ_len ..))
  generalize devZ (goalL g) (rawZ m (turnedS m.zones st x.rings)) = D at *
  generalize rawZ m (turnedS m.zones st x.rings) = Q at *
  have hwz : Hid (w.heap.size ≤ w.heap.size) := Lib.hid (Nat.le_refl _)
  clear hK hr hR hx hmb hzb hgb o hst
  obtain ⟨sb, hsb⟩ : ∃ b, sndL Q = b := ⟨_, rfl⟩
  rw [hsb] at HDV HDB HWZ
  clear hsb
  cases sb
  · rw [if_neg (by intro q; cases q)] at HWZ
    have HD2 := Lib.hid (fun (w' : World) (hb : Below w.heap.size w w') (ro : Option Addr) (rc : Nat) (h : Rd w'.heap.size w' (.slice ro 5 rc) 1 5 (Q.flatMap putI)) => (HDV.out w' hb ro rc h).mono fun e w'' h => (⟨by have := h.1; rwa [if_neg (by intro q; cases q)] at this, h.2⟩ : e = .returned (.tuple #[.slice none 0 0, .bool false]) ∧ Below w'.heap.size w' w''))
    rw [HWZ.out]
    clear HDV HDB HWZ
    go_enter Tryz.func50, Tryz.ntmps50
    go_wp2_with fail
    go_region_held3 (fun w' => w'.cell? ⟨X, 2, none⟩ = some (.pointer (some ⟨bq, 0, none⟩))) (first | (with_reducible assumption) | (go_keep; done)) (first
      | (go_at_call 92
         refine (HRA.out _ (by (repeat' (first | (with_reducible exact Below.refl _ _) | (with_reducible assumption) | (with_reducible refine below_dn ?_ _) | (with_reducible refine Below.drew ?_) | (with_reducible refine Below.alloc ?_ ?_ _) | (with_reducible refine Below.setCell ?_ ?_ _) | go_size)))).mono ?_; rintro e w3 ⟨r3, rfl, o3, b3⟩
         have B3 : Below w.heap.size w w3 := Below.trans (by (repeat' (first | (with_reducible exact Below.refl _ _) | (with_reducible assumption) | (with_reducible refine below_dn ?_ _) | (with_reducible refine Below.drew ?_) | (with_reducible refine Below.alloc ?_ ?_ _) | (with_reducible refine Below.setCell ?_ ?_ _) | go_size))) (b3.mono (by simp <;> omega))
         have HS3 : w3.cell? ⟨X, 2, none⟩ = some (.pointer (some ⟨bq, 0, none⟩)) := (B3.cell (p := ⟨X, 2, none⟩) xl).trans x2
         have O3 := Lib.hid (own_rd o3)
         obtain ⟨ro3, rc3, er3⟩ := (own_rd o3).form
         subst er3
         have HB3 := Lib.hid B3
         clear b3 o3 B3)
      | (go_at_call 32
         refine (HD2.out _ HB3.out _ _ O3.out).mono ?_; rintro e w4 ⟨rfl, b4⟩
         have HB4 := Lib.hid (bnext HB3.out b4)
         have HS4 : w4.cell? ⟨X, 2, none⟩ = some (.pointer (some ⟨bq, 0, none⟩)) := (HB4.out.cell (p := ⟨X, 2, none⟩) xl).trans x2
         clear b4))
    all_goals go_wp2_with fail
    all_goals go_ret
    all_goals exact ⟨rfl, HB4.out⟩
  · rw [if_pos rfl] at HWZ
    have HD2 := Lib.hid (fun (w' : World) (hb : Below w.heap.size w w') (ro : Option Addr) (rc : Nat) (h : Rd w'.heap.size w' (.slice ro 5 rc) 1 5 (Q.flatMap putI)) => (HDV.out w' hb ro rc h).mono fun e w'' h => (⟨by have := h.1; rwa [if_pos rfl] at this, h.2⟩ : (∃ r, e = .returned (.tuple #[r, .bool true]) ∧ w''.ownsRow w'.heap.size 2 1 r 5 (D.flatMap putI)) ∧ Below w'.heap.size w' w''))
    have HG := Lib.hid (fun (w' : World) (ro : Option Addr) (rc : Nat) (h : Rd w'.heap.size w' (.slice ro 5 rc) 1 5 (D.flatMap putI)) => (by
      have q := spec_l10Greatest w' ro rc D (by rw [HDL.out]; exact h) (by rw [HDL.out]; omega) (HDB.out rfl)
      rw [HDL.out] at q
      exact q : Calls Tryz.prog 93 #[.slice ro 5 rc] w' fun e w'' => e = .returned (.int .i64 (grtZ D)) ∧ Below w'.heap.size w' w''))
    rw [HWZ.out]
    clear HDV HDB HWZ HDL
    go_enter Tryz.func50, Tryz.ntmps50
    go_wp2_with fail
    go_region_held3 (fun w' => w'.cell? ⟨X, 2, none⟩ = some (.pointer (some ⟨bq, 0, none⟩))) (first | (with_reducible assumption) | (go_keep; done)) (first
      | (go_at_call 92
         refine (HRA.out _ (by (repeat' (first | (with_reducible exact Below.refl _ _) | (with_reducible assumption) | (with_reducible refine below_dn ?_ _) | (with_reducible refine Below.drew ?_) | (with_reducible refine Below.alloc ?_ ?_ _) | (with_reducible refine Below.setCell ?_ ?_ _) | go_size)))).mono ?_; rintro e w3 ⟨r3, rfl, o3, b3⟩
         have B3 : Below w.heap.size w w3 := Below.trans (by (repeat' (first | (with_reducible exact Below.refl _ _) | (with_reducible assumption) | (with_reducible refine below_dn ?_ _) | (with_reducible refine Below.drew ?_) | (with_reducible refine Below.alloc ?_ ?_ _) | (with_reducible refine Below.setCell ?_ ?_ _) | go_size))) (b3.mono (by simp <;> omega))
         have HS3 : w3.cell? ⟨X, 2, none⟩ = some (.pointer (some ⟨bq, 0, none⟩)) := (B3.cell (p := ⟨X, 2, none⟩) xl).trans x2
         have O3 := Lib.hid (own_rd o3)
         obtain ⟨ro3, rc3, er3⟩ := (own_rd o3).form
         subst er3
         have HB3 := Lib.hid B3
         clear b3 o3 B3)
      | (go_at_call 32
         refine (HD2.out _ HB3.out _ _ O3.out).mono ?_; rintro e w4 ⟨⟨r4, rfl, o4⟩, b4⟩
         have HB4 := Lib.hid (bnext HB3.out b4)
         have HS4 : w4.cell? ⟨X, 2, none⟩ = some (.pointer (some ⟨bq, 0, none⟩)) := (HB4.out.cell (p := ⟨X, 2, none⟩) xl).trans x2
         have O4 := Lib.hid (own_rd o4)
         obtain ⟨ro4, rc4, er4⟩ := (own_rd o4).form
         subst er4
         clear b4 o4))
    all_goals go_wp2_with fail
    all_goals (refine (HG.out _ _ _ O4.out).mono ?_; rintro e w5 ⟨rfl, b5⟩; have HB5 := Lib.hid (bnext HB4.out b5); clear b5; go_wp2_with fail; go_ret; exact ⟨rfl, HB5.out⟩)
end Go.Proofs.YtcjekailcljaaaaGreat
