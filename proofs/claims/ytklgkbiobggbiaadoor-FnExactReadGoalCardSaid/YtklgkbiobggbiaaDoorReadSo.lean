/- l04Read: the reference reads a sound. -/
import Derived.Test.YtklgkbiobggbiaaDoorRows
import Derived.Test.YtklgkbiobggbiaaDoorReadSoL
import Derived.Test.YtklgkbiobggbiaaDoorReadHz
import Derived.Test.YtklgkbiobggbiaaDoorSoundV
namespace Go.Proofs.YtklgkbiobggbiaaDoor
open Go.ChangeShapes Go.WideShapes Go.ChangeAt Go.RowKit Go.Deep Go.Joins
set_option linter.unusedVariables false
set_option maxRecDepth 100000
set_option linter.unusedSimpArgs false
theorem str_own {w : World} {base n : Nat} {r : Value} {ws : List ByteArray} (h : w.ownsRow base 9 1 r n (ws.flatMap putStr)) (h0 : 0 < n) : ∃ g cap U, r = .slice (some ⟨g, 0, none⟩) n cap ∧ base ≤ g ∧ Own w g 9 (ws.flatMap putStr ++ U) := by
  rcases own_form h with ⟨_, q⟩ | ⟨g, cap, rfl⟩
  · omega
  obtain ⟨U, ou⟩ := own_block h
  exact ⟨g, cap, U, rfl, (h.lt g rfl).1, ou⟩
theorem own_str {w : World} {g : Nat} {E : TypeId} {ws : List ByteArray} {U : List Value} (h : Own w g E (ws.flatMap putStr ++ U)) {k : Nat} (hk : k < ws.length) : w.cell? ⟨g, k, none⟩ = some (.string ws[k]) := by
  rw [h.cell, List.getElem?_append_left (by rw [putStr_len]; omega), putStr_get ws k hk]
theorem int_snocF (xs : List Int) (a : Int) : (xs ++ [a]).flatMap putI = xs.flatMap putI ++ [.int .i64 a] := by rw [List.flatMap_append]; rfl
theorem sndF_bd {ws : List ByteArray} {a b c d e : Int} (h : ws.map hertzR = [a, b, c, d, e].map some) : ∀ z ∈ [a, b, c, d, e], 10000 ≤ z ∧ z ≤ 20000000 := by
  intro z hz
  exact inB_true (List.all_eq_true.1 (map_hertz h).2.2 z hz)
set_option maxHeartbeats 4000000 in
theorem spec_l04Read (s : ByteArray) (w : World) (hs : s.size ≤ 1048576) :
    Calls Tryd.prog 49 #[.string s] w fun e w' => e = .returned (.tuple #[.agg #[.int .i64 (sndV s).a, .int .i64 (sndV s).b, .int .i64 (sndV s).c, .int .i64 (sndV s).d, .int .i64 (sndV s).e], .bool (sndR s).isSome]) ∧ Below w.heap.size w w' := by
  have HR0 : Hid (Own (w.alloc (.cells #[.int .i64 0, .int .i64 0, .int .i64 0, .int .i64 0, .int .i64 0] 43)) w.heap.size 43 [.int .i64 0, .int .i64 0, .int .i64 0, .int .i64 0, .int .i64 0]) := Lib.hid (Own.new w _ _)
  have HB0 : Hid (Below w.heap.size w (w.alloc (.cells #[.int .i64 0, .int .i64 0, .int .i64 0, .int .i64 0, .int .i64 0] 43))) := Lib.hid ((Below.refl _ _).alloc (Nat.le_refl _) _)
  have H32 := Lib.hid (fun w' => spec_l01Split 32 s w' hs)
  have hwz := Lib.hid (fun x (hx : x ∈ partsS 32 s) => partsS_size x hx)
  by_cases h5 : (partsS 32 s).length = 5
  case neg =>
    have e := Lib.hid (sndV_none (sndR_not5 h5))
    have t2 : (((partsS 32 s).length : Int) != 5) = true := bne_iff_ne.2 (by omega)
    clear h5
    generalize partsS 32 s = ws at *
    go_enter Tryd.func49, Tryd.ntmps49
    go_wp2_with fail
    refine (H32.out _).mono ?_; rintro e w1 ⟨rv, rfl, o1, b1⟩
    obtain ⟨ro, rx, rfl⟩ := (own_rd o1).form
    have HR1 := Lib.hid (HR0.out.below b1 HR0.out.lt)
    have HB1 := Lib.hid (bnext HB0.out b1)
    clear o1 b1 HR0 HB0
    have q0 : w1.cell? ⟨w.heap.size, 0, none⟩ = some (.int .i64 0) := HR1.out.cell 0
    have q1 : w1.cell? ⟨w.heap.size, 1, none⟩ = some (.int .i64 0) := HR1.out.cell 1
    have q2 : w1.cell? ⟨w.heap.size, 2, none⟩ = some (.int .i64 0) := HR1.out.cell 2
    have q3 : w1.cell? ⟨w.heap.size, 3, none⟩ = some (.int .i64 0) := HR1.out.cell 3
    have q4 : w1.cell? ⟨w.heap.size, 4, none⟩ = some (.int .i64 0) := HR1.out.cell 4
    have fq0 := HR1.out.free 0
    have fq1 := HR1.out.free 1
    have fq2 := HR1.out.free 2
    have fq3 := HR1.out.free 3
    have fq4 := HR1.out.free 4
    have hltq : w.heap.size < w1.heap.size := HR1.out.lt
    have hneq : ¬ w.heap.size = w1.heap.size := by omega
    go_wp2_with fail
    have hb := HB1.out
    exact bodyPost_ret (v := .tuple #[.agg #[.int .i64 0, .int .i64 0, .int .i64 0, .int .i64 0, .int .i64 0], .bool false]) (by simp [results, Tryd.results49, go_sem, q0, q1, q2, q3, q4, hltq, hneq]) rfl ⟨by rw [e.out.1, e.out.2]; try rfl, by (repeat' (first | (with_reducible exact Below.refl _ _) | (with_reducible assumption) | (with_reducible refine below_dn ?_ _) | (with_reducible refine Below.drew ?_) | (with_reducible refine Below.alloc ?_ ?_ _) | (with_reducible refine Below.setCell ?_ ?_ _) | go_size))⟩
  obtain ⟨ws, hws⟩ : ∃ ws, partsS 32 s = ws := ⟨_, rfl⟩
  have HBAD := Lib.hid (fun (k : Nat) (hk : k < ws.length) (h : hertzR ws[k] = none) => sndV_none (s := s) (show sndOf (partsS 32 s) = none by rw [hws]; exact sndOf_bad hk h))
  have HOK := Lib.hid (fun (a b c d e : Int) (h : ws.map hertzR = [a, b, c, d, e].map some) => (show sndR s = if rise5 a b c d e = true then some ⟨a, b, c, d, e⟩ else none from (show sndOf (partsS 32 s) = _ by rw [hws]; exact sndOf_ok h)))
  rw [hws] at h5 H32 hwz
  clear hws
  have hl5 : ∀ k, k < 5 → k < ws.length := fun k hk => by omega
  have H32' : Hid (∀ w' : World, Calls Tryd.prog 48 #[.string s, .int .u8 (32 : UInt8).toNat] w' fun e w'' => ∃ r, e = .returned r ∧ w''.ownsRow w'.heap.size 9 1 r 5 (ws.flatMap putStr) ∧ Below w'.heap.size w' w'') := by rw [h5] at H32; exact H32
  have HH := Lib.hid (fun (k : Nat) (hk : k < ws.length) w' => spec_ReadHertz ws[k] w' (Nat.le_trans (hwz.out _ (List.getElem_mem hk)) hs))
  have HL5 := Lib.hid h5
  have HLK := Lib.hid hl5
  obtain ⟨i0, hi, hz0, hz1, hz2⟩ := info_parts info_i64
  clear hl5 hwz H32 h5
  go_enter Tryd.func49, Tryd.ntmps49
  go_wp2_with fail
  refine (H32'.out _).mono ?_; rintro e w1 ⟨rv, rfl, o1, b1⟩
  obtain ⟨gx, cx, U, rfl, hgx0, ow⟩ := str_own o1 (by decide)
  have HW1 := Lib.hid ow
  have hgx1 : gx < w1.heap.size := ow.lt
  have HR1 := Lib.hid (HR0.out.below b1 HR0.out.lt)
  have HB1 := Lib.hid (bnext HB0.out b1)
  clear o1 b1 HR0 HB0 ow hgx0
  go_wp2_with fail
  go_loopw [5, 6] (fun r i wr => ∃ (k : Nat) (fs : List Int), k ≤ 5 ∧ i = .int .i64 k ∧ fs.length = k ∧ (ws.take k).map hertzR = fs.map some ∧ wr.ownsRow w1.heap.size 2 1 r k (fs.flatMap putI) ∧ Below w1.heap.size w1 wr) (fun r i _ => 5 - (intOf i).toNat)
  case atStart => exact ⟨0, [], by omega, rfl, rfl, rfl, own_empty w1 w1.heap.size _ 1 (Nat.le_refl _), (Below.refl _ _).alloc (Nat.le_refl _) _⟩
  case round =>
    obtain ⟨k, fs, hk, rfl, hfl, hfs, hown, hb⟩ := hrel
    have HF := Lib.hid hfs
    have HFL := Lib.hid hfl
    have HO := Lib.hid hown
    have HB := Lib.hid hb
    have hws := hb.size
    obtain ⟨ro, rx, er0⟩ := (own_rd hown).form
    subst er0
    clear hown hfs hfl
    by_cases hlt : k < 5
    · have c0 : wr.cell? ⟨gx, k, none⟩ = some (.string (ws[k]'(HLK.out k hlt))) := (hb.cell (p := ⟨gx, k, none⟩) hgx1).trans (own_str HW1.out (HLK.out k hlt))
      have hgr : gx < wr.heap.size := by omega
      clear hb
      have HHk := Lib.hid (HH.out k (HLK.out k hlt) wr)
      cases hr : hertzR (ws[k]'(HLK.out k hlt)) with
      | none =>
        have e := Lib.hid (HBAD.out k (HLK.out k hlt) hr)
        rw [(hertzV_none hr).1, (hertzV_none hr).2] at HHk
        obtain ⟨F0, hF0⟩ : ∃ F0 : Int, 0 = F0 := ⟨_, rfl⟩
        rw [hF0] at HHk
        clear hr hF0
        generalize ws[k]'(HLK.out k hlt) = wk at *
        go_wp2_with fail
        refine HHk.out.mono ?_; rintro e w2 ⟨rfl, b2⟩
        have HB2 := Lib.hid (bnext HB1.out (HB.out.trans (b2.mono hws)))
        have HR2 := Lib.hid (HR1.out.below (HB.out.trans (b2.mono hws)) HR1.out.lt)
        clear b2
        have q0 : w2.cell? ⟨w.heap.size, 0, none⟩ = some (.int .i64 0) := HR2.out.cell 0
        have q1 : w2.cell? ⟨w.heap.size, 1, none⟩ = some (.int .i64 0) := HR2.out.cell 1
        have q2 : w2.cell? ⟨w.heap.size, 2, none⟩ = some (.int .i64 0) := HR2.out.cell 2
        have q3 : w2.cell? ⟨w.heap.size, 3, none⟩ = some (.int .i64 0) := HR2.out.cell 3
        have q4 : w2.cell? ⟨w.heap.size, 4, none⟩ = some (.int .i64 0) := HR2.out.cell 4
        have fq0 := HR2.out.free 0
        have fq1 := HR2.out.free 1
        have fq2 := HR2.out.free 2
        have fq3 := HR2.out.free 3
        have fq4 := HR2.out.free 4
        have hltq : w.heap.size < w2.heap.size := HR2.out.lt
        have hneq : ¬ w.heap.size = w2.heap.size := by omega
        go_wp2_with fail
        have hb := HB2.out
        exact bodyPost_ret (v := .tuple #[.agg #[.int .i64 0, .int .i64 0, .int .i64 0, .int .i64 0, .int .i64 0], .bool false]) (by simp [results, Tryd.results49, go_sem, q0, q1, q2, q3, q4, hltq, hneq]) rfl ⟨by rw [e.out.1, e.out.2]; try rfl, by (repeat' (first | (with_reducible exact Below.refl _ _) | (with_reducible assumption) | (with_reducible refine below_dn ?_ _) | (with_reducible refine Below.drew ?_) | (with_reducible refine Below.alloc ?_ ?_ _) | (with_reducible refine Below.setCell ?_ ?_ _) | go_size))⟩
      | some f =>
        have e1 : Hid ((ws.take (k + 1)).map hertzR = (fs ++ [f]).map some) := Lib.hid (by rw [List.take_succ_eq_append_getElem (HLK.out k hlt), List.map_append, List.map_append, HF.out]; simp [hr])
        rw [(hertzV_some hr).1, (hertzV_some hr).2] at HHk
        clear hr
        generalize ws[k]'(HLK.out k hlt) = wk at *
        go_wp2_with fail
        refine HHk.out.mono ?_; rintro e w2 ⟨rfl, b2⟩
        have HB2 := Lib.hid (HB.out.trans (b2.mono hws))
        have HO2 := Lib.hid (own_below HO.out b2 (Nat.le_refl _))
        have hws2 := HB2.out.size
        clear b2 HO
        go_wp2_with (at_builtin; refine app_el rfl _ _ 53 2 i0 (.int .i64 0) 1 8 Tryd.underlying53 hi hz0 hz1 hz2 rfl (by decide) rfl w2 w1.heap.size _ k (fs.flatMap putI) (by rfl) HO2.out [.int .i64 f] rfl (by intro u hu; simp at hu; subst hu; rfl) (by rfl) (by omega) (by decide) hws2 ?_; intro g gc w3 hown3 hB3 hz; have HB3 := Lib.hid (hB3 w1 HB2.out); have HO3 := Lib.hid hown3; clear hown3 hB3)
        go_roundw
        case rel => exact ⟨k + 1, fs ++ [f], by omega, by go_num, by rw [List.length_append, HFL.out]; rfl, e1.out, by rw [int_snocF]; exact HO3.out, HB3.out⟩
        case measure => simp [intOf]; omega
    · obtain rfl : k = 5 := by omega
      obtain ⟨a, b, c, d, z, rfl⟩ := five_of HFL.out
      have hm := HF.out
      rw [List.take_of_length_le (by rw [HL5.out]; omega)] at hm
      have HS := Lib.hid (HOK.out a b c d z hm)
      have hbz := Lib.hid (sndF_bd hm)
      have HB2 := Lib.hid (bnext HB1.out HB.out)
      have HR2 := Lib.hid (HR1.out.below HB.out HR1.out.lt)
      have HX := Lib.hid (spec_sound wr _ a b c d z (own_rd HO.out))
      clear hb hm HF HO HB HR1 HB1 HW1
      obtain ⟨gX, hgX⟩ : ∃ gX : World → Nat, gX = fun v : World => v.heap.size := ⟨_, rfl⟩
      clear gX hgX
      cases hq : rise5 a b c d z with
      | false =>
        have e := Lib.hid (sndV_none (HS.out.trans (by rw [hq]; rfl)))
        have HV := Lib.hid (fun (w' : World) (g : Nat) (o : Own w' g 43 (L5 a b c d z)) => spec_l04Ok w' g a b c d z o hbz.out)
        rw [hq] at HV
        clear hq HS
        go_wp2_with fail
        refine HX.out.mono ?_; rintro e w3 ⟨rfl, b3⟩
        have HR3 : Hid (Own (w3.alloc (.cells #[.int .i64 a, .int .i64 b, .int .i64 c, .int .i64 d, .int .i64 z] 43)) w.heap.size 43 [.int .i64 0, .int .i64 0, .int .i64 0, .int .i64 0, .int .i64 0]) := Lib.hid ((HR2.out.below b3 HR2.out.lt).alloc _)
        have HB3 : Hid (Below w.heap.size w (w3.alloc (.cells #[.int .i64 a, .int .i64 b, .int .i64 c, .int .i64 d, .int .i64 z] 43))) := Lib.hid ((bnext HB2.out b3).alloc (bnext HB2.out b3).size _)
        have HX3 : Hid (Own (w3.alloc (.cells #[.int .i64 a, .int .i64 b, .int .i64 c, .int .i64 d, .int .i64 z] 43)) w3.heap.size 43 (L5 a b c d z)) := Lib.hid (Own.new w3 _ (L5 a b c d z))
        clear b3 HR2 HB2 HX
        go_wp2_with fail
        refine (HV.out _ _ (by exact HX3.out)).mono ?_; rintro e w4 ⟨rfl, b4⟩
        have HR4 := Lib.hid (HR3.out.below b4 HR3.out.lt)
        have HX4 := Lib.hid (HX3.out.below b4 HX3.out.lt)
        have HB4 := Lib.hid (bnext HB3.out b4)
        clear b4 HR3 HX3 HB3
        have q0 : w4.cell? ⟨w.heap.size, 0, none⟩ = some (.int .i64 0) := HR4.out.cell 0
        have q1 : w4.cell? ⟨w.heap.size, 1, none⟩ = some (.int .i64 0) := HR4.out.cell 1
        have q2 : w4.cell? ⟨w.heap.size, 2, none⟩ = some (.int .i64 0) := HR4.out.cell 2
        have q3 : w4.cell? ⟨w.heap.size, 3, none⟩ = some (.int .i64 0) := HR4.out.cell 3
        have q4 : w4.cell? ⟨w.heap.size, 4, none⟩ = some (.int .i64 0) := HR4.out.cell 4
        have fq0 := HR4.out.free 0
        have fq1 := HR4.out.free 1
        have fq2 := HR4.out.free 2
        have fq3 := HR4.out.free 3
        have fq4 := HR4.out.free 4
        have hltq : w.heap.size < w4.heap.size := HR4.out.lt
        have hneq : ¬ w.heap.size = w4.heap.size := by omega
        go_wp2_with fail
        have hb := HB4.out
        exact bodyPost_ret (v := .tuple #[.agg #[.int .i64 0, .int .i64 0, .int .i64 0, .int .i64 0, .int .i64 0], .bool false]) (by simp [results, Tryd.results49, go_sem, q0, q1, q2, q3, q4, hltq, hneq]) rfl ⟨by rw [e.out.1, e.out.2]; try rfl, by (repeat' (first | (with_reducible exact Below.refl _ _) | (with_reducible assumption) | (with_reducible refine below_dn ?_ _) | (with_reducible refine Below.drew ?_) | (with_reducible refine Below.alloc ?_ ?_ _) | (with_reducible refine Below.setCell ?_ ?_ _) | go_size))⟩
      | true =>
        have e := Lib.hid (sndV_some (HS.out.trans (by rw [hq]; rfl)))
        have HV := Lib.hid (fun (w' : World) (g : Nat) (o : Own w' g 43 (L5 a b c d z)) => spec_l04Ok w' g a b c d z o hbz.out)
        rw [hq] at HV
        clear hq HS
        go_wp2_with fail
        refine HX.out.mono ?_; rintro e w3 ⟨rfl, b3⟩
        have HR3 : Hid (Own (w3.alloc (.cells #[.int .i64 a, .int .i64 b, .int .i64 c, .int .i64 d, .int .i64 z] 43)) w.heap.size 43 [.int .i64 0, .int .i64 0, .int .i64 0, .int .i64 0, .int .i64 0]) := Lib.hid ((HR2.out.below b3 HR2.out.lt).alloc _)
        have HB3 : Hid (Below w.heap.size w (w3.alloc (.cells #[.int .i64 a, .int .i64 b, .int .i64 c, .int .i64 d, .int .i64 z] 43))) := Lib.hid ((bnext HB2.out b3).alloc (bnext HB2.out b3).size _)
        have HX3 : Hid (Own (w3.alloc (.cells #[.int .i64 a, .int .i64 b, .int .i64 c, .int .i64 d, .int .i64 z] 43)) w3.heap.size 43 (L5 a b c d z)) := Lib.hid (Own.new w3 _ (L5 a b c d z))
        clear b3 HR2 HB2 HX
        go_wp2_with fail
        refine (HV.out _ _ (by exact HX3.out)).mono ?_; rintro e w4 ⟨rfl, b4⟩
        have HR4 := Lib.hid (HR3.out.below b4 HR3.out.lt)
        have HX4 := Lib.hid (HX3.out.below b4 HX3.out.lt)
        have HB4 := Lib.hid (bnext HB3.out b4)
        clear b4 HR3 HX3 HB3
        have q0 : w4.cell? ⟨w.heap.size, 0, none⟩ = some (.int .i64 0) := HR4.out.cell 0
        have q1 : w4.cell? ⟨w.heap.size, 1, none⟩ = some (.int .i64 0) := HR4.out.cell 1
        have q2 : w4.cell? ⟨w.heap.size, 2, none⟩ = some (.int .i64 0) := HR4.out.cell 2
        have q3 : w4.cell? ⟨w.heap.size, 3, none⟩ = some (.int .i64 0) := HR4.out.cell 3
        have q4 : w4.cell? ⟨w.heap.size, 4, none⟩ = some (.int .i64 0) := HR4.out.cell 4
        have fq0 := HR4.out.free 0
        have fq1 := HR4.out.free 1
        have fq2 := HR4.out.free 2
        have fq3 := HR4.out.free 3
        have fq4 := HR4.out.free 4
        have hltq : w.heap.size < w4.heap.size := HR4.out.lt
        have hneq : ¬ w.heap.size = w4.heap.size := by omega
        unfold L5 at HX4
        have x0 : w4.cell? ⟨w3.heap.size, 0, none⟩ = some (.int .i64 a) := HX4.out.cell 0
        have x1 : w4.cell? ⟨w3.heap.size, 1, none⟩ = some (.int .i64 b) := HX4.out.cell 1
        have x2 : w4.cell? ⟨w3.heap.size, 2, none⟩ = some (.int .i64 c) := HX4.out.cell 2
        have x3 : w4.cell? ⟨w3.heap.size, 3, none⟩ = some (.int .i64 d) := HX4.out.cell 3
        have x4 : w4.cell? ⟨w3.heap.size, 4, none⟩ = some (.int .i64 z) := HX4.out.cell 4
        have fx0 := HX4.out.free 0
        have fx1 := HX4.out.free 1
        have fx2 := HX4.out.free 2
        have fx3 := HX4.out.free 3
        have fx4 := HX4.out.free 4
        have hltx : w3.heap.size < w4.heap.size := HX4.out.lt
        have hnex : ¬ w3.heap.size = w4.heap.size := by omega
        go_wp2_with fail
        have hb := HB4.out
        exact bodyPost_ret (v := .tuple #[.agg #[.int .i64 a, .int .i64 b, .int .i64 c, .int .i64 d, .int .i64 z], .bool true]) (by simp [results, Tryd.results49, go_sem, q0, q1, q2, q3, q4, hltq, hneq, x0, x1, x2, x3, x4, hltx, hnex]) rfl ⟨by rw [e.out.1, e.out.2]; try rfl, by (repeat' (first | (with_reducible exact Below.refl _ _) | (with_reducible assumption) | (with_reducible refine below_dn ?_ _) | (with_reducible refine Below.drew ?_) | (with_reducible refine Below.alloc ?_ ?_ _) | (with_reducible refine Below.setCell ?_ ?_ _) | go_size))⟩
end Go.Proofs.YtklgkbiobggbiaaDoor
