/- Contracts and plain facts, joined: LWFnMelts. -/
import Derived.Test.YtnbodmbagendnaaGreatDoorRows
import Derived.Test.YtnbodmbagendnaaGreatDoorZFnMeltsD
import Derived.Test.YtnbodmbagendnaaGreatDoorZFnMeltsZB
import Derived.Test.YtnbodmbagendnaaGreatDoorZFnMeltsZG
import Derived.Test.YtnbodmbagendnaaGreatDoorZFnMeltsZH
import Derived.Test.YtnbodmbagendnaaGreatDoorZFnMeltsZJ
import Derived.Test.YtnbodmbagendnaaGreatDoorZFnMeltsZK
import Derived.Test.YtnbodmbagendnaaGreatDoorZFnMeltsZL
import Derived.Test.YtnbodmbagendnaaGreatDoorZFnMeltsZQ
import Derived.Test.YtnbodmbagendnaaGreatDoorZFnMeltsZR
import Derived.Test.YtnbodmbagendnaaGreatDoorZFnMeltsZS
namespace Go.Proofs.YtnbodmbagendnaaGreatDoor
open Go.ChangeShapes Go.WideShapes Go.ChangeAt Go.RowKit Go.Deep Go.Joins
set_option linter.unusedVariables false
set_option maxRecDepth 100000
set_option linter.unusedSimpArgs false
theorem spec_ValidMelts (w : World) (v : Value) (xs : List Melt) (h : RdM w.heap.size w v xs) (hn : xs.length ≤ 1048576) (hf : ∀ x ∈ xs, x.fine) :
    Calls Tryz.prog 13 #[v] w fun e w' => e = .returned (.bool (meltsB xs)) ∧ Below w.heap.size w w' := by
  have H := Lib.hid (spec_l14Ok w v xs h hn hf)
  go_enter Tryz.func13, Tryz.ntmps13
  go_wp2_with fail
  refine H.out.mono ?_; rintro e w1 ⟨rfl, b1⟩
  go_wp2_with fail
  go_ret
  exact ⟨rfl, b1⟩

theorem laws_b10LongM (w : World) (v : Value) (n : Nat) (vo : Option Addr) (vc : Nat) (hv : v = .slice vo n vc) :
    Calls Tryz.prog 4 #[v] w fun e w' => e = .returned (.bool (decide ((1048576 : Int) < n))) ∧ w = w' := by
  subst hv
  go_enter Tryz.func4, Tryz.ntmps4
  go_wp2_with fail
  go_ret
  exact ⟨rfl, rfl⟩
/-- what the law reads, at each of its worlds -/
def PackM (w : World) (g : Nat) (iv uv nv : Value) (ys : List Ingot) (ms Z : List Melt) (x : Melt) (lo : Option Addr) (lc : Nat) : Prop :=
  Own w g 28 [.string x.id, .slice lo x.ingots.length lc, .int .i64 x.mass] ∧ Rd w.heap.size w iv 5 ys.length (ys.flatMap Ingot.put) ∧ RdM w.heap.size w uv ms ∧ Rd w.heap.size w (.slice lo x.ingots.length lc) 1 x.ingots.length (x.ingots.flatMap putStr) ∧ RdM w.heap.size w nv Z ∧ Pow10 w ∧ ErrS w ∧ MaxL w
theorem PackM.below {w w' : World} {g : Nat} {iv uv nv : Value} {ys : List Ingot} {ms Z : List Melt} {x : Melt} {lo : Option Addr} {lc : Nat} (h : PackM w g iv uv nv ys ms Z x lo lc) (b : Below w.heap.size w w') : PackM w' g iv uv nv ys ms Z x lo lc := by
  obtain ⟨h1, h2, h3, h4, h5, h6, h7, h8⟩ := h
  exact ⟨h1.below b h1.lt, h2.up b, h3.up b, h4.up b, h5.up b, h6.below b, h7.below b, h8.below b⟩
theorem read_is {w : World} {base : Nat} {x : Melt} {e : Ending} (hB : meltB x = true) (h : MeltIs w base (meltT x) e) : ∃ r : Value, e = .returned (.tuple #[.agg #[.string x.id, r, .int .i64 x.mass], .bool true]) ∧ w.ownsRow base 9 1 r x.ingots.length (x.ingots.flatMap putStr) := by
  obtain ⟨h1, h2⟩ := meltV_some (melt_back hB)
  unfold MeltIs at h
  rw [h1, h2] at h
  exact h
theorem ins_fine {x : Melt} {ms : List Melt} (h : ∀ m ∈ ms, m.fine) (hx : x.fine) : ∀ m ∈ insM x ms, m.fine := fun m hm => by
  rcases insM_mem.1 hm with q | q
  · rw [q]; exact hx
  · exact h m q
set_option maxHeartbeats 8000000 in
theorem FnMelts_walk (w : World) (v0 : Value) (xs : List UInt8) (k0 : Rd w.heap.size w v0 1 xs.length (xs.flatMap putB) ∧ xs.length ≤ maxLen ∧ ∀ x ∈ xs, True) (hL : laidMetH Tryz.prog Rows.fnMeltsRow.laid w) (hS : w.ShapedOpen Tryz.prog) :
    Calls Tryz.prog 3 #[v0] w fun e w' => e = .returned (.bool true) ∧ Below w.heap.size w w' := by
  have hL1 : laidMet Tryz.prog Rows.fnMeltsRow.laid w := hL
  have HP : Hid (Pow10 w) := Lib.hid (pow10_of (laid_tail (laid_tail hL1)))
  have HE : Hid (ErrS w) := Lib.hid (errS_of (laid_tail (laid_tail (laid_tail (laid_tail (laid_tail hL1))))))
  have HM : Hid (MaxL w) := Lib.hid (maxL_of hS)
  clear hL hL1 hS
  obtain ⟨h0, hm0, _⟩ := k0
  have H0 := Lib.hid h0
  obtain ⟨o0, c0, rfl⟩ := h0.form
  have HLG := Lib.hid (laws_b10LongM w _ xs.length o0 c0 rfl)
  clear h0
  by_cases hn : xs.length ≤ 1048576
  case neg =>
    have tl : decide ((1048576 : Int) < (xs.length : Int)) = true := decide_eq_true (by omega)
    rw [tl] at HLG
    clear tl H0
    go_enter Tryz.func3, Tryz.ntmps3
    go_wp2_with fail
    refine HLG.out.mono ?_; rintro e w1 ⟨rfl, rfl⟩
    go_wp2_with fail
    go_ret
    exact ⟨rfl, Below.refl _ _⟩
  have tl : decide ((1048576 : Int) < (xs.length : Int)) = false := decide_eq_false (by omega)
  rw [tl] at HLG
  have HDR := Lib.hid (draw_AddMelt w _ xs H0.out hm0)
  clear tl hm0 H0
  go_enter Tryz.func3, Tryz.ntmps3
  go_wp2_with fail
  refine HLG.out.mono ?_; rintro e w1 ⟨rfl, rfl⟩
  go_wp2_with fail
  refine HDR.out.mono ?_; rintro e w1 ⟨⟨iv, uv, xv, ys, ms, x, lo, lc, rfl, ⟨hfi, hri, hrm, hml, hmf⟩, rfl, hxf, hxr⟩, b1⟩
  have hyl : ys.length ≤ 20 := hfi.1
  have HOK := Lib.hid (fun y hy => (hfi.2 y hy).1)
  have HF := Lib.hid hmf
  have HXF := Lib.hid hxf
  obtain ⟨io, ic, ei⟩ := hri.form
  obtain ⟨mo, mc, em, _⟩ := id hrm
  subst ei em
  obtain ⟨W2, hW2⟩ : ∃ W2, w1.alloc (.cells #[.string x.id, .slice lo x.ingots.length lc, .int .i64 x.mass] 28) = W2 := ⟨_, rfl⟩
  have b2 : Below w1.heap.size w1 W2 := by rw [← hW2]; exact (Below.refl _ _).alloc (Nat.le_refl _) _
  have X2 : Hid (Own W2 w1.heap.size 28 [.string x.id, .slice lo x.ingots.length lc, .int .i64 x.mass]) := Lib.hid (by rw [← hW2]; exact Own.new w1 _ _)
  have B2 := Lib.hid (bnext b1 b2)
  have RI2 := Lib.hid (hri.up b2)
  have RM2 := Lib.hid (hrm.up b2)
  have RX2 := Lib.hid (hxr.up b2)
  have P2 := Lib.hid (HP.out.below B2.out)
  have E2 := Lib.hid (HE.out.below B2.out)
  have M2 := Lib.hid (HM.out.below B2.out)
  have HAD := Lib.hid (impl_AddMelt W2 _ _ ys ms x lo lc RI2.out (by omega) HOK.out RM2.out (by omega) HF.out RX2.out hxf)
  have x0 : W2.cell? ⟨w1.heap.size, 0, none⟩ = some (.string x.id) := X2.out.cell 0
  have x1 : W2.cell? ⟨w1.heap.size, 1, none⟩ = some (.slice lo x.ingots.length lc) := X2.out.cell 1
  have x2 : W2.cell? ⟨w1.heap.size, 2, none⟩ = some (.int .i64 x.mass) := X2.out.cell 2
  have xl := X2.out.lt
  have HBAD := Lib.hid (fun h => melts_bad (xs := ys) (ms := ms) (x := x) h)
  have HLAW := Lib.hid (fun h => melts_law (xs := ys) (ms := ms) (x := x) h)
  obtain ⟨cc, hcc⟩ : ∃ cc, (addM ys ms x).2 = cc := ⟨_, rfl⟩
  rw [hcc] at HAD HBAD HLAW
  clear hfi hri hrm hmf hxf hxr b1 b2 HLG HDR HP HE HM hcc
  go_wp2_with fail
  refine HAD.out.mono ?_; rintro e w3 ⟨r3, os, rfl, n3, sd3, b3⟩
  have B3 := Lib.hid (bnext B2.out b3)
  obtain ⟨ro, rc, er⟩ := n3.form
  subst er
  by_cases hc : cc = 0
  case neg =>
    have e0 : os = [] := by
      have q := sd3
      rw [HBAD.out hc] at q
      exact List.map_eq_nil_iff.1 q
    subst e0
    have tc : (cc != 0) = true := bne_iff_ne.2 hc
    clear n3 sd3 b3 HAD HBAD HLAW x0 x1 x2 xl
    go_wp2_with fail
    go_ret
    exact ⟨by simp, B3.out⟩
  subst hc
  obtain ⟨l1, l2, l3, l4, l5, l6, l7, l8, l9⟩ := HLAW.out rfl
  have hZ12 : (insM x ms).length ≤ 12 := (meltsB_all l3).1
  have hs3 : os.map Melt.said = (insM x ms).map Melt.said := by rw [l1] at sd3; exact sd3
  have hos : os.length = (insM x ms).length := said_len hs3
  have RN3 := rdm_said n3.rdm hs3
  have HZF := Lib.hid (ins_fine HF.out HXF.out)
  have PK3 : Hid (PackM w3 w1.heap.size (.slice io ys.length ic) (.slice mo ms.length mc) (.slice ro os.length rc) ys ms (insM x ms) x lo lc) := Lib.hid ⟨X2.out.below b3 X2.out.lt, RI2.out.up b3, RM2.out.up b3, RX2.out.up b3, RN3, P2.out.below b3, E2.out.below b3, M2.out.below b3⟩
  have hmb := meltB_parts l2
  have HBM := Lib.hid l2
  have hil : x.ingots.length ≤ 1048576 := by omega
  have hm12 : ms.length ≤ 12 := by rw [insM_len] at hZ12; omega
  obtain ⟨most, hmost⟩ : ∃ m, mostS ys x.ingots = m := ⟨_, rfl⟩
  obtain ⟨metal, hmetal⟩ : ∃ m, metalS ys x.ingots = m := ⟨_, rfl⟩
  obtain ⟨pp, hpp⟩ : ∃ b, possibleS ys ms = b := ⟨_, rfl⟩
  have HVZ := Lib.hid l3
  have HQ : Hid (possibleS ys (insM x ms) = pp) := Lib.hid (by rw [← l9, hpp])
  have HPP := Lib.hid hpp
  generalize hZ : insM x ms = Z at *
  have HDM := Lib.hid (fun (w' : World) (h : RdM w'.heap.size w' (.slice ro os.length rc) Z) => (by have q := impl_DropMelt w' _ Z x.id h (by omega) HZF.out; rw [l4] at q; exact q : Calls Tryz.prog 7 #[.slice ro os.length rc, .string x.id] w' fun e w'' => ∃ r os', e = .returned (.tuple #[r, .int .i64 0]) ∧ Nest w'.heap.size w''.heap.size w'' r os' ∧ os'.map Melt.said = ms.map Melt.said ∧ Below w'.heap.size w' w''))
  have HMF := Lib.hid (fun (w' : World) (h : PackM w' w1.heap.size (.slice io ys.length ic) (.slice mo ms.length mc) (.slice ro os.length rc) ys ms Z x lo lc) => (by have q := impl_MostFrom w' _ ys x lo lc h.2.1 (by omega) HOK.out h.2.2.2.1 HXF.out; rw [l5, hmost] at q; exact q : Calls Tryz.prog 8 #[.slice io ys.length ic, .agg #[.string x.id, .slice lo x.ingots.length lc, .int .i64 x.mass]] w' fun e w'' => e = .returned (.tuple #[.int .i64 most, .int .i64 0]) ∧ Below w'.heap.size w' w''))
  have HMO := Lib.hid (fun (w' : World) (h : PackM w' w1.heap.size (.slice io ys.length ic) (.slice mo ms.length mc) (.slice ro os.length rc) ys ms Z x lo lc) => (by have q := impl_MetalOf w' _ ys x lo lc h.2.1 (by omega) HOK.out h.2.2.2.1 HXF.out; rw [l6, hmetal] at q; exact q : Calls Tryz.prog 9 #[.slice io ys.length ic, .agg #[.string x.id, .slice lo x.ingots.length lc, .int .i64 x.mass]] w' fun e w'' => e = .returned (.tuple #[.int .i64 metal, .int .i64 0]) ∧ Below w'.heap.size w' w''))
  have HTX := Lib.hid (fun (w' : World) (h : PackM w' w1.heap.size (.slice io ys.length ic) (.slice mo ms.length mc) (.slice ro os.length rc) ys ms Z x lo lc) => (impl_MeltText ⟨x.id, .slice lo x.ingots.length lc, x.ingots, x.mass⟩ w' ⟨HXF.out.1, ⟨h.2.2.2.1, Nat.le_trans hil (by unfold maxLen; omega), HXF.out.2.1⟩, HXF.out.2.2.1⟩ hil h.2.2.2.2.2.1 : Calls Tryz.prog 11 #[.agg #[.string x.id, .slice lo x.ingots.length lc, .int .i64 x.mass]] w' fun e w'' => e = .returned (.string (meltT x)) ∧ Below w'.heap.size w' w''))
  have HRM := Lib.hid (fun (w' : World) (h : PackM w' w1.heap.size (.slice io ys.length ic) (.slice mo ms.length mc) (.slice ro os.length rc) ys ms Z x lo lc) => (impl_ReadMelt (meltT x) w' (melt_size HBM.out) h.2.2.2.2.2.2.2 h.2.2.2.2.2.1 h.2.2.2.2.2.2.1).mono (fun (e : Ending) (w'' : World) ⟨h1, h2⟩ => (⟨read_is HBM.out h1, h2⟩ : (∃ r : Value, e = Ending.returned (.tuple #[.agg #[.string x.id, r, .int .i64 x.mass], .bool true]) ∧ w''.ownsRow w'.heap.size 9 1 r x.ingots.length (x.ingots.flatMap putStr)) ∧ Below w'.heap.size w' w'')))
  rw [hmost] at l7 l8
  rw [hmetal] at l8
  have t7 : decide (most < x.mass) = false := decide_eq_false (by omega)
  have t8 : decide (metal < most) = false := decide_eq_false (by omega)
  have HSS := Lib.hid (fun (w' : World) (v1 v2 : Value) (zs : List Melt) (h1 : RdM w'.heap.size w' v1 zs) (h2 : RdM w'.heap.size w' v2 zs) (hl : zs.length ≤ 1048576) (hi : ∀ z ∈ zs, z.ingots.length ≤ 1048576) => (by have q := impl_SameMelts w' v1 v2 zs zs h1 h2 hl hl hi; rw [same_said rfl] at q; exact q : Calls Tryz.prog 12 #[v1, v2] w' fun e w'' => e = .returned (.bool true) ∧ Below w'.heap.size w' w''))
  have HVM := Lib.hid (fun (w' : World) (h : RdM w'.heap.size w' (.slice ro os.length rc) Z) => (by have q := spec_ValidMelts w' _ Z h (by omega) HZF.out; rw [HVZ.out] at q; exact q : Calls Tryz.prog 13 #[.slice ro os.length rc] w' fun e w'' => e = .returned (.bool true) ∧ Below w'.heap.size w' w''))
  have HPA := Lib.hid (fun (w' : World) (h1 : Rd w'.heap.size w' (.slice io ys.length ic) 5 ys.length (ys.flatMap Ingot.put)) (h2 : RdM w'.heap.size w' (.slice mo ms.length mc) ms) => (by have q := impl_PossibleMelts w' _ _ ys ms h1 (by omega) HOK.out h2 (by omega) HF.out; rw [HPP.out] at q; exact q : Calls Tryz.prog 14 #[.slice io ys.length ic, .slice mo ms.length mc] w' fun e w'' => e = .returned (.bool pp) ∧ Below w'.heap.size w' w''))
  have HPB := Lib.hid (fun (w' : World) (h1 : Rd w'.heap.size w' (.slice io ys.length ic) 5 ys.length (ys.flatMap Ingot.put)) (h2 : RdM w'.heap.size w' (.slice ro os.length rc) Z) => (by have q := impl_PossibleMelts w' _ _ ys Z h1 (by omega) HOK.out h2 (by omega) HZF.out; rw [HQ.out] at q; exact q : Calls Tryz.prog 14 #[.slice io ys.length ic, .slice ro os.length rc] w' fun e w'' => e = .returned (.bool pp) ∧ Below w'.heap.size w' w''))
  clear l1 l2 l3 l4 l5 l6 l7 l8 l9 RN3 n3 sd3 hs3 b3 X2 RI2 RM2 RX2 P2 E2 M2 HAD HBAD HLAW x0 x1 x2 xl B2 hmost hmetal hpp hZ hmb hos hW2
  have x0 : w3.cell? ⟨w1.heap.size, 0, none⟩ = some (.string x.id) := PK3.out.1.cell 0
  have x1 : w3.cell? ⟨w1.heap.size, 1, none⟩ = some (.slice lo x.ingots.length lc) := PK3.out.1.cell 1
  have x2 : w3.cell? ⟨w1.heap.size, 2, none⟩ = some (.int .i64 x.mass) := PK3.out.1.cell 2
  have xl := PK3.out.1.lt
  go_wp2_with fail
  refine (HDM.out _ PK3.out.2.2.2.2.1).mono ?_; rintro e w4 ⟨r4, os4, rfl, n4, sd4, b4⟩
  obtain ⟨lo4, lc4, er4⟩ := n4.form
  subst er4
  have RL4 := Lib.hid (rdm_said n4.rdm sd4)
  have PK4 := Lib.hid (PK3.out.below b4)
  have B4 := Lib.hid (bnext B3.out b4)
  clear n4 sd4 b4 PK3 B3 HDM x0 x1 x2 xl
  have x0 : w4.cell? ⟨w1.heap.size, 0, none⟩ = some (.string x.id) := PK4.out.1.cell 0
  have x1 : w4.cell? ⟨w1.heap.size, 1, none⟩ = some (.slice lo x.ingots.length lc) := PK4.out.1.cell 1
  have x2 : w4.cell? ⟨w1.heap.size, 2, none⟩ = some (.int .i64 x.mass) := PK4.out.1.cell 2
  have xl := PK4.out.1.lt
  go_wp2_with fail
  refine (HMF.out _ PK4.out).mono ?_; rintro e w5 ⟨rfl, b5⟩
  have PK5 := Lib.hid (PK4.out.below b5)
  have RL5 := Lib.hid (RL4.out.up b5)
  have B5 := Lib.hid (bnext B4.out b5)
  clear b5 PK4 RL4 B4 HMF x0 x1 x2 xl
  have x0 : w5.cell? ⟨w1.heap.size, 0, none⟩ = some (.string x.id) := PK5.out.1.cell 0
  have x1 : w5.cell? ⟨w1.heap.size, 1, none⟩ = some (.slice lo x.ingots.length lc) := PK5.out.1.cell 1
  have x2 : w5.cell? ⟨w1.heap.size, 2, none⟩ = some (.int .i64 x.mass) := PK5.out.1.cell 2
  have xl := PK5.out.1.lt
  go_wp2_with fail
  refine (HMO.out _ PK5.out).mono ?_; rintro e w6 ⟨rfl, b6⟩
  have PK6 := Lib.hid (PK5.out.below b6)
  have RL6 := Lib.hid (RL5.out.up b6)
  have B6 := Lib.hid (bnext B5.out b6)
  clear b6 PK5 RL5 B5 HMO x0 x1 x2 xl
  have x0 : w6.cell? ⟨w1.heap.size, 0, none⟩ = some (.string x.id) := PK6.out.1.cell 0
  have x1 : w6.cell? ⟨w1.heap.size, 1, none⟩ = some (.slice lo x.ingots.length lc) := PK6.out.1.cell 1
  have x2 : w6.cell? ⟨w1.heap.size, 2, none⟩ = some (.int .i64 x.mass) := PK6.out.1.cell 2
  have xl := PK6.out.1.lt
  go_wp2_with fail
  refine (HTX.out _ PK6.out).mono ?_; rintro e w7 ⟨rfl, b7⟩
  have PK7 := Lib.hid (PK6.out.below b7)
  have RL7 := Lib.hid (RL6.out.up b7)
  have B7 := Lib.hid (bnext B6.out b7)
  clear b7 PK6 RL6 B6 HTX x0 x1 x2 xl
  go_wp2_with fail
  refine (HRM.out _ PK7.out).mono ?_; rintro e w8 ⟨⟨r8, rfl, o8⟩, b8⟩
  have RR8 := own_rd o8
  obtain ⟨lo8, lc8, er8⟩ := RR8.form
  subst er8
  obtain ⟨W9, hW9⟩ : ∃ W9, w8.alloc (.cells #[.string x.id, .slice lo8 x.ingots.length lc8, .int .i64 x.mass] 28) = W9 := ⟨_, rfl⟩
  have b9 : Below w8.heap.size w8 W9 := by rw [← hW9]; exact (Below.refl _ _).alloc (Nat.le_refl _) _
  have PK9 := Lib.hid ((PK7.out.below b8).below b9)
  have RL9 := Lib.hid ((RL7.out.up b8).up b9)
  have RR9 := Lib.hid (RR8.up b9)
  have B9 := Lib.hid (bnext (bnext B7.out b8) b9)
  have N9 : Hid (Own W9 w8.heap.size 28 [.string x.id, .slice lo8 x.ingots.length lc8, .int .i64 x.mass]) := Lib.hid (by rw [← hW9]; exact Own.new w8 _ _)
  clear o8 b8 b9 RR8 PK7 RL7 B7 HRM
  go_wp2_with fail
  refine (HSS.out _ _ _ ms RL9.out PK9.out.2.2.1 (by omega) (fun z hz => (HF.out z hz).2.2.2)).mono ?_; rintro e wa ⟨rfl, ba⟩
  have PKa := Lib.hid (PK9.out.below ba)
  have RRa := Lib.hid (RR9.out.up ba)
  have Na := Lib.hid (N9.out.below ba N9.out.lt)
  have Ba := Lib.hid (bnext B9.out ba)
  clear ba PK9 RL9 RR9 N9 B9 hW9
  have x0 : wa.cell? ⟨w1.heap.size, 0, none⟩ = some (.string x.id) := PKa.out.1.cell 0
  have x1 : wa.cell? ⟨w1.heap.size, 1, none⟩ = some (.slice lo x.ingots.length lc) := PKa.out.1.cell 1
  have x2 : wa.cell? ⟨w1.heap.size, 2, none⟩ = some (.int .i64 x.mass) := PKa.out.1.cell 2
  have xl := PKa.out.1.lt
  have n0 : wa.cell? ⟨w8.heap.size, 0, none⟩ = some (.string x.id) := Na.out.cell 0
  have n1 : wa.cell? ⟨w8.heap.size, 1, none⟩ = some (.slice lo8 x.ingots.length lc8) := Na.out.cell 1
  have n2 : wa.cell? ⟨w8.heap.size, 2, none⟩ = some (.int .i64 x.mass) := Na.out.cell 2
  have nl := Na.out.lt
  obtain ⟨Wb, hWb⟩ : ∃ Wb, wa.alloc (.cells #[.string x.id, .slice lo8 x.ingots.length lc8, .int .i64 x.mass] 28) = Wb := ⟨_, rfl⟩
  have bb : Below wa.heap.size wa Wb := by rw [← hWb]; exact (Below.refl _ _).alloc (Nat.le_refl _) _
  have RDb : Hid (RdM Wb.heap.size Wb (.slice (some ⟨wa.heap.size, 0, none⟩) 1 1) [x]) := Lib.hid (by rw [← hWb]; exact rdm_one wa x lo8 lc8 RRa.out)
  have PKb := Lib.hid (PKa.out.below bb)
  have Nb := Lib.hid (Na.out.below bb Na.out.lt)
  have ebz : Wb.heap.size = wa.heap.size + 1 := by rw [← hWb]; simp
  obtain ⟨Wc, hWc⟩ : ∃ Wc, Wb.alloc (.cells #[.string x.id, .slice lo x.ingots.length lc, .int .i64 x.mass] 28) = Wc := ⟨_, rfl⟩
  have bc : Below Wb.heap.size Wb Wc := by rw [← hWc]; exact (Below.refl _ _).alloc (Nat.le_refl _) _
  have RDc : Hid (RdM Wc.heap.size Wc (.slice (some ⟨wa.heap.size + 1, 0, none⟩) 1 1) [x]) := Lib.hid (by rw [← hWc, ← ebz]; exact rdm_one Wb x lo lc PKb.out.2.2.2.1)
  have RDb2 := Lib.hid (RDb.out.up bc)
  have PKc := Lib.hid (PKb.out.below bc)
  have Bc := Lib.hid (bnext (bnext Ba.out bb) bc)
  have z0 : Wb.cell? ⟨w1.heap.size, 0, none⟩ = some (.string x.id) := PKb.out.1.cell 0
  have z1 : Wb.cell? ⟨w1.heap.size, 1, none⟩ = some (.slice lo x.ingots.length lc) := PKb.out.1.cell 1
  have z2 : Wb.cell? ⟨w1.heap.size, 2, none⟩ = some (.int .i64 x.mass) := PKb.out.1.cell 2
  have zl := PKb.out.1.lt
  clear bb bc RDb PKa PKb Ba Na Nb RRa
  go_wp2_with fail
  refine (HSS.out _ _ _ [x] RDb2.out RDc.out (by show 1 ≤ 1048576; decide) (fun z hz => by rw [List.mem_singleton.1 hz]; exact hil)).mono ?_; rintro e wd ⟨rfl, bd⟩
  have PKd := Lib.hid (PKc.out.below bd)
  have Bd := Lib.hid (bnext Bc.out bd)
  clear bd RDb2 RDc PKc Bc x0 x1 x2 xl n0 n1 n2 nl z0 z1 z2 zl hWb hWc HSS
  go_wp2_with fail
  refine (HVM.out _ PKd.out.2.2.2.2.1).mono ?_; rintro e we ⟨rfl, be⟩
  have PKe := Lib.hid (PKd.out.below be)
  have Be := Lib.hid (bnext Bd.out be)
  clear be PKd Bd HVM
  go_wp2_with fail
  refine (HPA.out _ PKe.out.2.1 PKe.out.2.2.1).mono ?_; rintro e wf ⟨rfl, bf⟩
  have PKf := Lib.hid (PKe.out.below bf)
  have Bf := Lib.hid (bnext Be.out bf)
  clear bf PKe Be HPA
  go_wp2_with fail
  refine (HPB.out _ PKf.out.2.1 PKf.out.2.2.2.2.1).mono ?_; rintro e wg ⟨rfl, bg⟩
  have Bg := Lib.hid (bnext Bf.out bg)
  clear bg PKf Bf HPB
  go_wp2_with fail
  go_ret
  exact ⟨by simp, Bg.out⟩
end Go.Proofs.YtnbodmbagendnaaGreatDoor
