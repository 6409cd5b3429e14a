/- FnMoulds: the law. -/
import Derived.Test.YtnbodmbagendnaaRows
import Derived.Test.YtnbodmbagendnaaMould4
import Derived.Test.YtnbodmbagendnaaDraw
import Derived.Test.YtnbodmbagendnaaR8
import Derived.Test.YtnbodmbagendnaaLayersFor
import Derived.Test.YtnbodmbagendnaaDrying
namespace Go.Proofs.Ytnbodmbagendnaa
open Go.ChangeShapes Go.WideShapes Go.ChangeAt Go.RowKit Go.Deep Go.Joins
set_option linter.unusedVariables false
set_option maxRecDepth 100000
set_option linter.unusedSimpArgs false
/-- what the law keeps at each of its worlds -/
def PackP (w : World) (B g g2 : Nat) (nm : ByteArray) (lo lo2 : Option Addr) (lc lc2 : Nat) (rs up : List Ring) (v1 : Value) (ys : List UInt8) : Prop :=
  Own w g 26 [.string nm, .slice lo rs.length lc] ∧ Own w g2 26 [.string nm, .slice lo2 up.length lc2] ∧ Rd w.heap.size w (.slice lo rs.length lc) 3 rs.length (rs.flatMap Ring.put) ∧ Rd w.heap.size w (.slice lo2 up.length lc2) 3 up.length (up.flatMap Ring.put) ∧ Rd w.heap.size w v1 1 ys.length (ys.flatMap putB)
theorem PackP.below {w w' : World} {B g g2 : Nat} {nm : ByteArray} {lo lo2 : Option Addr} {lc lc2 : Nat} {rs up : List Ring} {v1 : Value} {ys : List UInt8} (h : PackP w B g g2 nm lo lo2 lc lc2 rs up v1 ys) (b : Below w.heap.size w w') : PackP w' B g g2 nm lo lo2 lc lc2 rs up v1 ys :=
  ⟨h.1.below b h.1.lt, h.2.1.below b h.2.1.lt, h.2.2.1.up b, h.2.2.2.1.up b, h.2.2.2.2.up b⟩
set_option maxHeartbeats 8000000 in
theorem FnMoulds_walk (w : World) (v0 : Value) (xs : List UInt8) (k0 : Rd w.heap.size w v0 1 xs.length (xs.flatMap putB) ∧ xs.length ≤ maxLen ∧ ∀ x ∈ xs, True) (v1 : Value) (ys : List UInt8) (k1 : Rd w.heap.size w v1 1 ys.length (ys.flatMap putB) ∧ ys.length ≤ maxLen ∧ ∀ x ∈ ys, True) :
    Calls Try.prog 3 #[v0, v1] w fun e w' => e = .returned (.bool true) ∧ Below w.heap.size w w' := by
  obtain ⟨h0, hm0, _⟩ := k0
  obtain ⟨h1, hm1, _⟩ := k1
  have H0 := Lib.hid h0
  have H1 := Lib.hid h1
  obtain ⟨o0, c0, rfl⟩ := h0.form
  obtain ⟨o1, c1, rfl⟩ := h1.form
  have HLG := Lib.hid (laws_r8Long w _ _ xs.length ys.length o0 o1 c0 c1 rfl rfl)
  clear h0 h1
  by_cases hn : xs.length ≤ 1048576 ∧ ys.length ≤ 1048576
  case neg =>
    have tl : (decide ((1048576 : Int) < (xs.length : Int)) || decide ((1048576 : Int) < (ys.length : Int))) = true := by simp; omega
    rw [tl] at HLG
    clear tl H0 H1
    go_enter Try.func3, Try.ntmps3
    go_wp2_with fail
    refine HLG.out.mono ?_; rintro e w1 ⟨rfl, rfl⟩
    go_wp2_with fail
    go_ret
    exact ⟨rfl, Below.refl _ _⟩
  obtain ⟨hnx, hny⟩ := hn
  have tl : (decide ((1048576 : Int) < (xs.length : Int)) || decide ((1048576 : Int) < (ys.length : Int))) = false := by simp; omega
  rw [tl] at HLG
  have HDR := Lib.hid (draw_R8Profile w _ xs H0.out hm0)
  clear tl hm0 H0
  go_enter Try.func3, Try.ntmps3
  go_wp2_with fail
  refine HLG.out.mono ?_; rintro e w1 ⟨rfl, rfl⟩
  go_wp2_with fail
  refine HDR.out.mono ?_; rintro e w1 ⟨nm, u, rfl, ⟨lo, lc, rs, rfl, hpv, hnm, hr9, hrd⟩, b1⟩
  have hv : profB ⟨nm, .slice none 0 0, rs⟩ = true := hpv
  obtain ⟨W2, hW2⟩ : ∃ W2, w1.alloc (.cells #[.string nm, .slice lo rs.length lc] 26) = W2 := ⟨_, rfl⟩
  have b2 : Below w1.heap.size w1 W2 := by rw [← hW2]; exact (Below.refl _ _).alloc (Nat.le_refl _) _
  have X2 : Own W2 w1.heap.size 26 [.string nm, .slice lo rs.length lc] := by rw [← hW2]; exact Own.new w1 _ _
  have B2 := Lib.hid (bnext b1 b2)
  have HX2 := Lib.hid X2
  have HR2 := Lib.hid (hrd.up b2)
  have HY2 := Lib.hid ((H1.out.up b1).up b2)
  have HV := Lib.hid hv
  have hsz : nm.size ≤ maxLen := by unfold maxLen; omega
  have HA1 := Lib.hid (laws_r8AtB W2 _ ys W2.heap.size HY2.out hny 0 51 (by omega) (by omega) (by omega) (by omega))
  have y0 : W2.cell? ⟨w1.heap.size, 0, none⟩ = some (.string nm) := X2.cell 0
  have y1 : W2.cell? ⟨w1.heap.size, 1, none⟩ = some (.slice lo rs.length lc) := X2.cell 1
  have ly := X2.lt
  clear hpv hv hrd b1 b2 X2 HLG HDR H1
  go_wp2_with fail
  refine HA1.out.mono ?_; rintro e w3 ⟨q, rfl, hq, rfl⟩
  have hq2 : 0 ≤ (q : Int) ∧ (q : Int) ≤ 50 := by omega
  generalize (q : Int) = s at *
  have HS := Lib.hid hq2
  clear hq HA1
  cases hM : profB ⟨nm, .slice none 0 0, rs.map (scR (1000 + s) 1000)⟩ with
  | false =>
    have HM := Lib.hid hM
    have HMF := Lib.hid (impl_MouldFor W2 nm lo lc rs s hsz HR2.out HV.out HS.out)
    clear hM
    go_wp2_with fail
    refine HMF.out.mono ?_; rintro e w4 ⟨⟨n', lo', lc', R', cc, rfl, hown, hor⟩, b4⟩
    have B4 := Lib.hid (bnext B2.out b4)
    have hc6 : cc = 6 := by
      rcases hor with ⟨_, _, _, q⟩ | ⟨q, _, _, _⟩
      · rw [HM.out] at q; cases q
      · exact q
    subst hc6
    clear hown hor b4 HMF HX2 HR2 HY2 B2 y0 y1 ly hW2
    go_wp2_with fail
    go_ret
    exact ⟨rfl, by repeat' (first | exact B4.out | refine B4.out.alloc (by have := B4.out.size; omega) _)⟩
  | true =>
    have HM := Lib.hid hM
    have HMF := Lib.hid (impl_MouldFor_yes W2 nm lo lc rs s hsz HR2.out HV.out HS.out hM)
    have HCF := Lib.hid (fun (w' : World) (lo' : Option Addr) (lc' : Nat) h' => impl_CastFrom_yes w' nm lo' lc' rs s hsz HS.out h' HV.out HM.out)
    have HCE := Lib.hid (fun (w' : World) h' => impl_CastError0 w' nm lo lc rs s hsz h' HV.out HS.out HM.out)
    have HHX := Lib.hid (fun (w' : World) h' => spec_HeightOf w' nm lo lc rs hsz h' HV.out)
    have HHY := Lib.hid (fun (w' : World) (lo' : Option Addr) (lc' : Nat) h' => spec_HeightOf w' nm lo' lc' (rs.map (scR (1000 + s) 1000)) hsz h' HM.out)
    have HSP := Lib.hid (fun (w' : World) (l1 l2 : Option Addr) (k1 k2 : Nat) h1' h2' => spec_SameProfile_yes w' nm l1 l2 k1 k2 rs h1' h2' (by omega))
    have hup := up_height HS.out rs (prof_parts HV.out).2
    clear hM HM HV
    generalize rs.map (scR (1000 + s) 1000) = up at *
    obtain ⟨hx, ehx⟩ : ∃ hx, heightS rs = hx := ⟨_, rfl⟩
    obtain ⟨hy, ehy⟩ : ∃ hy, heightS up = hy := ⟨_, rfl⟩
    rw [ehx] at hup HHX
    rw [ehy] at hup HHY
    have tup : decide (hy < hx) = false := decide_eq_false (by omega)
    clear ehx ehy hup
    go_wp2_with fail
    refine HMF.out.mono ?_; rintro e w4 ⟨lo2, lc2, rfl, h2, b4⟩
    obtain ⟨W5, hW5⟩ : ∃ W5, w4.alloc (.cells #[.string nm, .slice lo2 up.length lc2] 26) = W5 := ⟨_, rfl⟩
    have b5 : Below w4.heap.size w4 W5 := by rw [← hW5]; exact (Below.refl _ _).alloc (Nat.le_refl _) _
    have PK5 : Hid (PackP W5 0 w1.heap.size w4.heap.size nm lo lo2 lc lc2 rs up (.slice o1 ys.length c1) ys) := Lib.hid ⟨(HX2.out.below b4 HX2.out.lt).below b5 (by have := HX2.out.lt; have := b4.size; omega), by rw [← hW5]; exact Own.new w4 _ _, (HR2.out.up b4).up b5, h2.up b5, (HY2.out.up b4).up b5⟩
    have B5 := Lib.hid (bnext (bnext B2.out b4) b5)
    clear h2 b4 b5 HMF HX2 HR2 HY2 B2 y0 y1 ly hW2
    have a0 : W5.cell? ⟨w1.heap.size, 0, none⟩ = some (.string nm) := PK5.out.1.cell 0
    have a1 : W5.cell? ⟨w1.heap.size, 1, none⟩ = some (.slice lo rs.length lc) := PK5.out.1.cell 1
    have al := PK5.out.1.lt
    have d0 : W5.cell? ⟨w4.heap.size, 0, none⟩ = some (.string nm) := PK5.out.2.1.cell 0
    have d1 : W5.cell? ⟨w4.heap.size, 1, none⟩ = some (.slice lo2 up.length lc2) := PK5.out.2.1.cell 1
    have dl := PK5.out.2.1.lt
    go_wp2_with fail
    refine (HCF.out W5 lo2 lc2 PK5.out.2.2.2.1).mono ?_; rintro e w6 ⟨lo3, lc3, rfl, h3, b6⟩
    obtain ⟨W7, hW7⟩ : ∃ W7, w6.alloc (.cells #[.string nm, .slice lo3 rs.length lc3] 26) = W7 := ⟨_, rfl⟩
    have b7 : Below w6.heap.size w6 W7 := by rw [← hW7]; exact (Below.refl _ _).alloc (Nat.le_refl _) _
    have PK7 := Lib.hid ((PK5.out.below b6).below b7)
    have B7 := Lib.hid (bnext (bnext B5.out b6) b7)
    have O7 : Hid (Own W7 w6.heap.size 26 [.string nm, .slice lo3 rs.length lc3]) := Lib.hid (by rw [← hW7]; exact Own.new w6 _ _)
    have R7 := Lib.hid (h3.up b7)
    clear h3 b6 b7 PK5 B5 HCF a0 a1 al d0 d1 dl hW5
    have a0 : W7.cell? ⟨w1.heap.size, 0, none⟩ = some (.string nm) := PK7.out.1.cell 0
    have a1 : W7.cell? ⟨w1.heap.size, 1, none⟩ = some (.slice lo rs.length lc) := PK7.out.1.cell 1
    have al := PK7.out.1.lt
    have d0 : W7.cell? ⟨w4.heap.size, 0, none⟩ = some (.string nm) := PK7.out.2.1.cell 0
    have d1 : W7.cell? ⟨w4.heap.size, 1, none⟩ = some (.slice lo2 up.length lc2) := PK7.out.2.1.cell 1
    have dl := PK7.out.2.1.lt
    go_wp2_with fail
    refine (HCE.out _ PK7.out.2.2.1).mono ?_; rintro e w8 ⟨rfl, bb⟩
    have PK8 := Lib.hid (PK7.out.below bb)
    have B8 := Lib.hid (bnext B7.out bb)
    have O8 := Lib.hid (O7.out.below bb O7.out.lt)
    have R8 := Lib.hid (R7.out.up bb)
    clear bb PK7 B7 O7 R7 a0 a1 al d0 d1 dl hW7
    have a0 : w8.cell? ⟨w1.heap.size, 0, none⟩ = some (.string nm) := PK8.out.1.cell 0
    have a1 : w8.cell? ⟨w1.heap.size, 1, none⟩ = some (.slice lo rs.length lc) := PK8.out.1.cell 1
    have al := PK8.out.1.lt
    have d0 : w8.cell? ⟨w4.heap.size, 0, none⟩ = some (.string nm) := PK8.out.2.1.cell 0
    have d1 : w8.cell? ⟨w4.heap.size, 1, none⟩ = some (.slice lo2 up.length lc2) := PK8.out.2.1.cell 1
    have dl := PK8.out.2.1.lt
    go_wp2_with fail
    refine (HHX.out _ PK8.out.2.2.1).mono ?_; rintro e w9 ⟨rfl, bb⟩
    have PK9 := Lib.hid (PK8.out.below bb)
    have B9 := Lib.hid (bnext B8.out bb)
    have O9 := Lib.hid (O8.out.below bb O8.out.lt)
    have R9 := Lib.hid (R8.out.up bb)
    clear bb PK8 B8 O8 R8 a0 a1 al d0 d1 dl
    have a0 : w9.cell? ⟨w1.heap.size, 0, none⟩ = some (.string nm) := PK9.out.1.cell 0
    have a1 : w9.cell? ⟨w1.heap.size, 1, none⟩ = some (.slice lo rs.length lc) := PK9.out.1.cell 1
    have al := PK9.out.1.lt
    have d0 : w9.cell? ⟨w4.heap.size, 0, none⟩ = some (.string nm) := PK9.out.2.1.cell 0
    have d1 : w9.cell? ⟨w4.heap.size, 1, none⟩ = some (.slice lo2 up.length lc2) := PK9.out.2.1.cell 1
    have dl := PK9.out.2.1.lt
    go_wp2_with fail
    refine (HHY.out _ lo2 lc2 PK9.out.2.2.2.1).mono ?_; rintro e wa ⟨rfl, bb⟩
    have PK10 := Lib.hid (PK9.out.below bb)
    have B10 := Lib.hid (bnext B9.out bb)
    have O10 := Lib.hid (O9.out.below bb O9.out.lt)
    have R10 := Lib.hid (R9.out.up bb)
    clear bb PK9 B9 O9 R9 a0 a1 al d0 d1 dl
    have a0 : wa.cell? ⟨w1.heap.size, 0, none⟩ = some (.string nm) := PK10.out.1.cell 0
    have a1 : wa.cell? ⟨w1.heap.size, 1, none⟩ = some (.slice lo rs.length lc) := PK10.out.1.cell 1
    have al := PK10.out.1.lt
    have d0 : wa.cell? ⟨w4.heap.size, 0, none⟩ = some (.string nm) := PK10.out.2.1.cell 0
    have d1 : wa.cell? ⟨w4.heap.size, 1, none⟩ = some (.slice lo2 up.length lc2) := PK10.out.2.1.cell 1
    have dl := PK10.out.2.1.lt
    have f0 : wa.cell? ⟨w6.heap.size, 0, none⟩ = some (.string nm) := O10.out.cell 0
    have f1 : wa.cell? ⟨w6.heap.size, 1, none⟩ = some (.slice lo3 rs.length lc3) := O10.out.cell 1
    have fl := O10.out.lt
    go_wp2_with fail
    refine (HSP.out _ _ _ _ _ R10.out PK10.out.2.2.1).mono ?_; rintro e wb ⟨rfl, bb⟩
    have HYb := Lib.hid (PK10.out.2.2.2.2.up bb)
    have Bb := Lib.hid (bnext B10.out bb)
    have hwb := r8wide_bd ys 1 9000 (by omega)
    have HW := Lib.hid (laws_r8Wide wb _ ys wb.heap.size HYb.out hny 1 9000 (by omega) (by omega) (by omega) (by omega))
    generalize r8wide ys 1 9000 = wl at *
    have HA3 := Lib.hid (laws_r8AtB wb _ ys wb.heap.size HYb.out hny 3 30 (by omega) (by omega) (by omega) (by omega))
    clear bb PK10 B10 O10 R10 a0 a1 al d0 d1 dl f0 f1 fl HSP HCE HHX HHY HYb
    go_wp2_with fail
    refine HW.out.mono ?_; rintro e wc ⟨rfl, rfl⟩
    go_wp2_with fail
    refine HA3.out.mono ?_; rintro e wc ⟨q, rfl, hq, rfl⟩
    have hq30 : 0 ≤ (q : Int) ∧ (q : Int) < 30 := by omega
    generalize (q : Int) = qq at *
    obtain ⟨wall, hwall⟩ : ∃ wall, 1 + wl = wall := ⟨_, rfl⟩
    have hw1 : 1 ≤ wall ∧ wall ≤ 9000 := by omega
    obtain ⟨q1, hq1⟩ : ∃ q1, 1 + qq = q1 := ⟨_, rfl⟩
    have hq2' : 1 ≤ q1 ∧ q1 ≤ 30 := by omega
    have hd0 : 0 ≤ wall / q1 := Int.ediv_nonneg (by omega) (by omega)
    have hd1 : wall / q1 ≤ wall := Int.ediv_le_self q1 (by omega)
    have hqd : Int.tdiv wall q1 = wall / q1 := Int.tdiv_eq_ediv_of_nonneg (by omega)
    have HD := Lib.hid (fun h => dry_law (wall := wall) (q := q1) hw1 hq2' h)
    generalize wall / q1 = d at *
    obtain ⟨L, hL⟩ : ∃ L, 1 + d = L := ⟨_, rfl⟩
    rw [hL] at HD
    clear HW HA3
    by_cases hlay : L ≤ wall
    case neg =>
      have tw : decide (wall < L) = true := decide_eq_true (by omega)
      clear HD
      go_wp2_with fail
      go_ret
      exact ⟨rfl, Bb.out⟩
    have tw : decide (wall < L) = false := decide_eq_false (by omega)
    obtain ⟨n, e1, k1, k2, e2, e3, k3, k4, k5, k6⟩ := HD.out hlay
    have HL := Lib.hid (fun w' : World => (by have q := impl_LayersFor wall L w'; rw [e1] at q; exact q : Calls Try.prog 16 #[.int .i64 wall, .int .i64 L] w' fun e w'' => e = .returned (.tuple #[.int .i64 n, .int .i64 0]) ∧ w' = w''))
    have HDA := Lib.hid (fun w' : World => (by have q := impl_DryingTime wall L 5 10 w'; rw [e2] at q; exact q : Calls Try.prog 17 #[.int .i64 wall, .int .i64 L, .int .i64 5, .int .i64 10] w' fun e w'' => e = .returned (.tuple #[.int .i64 (drySum 550 n.toNat), .int .i64 0]) ∧ w' = w''))
    have HDB := Lib.hid (fun w' : World => (by have q := impl_DryingTime wall L 5 60 w'; rw [e3] at q; exact q : Calls Try.prog 17 #[.int .i64 wall, .int .i64 L, .int .i64 5, .int .i64 60] w' fun e w'' => e = .returned (.tuple #[.int .i64 (drySum 800 n.toNat), .int .i64 0]) ∧ w' = w''))
    generalize drySum 550 n.toNat = dry at *
    generalize drySum 800 n.toNat = damp at *
    have hsub : (n - 1) * L = n * L - L := by rw [Int.sub_mul, Int.one_mul]
    have hnn : 0 ≤ (n - 1) * L := Int.mul_nonneg (by omega) (by omega)
    obtain ⟨p2, hp2⟩ : ∃ p2, (n - 1) * L = p2 := ⟨_, rfl⟩
    obtain ⟨p1, hp1⟩ : ∃ p1, n * L = p1 := ⟨_, rfl⟩
    rw [hp2] at k2 hsub hnn
    rw [hp1] at k1 hsub
    have t1 : decide (wall ≤ p1) = true := decide_eq_true k1
    have t2 : decide (p2 < wall) = true := decide_eq_true k2
    have t3 : decide (n ≤ dry) = true := decide_eq_true k3
    have t4 : decide (dry ≤ damp) = true := decide_eq_true k4
    clear e1 e2 e3 HD
    go_wp2_with fail
    refine (HL.out _).mono ?_; rintro e wd ⟨rfl, rfl⟩
    go_wp2_with fail
    refine (HDA.out _).mono ?_; rintro e wd ⟨rfl, rfl⟩
    go_wp2_with fail
    refine (HDB.out _).mono ?_; rintro e wd ⟨rfl, rfl⟩
    go_wp2_with fail
    go_ret
    exact ⟨by simp, Bb.out⟩
end Go.Proofs.Ytnbodmbagendnaa
