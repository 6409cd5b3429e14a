/- Contracts and plain facts, joined: QuietP. -/
import Derived.Test.YtockglfoeagahaaGreatDoorRows
import Derived.Test.YtockglfoeagahaaGreatDoorZFnWarbleT
namespace Go.Proofs.YtockglfoeagahaaGreatDoor
open Go.ChangeShapes Go.WideShapes Go.ChangeAt Go.RowKit Go.Deep Go.Joins
set_option linter.unusedVariables false
set_option maxRecDepth 100000
set_option linter.unusedSimpArgs false
theorem quietF_stop {n m lim nw : Int} {q : Nat} {xs : List Spot} (h : ¬ lim < nw) : quietF n m lim q xs nw = xs := by
  cases q with
  | zero => rfl
  | succ q => exact if_neg h
theorem quietF_break {n m lim nw : Int} {q : Nat} {xs : List Spot} (h : (bestA xs n m 360).1 < 0 ∨ nw ≤ (bestA xs n m 360).2) : quietF n m lim q xs nw = xs := by
  cases q with
  | zero => rfl
  | succ q =>
    by_cases h2 : lim < nw
    · exact (if_pos h2).trans (if_pos h)
    · exact if_neg h2
theorem quietF_go {n m lim nw : Int} {q : Nat} {xs : List Spot} (h2 : lim < nw) (h : ¬ ((bestA xs n m 360).1 < 0 ∨ nw ≤ (bestA xs n m 360).2)) : quietF n m lim (q + 1) xs nw = quietF n m lim q (addL ⟨(bestA xs n m 360).1, m⟩ xs).1 (bestA xs n m 360).2 :=
  (if_pos h2).trans (if_neg h)
/-- the best spot, if there is one -/
theorem bestA_pos {xs : List Spot} {n m : Int} (hv : validSpotS xs = true) (hm : weightB m = true) (h : ¬ (bestA xs n m 360).1 < 0) : validSpotS (addL ⟨(bestA xs n m 360).1, m⟩ xs).1 = true ∧ (bestA xs n m 360).2 = splitN n (addL ⟨(bestA xs n m 360).1, m⟩ xs).1 ∧ (0 ≤ (bestA xs n m 360).1 ∧ (bestA xs n m 360).1 ≤ 359) := by
  rcases bestA_is (xs := xs) (n := n) (m := m) 360 with e | ⟨a, h1, h2, e⟩
  · rw [e] at h; exact absurd (by decide) h
  · rw [e]
    exact ⟨addL_spot (n := n) hv hm h1 h2, rfl, by show (0 : Int) ≤ (a : Int); omega, by show (a : Int) ≤ 359; omega⟩
theorem quietF_valid {n m lim : Int} (hm : weightB m = true) : ∀ (q : Nat) (xs : List Spot) (nw : Int), validSpotS xs = true → validSpotS (quietF n m lim q xs nw) = true
  | 0, xs, _, h => h
  | q + 1, xs, nw, h => by
    by_cases h2 : lim < nw
    · by_cases h3 : (bestA xs n m 360).1 < 0 ∨ nw ≤ (bestA xs n m 360).2
      · rw [quietF_break h3]; exact h
      · rw [quietF_go h2 h3]
        exact quietF_valid hm q _ _ (bestA_pos h hm (fun q => h3 (.inl q))).1
    · rw [quietF_stop h2]; exact h
theorem quiet_code {xs : List Spot} {n m lim : Int} (h : codeW xs n ≠ 0) : quietC xs n m lim = codeW xs n ∧ quietS xs n m lim = [] := by
  have e : quietC xs n m lim = codeW xs n := if_pos h
  exact ⟨e, by unfold quietS; rw [e]; exact if_neg h⟩
theorem quiet_range {xs : List Spot} {n m lim : Int} (h : codeW xs n = 0) (hm : (weightB m && inB lim 0 100000000) = false) : quietC xs n m lim = 2 ∧ quietS xs n m lim = [] := by
  have e : quietC xs n m lim = 2 := (if_neg (fun q => q h)).trans (by rw [hm]; rfl)
  exact ⟨e, by unfold quietS; rw [e]; rfl⟩
theorem quiet_good {xs : List Spot} {n m lim : Int} (h : codeW xs n = 0) (hm : weightB m = true) (hr : inB lim 0 100000000 = true) : quietC xs n m lim = 0 ∧ quietS xs n m lim = quietF n m lim (splitN n xs).toNat xs (splitN n xs) := by
  have e : quietC xs n m lim = 0 := (if_neg (fun q => q h)).trans (by rw [hm, hr]; rfl)
  exact ⟨e, by unfold quietS; rw [e]; rfl⟩
theorem quietS_len (xs : List Spot) (n m lim : Int) : (quietS xs n m lim).length ≤ 16 := by
  by_cases h : codeW xs n = 0
  · cases hm : (weightB m && inB lim 0 100000000)
    · rw [(quiet_range h hm).2]; exact Nat.zero_le _
    · rw [Bool.and_eq_true] at hm
      rw [(quiet_good h hm.1 hm.2).2]
      exact (validSpotS_true (quietF_valid hm.1 _ _ _ (codeW_zero h).1)).1
  · rw [(quiet_code h).2]; exact Nat.zero_le _

theorem aftL_pos {xs : List Spot} {n m : Int} {d : Nat} (h : ¬ (bestA xs n m d).1 < 0) : aftL xs n m d = (addL ⟨(bestA xs n m d).1, m⟩ xs).1 := if_neg h

set_option maxHeartbeats 4000000 in
theorem impl_QuietSpots (w : World) (v : Value) (xs : List Spot) (n m lim : Int) (hs : Sines w) (hg : 0 < w.heap.size) (h : Rd w.heap.size w v 2 xs.length (xs.flatMap Spot.put)) (hl : xs.length ≤ 1048576) (hok : ∀ x ∈ xs, x.ok) :
    Calls Tryz.prog 14 #[v, .int .i64 n, .int .i64 m, .int .i64 lim] w fun e w' => ∃ r : Value, e = .returned (.tuple #[r, .int .i64 (quietC xs n m lim)]) ∧ w'.ownsRow w.heap.size 38 2 r (quietS xs n m lim).length ((quietS xs n m lim).flatMap Spot.put) ∧ Below w.heap.size w w' := by
  have HW := Lib.hid (impl_waved w v xs n h hl hok)
  have HS := Lib.hid hs; clear hs
  have HG := Lib.hid hg; clear hg
  have H := Lib.hid h; clear h hok
  by_cases hc : codeW xs n = 0
  case neg =>
    obtain ⟨e1, e2⟩ := quiet_code (m := m) (lim := lim) hc
    rw [e1, e2]
    have t0 : (codeW xs n != 0) = true := bne_iff_ne.2 hc
    clear e1 e2 hc
    go_enter Tryz.func14, Tryz.ntmps14
    go_wp2_with fail
    refine HW.out.mono ?_; rintro e1 w1 ⟨rfl, b1⟩
    go_wp2_with fail
    go_ret2
    exact ⟨_, rfl, own_nil _ _ _ _, b1⟩
  obtain ⟨hV, hI⟩ := codeW_zero hc
  cases hM : weightB m
  · obtain ⟨e1, e2⟩ := quiet_range (lim := lim) hc (by rw [hM]; rfl)
    rw [e1, e2]
    have HM := Lib.hid hM
    have HC := Lib.hid hc
    clear e1 e2 hc hV hI hM
    go_enter Tryz.func14, Tryz.ntmps14
    go_wp2_with fail
    refine HW.out.mono ?_; rw [HC.out]; rintro e1 w1 ⟨rfl, b1⟩
    go_wp2_with (first | (go_at_call 30; refine (impl_isWeight_is _ _ HM.out).mono ?_; rintro e w' ⟨rfl, rfl⟩))
    go_ret2
    exact ⟨_, rfl, own_nil _ _ _ _, b1⟩
  cases hR : inB lim 0 100000000
  · obtain ⟨e1, e2⟩ := quiet_range (m := m) hc (by rw [hM, hR]; rfl)
    rw [e1, e2]
    have HM := Lib.hid hM
    have HR := Lib.hid hR
    have HC := Lib.hid hc
    clear e1 e2 hc hV hI hM hR
    go_enter Tryz.func14, Tryz.ntmps14
    go_wp2_with fail
    refine HW.out.mono ?_; rw [HC.out]; rintro e1 w1 ⟨rfl, b1⟩
    go_wp2_with (first | (go_at_call 30; refine (impl_isWeight_is _ _ HM.out).mono ?_; rintro e w' ⟨rfl, rfl⟩) | (go_at_call 37; refine (within_is _ _ _ _ HR.out).mono ?_; rintro e w' ⟨rfl, rfl⟩))
    go_ret2
    exact ⟨_, rfl, own_nil _ _ _ _, b1⟩
  obtain ⟨e1, e2⟩ := quiet_good hc hM hR
  rw [e1, e2]
  obtain ⟨h16, hall⟩ := validSpotS_true hV
  have HL := Lib.hid hall
  have hlim := (inB_true hR).1
  obtain ⟨Q, hQ⟩ : ∃ Q, quietF n m lim (splitN n xs).toNat xs (splitN n xs) = Q := ⟨_, rfl⟩
  rw [hQ]
  have HQ := Lib.hid hQ
  have HC := Lib.hid hc
  have HV := Lib.hid hV; clear hV e1 e2 hc hall hQ
  have HI := Lib.hid hI; clear hI
  have HM := Lib.hid hM; clear hM
  have HR := Lib.hid hR; clear hR
  go_enter Tryz.func14, Tryz.ntmps14
  go_wp2_with fail
  refine HW.out.mono ?_; rw [HC.out]; rintro e1 w1 ⟨rfl, b1⟩
  have HB1 := Lib.hid b1; clear b1
  go_wp2_with (first | (go_at_call 30; refine (impl_isWeight_is _ _ HM.out).mono ?_; rintro e w' ⟨rfl, rfl⟩) | (go_at_call 37; refine (within_is _ _ _ _ HR.out).mono ?_; rintro e w' ⟨rfl, rfl⟩))
  refine (clone_Spot _ _ xs.length _ (by exact H.out.up HB1.out) (Spot_one xs) (by omega)).mono ?_; rintro e w2 ⟨r, rfl, o2, b2⟩
  have HO := Lib.hid (own_base o2 HB1.out.size)
  have HB2 := Lib.hid (bnext HB1.out b2); clear b2 o2 HB1
  go_wp2_with fail
  refine (impl_splitOf _ _ xs n (HS.out.below HB2.out HG.out) (Nat.lt_of_lt_of_le HG.out HB2.out.size) (own_rd HO.out) h16 HL.out (inB_true HI.out)).mono ?_; rintro e w4 ⟨rfl, b4⟩
  have HO4 := Lib.hid (own_below HO.out b4 (Nat.le_refl _))
  have HB4 := Lib.hid (bnext HB2.out b4); clear b4 HO HB2
  go_wp2_with fail
  go_loopw [11, 12, 13, 14, 15] (fun r nw _ _ _ wr => ∃ (q : Nat) (cur : List Spot) (nv : Int), nw = .int .i64 nv ∧ validSpotS cur = true ∧ nv = splitN n cur ∧ nv.toNat ≤ q ∧ quietF n m lim q cur nv = Q ∧ wr.ownsRow w.heap.size 38 2 r cur.length (cur.flatMap Spot.put) ∧ Below w.heap.size w wr) (fun _ nw _ _ _ _ => (intOf nw).toNat)
  case atStart => exact ⟨_, xs, _, rfl, HV.out, rfl, Nat.le_refl _, HQ.out, HO4.out, HB4.out⟩
  case round =>
    clear HO4 HB4 HQ
    obtain ⟨q, cur, nv, rfl, hcv, hns, hq, hQ, ho, hb⟩ := hrel
    have HCV := Lib.hid hcv; clear hcv
    have HNS := Lib.hid hns; clear hns
    have HQ := Lib.hid hQ; clear hQ
    have HO := Lib.hid ho
    obtain ⟨ro, rc, rfl⟩ := (own_rd ho).form
    clear ho
    have HB := Lib.hid hb; clear hb
    by_cases hlt : lim < nv
    · have t0 : decide (lim < nv) = true := decide_eq_true hlt
      go_wp2_with fail
      refine (impl_bestSpot _ _ cur n m (HS.out.below HB.out HG.out) (Nat.lt_of_lt_of_le HG.out HB.out.size) (own_rd HO.out) HCV.out HM.out (inB_true HI.out)).mono ?_; rintro e w5 ⟨r5, rfl, o5, b5⟩
      have HB5 := Lib.hid (bnext HB.out b5)
      have HO5 := Lib.hid (own_below HO.out b5 (Nat.le_refl _))
      have HR5 := Lib.hid (own_base o5 HB.out.size)
      clear b5 HB HO o5
      by_cases h1 : (bestA cur n m 360).1 < 0
      · have t1 : decide ((bestA cur n m 360).1 < 0) = true := decide_eq_true h1
        have e := Lib.hid ((quietF_break (.inl h1)).symm.trans HQ.out)
        clear h1
        go_wp2_with fail
        go_ret2
        exact ⟨_, rfl, by rw [← e.out]; exact HO5.out, HB5.out⟩
      · have t1 : decide ((bestA cur n m 360).1 < 0) = false := decide_eq_false h1
        by_cases h2 : nv ≤ (bestA cur n m 360).2
        · have t2 : decide (nv ≤ (bestA cur n m 360).2) = true := decide_eq_true h2
          have e := Lib.hid ((quietF_break (.inr h2)).symm.trans HQ.out)
          clear h1 h2
          go_wp2_with fail
          go_ret2
          exact ⟨_, rfl, by rw [← e.out]; exact HO5.out, HB5.out⟩
        · have t2 : decide (nv ≤ (bestA cur n m 360).2) = false := decide_eq_false h2
          obtain ⟨p1, p2, p3⟩ := bestA_pos HCV.out HM.out h1
          obtain ⟨q', rfl⟩ : ∃ q', q = q' + 1 := ⟨q - 1, by omega⟩
          have e := Lib.hid ((quietF_go hlt (fun z => z.elim h1 h2)).symm.trans HQ.out)
          have hm1 : Hid ((bestA cur n m 360).2.toNat ≤ q' ∧ (bestA cur n m 360).2.toNat < nv.toNat) := Lib.hid (by omega)
          have P1 := Lib.hid p1
          have P2 := Lib.hid p2
          rw [aftL_pos h1] at HR5
          clear h1 h2 p1 p2 p3
          go_wp2_with fail
          go_roundw
          case rel => exact ⟨q', _, _, rfl, P1.out, P2.out, hm1.out.1, e.out, HR5.out, HB5.out⟩
          case measure => simp only [intOf]; exact hm1.out.2
    · have t0 : decide (lim < nv) = false := decide_eq_false hlt
      have e := Lib.hid ((quietF_stop hlt).symm.trans HQ.out)
      go_wp2_with fail
      go_ret2
      exact ⟨_, rfl, by rw [← e.out]; exact HO.out, HB.out⟩
end Go.Proofs.YtockglfoeagahaaGreatDoor
