/- Contracts and plain facts, joined: GrdM. -/
import Derived.Test.YtcjekailcljaaaaGreatRows
import Derived.Test.YtcjekailcljaaaaGreatZFnExactGreedyPlanZD
import Derived.Test.YtcjekailcljaaaaGreatZFnExactGreedyPlanZE
namespace Go.Proofs.YtcjekailcljaaaaGreat
open Go.ChangeShapes Go.WideShapes Go.ChangeAt Go.RowKit Go.Deep Go.Joins
set_option linter.unusedVariables false
set_option maxRecDepth 100000
set_option linter.unusedSimpArgs false
theorem repl_putI (n : Nat) : List.replicate n (Value.int .i64 0) = (List.replicate n (0 : Int)).flatMap putI := by
  induction n with
  | zero => rfl
  | succ n ih => rw [List.replicate_succ, List.replicate_succ, List.flatMap_cons, ← ih]; rfl
theorem madeN (n : Nat) : (madeCells (Value.int .i64 0).cells (n * 1)).toList = (List.replicate n (0 : Int)).flatMap putI := by
  have e : (Value.int .i64 0).cells = #[.int .i64 0] := rfl
  rw [e, Nat.mul_one, toList_madeCells_one, repl_putI]
theorem oneZ_bd {k z : Nat} {n : Int} (h : 0 ≤ n ∧ n ≤ 20) : ∀ y ∈ oneZ k z n, 0 ≤ y ∧ y ≤ 1280 := fun y hy => by
  unfold oneZ at hy
  rcases List.mem_or_eq_of_mem_set hy with h1 | h1
  · have := (List.mem_replicate.1 h1).2; omega
  · omega
/-- a block of zeros, and one number in it -/
theorem one_set {w : World} {g k z : Nat} (o : Own w g 2 ((List.replicate k (0 : Int)).flatMap putI)) (hz : z < k) (n : Int) : Own (w.setCell ⟨g, z, none⟩ (.int .i64 n)) g 2 ((oneZ k z n).flatMap putI) := by
  have := o.set z (.int .i64 n)
  rw [set_putI _ _ _ (by rw [List.length_replicate]; exact hz)] at this
  exact this
theorem zero_cell {w : World} {g k z : Nat} (o : Own w g 2 ((List.replicate k (0 : Int)).flatMap putI)) (hz : z < k) : w.cell? ⟨g, z, none⟩ = some (.int .i64 0) := by
  rw [o.cell, putI_get _ z (by rw [List.length_replicate]; exact hz), List.getElem_replicate]
theorem own_ints {w : World} {g k : Nat} {st : List Int} (o : Own w g 2 (st.flatMap putI)) (hk : st.length = k) (hm : k ≤ 1048576) : Rd w.heap.size w (.slice (some ⟨g, 0, none⟩) st.length k) 1 st.length (st.flatMap putI) :=
  o.rd o.lt (putI_len st) (by unfold maxLen; omega) _ (by omega) (by unfold maxLen; omega)
/-- the reference's turning, by a block of k steps -/
theorem spec_turnO (w : World) (p g k : Nat) (x : Profile) (lo : Option Addr) (lc : Nat) (zo : Option Addr) (zc : Nat) (zs st : List Int) (hp : ProfAt w p x lo lc) (hR : RdR w lo lc x.rings) (hx : profB x = true)
    (hz : Rd w.heap.size w (.slice zo zs.length zc) 1 zs.length (zs.flatMap putI)) (hz18 : 1 ≤ zs.length ∧ zs.length ≤ 8) (o : Own w g 2 (st.flatMap putI)) (hk : st.length = k) (hsl : zs.length ≤ k) (hst : k ≤ 1048576) (hsb : ∀ n ∈ st, 0 ≤ n ∧ n ≤ 1280) :
    Calls Tryz.prog 61 #[.pointer (some ⟨p, 0, none⟩), .slice zo zs.length zc, .slice (some ⟨g, 0, none⟩) k k] w fun e w' => ∃ g c, e = .returned (.agg #[.string x.name, .slice (some ⟨g, 0, none⟩) x.rings.length c]) ∧ w'.ownsRow w.heap.size 123 3 (.slice (some ⟨g, 0, none⟩) x.rings.length c) x.rings.length ((turnX x zs st).rings.flatMap Ring.put) ∧ Below w.heap.size w w' := by
  obtain ⟨n1, n32, hv, _⟩ := profB_true hx
  have h := spec_l09Turned w p x lo lc zo (some ⟨g, 0, none⟩) zc k zs st hp hR hv n1 n32 hz hz18.1 hz18.2 (own_ints o hk hst) (by omega) (by omega) hsb
  rw [hk] at h
  exact h
theorem impl_turnO (w : World) (g k : Nat) (x : Profile) (lo : Option Addr) (lc : Nat) (zo : Option Addr) (zc : Nat) (zs st : List Int) (hR : RdR w lo lc x.rings) (hx : profB x = true)
    (hz : Rd w.heap.size w (.slice zo zs.length zc) 1 zs.length (zs.flatMap putI)) (hzb : zonesB x.rings.length zs = true) (o : Own w g 2 (st.flatMap putI)) (hk : st.length = k) (hsl : zs.length ≤ k) (hst : k ≤ 1048576) (hsb : ∀ n ∈ st, 0 ≤ n ∧ n ≤ 1280) :
    Calls Tryz.prog 83 #[.agg #[.string x.name, .slice lo x.rings.length lc], .slice zo zs.length zc, .slice (some ⟨g, 0, none⟩) k k] w fun e w' => ∃ g c, e = .returned (.agg #[.string x.name, .slice (some ⟨g, 0, none⟩) x.rings.length c]) ∧ w'.ownsRow w.heap.size 123 3 (.slice (some ⟨g, 0, none⟩) x.rings.length c) x.rings.length ((turnX x zs st).rings.flatMap Ring.put) ∧ Below w.heap.size w w' := by
  obtain ⟨n1, n32, hv, _⟩ := profB_true hx
  have h := impl_turned w x lo lc zo (some ⟨g, 0, none⟩) zc k zs st hR hv n1 n32 hz hzb (own_ints o hk hst) (by omega) (by omega) hsb
  rw [hk] at h
  exact h
theorem turnX_len (x : Profile) (zs st : List Int) : (turnX x zs st).rings.length = x.rings.length := turnedS_len ..
/-- a turned profile, read -/
theorem turn_rd {w : World} {x : Profile} {zs st : List Int} {base g c : Nat} (h : w.ownsRow base 123 3 (.slice (some ⟨g, 0, none⟩) x.rings.length c) x.rings.length ((turnX x zs st).rings.flatMap Ring.put)) : RdR w (some ⟨g, 0, none⟩) c (turnX x zs st).rings := by
  have h2 := own_rd h
  rw [← turnX_len x zs st] at h2
  exact h2
theorem mostF_step {p : Nat → Bool} {n m : Nat} (hn : n < 20) (h : mostF p (20 - n) n = m) : (p (n + 1) = true → mostF p (20 - (n + 1)) (n + 1) = m) ∧ (p (n + 1) = false → n = m) := by
  obtain ⟨f, hf⟩ : ∃ f, 20 - n = f + 1 := ⟨20 - n - 1, by omega⟩
  rw [hf] at h
  have e : 20 - (n + 1) = f := by omega
  have h2 : (if p (n + 1) = true then mostF p f (n + 1) else n) = m := h
  refine ⟨fun hp => ?_, fun hp => ?_⟩
  · rw [if_pos hp] at h2; rw [e]; exact h2
  · rw [hp] at h2; simpa using h2
set_option maxHeartbeats 2000000 in
theorem spec_l09Most (w : World) (p : Nat) (x : Profile) (lo : Option Addr) (lc : Nat) (zo : Option Addr) (zc : Nat) (zs : List Int) (z : Nat) (hzl : z < zs.length) (hp : ProfAt w p x lo lc) (hs : x.name.size ≤ maxLen) (hR : RdR w lo lc x.rings) (hx : profB x = true) (hz : Rd w.heap.size w (.slice zo zs.length zc) 1 zs.length (zs.flatMap putI)) (hzb : zonesB x.rings.length zs = true) :
    Calls Tryz.prog 91 #[.pointer (some ⟨p, 0, none⟩), .slice zo zs.length zc, .int .i64 z] w fun e w' => e = .returned (.int .i64 (mostZ x zs z)) ∧ Below w.heap.size w w' := by
  obtain ⟨n1, n32, _⟩ := profB_true hx
  have hz18 := (zonesB_parts hzb).1
  obtain ⟨i0, hi, hz0, hz1, hz2⟩ := info_parts info_i64
  have HT := Lib.hid (fun (w' : World) (hb : Below w.heap.size w w') (g : Nat) (n : Int) (h : 0 ≤ n ∧ n ≤ 20) (o : Own w' g 2 ((oneZ 8 z n).flatMap putI)) => spec_turnO w' p g 8 x lo lc zo zc zs (oneZ 8 z n) (hp.below hb hp.2.2) (hR.up hb) hx (hz.up hb) hz18 o (oneZ_len ..) hz18.2 (by omega) (oneZ_bd h))
  have HV := Lib.hid (fun (w' : World) (a g c : Nat) (n : Int) (g0 : w'.cell? ⟨a, 0, none⟩ = some (.string x.name)) (g1 : w'.cell? ⟨a, 0 + 1, none⟩ = some (.slice (some ⟨g, 0, none⟩) x.rings.length c)) (ha : a < w'.heap.size) (h : RdR w' (some ⟨g, 0, none⟩) c (turnX x zs (oneZ 8 z n)).rings) => spec_l05Ok (b0 := profB (turnX x zs (oneZ 8 z n))) w' (turnX x zs (oneZ 8 z n)) a 0 (some ⟨g, 0, none⟩) c g0 (by rw [turnX_len]; exact g1) ha hs h (by rw [turnX_len]; omega) rfl)
  have HC : Hid (∀ n : Nat, profB (turnX x zs (oneZ 8 z n)) = validN x zs z n) := Lib.hid (fun n => by unfold validN turnX; rw [one_congr n x.rings hz18.1 hzl hz18.2 (Nat.le_refl _)])
  have HM0 : Hid (mostF (validN x zs z) (20 - 0) 0 = mostZ x zs z) := Lib.hid rfl
  generalize mostZ x zs z = mz at *
  generalize validN x zs z = pv at *
  have hz8 : (z : Int) < 8 := by omega
  have hz0' : (0 : Int) ≤ (z : Int) := by omega
  have hz8n : z < 8 := by omega
  clear hp hR hx hz hzb hs
  go_enter Tryz.func91, Tryz.ntmps91
  go_wp2_with fail
  go_loopw [7] (fun i wr => ∃ (n : Nat), n ≤ 20 ∧ i = .int .i64 n ∧ mostF pv (20 - n) n = mz ∧ Below w.heap.size w wr) (fun i _ => 20 - (intOf i).toNat)
  case atStart => exact ⟨0, by omega, rfl, HM0.out, Below.refl _ _⟩
  case round =>
    obtain ⟨n, hn, rfl, hm, hb⟩ := hrel
    have HM := Lib.hid hm
    have HB := Lib.hid hb
    clear hm hb
    by_cases hlt : n < 20
    · have hnI : (n : Int) < 20 := by omega
      go_wp2_with (at_make; go_loud (refine wpList_make_blk _ rfl _ _ 22 rfl 2 i0 (.int .i64 0) 1 8 Tryz.underlying22 hi hz0 hz1 hz2 _ _ _ _ 8 rfl rfl rfl rfl (by omega) (by unfold maxLen; omega) ?_; intro w1 ho hb1 hs1; rw [madeN] at ho; have d0 := zero_cell ho hz8n; have f0 := ho.free z; have hg := ho.lt; have HO := Lib.hid (one_set ho hz8n ((n : Int) + 1)); have B1 := Lib.hid (bnext HB.out hb1); clear ho hb1 hs1))
      have B2 : Hid (Below w.heap.size w (w1.setCell ⟨wr.heap.size, z, none⟩ (.int .i64 ((n : Int) + 1)))) := Lib.hid (Below.setCell B1.out HB.out.size _)
      refine (HT.out _ B2.out wr.heap.size ((n : Int) + 1) (by omega) HO.out).mono ?_; rintro e w3 ⟨g3, c3, rfl, o3, b3⟩
      have B3 := Lib.hid (bnext B2.out b3)
      obtain ⟨W4, hW4⟩ : ∃ W4, w3.alloc (.cells #[.string x.name, .slice (some ⟨g3, 0, none⟩) x.rings.length c3] 43) = W4 := ⟨_, rfl⟩
      have b4 : Below w3.heap.size w3 W4 := hW4 ▸ (Below.refl _ _).alloc (Nat.le_refl _) _
      have P4 : Own W4 w3.heap.size 43 [.string x.name, .slice (some ⟨g3, 0, none⟩) x.rings.length c3] := hW4 ▸ Own.new w3 _ _
      have HVV := Lib.hid (HV.out W4 w3.heap.size g3 c3 ((n : Int) + 1) (P4.cell 0) (P4.cell 1) P4.lt (RdR.up (turn_rd o3) b4))
      have e1 : profB (turnX x zs (oneZ 8 z ((n : Int) + 1))) = pv (n + 1) := HC.out (n + 1)
      rw [e1] at HVV
      have HST := Lib.hid (mostF_step hlt HM.out)
      have B4 := Lib.hid (bnext B3.out b4)
      clear b3 b4 o3 P4 B1 B2 B3 HB HO hg d0 f0 e1
      subst hW4
      go_wp2_with fail
      refine HVV.out.mono ?_; rintro e w5 ⟨rfl, b5⟩
      have B5 := Lib.hid (bnext B4.out b5)
      clear b5 B4 HVV
      obtain ⟨pb, hpb⟩ : ∃ b, pv (n + 1) = b := ⟨_, rfl⟩
      have HPB := Lib.hid hpb
      rw [hpb]
      clear hpb
      cases pb
      · have e : Hid ((n : Int) = mz) := Lib.hid (by rw [HST.out.2 HPB.out])
        go_wp2_with fail
        go_ret
        exact ⟨by rw [e.out] <;> rfl, B5.out⟩
      · go_wp2_with fail
        go_roundw
        case rel => exact ⟨n + 1, by omega, by go_num, HST.out.1 HPB.out, B5.out⟩
        case measure => simp [intOf]; omega
    · obtain rfl : n = 20 := by omega
      have e : Hid ((20 : Nat) = mz) := Lib.hid HM.out
      go_wp2_with fail
      go_ret
      exact ⟨by rw [← e.out] <;> rfl, HB.out⟩
set_option maxHeartbeats 2000000 in
theorem impl_mostSteps (w : World) (x : Profile) (lo : Option Addr) (lc : Nat) (zo : Option Addr) (zc : Nat) (zs : List Int) (z : Nat) (hzl : z < zs.length) (hs : x.name.size ≤ maxLen) (hR : RdR w lo lc x.rings) (hx : profB x = true) (hz : Rd w.heap.size w (.slice zo zs.length zc) 1 zs.length (zs.flatMap putI)) (hzb : zonesB x.rings.length zs = true) :
    Calls Tryz.prog 136 #[.agg #[.string x.name, .slice lo x.rings.length lc], .slice zo zs.length zc, .int .i64 z] w fun e w' => e = .returned (.int .i64 (mostZ x zs z)) ∧ Below w.heap.size w w' := by
  obtain ⟨n1, n32, _⟩ := profB_true hx
  have hz18 := (zonesB_parts hzb).1
  obtain ⟨i0, hi, hz0, hz1, hz2⟩ := info_parts info_i64
  obtain ⟨k, hk⟩ : ∃ k, zs.length = k := ⟨_, rfl⟩
  have HT := Lib.hid (fun (w' : World) (hb : Below w.heap.size w w') (g : Nat) (n : Int) (h : 0 ≤ n ∧ n ≤ 20) (o : Own w' g 2 ((oneZ zs.length z n).flatMap putI)) => impl_turnO w' g zs.length x lo lc zo zc zs (oneZ zs.length z n) (hR.up hb) hx (hz.up hb) hzb o (oneZ_len ..) (Nat.le_refl _) (by omega) (oneZ_bd h))
  have HV := Lib.hid (fun (w' : World) (g c : Nat) (n : Int) (h : RdR w' (some ⟨g, 0, none⟩) c (turnX x zs (oneZ zs.length z n)).rings) => impl_ValidProfile (b0 := profB (turnX x zs (oneZ zs.length z n))) w' (turnX x zs (oneZ zs.length z n)) (some ⟨g, 0, none⟩) c hs h (by rw [turnX_len]; omega) rfl)
  have HC : Hid (∀ n : Nat, profB (turnX x zs (oneZ zs.length z n)) = validN x zs z n) := Lib.hid (fun n => rfl)
  have HM0 : Hid (mostF (validN x zs z) (20 - 0) 0 = mostZ x zs z) := Lib.hid rfl
  generalize mostZ x zs z = mz at *
  generalize validN x zs z = pv at *
  obtain ⟨W1, hW1⟩ : ∃ W1, w.alloc (.cells #[.string x.name, .slice lo x.rings.length lc] 43) = W1 := ⟨_, rfl⟩
  have b1 : Below w.heap.size w W1 := hW1 ▸ (Below.refl _ _).alloc (Nat.le_refl _) _
  have P1 : Own W1 w.heap.size 43 [.string x.name, .slice lo x.rings.length lc] := hW1 ▸ Own.new w _ _
  have HB1 := Lib.hid b1
  have HP1 := Lib.hid P1
  rw [hk] at HT HV HC hz18 hzl ⊢
  have HXL := Lib.hid (turnX_len x zs)
  have hzkI : (z : Int) < (k : Int) := by omega
  have hz0' : (0 : Int) ≤ (z : Int) := by omega
  clear hR hx hz hzb hs b1 P1
  go_enter Tryz.func136, Tryz.ntmps136
  go_wp2_with fail
  go_loopw [7] (fun i wr => ∃ (n : Nat), n ≤ 20 ∧ i = .int .i64 ((n : Int) + 1) ∧ mostF pv (20 - n) n = mz ∧ Below W1.heap.size W1 wr) (fun i _ => 21 - (intOf i).toNat)
  case atStart => exact ⟨0, by omega, rfl, HM0.out, Below.refl _ _⟩
  case round =>
    obtain ⟨n, hn, rfl, hm, hb⟩ := hrel
    have HM := Lib.hid hm
    have BR := Lib.hid hb
    have PR := HP1.out.below hb HP1.out.lt
    have p0 : wr.cell? ⟨w.heap.size, 0, none⟩ = some (.string x.name) := PR.cell 0
    have p1 : wr.cell? ⟨w.heap.size, 1, none⟩ = some (.slice lo x.rings.length lc) := PR.cell 1
    have pl := PR.lt
    have hwr : W1.heap.size ≤ wr.heap.size := hb.size
    have hww : w.heap.size ≤ W1.heap.size := HB1.out.size
    clear hm hb PR
    by_cases hlt : n < 20
    · have hnI : (n : Int) + 1 ≤ 20 := by omega
      go_wp2_with (at_make; go_loud (refine wpList_make_blk _ rfl _ _ 22 rfl 2 i0 (.int .i64 0) 1 8 Tryz.underlying22 hi hz0 hz1 hz2 _ _ _ _ k rfl rfl rfl rfl (by omega) (by unfold maxLen; omega) ?_; intro w1 ho hb1 hs1; rw [madeN] at ho; have d0 := zero_cell ho hzl; have f0 := ho.free z; have hg := ho.lt; have HO := Lib.hid (one_set ho hzl ((n : Int) + 1)); have B1 := Lib.hid (bnext BR.out hb1); have q0 : w1.cell? ⟨w.heap.size, 0, none⟩ = some (.string x.name) := (hb1.cell (p := ⟨w.heap.size, 0, none⟩) pl).trans p0; have q1 : w1.cell? ⟨w.heap.size, 1, none⟩ = some (.slice lo x.rings.length lc) := (hb1.cell (p := ⟨w.heap.size, 1, none⟩) pl).trans p1; have ql : w.heap.size < w1.heap.size := Nat.lt_trans pl hs1; have hne : ¬ wr.heap.size = w.heap.size := Nat.ne_of_gt pl; have hne2 : ¬ w.heap.size = wr.heap.size := Nat.ne_of_lt pl; clear ho hb1 hs1))
      have B2 : Hid (Below W1.heap.size W1 (w1.setCell ⟨wr.heap.size, z, none⟩ (.int .i64 ((n : Int) + 1)))) := Lib.hid (Below.setCell B1.out hwr _)
      refine (HT.out _ (bnext HB1.out B2.out) wr.heap.size ((n : Int) + 1) (by omega) HO.out).mono ?_; rintro e w3 ⟨g3, c3, rfl, o3, b3⟩
      have B3 := Lib.hid (bnext B2.out b3)
      have HVV := Lib.hid (HV.out w3 g3 c3 ((n : Int) + 1) (turn_rd o3))
      have e1 : profB (turnX x zs (oneZ k z ((n : Int) + 1))) = pv (n + 1) := HC.out (n + 1)
      rw [e1, HXL.out] at HVV
      have HST := Lib.hid (mostF_step hlt HM.out)
      clear b3 o3 B1 B2 HO hg d0 f0 e1 q0 q1 ql hne hne2 p0 p1 pl
      go_wp2_with fail
      refine HVV.out.mono ?_; rintro e w5 ⟨rfl, b5⟩
      have B5 := Lib.hid (bnext B3.out b5)
      clear b5 B3 HVV
      obtain ⟨pb, hpb⟩ : ∃ b, pv (n + 1) = b := ⟨_, rfl⟩
      have HPB := Lib.hid hpb
      rw [hpb]
      clear hpb
      cases pb
      · have e : Hid ((n : Int) = mz) := Lib.hid (by rw [HST.out.2 HPB.out])
        go_wp2_with fail
        go_ret
        exact ⟨by rw [← e.out] <;> first | rfl | go_num, bnext HB1.out B5.out⟩
      · go_wp2_with fail
        go_roundw
        case rel => exact ⟨n + 1, by omega, by go_num, HST.out.1 HPB.out, B5.out⟩
        case measure => simp [intOf]; omega
    · obtain rfl : n = 20 := by omega
      have e : Hid ((20 : Nat) = mz) := Lib.hid HM.out
      go_wp2_with fail
      go_ret
      exact ⟨by rw [← e.out] <;> rfl, bnext HB1.out BR.out⟩
end Go.Proofs.YtcjekailcljaaaaGreat
