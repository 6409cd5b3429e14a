/- Contracts and plain facts, joined: ApplyS, Round. -/
import Derived.Test.YtcjekailcljaaaaGreatRows
import Derived.Test.YtcjekailcljaaaaGreatZFnExactGreedyPlanF
import Derived.Test.YtcjekailcljaaaaGreatZFnExactGreedyPlanQ
import Derived.Test.YtcjekailcljaaaaGreatZFnExactGreedyPlanU
import Derived.Test.YtcjekailcljaaaaGreatZFnExactGreedyPlanX
namespace Go.Proofs.YtcjekailcljaaaaGreat
open Go.ChangeShapes Go.WideShapes Go.ChangeAt Go.RowKit Go.Deep Go.Joins
set_option linter.unusedVariables false
set_option maxRecDepth 100000
set_option linter.unusedSimpArgs false
/-- the code of cuts that are valid, ahead of the profile -/
def cutCode (zs : List Int) (cs : List Cut) : Int := if cs.any (fun c => decide ((zs.length : Int) ≤ c.zone)) = true then 2 else if fitsB (sumsS cs) = true then 0 else 5
def afterX (x : Profile) (zs : List Int) (cs : List Cut) : Profile := ⟨x.name, .slice none 0 0, turnedS zs (sumsS cs) x.rings⟩
def applyCode (x : Profile) (zs : List Int) (cs : List Cut) : Int := if cutCode zs cs = 0 then (if profB (afterX x zs cs) = true then 0 else 6) else cutCode zs cs
theorem cutCode_2 {zs : List Int} {cs : List Cut} (h : cs.any (fun c => decide ((zs.length : Int) ≤ c.zone)) = true) : cutCode zs cs = 2 := by unfold cutCode; rw [if_pos h]
theorem cutCode_f {zs : List Int} {cs : List Cut} (h : cs.any (fun c => decide ((zs.length : Int) ≤ c.zone)) = false) {b : Bool} (hb : fitsB (sumsS cs) = b) : cutCode zs cs = if b = true then 0 else 5 := by unfold cutCode; rw [h, hb]; rfl
theorem any_hit {cs : List Cut} {p : Cut → Bool} {k : Nat} (h : k < cs.length) (hp : p cs[k] = true) : cs.any p = true := List.any_eq_true.2 ⟨cs[k], List.getElem_mem h, hp⟩
theorem own_sums {w : World} {g : Nat} {cs : List Cut} (o : Own w g 2 ((sumsS cs).flatMap putI)) : Rd w.heap.size w (.slice (some ⟨g, 0, none⟩) (sumsS cs).length 8) 1 (sumsS cs).length ((sumsS cs).flatMap putI) := by
  rw [sumsS_len]
  exact o.rd o.lt (n := 8) ((flat_len (s := 1) (sumsS cs) (fun _ _ => rfl)).trans (by rw [sumsS_len])) (by unfold maxLen; omega) _ (Nat.le_refl _) (by unfold maxLen; omega)
set_option maxHeartbeats 2000000 in
theorem spec_l09Ask (w : World) (p : Nat) (x : Profile) (lo zo co : Option Addr) (lc zc cc : Nat) (zs : List Int) (cs : List Cut) (hp : ProfAt w p x lo lc) (hs : x.name.size ≤ maxLen) (hR : RdR w lo lc x.rings) (hn : x.rings.length ≤ 1048576) (hz : Rd w.heap.size w (.slice zo zs.length zc) 1 zs.length (zs.flatMap putI)) (hzn : zs.length ≤ 1048576)
    (hc : Rd w.heap.size w (.slice co cs.length cc) 2 cs.length (cs.flatMap Cut.put)) (hpz : pzB x zs = true) (hcb : cutsB cs = true) :
    Calls Tryz.prog 59 #[.pointer (some ⟨p, 0, none⟩), .slice zo zs.length zc, .slice co cs.length cc] w fun e w' => e = .returned (.int .i64 (cutCode zs cs)) ∧ Below w.heap.size w w' := by
  have hcl := (cutsB_parts hcb).1
  have HZ := Lib.hid (spec_l09Zones w p x lo lc _ zs hp hs hR hn hz hzn)
  rw [hpz] at HZ
  have HC := Lib.hid hc
  have HCB := Lib.hid hcb
  clear hp hR hz hc hpz hcb
  go_enter Tryz.func59, Tryz.ntmps59
  go_wp2_with fail
  refine HZ.out.mono ?_; rintro e w1 ⟨rfl, b1⟩
  have HC1 := Lib.hid (HC.out.up b1)
  have HCC := Lib.hid (spec_l09Cuts w1 _ cs HC1.out (by omega))
  rw [HCB.out] at HCC
  have B1 := Lib.hid b1
  clear b1 HZ
  go_wp2_with fail
  refine HCC.out.mono ?_; rintro e w2 ⟨rfl, b2⟩
  have HC2 := Lib.hid (HC1.out.up b2)
  have B2 := Lib.hid (bnext B1.out b2)
  have HSU := Lib.hid (spec_l09Sums w2 co cc cs HC2.out HCB.out)
  clear b2 HCC HC HC1 B1
  go_wp2_with fail
  go_loop [7] (fun i => ∃ (k : Nat), k ≤ cs.length ∧ i = .int .i64 k ∧ (cs.take k).any (fun c => decide ((zs.length : Int) ≤ c.zone)) = false) (fun i => cs.length - (intOf i).toNat)
  case atStart => exact ⟨0, Nat.zero_le _, rfl, rfl⟩
  case round =>
    obtain ⟨k, hk, rfl, hall⟩ := hrel
    have Hall := Lib.hid hall; clear hall
    by_cases hlt : k < cs.length
    · obtain ⟨hL, ao', cap', ee, _, _, _, hsome⟩ := HC2.out
      injection ee with q1 q2 q3
      subst q1 q3
      obtain ⟨b, off, rfl, hbB, hcc⟩ := hsome (by omega)
      have c0 : w2.cell? ⟨b, off + k * 2, none⟩ = some (.int .i64 cs[k].zone) := by rw [show off + k * 2 = off + (k * 2 + 0) from by omega, hcc (k * 2 + 0) (by omega), Cut_get0 cs k hlt]
      clear hcc hsome q2 hL HSU
      have HA := Lib.hid (any_take (p := fun c : Cut => decide ((zs.length : Int) ≤ c.zone)) cs k hlt)
      have HH := Lib.hid (fun hp => any_hit (p := fun c : Cut => decide ((zs.length : Int) ≤ c.zone)) hlt hp)
      by_cases hx : (zs.length : Int) ≤ cs[k].zone
      · have e := Lib.hid (cutCode_2 (HH.out (decide_eq_true hx)))
        have t1 : decide ((zs.length : Int) ≤ cs[k].zone) = true := decide_eq_true hx
        clear hx HA HH
        generalize cs[k].zone = Z at *
        go_wp2_with fail
        go_ret
        exact ⟨by rw [e.out]; rfl, B2.out⟩
      · have e : Hid ((cs.take (k + 1)).any (fun c => decide ((zs.length : Int) ≤ c.zone)) = false) := Lib.hid (by rw [HA.out, Hall.out, decide_eq_false hx]; rfl)
        have t1 : decide ((zs.length : Int) ≤ cs[k].zone) = false := decide_eq_false hx
        clear hx HA HH
        generalize cs[k].zone = Z at *
        go_wp2_with fail
        go_round
        case rel => exact ⟨k + 1, by omega, by go_num, e.out⟩
        case measure => simp [intOf]; omega
    · obtain rfl : k = cs.length := by omega
      have HN : Hid (cs.any (fun c => decide ((zs.length : Int) ≤ c.zone)) = false) := Lib.hid (by have := Hall.out; rwa [List.take_of_length_le (Nat.le_refl _)] at this)
      obtain ⟨fb, hfb⟩ : ∃ b, fitsB (sumsS cs) = b := ⟨_, rfl⟩
      have e := Lib.hid (cutCode_f HN.out hfb)
      have HFB := Lib.hid hfb
      clear hfb Hall
      go_wp2_with fail
      refine HSU.out.mono ?_; rintro e w3 ⟨g, rfl, hg, o3, b3⟩
      have HF := Lib.hid (spec_l09Fits w3 _ (sumsS cs) (own_sums o3) (by rw [sumsS_len]; omega))
      rw [sumsS_len, HFB.out] at HF
      have B3 := Lib.hid (bnext B2.out b3)
      clear b3 o3 HSU
      go_wp2_with fail
      refine HF.out.mono ?_; rintro e w4 ⟨rfl, rfl⟩
      cases fb
      all_goals go_wp2_with fail
      all_goals go_ret
      all_goals exact ⟨by rw [e.out]; rfl, B3.out⟩
set_option maxHeartbeats 1000000 in
theorem spec_l07DoneX (w : World) (x : Profile) (lo : Option Addr) (lc : Nat) (hs : x.name.size ≤ maxLen) (hR : RdR w lo lc x.rings) (hn : x.rings.length ≤ 1048576) :
    Calls Tryz.prog 60 #[.agg #[.string x.name, .slice lo x.rings.length lc]] w fun e w' => (if profB x = true then e = .returned (.tuple #[.agg #[.string x.name, .slice lo x.rings.length lc], .int .i64 0]) else e = .returned (.tuple #[.agg #[.string ⟨#[]⟩, .slice none 0 0], .int .i64 6])) ∧ Below w.heap.size w w' := by
  obtain ⟨W1, hW1⟩ : ∃ W1, w.alloc (.cells #[.string x.name, .slice lo x.rings.length lc] 43) = W1 := ⟨_, rfl⟩
  obtain ⟨W2, hW2⟩ : ∃ W2, W1.alloc (.cells #[.string ⟨#[]⟩, .slice none 0 0] 43) = W2 := ⟨_, rfl⟩
  have b1 : Below w.heap.size w W1 := hW1 ▸ (Below.refl _ _).alloc (Nat.le_refl _) _
  have b2 : Below W1.heap.size W1 W2 := hW2 ▸ (Below.refl _ _).alloc (Nat.le_refl _) _
  have X1 : Own W1 w.heap.size 43 [.string x.name, .slice lo x.rings.length lc] := hW1 ▸ Own.new w _ _
  have X2 := X1.below b2 X1.lt
  have R2 : Own W2 W1.heap.size 43 [.string ⟨#[]⟩, .slice none 0 0] := hW2 ▸ Own.new W1 _ _
  have zw1 : w.heap.size < W1.heap.size := X1.lt
  have B2 := Lib.hid (bnext b1 b2)
  have HX2 := Lib.hid X2
  have HR2 := Lib.hid R2
  obtain ⟨pb, hpb⟩ : ∃ b, profB x = b := ⟨_, rfl⟩
  have HO := Lib.hid (spec_l05Ok W2 x w.heap.size 0 lo lc (X2.cell 0) (X2.cell 1) X2.lt hs ((hR.up b1).up b2) hn hpb)
  clear hR b1 b2 X1 X2 R2
  rw [hpb]
  clear hpb
  go_enter Tryz.func60, Tryz.ntmps60
  go_wp2_with fail
  refine HO.out.mono ?_; rintro e w3 ⟨rfl, b3⟩
  have X3 := HX2.out.below b3 HX2.out.lt
  have R3 := HR2.out.below b3 HR2.out.lt
  have x0 : w3.cell? ⟨w.heap.size, 0, none⟩ = some (.string x.name) := X3.cell 0
  have x1 : w3.cell? ⟨w.heap.size, 1, none⟩ = some (.slice lo x.rings.length lc) := X3.cell 1
  have xl := X3.lt
  have r0 : w3.cell? ⟨W1.heap.size, 0, none⟩ = some (.string ⟨#[]⟩) := R3.cell 0
  have r1 : w3.cell? ⟨W1.heap.size, 1, none⟩ = some (.slice none 0 0) := R3.cell 1
  have f0 := R3.free 0
  have f1 := R3.free 1
  have rl := R3.lt
  have hne : ¬ W1.heap.size = w.heap.size := by omega
  have hne2 : ¬ w.heap.size = W1.heap.size := by omega
  have B3 := Lib.hid (bnext B2.out b3)
  have hge : w.heap.size ≤ W1.heap.size := Nat.le_of_lt zw1
  clear b3 X3 R3 HX2 HR2 B2 HO hW1 hW2
  cases pb
  · go_wp2_with fail
    refine bodyPost_ret (v := .tuple #[.agg #[.string ⟨#[]⟩, .slice none 0 0], .int .i64 6]) (by simp [results, Tryz.results60, go_sem, x0, x1, xl, r0, r1, f0, f1, rl, hne, hne2]) rfl ?_
    exact ⟨rfl, Below.setCell (Below.setCell B3.out hge _) hge _⟩
  · go_wp2_with fail
    refine bodyPost_ret (v := .tuple #[.agg #[.string x.name, .slice lo x.rings.length lc], .int .i64 0]) (by simp [results, Tryz.results60, go_sem, x0, x1, xl, r0, r1, f0, f1, rl, hne, hne2]) rfl ?_
    exact ⟨rfl, Below.setCell (Below.setCell B3.out hge _) hge _⟩
end Go.Proofs.YtcjekailcljaaaaGreat
namespace Go.Proofs.YtcjekailcljaaaaGreat
open Go.ChangeShapes Go.WideShapes Go.ChangeAt Go.RowKit Go.Deep Go.Joins
set_option linter.unusedVariables false
set_option maxRecDepth 100000
set_option linter.unusedSimpArgs false
/-- the nearest integer to a / b, halves away from 0; b is positive -/
def divR (a b : Int) : Int := if a < 0 then -((b - 2 * a) / (2 * b)) else (2 * a + b) / (2 * b)

theorem half (q r b : Int) (hb : 0 < b) (h0 : 0 ≤ r) (h1 : r < b) : (2 * (b * q + r) + b) / (2 * b) = if b - r ≤ r then q + 1 else q := by
  have e : 2 * (b * q + r) + b = (2 * r + b) + q * (2 * b) := by
    have h1 : 2 * (b * q + r) = 2 * (b * q) + 2 * r := by omega
    have h2 : q * (2 * b) = 2 * (b * q) := by rw [Int.mul_comm q, Int.mul_assoc]
    omega
  rw [e, Int.add_mul_ediv_right _ _ (by omega)]
  split
  · rename_i h
    have : (2 * r + b) / (2 * b) = 1 := by
      have h2 : 2 * r + b = (2 * r - b) + 1 * (2 * b) := by omega
      rw [h2, Int.add_mul_ediv_right _ _ (by omega), Int.ediv_eq_zero_of_lt (by omega) (by omega)]
      omega
    omega
  · rename_i h
    have : (2 * r + b) / (2 * b) = 0 := Int.ediv_eq_zero_of_lt (by omega) (by omega)
    omega

/-- for a that is not negative -/
theorem divR_pos (a b : Int) (hb : 0 < b) (ha : 0 ≤ a) : divR a b = if b - a % b ≤ a % b then a / b + 1 else a / b := by
  unfold divR
  rw [if_neg (by omega)]
  have h := half (a / b) (a % b) b hb (Int.emod_nonneg _ (by omega)) (Int.emod_lt_of_pos _ hb)
  rw [Int.mul_ediv_add_emod] at h
  exact h
theorem divR_neg (a b : Int) (hb : 0 < b) (ha : a < 0) : divR a b = -(if b - (-a) % b ≤ (-a) % b then (-a) / b + 1 else (-a) / b) := by
  unfold divR
  rw [if_pos ha]
  have h := half ((-a) / b) ((-a) % b) b hb (Int.emod_nonneg _ (by omega)) (Int.emod_lt_of_pos _ hb)
  rw [Int.mul_ediv_add_emod] at h
  rw [← h]
  congr 2
  omega

theorem spec_l01Div (a b : Int) (w : World) (hb : 0 < b) (hb2 : b ≤ 1000000000000000000) (ha : -1000000000000000000 ≤ a) (ha2 : a ≤ 1000000000000000000) :
    Calls Tryz.prog 68 #[.int .i64 a, .int .i64 b] w fun e w' => e = .returned (.int .i64 (divR a b)) ∧ w = w' := by
  unfold divR
  by_cases h : a < 0
  · rw [if_pos h]
    have h1 : 0 ≤ (b - 2 * a) / (2 * b) := Int.ediv_nonneg (by omega) (by omega)
    have h2 : (b - 2 * a) / (2 * b) ≤ 4000000000000000000 := by
      apply Int.ediv_le_of_le_mul (by omega)
      have : b - 2 * a ≤ 4000000000000000000 := by omega
      have h3 : (4000000000000000000 : Int) * 1 ≤ 4000000000000000000 * (2 * b) := Int.mul_le_mul_of_nonneg_left (by omega) (by omega)
      omega
    go_enter Tryz.func68, Tryz.ntmps68
    go_wp2
    go_ret
    exact ⟨rfl, rfl⟩
  · rw [if_neg h]
    go_enter Tryz.func68, Tryz.ntmps68
    go_wp2
    go_ret
    exact ⟨rfl, rfl⟩

theorem impl_abs_pos (a : Int) (w : World) (h : 0 ≤ a) : Calls Tryz.prog 96 #[.int .i64 a] w fun e w' => e = .returned (.int .i64 a) ∧ w = w' := by
  go_enter Tryz.func96, Tryz.ntmps96
  go_wp2
  all_goals go_ret
  all_goals exact ⟨rfl, rfl⟩
theorem impl_abs_neg (a : Int) (w : World) (h : 0 ≤ a) (h2 : a ≤ 1000000000000000000) : Calls Tryz.prog 96 #[.int .i64 (-a)] w fun e w' => e = .returned (.int .i64 a) ∧ w = w' := by
  by_cases h0 : a = 0
  · subst h0
    go_enter Tryz.func96, Tryz.ntmps96
    go_wp2
    all_goals go_ret
    all_goals exact ⟨rfl, rfl⟩
  · have h1 : -a < 0 := by omega
    go_enter Tryz.func96, Tryz.ntmps96
    go_wp2
    all_goals go_ret
    all_goals exact ⟨by simp, rfl⟩

theorem impl_nearest (a b : Int) (w : World) (hb : 0 < b) (hb2 : b ≤ 1000000000000000000) (ha : -1000000000000000000 ≤ a) (ha2 : a ≤ 1000000000000000000) :
    Calls Tryz.prog 113 #[.int .i64 a, .int .i64 b] w fun e w' => e = .returned (.int .i64 (divR a b)) ∧ Drew w w' := by
  by_cases h : a < 0
  · rw [divR_neg a b hb h]
    obtain ⟨m, rfl⟩ : ∃ m, a = -m := ⟨-a, by omega⟩
    rw [Int.neg_neg]
    have h0 : 0 < m := by omega
    have h1 : 0 ≤ m / b := Int.ediv_nonneg (by omega) (by omega)
    have h2 : 0 ≤ m % b := Int.emod_nonneg _ (by omega)
    have h3 : m % b < b := Int.emod_lt_of_pos _ hb
    have h4 : m / b ≤ m := by
      apply Int.ediv_le_self _ (by omega)
    have e1 : (-m).tdiv b = -(m / b) := by rw [Int.neg_tdiv, Int.tdiv_eq_ediv_of_nonneg (by omega)]
    have e2 : (-m).tmod b = -(m % b) := by rw [Int.neg_tmod, Int.tmod_eq_emod_of_nonneg (by omega)]
    have d1 : decide (-m < 0) = true := by simpa using h
    have d2 : decide (b < 0) = false := by simp; omega
    clear h
    by_cases h5 : b - m % b ≤ m % b
    all_goals
      simp only [h5, if_true, if_false]
      go_enter Tryz.func113, Tryz.ntmps113
      go_wp2
      go_quiet ((first | (go_at_call 96; exact quietE (impl_abs_neg _ _ (by assumption) (by omega))) | (go_at_call 96; exact quietE (impl_abs_pos _ _ (by omega)))))
      go_wp2
      all_goals go_ret
      all_goals exact ⟨congrArg (fun x => Ending.returned (Value.int .i64 x)) (by omega), _, rfl⟩
  · rw [divR_pos a b hb (by omega)]
    have h1 : 0 ≤ a / b := Int.ediv_nonneg (by omega) (by omega)
    have h2 : 0 ≤ a % b := Int.emod_nonneg _ (by omega)
    have h3 : a % b < b := Int.emod_lt_of_pos _ hb
    have h4 : a / b ≤ a := Int.ediv_le_self _ (by omega)
    have d1 : decide (a < 0) = false := by simpa using h
    have d2 : decide (b < 0) = false := by simp; omega
    clear h
    by_cases h5 : b - a % b ≤ a % b
    all_goals
      simp only [h5, if_true, if_false]
      go_enter Tryz.func113, Tryz.ntmps113
      go_wp2
      go_quiet ((go_at_call 96; exact quietE (impl_abs_pos _ _ (by omega))))
      go_wp2
      all_goals go_ret
      all_goals exact ⟨rfl, _, rfl⟩
end Go.Proofs.YtcjekailcljaaaaGreat
