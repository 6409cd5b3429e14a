/- Contracts and plain facts, joined: Cents, StepApp, DevL. -/
import Derived.Test.YtcjekailcljaaaaGreatRows
import Derived.Test.YtcjekailcljaaaaGreatZFnExactGreedyPlanC
import Derived.Test.YtcjekailcljaaaaGreatZFnExactGreedyPlanF
import Derived.Test.YtcjekailcljaaaaGreatZFnExactGreedyPlanI
import Derived.Test.YtcjekailcljaaaaGreatZFnExactGreedyPlanN
import Derived.Test.YtcjekailcljaaaaGreatZFnExactGreedyPlanO
import Derived.Test.YtcjekailcljaaaaGreatZFnExactGreedyPlanZ
import Derived.Shelf.Lay
import Derived.Shelf.Strconv.Itoa0
import Derived.Ground.NamesProg
import Derived.Lib.ItoaNum
namespace Go.Proofs.YtcjekailcljaaaaGreat
open Go.ChangeShapes Go.WideShapes Go.ChangeAt Go.RowKit Go.Deep Go.Joins
set_option linter.unusedVariables false
set_option maxRecDepth 100000
set_option linter.unusedSimpArgs false
def fineStep (q : Int × Int) : Int × Int := if 2147483648 ≤ q.1 * q.1 / 1073741824 then (q.1 * q.1 / 1073741824 / 2, q.2 * 2 + 1) else (q.1 * q.1 / 1073741824, q.2 * 2)
def fineIt (x : Int) : Nat → Int × Int
  | 0 => (x, 0)
  | k + 1 => fineStep (fineIt x k)
/-- a number's highest bit -/
def hiBit (n : Int) : Nat := Lib.bitLen n.toNat - 1
def fineI (n : Int) : Int := (hiBit n : Int) * 16777216 + (fineIt (n * 2 ^ (30 - hiBit n)) 24).2
def logI (n : Int) : Int := 12000 * fineI n / 16777216
def centI (f g : Int) : Int := logI g - logI f
theorem hiBit_spec {n : Int} (h1 : 10000 ≤ n) (h2 : n ≤ 20000000) : Lib.bitLen n.toNat = hiBit n + 1 ∧ 2 ^ hiBit n ≤ n.toNat ∧ n.toNat < 2 ^ (hiBit n + 1) ∧ 13 ≤ hiBit n ∧ hiBit n ≤ 24 := by
  have hb := Lib.bitLenAux_bounds 64 n.toNat (by omega) (by omega)
  change 1 ≤ Lib.bitLen n.toNat ∧ 2 ^ (Lib.bitLen n.toNat - 1) ≤ n.toNat ∧ n.toNat < 2 ^ Lib.bitLen n.toNat at hb
  obtain ⟨h3, h4, h5⟩ := hb
  have e : Lib.bitLen n.toNat = hiBit n + 1 := by unfold hiBit; omega
  rw [e] at h5
  refine ⟨e, h4, h5, ?_, ?_⟩
  · rcases Nat.lt_or_ge (hiBit n) 13 with h | h
    · have : 2 ^ (hiBit n + 1) ≤ 2 ^ 13 := Nat.pow_le_pow_right (by omega) (by omega)
      omega
    · exact h
  · rcases Nat.lt_or_ge 24 (hiBit n) with h | h
    · have h4' : 2 ^ hiBit n ≤ n.toNat := h4
      have : 2 ^ 25 ≤ 2 ^ hiBit n := Nat.pow_le_pow_right (by omega) (by omega)
      omega
    · exact h
theorem sq_bd {x : Int} (h0 : 0 ≤ x) (h1 : x < 2147483648) : 0 ≤ x * x ∧ x * x ≤ 4611686014132420609 := by
  refine ⟨Int.mul_nonneg h0 h0, ?_⟩
  have := Int.mul_le_mul (show x ≤ 2147483647 by omega) (show x ≤ 2147483647 by omega) h0 (by omega)
  omega
theorem fine_start {n : Int} (h1 : 10000 ≤ n) (h2 : n ≤ 20000000) : 1073741824 ≤ n * 2 ^ (30 - hiBit n) ∧ n * 2 ^ (30 - hiBit n) < 2147483648 := by
  obtain ⟨_, h3, h4, h5, h6⟩ := hiBit_spec h1 h2
  generalize hiBit n = e at *
  have p1 : (2 : Nat) ^ e * 2 ^ (30 - e) = 2 ^ 30 := by rw [← Nat.pow_add]; congr 1; omega
  have p2 : (2 : Nat) ^ (e + 1) * 2 ^ (30 - e) = 2 ^ 31 := by rw [← Nat.pow_add]; congr 1; omega
  have q1 := Nat.mul_le_mul_right (2 ^ (30 - e)) h3
  have q2 := Nat.mul_lt_mul_of_pos_right h4 (Nat.two_pow_pos (30 - e))
  rw [p1] at q1
  rw [p2] at q2
  have e1 : n * 2 ^ (30 - e) = ((n.toNat * 2 ^ (30 - e) : Nat) : Int) := by push_cast; rw [Int.toNat_of_nonneg (by omega)]
  rw [e1]
  omega
theorem fineIt_bd {x : Int} (h0 : 0 ≤ x) (h1 : x < 2147483648) : ∀ k, 0 ≤ (fineIt x k).1 ∧ (fineIt x k).1 < 2147483648 ∧ 0 ≤ (fineIt x k).2 ∧ (fineIt x k).2 < 2 ^ k
  | 0 => ⟨h0, h1, Int.le_refl _, by simp [fineIt]⟩
  | k + 1 => by
    obtain ⟨a, b, c, d⟩ := fineIt_bd h0 h1 k
    have hs := sq_bd a b
    have e : fineIt x (k + 1) = fineStep (fineIt x k) := rfl
    rw [e, Int.pow_succ]
    unfold fineStep
    generalize (fineIt x k).1 * (fineIt x k).1 = y at *
    generalize (2 : Int) ^ k = z at *
    split
    · exact ⟨by simp only; omega, by simp only; omega, by simp only; omega, by simp only; omega⟩
    · exact ⟨by simp only; omega, by simp only; omega, by simp only; omega, by simp only; omega⟩
theorem fine_yes {x y r : Int} {k : Nat} (h : fineIt x k = (y, r)) (hy : 2147483648 ≤ y * y / 1073741824) : fineIt x (k + 1) = (y * y / 1073741824 / 2, r * 2 + 1) := by
  show fineStep (fineIt x k) = _
  rw [h]; unfold fineStep; rw [if_pos hy]
theorem fine_no {x y r : Int} {k : Nat} (h : fineIt x k = (y, r)) (hy : ¬ 2147483648 ≤ y * y / 1073741824) : fineIt x (k + 1) = (y * y / 1073741824, r * 2) := by
  show fineStep (fineIt x k) = _
  rw [h]; unfold fineStep; rw [if_neg hy]
theorem fine_r {x y r : Int} {k : Nat} (h0 : 0 ≤ x) (h1 : x < 2147483648) (h : fineIt x k = (y, r)) (hk : k ≤ 24) : (0 ≤ y ∧ y < 2147483648) ∧ 0 ≤ r ∧ r < 16777216 := by
  obtain ⟨a, b, c, d⟩ := fineIt_bd h0 h1 k
  rw [h] at a b c d
  have : (2 : Int) ^ k ≤ 2 ^ 24 := by
    have := Nat.pow_le_pow_right (show 0 < 2 by omega) hk
    exact_mod_cast this
  exact ⟨⟨a, b⟩, c, by have e : (2 : Int) ^ 24 = 16777216 := by decide
                       simp only at d; omega⟩
theorem hi_pos {n : Int} {E k : Nat} (h1 : 0 < n) (h3 : 2 ^ E ≤ n.toNat) (hk : k < E) : 0 < n / 2 ^ (k + 1) := by
  have h : 2 ^ (k + 1) ≤ 2 ^ E := Nat.pow_le_pow_right (by omega) (by omega)
  have h2 : ((2 ^ (k + 1) : Nat) : Int) ≤ n := by omega
  have h4 : ((2 ^ (k + 1) : Nat) : Int) = (2 : Int) ^ (k + 1) := by push_cast; rfl
  rw [h4] at h2
  have h5 : (0 : Int) < 2 ^ (k + 1) := Int.pow_pos (by omega)
  exact Int.le_ediv_of_mul_le h5 (by omega)
theorem hi_zero {n : Int} {E : Nat} (h1 : 0 < n) (h3 : n.toNat < 2 ^ (E + 1)) : n / 2 ^ (E + 1) = 0 := by
  have h2 : n < ((2 ^ (E + 1) : Nat) : Int) := by omega
  have h4 : ((2 ^ (E + 1) : Nat) : Int) = (2 : Int) ^ (E + 1) := by push_cast; rfl
  rw [h4] at h2
  exact Int.ediv_eq_zero_of_lt (by omega) h2
def Tryz.len64_ren : Go.Shelf.Ren := ⟨fun | 129 => 142 | n => n, fun | 53 => 175 | 3 => 3 | 4 => 4 | 46 => 165 | 5 => 5 | 9 => 9 | n => n, fun | n => n⟩
theorem Tryz.len64 : Go.Proofs.Lays.n129 Tryz.prog Tryz.len64_ren := {
  mixed := by kernel_rfl
  f129 := Tryz.func142.trans (congrArg some (by kernel_rfl))
  t3 := Tryz.underlying3
  a3 := Tryz.isAgg3
  z3 := Tryz.sizeOf3
  v3 := Tryz.zeroValue3
  t4 := Tryz.underlying4
  a4 := Tryz.isAgg4
  z4 := Tryz.sizeOf4
  v4 := Tryz.zeroValue4
  t5 := Tryz.underlying5
  a5 := Tryz.isAgg5
  z5 := Tryz.sizeOf5
  v5 := Tryz.zeroValue5
  t9 := Tryz.underlying9
  a9 := Tryz.isAgg9
  z9 := Tryz.sizeOf9
  v9 := Tryz.zeroValue9
  t46 := Tryz.underlying165
  a46 := Tryz.isAgg165
  z46 := Tryz.sizeOf165
  v46 := Tryz.zeroValue165
  t53 := Tryz.underlying175
  a53 := Tryz.isAgg175
  z53 := Tryz.sizeOf175
  v53 := Tryz.zeroValue175 }
theorem bits_Len64 (x : Int) (w : World) (h0 : 0 ≤ x) (h1 : x ≤ 18446744073709551615) :
    Calls Tryz.prog 142 #[.int .u64 x] w fun e w' => e = .returned (.int .i64 (Lib.bitLen x.toNat)) ∧ w' = w := Any.bits_Len64 Tryz.len64 x w h0 h1

set_option maxHeartbeats 2000000 in
theorem spec_l02Fine (n : Int) (w : World) (h1 : 10000 ≤ n) (h2 : n ≤ 20000000) : Calls Tryz.prog 128 #[.int .i64 n] w fun e w' => e = .returned (.int .i64 (fineI n)) ∧ w = w' := by
  obtain ⟨hl, h3, h4, h5, h6⟩ := hiBit_spec h1 h2
  have hs := fine_start h1 h2
  have HEF := Lib.hid (show ∀ y z k, k = 24 → fineIt (n * 2 ^ (30 - hiBit n)) k = (y, z) → fineI n = (hiBit n : Int) * 16777216 + z from fun y z k hk h => by unfold fineI; rw [← hk, h])
  generalize hiBit n = E at *
  go_enter Tryz.func128, Tryz.ntmps128
  go_wp2
  go_loop [3] (fun i => ∃ (m : Nat), m ≤ E ∧ i = .int .i64 m) (fun i => E - (intOf i).toNat)
  case atStart => exact ⟨0, Nat.zero_le _, rfl⟩
  case round =>
    obtain ⟨m, hm, rfl⟩ := hrel
    by_cases hke : m < E
    · have t1 := hi_pos (show 0 < n by omega) h3 hke
      go_wp2
      go_round
      case rel => exact ⟨m + 1, by omega, by go_num⟩
      case measure => simp [intOf]; omega
    · have em : E = m := by omega
      subst em
      have t1 := hi_zero (show 0 < n by omega) h4
      go_wp2
      go_loop [4, 5, 6] (fun x r i => ∃ (k : Nat) (y z : Int), k ≤ 24 ∧ i = .int .i64 k ∧ x = .int .i64 y ∧ r = .int .i64 z ∧ fineIt (n * 2 ^ (30 - E)) k = (y, z)) (fun _ _ i => 24 - (intOf i).toNat)
      case atStart => exact ⟨0, _, _, Nat.zero_le _, rfl, rfl, rfl, rfl⟩
      case round =>
        obtain ⟨k, y, z, hk, rfl, rfl, rfl, he⟩ := hrel
        have HE := Lib.hid he; clear he
        have hbd := fine_r (by omega) (by omega) HE.out hk
        by_cases hlt : k < 24
        · have hz : decide (k < 24) = true := decide_eq_true hlt
          have hsq := sq_bd hbd.1.1 hbd.1.2
          by_cases hy : 2147483648 ≤ y * y / 1073741824
          · have e : Hid (fineIt (n * 2 ^ (30 - E)) (k + 1) = (y * y / 1073741824 / 2, z * 2 + 1)) := fine_yes HE.out hy
            go_wp2_with fail
            go_round
            case rel => exact ⟨k + 1, _, _, by omega, by go_num, rfl, rfl, by rw [e.out]⟩
            case measure => simp [intOf]; omega
          · have e : Hid (fineIt (n * 2 ^ (30 - E)) (k + 1) = (y * y / 1073741824, z * 2)) := fine_no HE.out hy
            go_wp2_with fail
            go_round
            case rel => exact ⟨k + 1, _, _, by omega, by go_num, rfl, rfl, by rw [e.out]⟩
            case measure => simp [intOf]; omega
        · have hz : decide (k < 24) = false := decide_eq_false hlt
          have ef : Hid (fineI n = (E : Int) * 16777216 + z) := HEF.out y z k (by omega) HE.out
          go_wp2_with fail
          go_ret
          exact ⟨by rw [ef.out]; try rfl, rfl⟩
      

set_option maxHeartbeats 2000000 in
theorem impl_fineLog (n : Int) (w : World) (h1 : 10000 ≤ n) (h2 : n ≤ 20000000) : Calls Tryz.prog 135 #[.int .i64 n] w fun e w' => e = .returned (.int .i64 (fineI n)) ∧ w = w' := by
  obtain ⟨hl, h3, h4, h5, h6⟩ := hiBit_spec h1 h2
  have hs := fine_start h1 h2
  have HEF := Lib.hid (show ∀ y z k, k = 24 → fineIt (n * 2 ^ (30 - hiBit n)) k = (y, z) → fineI n = (hiBit n : Int) * 16777216 + z from fun y z k hk h => by unfold fineI; rw [← hk, h])
  generalize hiBit n = E at *
  have hE : decide (E ≤ 30) = true := decide_eq_true (by omega)
  go_enter Tryz.func135, Tryz.ntmps135
  go_wp2_with (go_at_call 142; refine (bits_Len64 _ _ (by omega) (by omega)).mono ?_; rw [hl]; rintro e1 w1 ⟨rfl, rfl⟩)
  go_loop [4, 5, 21] (fun x r i => ∃ (k : Nat) (y z : Int), k ≤ 24 ∧ i = .int .i64 k ∧ x = .int .i64 y ∧ r = .int .i64 z ∧ fineIt (n * 2 ^ (30 - E)) k = (y, z)) (fun _ _ i => 24 - (intOf i).toNat)
  case atStart => exact ⟨0, _, _, Nat.zero_le _, rfl, rfl, rfl, rfl⟩
  case round =>
    obtain ⟨k, y, z, hk, rfl, rfl, rfl, he⟩ := hrel
    have HE := Lib.hid he; clear he
    have hbd := fine_r (by omega) (by omega) HE.out hk
    by_cases hlt : k < 24
    · have hz : decide (k < 24) = true := decide_eq_true hlt
      have hsq := sq_bd hbd.1.1 hbd.1.2
      by_cases hy : 2147483648 ≤ y * y / 1073741824
      · have e : Hid (fineIt (n * 2 ^ (30 - E)) (k + 1) = (y * y / 1073741824 / 2, z * 2 + 1)) := fine_yes HE.out hy
        go_wp2_with fail
        go_round
        case rel => exact ⟨k + 1, _, _, by omega, by go_num, rfl, rfl, by rw [e.out]⟩
        case measure => simp [intOf]; omega
      · have e : Hid (fineIt (n * 2 ^ (30 - E)) (k + 1) = (y * y / 1073741824, z * 2)) := fine_no HE.out hy
        go_wp2_with fail
        go_round
        case rel => exact ⟨k + 1, _, _, by omega, by go_num, rfl, rfl, by rw [e.out]⟩
        case measure => simp [intOf]; omega
    · have hz : decide (k < 24) = false := decide_eq_false hlt
      have ef : Hid (fineI n = (E : Int) * 16777216 + z) := HEF.out y z k (by omega) HE.out
      go_wp2_with fail
      go_ret
      exact ⟨by rw [ef.out]; try rfl, rfl⟩
  

theorem fineI_bd (n : Int) (h1 : 10000 ≤ n) (h2 : n ≤ 20000000) : 0 ≤ fineI n ∧ fineI n ≤ 436207616 := by
  obtain ⟨hl, h3, h4, h5, h6⟩ := hiBit_spec h1 h2
  have hs := fine_start h1 h2
  have hr := fineIt_bd (by omega) hs.2 24
  have e : (2 : Int) ^ 24 = 16777216 := by decide
  unfold fineI
  generalize fineIt (n * 2 ^ (30 - hiBit n)) 24 = q at *
  omega
theorem logI_bd (n : Int) (h1 : 10000 ≤ n) (h2 : n ≤ 20000000) : 0 ≤ logI n ∧ logI n ≤ 312000 := by
  have := fineI_bd n h1 h2
  unfold logI
  omega
theorem centI_bd (f g : Int) (h1 : 10000 ≤ f ∧ f ≤ 20000000) (h2 : 10000 ≤ g ∧ g ≤ 20000000) : -312000 ≤ centI f g ∧ centI f g ≤ 312000 := by
  have := logI_bd f h1.1 h1.2
  have := logI_bd g h2.1 h2.2
  unfold centI
  omega

theorem spec_log (n : Int) (w : World) (h1 : 10000 ≤ n) (h2 : n ≤ 20000000) : Calls Tryz.prog 105 #[.int .i64 n] w fun e w' => e = .returned (.int .i64 (logI n)) ∧ w = w' := by
  have hb := fineI_bd n h1 h2
  have H := Lib.hid (spec_l02Fine n w h1 h2)
  have e : Hid (logI n = 12000 * fineI n / 16777216) := (rfl : logI n = 12000 * fineI n / 16777216)
  generalize fineI n = F at *
  go_enter Tryz.func105, Tryz.ntmps105
  go_wp2_with (go_at_call 128; refine H.out.mono ?_; rintro e1 w1 ⟨rfl, rfl⟩)
  go_ret
  exact ⟨by rw [e.out]; try rfl, rfl⟩
theorem spec_cents (f g : Int) (w : World) (h1 : 10000 ≤ f ∧ f ≤ 20000000) (h2 : 10000 ≤ g ∧ g ≤ 20000000) : Calls Tryz.prog 66 #[.int .i64 f, .int .i64 g] w fun e w' => e = .returned (.int .i64 (centI f g)) ∧ Below w.heap.size w w' := by
  have hb1 := logI_bd f h1.1 h1.2
  have hb2 := logI_bd g h2.1 h2.2
  have HF := Lib.hid (fun x => spec_log f x h1.1 h1.2)
  have HG := Lib.hid (fun x => spec_log g x h2.1 h2.2)
  have e : Hid (centI f g = logI g - logI f) := (rfl : centI f g = logI g - logI f)
  generalize logI f = F at *
  generalize logI g = G at *
  go_enter Tryz.func66, Tryz.ntmps66
  go_wp2_with (go_at_call 105; first | (refine (HG.out _).mono ?_; rintro e1 w1 ⟨rfl, rfl⟩) | (refine (HF.out _).mono ?_; rintro e1 w1 ⟨rfl, rfl⟩))
  go_ret
  exact ⟨by rw [e.out]; try rfl, Below.refl _ _⟩

theorem impl_log (n : Int) (w : World) (h1 : 10000 ≤ n) (h2 : n ≤ 20000000) : Calls Tryz.prog 115 #[.int .i64 n] w fun e w' => e = .returned (.int .i64 (logI n)) ∧ w = w' := by
  have hb := fineI_bd n h1 h2
  have H := Lib.hid (impl_fineLog n w h1 h2)
  have e : Hid (logI n = 12000 * fineI n / 16777216) := (rfl : logI n = 12000 * fineI n / 16777216)
  generalize fineI n = F at *
  go_enter Tryz.func115, Tryz.ntmps115
  go_wp2_with (go_at_call 135; refine H.out.mono ?_; rintro e1 w1 ⟨rfl, rfl⟩)
  go_ret
  exact ⟨by rw [e.out]; try rfl, rfl⟩
theorem impl_cents (f g : Int) (w : World) (h1 : 10000 ≤ f ∧ f ≤ 20000000) (h2 : 10000 ≤ g ∧ g ≤ 20000000) : Calls Tryz.prog 88 #[.int .i64 f, .int .i64 g] w fun e w' => e = .returned (.int .i64 (centI f g)) ∧ Below w.heap.size w w' := by
  have hb1 := logI_bd f h1.1 h1.2
  have hb2 := logI_bd g h2.1 h2.2
  have HF := Lib.hid (fun x => impl_log f x h1.1 h1.2)
  have HG := Lib.hid (fun x => impl_log g x h2.1 h2.2)
  have e : Hid (centI f g = logI g - logI f) := (rfl : centI f g = logI g - logI f)
  generalize logI f = F at *
  generalize logI g = G at *
  go_enter Tryz.func88, Tryz.ntmps88
  go_wp2_with (go_at_call 115; first | (refine (HG.out _).mono ?_; rintro e1 w1 ⟨rfl, rfl⟩) | (refine (HF.out _).mono ?_; rintro e1 w1 ⟨rfl, rfl⟩))
  go_ret
  exact ⟨by rw [e.out]; try rfl, Below.refl _ _⟩
end Go.Proofs.YtcjekailcljaaaaGreat
namespace Go.Proofs.YtcjekailcljaaaaGreat
open Go.ChangeShapes Go.WideShapes Go.ChangeAt Go.RowKit Go.Deep Go.Joins
set_option linter.unusedVariables false
set_option maxRecDepth 100000
set_option linter.unusedSimpArgs false
theorem stp_el {P : Program} {o : Oper} {a : Act} {K : Act → World → Prop} {Q : Exit → Act → World → Prop} {w1 : World} (s x : Operand) (T E : TypeId) (i : TypeInfo) (z : Value) (sz bytes : Nat)
    (hT : P.underlying T = some (.slice E)) (hi : P.info? E = some i) (hz : i.zero = some z) (h1 : i.size = sz) (h2 : i.bytes = bytes) (hzs : z.cells.size = sz) (hsz : 0 < sz)
    (ho : o.op = .call { callee := .builtin .append, args := #[s, x], argTypes := #[T, T] }) (w0 : World) (base : Nat) (v : Value) (n : Nat) (L : List Value) (hs : a.eval s = v) (hown : w0.ownsRow base E sz v n L)
    (cs : List Value) (hcs : cs.length = sz) (hone : ∀ u ∈ cs, u.oneCell' = true) (hx : a.eval x = .slice (some ⟨w0.heap.size, 0, none⟩) 1 1) (hn : n + 1 ≤ 2097152) (hby : bytes ≤ 64) (hbase : base ≤ w0.heap.size) (hw : w1 = w0.alloc (.cells cs.toArray E))
    (h : ∀ g cap w', w'.ownsRow base E sz (.slice (some ⟨g, 0, none⟩) (n + 1) cap) (n + 1) (L ++ cs) → (∀ W, Below base W w0 → Below base W w') → (∀ b E' L', Own w0 b E' L' → (∀ g', v.ownBlock = some g' → g' ≠ b) → Own w' b E' L') → K (a.put o.dst (.slice (some ⟨g, 0, none⟩) (n + 1) cap)) w') :
    Oper.wp P o a w1 K Q := by
  subst hw
  have hb : (n + 1) * bytes ≤ 140737488355328 := by
    have := Nat.mul_le_mul hn hby
    omega
  refine wp_append_lies _ s x T ho base E i z sz bytes hT hi hz h1 h2 hzs hsz v n L hs (hown.alloc _) ⟨w0.heap.size, 0, none⟩ 1 1 cs hx (by omega) (World.news_of_block (Own.new w0 E cs)) hone (by omega) (by unfold maxLen; omega) hb (by simp; omega) _ rfl ?_
  intro g cap w' hown' hgrow _ _
  refine h g cap w' hown' (fun W hW => ?_) (fun b E' L' hO hne => ?_)
  · exact grown_below (hW.alloc hbase _) (hown.alloc _) (by simp; omega) hgrow
  · have hO2 : Own (w0.alloc (.cells cs.toArray E)) b E' L' := hO.alloc _
    exact (hgrow.block b hO2.lt (fun e => hne b e.symm rfl)).trans hO2
end Go.Proofs.YtcjekailcljaaaaGreat
namespace Go.Proofs.YtcjekailcljaaaaGreat
open Go.ChangeShapes Go.WideShapes Go.ChangeAt Go.RowKit Go.Deep Go.Joins
set_option linter.unusedVariables false
set_option maxRecDepth 100000
set_option linter.unusedSimpArgs false
def devZ (want raw : List Int) : List Int := List.zipWith centI want raw
theorem list5 {xs : List Int} (h : xs.length = 5) : ∃ a b c d e, xs = [a, b, c, d, e] := by
  match xs, h with
  | [a, b, c, d, e], _ => exact ⟨a, b, c, d, e, rfl⟩
theorem devZ_len {want raw : List Int} (h1 : want.length = 5) (h2 : raw.length = 5) : (devZ want raw).length = 5 := by unfold devZ; rw [List.length_zipWith, h1, h2]; rfl
theorem devZ_take {want raw : List Int} {k : Nat} (h1 : k < want.length) (h2 : k < raw.length) : (devZ want raw).take (k + 1) = (devZ want raw).take k ++ [centI want[k] raw[k]] := by
  have h : k < (devZ want raw).length := by unfold devZ; rw [List.length_zipWith]; omega
  rw [List.take_succ_eq_append_getElem h]
  congr 2
  simp [devZ]
end Go.Proofs.YtcjekailcljaaaaGreat
