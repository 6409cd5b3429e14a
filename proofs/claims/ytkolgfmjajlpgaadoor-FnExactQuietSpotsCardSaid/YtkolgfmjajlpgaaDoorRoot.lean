/- Integer square roots: both sides compute the same. -/
import Derived.Test.YtkolgfmjajlpgaaDoorRows
import Derived.Test.YtkolgfmjajlpgaaDoorLaw
namespace Go.Proofs.YtkolgfmjajlpgaaDoor
open Go.ChangeShapes Go.WideShapes Go.ChangeAt Go.RowKit Go.Deep Go.Joins
set_option linter.unusedVariables false
set_option maxRecDepth 100000
set_option linter.unusedSimpArgs false
def IsRoot (n r : Int) : Prop := 0 ≤ r ∧ r * r ≤ n ∧ n < (r + 1) * (r + 1)
theorem sq_mono {a b : Int} (ha : 0 ≤ a) (h : a ≤ b) : a * a ≤ b * b := Int.mul_le_mul h h ha (by omega)
theorem isRoot_unique {n r s : Int} (h : IsRoot n r) (k : IsRoot n s) : r = s := by
  obtain ⟨h1, h2, h3⟩ := h
  obtain ⟨k1, k2, k3⟩ := k
  rcases Int.lt_trichotomy r s with hlt | he | hlt
  · have := sq_mono (a := r + 1) (b := s) (by omega) (by omega)
    omega
  · exact he
  · have := sq_mono (a := s + 1) (b := r) (by omega) (by omega)
    omega
open Classical in
noncomputable def rootS (n : Int) : Int := if h : ∃ r, IsRoot n r then h.choose else 0
theorem rootS_eq {n r : Int} (h : IsRoot n r) : rootS n = r := by
  unfold rootS
  have he : ∃ r, IsRoot n r := ⟨r, h⟩
  rw [dif_pos he]
  exact isRoot_unique he.choose_spec h

theorem sq_bd {a : Int} (h0 : 0 ≤ a) (h1 : a ≤ 1600000000) : 0 ≤ a * a ∧ a * a ≤ 2560000000000000000 := by
  have h2 := sq_mono h0 h1
  exact ⟨Int.mul_nonneg h0 h0, by omega⟩
theorem low_bd {n a : Int} (h0 : 0 ≤ a) (h : a * a ≤ n) (hn : n ≤ 1000000000000000) : a ≤ 31622777 := by
  rcases Int.lt_or_le 31622777 a with h1 | h1
  · have := sq_mono (a := 31622778) (b := a) (by omega) (by omega)
    omega
  · exact h1

set_option maxHeartbeats 1000000 in
theorem spec_l01Root (n : Int) (w : World) (h0 : 0 ≤ n) (hn : n ≤ 1000000000000000) : Calls Tryd.prog 34 #[.int .i64 n] w fun e w' => e = .returned (.int .i64 (rootS n)) ∧ w = w' := by
  go_enter Tryd.func34, Tryd.ntmps34
  go_wp2
  go_loop [3, 4, 5] (fun l h _ => ∃ a b : Int, l = .int .i64 a ∧ h = .int .i64 b ∧ 0 ≤ a ∧ a ≤ b ∧ b ≤ 3037000499 ∧ a * a ≤ n ∧ n < (b + 1) * (b + 1)) (fun l h _ => (intOf h - intOf l).toNat)
  case atStart => exact ⟨0, 3037000499, rfl, rfl, by omega, by omega, by omega, by omega, by omega⟩
  case round =>
    obtain ⟨a, b, rfl, rfl, ha, hab, hb, hl, hh⟩ := hrel
    have HL := Lib.hid hl
    have HH := Lib.hid hh
    have hab2 := low_bd ha hl hn
    clear hl hh
    by_cases hlt : a < b
    · obtain ⟨m, hm, hm1, hm2⟩ : ∃ m : Int, (a + b + 1) / 2 = m ∧ a < m ∧ m ≤ b := ⟨_, rfl, by omega, by omega⟩
      have hm3 : m ≤ 1600000000 := by omega
      obtain ⟨q0, q1⟩ := sq_bd (a := m) (by omega) hm3
      have HM : Hid (m * m ≤ n → m * m ≤ n) := fun h => h
      have HM2 : Hid (¬ m * m ≤ n → n < (m - 1 + 1) * (m - 1 + 1)) := fun h => by rw [show m - 1 + 1 = m by omega]; omega
      by_cases hc : m * m ≤ n
      · have HC := Lib.hid hc
        go_wp2
        go_round
        case rel => exact ⟨m, b, by first | rfl | rw [hm], rfl, by omega, hm2, hb, HC.out, HH.out⟩
        case measure => simp [intOf]; omega
      · have HC := Lib.hid hc
        have hc2 : n < m * m := by omega
        go_wp2
        go_round
        case rel => exact ⟨a, m - 1, rfl, by first | rfl | rw [hm], ha, by omega, by omega, HL.out, HM2.out HC.out⟩
        case measure => simp [intOf]; omega
    · obtain rfl : a = b := by omega
      have e := Lib.hid (rootS_eq ⟨ha, HL.out, HH.out⟩)
      go_wp2
      go_ret
      exact ⟨by rw [e.out]; rfl, rfl⟩

/-- a bit: a power of two -/
inductive Pow2 : Int → Prop
  | one : Pow2 1
  | twice {b : Int} : Pow2 b → Pow2 (2 * b)
theorem Pow2.pos {b : Int} (h : Pow2 b) : 0 < b := by
  induction h with
  | one => omega
  | twice _ ih => omega
theorem Pow2.half {b : Int} (h : Pow2 b) : (b = 1 ∧ b / 2 = 0) ∨ (Pow2 (b / 2) ∧ 2 * (b / 2) = b) := by
  cases h with
  | one => left; exact ⟨rfl, rfl⟩
  | @twice c hc => right; rw [show 2 * c / 2 = c by omega]; exact ⟨hc, rfl⟩
theorem pow_top : Pow2 2147483648 := by
  have h : ∀ k : Nat, Pow2 (2 ^ k) := fun k => by
    induction k with
    | zero => exact .one
    | succ k ih => rw [Int.pow_succ, Int.mul_comm]; exact .twice ih
  exact h 31
/-- what is known of the root so far -/
def RootAt (n r b : Int) : Prop := 0 ≤ r ∧ r * r ≤ n ∧ ((b = 0 ∧ n < (r + 1) * (r + 1)) ∨ (Pow2 b ∧ n < (r + 2 * b) * (r + 2 * b)))
theorem rootAt_next {n r b s : Int} (h : RootAt n r b) (hp : Pow2 b) (hs : (s = r + b ∧ s * s ≤ n) ∨ (s = r ∧ n < (r + b) * (r + b))) : RootAt n s (b / 2) := by
  obtain ⟨h1, h2, h3⟩ := h
  have hb := hp.pos
  have h4 : n < (r + 2 * b) * (r + 2 * b) := by
    rcases h3 with h3 | h3
    · omega
    · exact h3.2
  have h5 : 0 ≤ s ∧ s * s ≤ n ∧ n < (s + b) * (s + b) := by
    rcases hs with ⟨rfl, hs⟩ | ⟨rfl, hs⟩
    · refine ⟨by omega, hs, ?_⟩
      rw [show r + b + b = r + 2 * b by omega]; exact h4
    · exact ⟨h1, h2, hs⟩
  refine ⟨h5.1, h5.2.1, ?_⟩
  rcases hp.half with ⟨rfl, h0⟩ | ⟨h6, h7⟩
  · left; exact ⟨h0, h5.2.2⟩
  · right; rw [h7]; exact ⟨h6, h5.2.2⟩
theorem le_div {n m : Int} (hm : 0 < m) : m ≤ n / m ↔ m * m ≤ n := Int.le_ediv_iff_mul_le hm

set_option maxHeartbeats 1000000 in
theorem impl_RootOf (n : Int) (w : World) (h0 : 0 ≤ n) (hn : n ≤ 1000000000000000) : Calls Tryd.prog 36 #[.int .i64 n] w fun e w' => e = .returned (.int .i64 (rootS n)) ∧ w = w' := by
  by_cases hz : n ≤ 0
  · have e := Lib.hid (rootS_eq (n := n) (r := 0) ⟨by omega, by omega, by omega⟩)
    go_enter Tryd.func36, Tryd.ntmps36
    go_wp2
    go_ret
    exact ⟨by rw [e.out]; rfl, rfl⟩
  have hz2 : 0 < n := by omega
  clear hz
  go_enter Tryd.func36, Tryd.ntmps36
  go_wp2
  go_loop [3, 4, 5] (fun r b _ => ∃ a c : Int, r = .int .i64 a ∧ b = .int .i64 c ∧ 0 ≤ a ∧ 0 ≤ c ∧ c ≤ 2147483648 ∧ RootAt n a c) (fun _ b _ => (intOf b).toNat)
  case atStart => exact ⟨0, 2147483648, rfl, rfl, by omega, by omega, by omega, by omega, by omega, .inr ⟨pow_top, by omega⟩⟩
  case round =>
    obtain ⟨a, c, rfl, rfl, ha, hc, hcb, hr⟩ := hrel
    have hab := low_bd ha hr.2.1 hn
    have HR := Lib.hid hr
    by_cases hlt : 0 < c
    · have hp : Pow2 c := by
        rcases hr.2.2 with h | h
        · omega
        · exact h.1
      have HP := Lib.hid hp
      clear hr hp
      obtain ⟨q0, q1⟩ : 0 ≤ n / (a + c) ∧ n / (a + c) ≤ 1000000000000000 := ⟨Int.ediv_nonneg h0 (by omega), by have := Int.ediv_le_self (a + c) h0; omega⟩
      have hd0 : (a + c == 0) = false := beq_eq_false_iff_ne.2 (by omega)
      have HL := Lib.hid (le_div (n := n) (m := a + c) (by omega))
      by_cases hcmp : a + c ≤ n / (a + c)
      · have HN := Lib.hid (rootAt_next HR.out HP.out (.inl ⟨rfl, HL.out.1 hcmp⟩))
        go_wp2
        go_round
        case rel => exact ⟨a + c, c / 2, rfl, rfl, by omega, by omega, by omega, HN.out⟩
        case measure => simp [intOf]; omega
      · have HN := Lib.hid (rootAt_next HR.out HP.out (.inr ⟨rfl, by have := HL.out; omega⟩))
        have hcmp2 : n / (a + c) < a + c := by omega
        go_wp2
        go_round
        case rel => exact ⟨a, c / 2, rfl, rfl, by omega, by omega, by omega, HN.out⟩
        case measure => simp [intOf]; omega
    · obtain rfl : c = 0 := by omega
      have e : Hid (rootS n = a) := rootS_eq ⟨hr.1, hr.2.1, by
        rcases hr.2.2 with h | h
        · exact h.2
        · have := h.1.pos; omega⟩
      clear hr
      go_wp2
      go_ret
      exact ⟨by rw [e.out]; rfl, rfl⟩
end Go.Proofs.YtkolgfmjajlpgaaDoor
