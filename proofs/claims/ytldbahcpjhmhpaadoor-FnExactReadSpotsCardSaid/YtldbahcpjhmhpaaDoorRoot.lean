/- Integer square roots: both sides compute the same. -/
import Derived.Test.YtldbahcpjhmhpaaDoorRows
import Derived.Test.YtldbahcpjhmhpaaDoorLaw
namespace Go.Proofs.YtldbahcpjhmhpaaDoor
open Go.ChangeShapes Go.WideShapes Go.ChangeAt Go.RowKit Go.Deep Go.Joins
set_option linter.unusedVariables false
set_option maxRecDepth 100000
set_option linter.unusedSimpArgs false
def IsRoot (n r : Int) : Prop := 0 ≤ r ∧ r * r ≤ n ∧ n < (r + 1) * (r + 1)
theorem sq_mono {a b : Int} (ha : 0 ≤ a) (h : a ≤ b) : a * a ≤ b * b := Int.mul_le_mul h h ha (by omega)
theorem isRoot_unique {n r s : Int} (h : IsRoot n r) (k : IsRoot n s) : r = s := by
  obtain ⟨h1, h2, h3⟩ := h
  obtain ⟨k1, k2, k3⟩ := k
  rcases Int.lt_trichotomy r s with hlt | he | hlt
  · have := sq_mono (a := r + 1) (b := s) (by omega) (by omega)
    omega
  · exact he
  · have := sq_mono (a := s + 1) (b := r) (by omega) (by omega)
    omega
open Classical in
noncomputable def rootS (n : Int) : Int := if h : ∃ r, IsRoot n r then h.choose else 0
theorem rootS_eq {n r : Int} (h : IsRoot n r) : rootS n = r := by
  unfold rootS
  have he : ∃ r, IsRoot n r := ⟨r, h⟩
  rw [dif_pos he]
  exact isRoot_unique he.choose_spec h

theorem sq_bd {a : Int} (h0 : 0 ≤ a) (h1 : a ≤ 1600000000) : 0 ≤ a * a ∧ a * a ≤ 2560000000000000000 := by
  have h2 := sq_mono h0 h1
  exact ⟨Int.mul_nonneg h0 h0, by omega⟩
theorem low_bd {n a : Int} (h0 : 0 ≤ a) (h : a * a ≤ n) (hn : n ≤ 1000000000000000) : a ≤ 31622777 := by
  rcases Int.lt_or_le 31622777 a with h1 | h1
  · have := sq_mono (a := 31622778) (b := a) (by omega) (by omega)
    omega
  · exact h1

/-- a bit: a power of two -/
inductive Pow2 : Int → Prop
  | one : Pow2 1
  | twice {b : Int} : Pow2 b → Pow2 (2 * b)
theorem Pow2.pos {b : Int} (h : Pow2 b) : 0 < b := by
  induction h with
  | one => omega
  | twice _ ih => omega
theorem Pow2.half {b : Int} (h : Pow2 b) : (b = 1 ∧ b / 2 = 0) ∨ (Pow2 (b / 2) ∧ 2 * (b / 2) = b) := by
  cases h with
  | one => left; exact ⟨rfl, rfl⟩
  | @twice c hc => right; rw [show 2 * c / 2 = c by omega]; exact ⟨hc, rfl⟩
theorem pow_top : Pow2 2147483648 := by
  have h : ∀ k : Nat, Pow2 (2 ^ k) := fun k => by
    induction k with
    | zero => exact .one
    | succ k ih => rw [Int.pow_succ, Int.mul_comm]; exact .twice ih
  exact h 31
/-- what is known of the root so far -/
def RootAt (n r b : Int) : Prop := 0 ≤ r ∧ r * r ≤ n ∧ ((b = 0 ∧ n < (r + 1) * (r + 1)) ∨ (Pow2 b ∧ n < (r + 2 * b) * (r + 2 * b)))
theorem rootAt_next {n r b s : Int} (h : RootAt n r b) (hp : Pow2 b) (hs : (s = r + b ∧ s * s ≤ n) ∨ (s = r ∧ n < (r + b) * (r + b))) : RootAt n s (b / 2) := by
  obtain ⟨h1, h2, h3⟩ := h
  have hb := hp.pos
  have h4 : n < (r + 2 * b) * (r + 2 * b) := by
    rcases h3 with h3 | h3
    · omega
    · exact h3.2
  have h5 : 0 ≤ s ∧ s * s ≤ n ∧ n < (s + b) * (s + b) := by
    rcases hs with ⟨rfl, hs⟩ | ⟨rfl, hs⟩
    · refine ⟨by omega, hs, ?_⟩
      rw [show r + b + b = r + 2 * b by omega]; exact h4
    · exact ⟨h1, h2, hs⟩
  refine ⟨h5.1, h5.2.1, ?_⟩
  rcases hp.half with ⟨rfl, h0⟩ | ⟨h6, h7⟩
  · left; exact ⟨h0, h5.2.2⟩
  · right; rw [h7]; exact ⟨h6, h5.2.2⟩
theorem le_div {n m : Int} (hm : 0 < m) : m ≤ n / m ↔ m * m ≤ n := Int.le_ediv_iff_mul_le hm
end Go.Proofs.YtldbahcpjhmhpaaDoor
