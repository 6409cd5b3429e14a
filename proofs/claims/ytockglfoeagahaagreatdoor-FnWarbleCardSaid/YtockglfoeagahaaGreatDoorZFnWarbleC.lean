/- Contracts and plain facts, joined: In, OneSpot, Steps. -/
import Derived.Test.YtockglfoeagahaaGreatDoorRows
import Derived.Test.YtockglfoeagahaaGreatDoorZFnWarbleA
import Derived.Test.YtockglfoeagahaaGreatDoorZFnWarbleB
namespace Go.Proofs.YtockglfoeagahaaGreatDoor
open Go.ChangeShapes Go.WideShapes Go.ChangeAt Go.RowKit Go.Deep Go.Joins
set_option linter.unusedVariables false
set_option maxRecDepth 100000
set_option linter.unusedSimpArgs false
/-- low to high -/
def inB (n lo hi : Int) : Bool := decide (lo ≤ n) && decide (n ≤ hi)
theorem inB_true {n lo hi : Int} (h : inB n lo hi = true) : lo ≤ n ∧ n ≤ hi := by simpa [inB] using h
theorem inB_false {n lo hi : Int} (h : inB n lo hi = false) : ¬ (lo ≤ n ∧ n ≤ hi) := by
  intro hc
  have : inB n lo hi = true := by simpa [inB] using hc
  rw [this] at h; cases h
theorem inB_mk {n lo hi : Int} (h : lo ≤ n ∧ n ≤ hi) : inB n lo hi = true := by simpa [inB] using h

theorem l00In (n lo hi : Int) (w : World) : Calls Tryz.prog 116 #[.int .i64 n, .int .i64 lo, .int .i64 hi] w fun e w' => e = .returned (.bool (inB n lo hi)) ∧ w = w' := by
  unfold inB
  go_enter Tryz.func116, Tryz.ntmps116
  go_wp2
  all_goals go_ret
  all_goals exact ⟨by first | (simp [*]; done) | (simp [*]; omega), rfl⟩

theorem within (n lo hi : Int) (w : World) : Calls Tryz.prog 37 #[.int .i64 n, .int .i64 lo, .int .i64 hi] w fun e w' => e = .returned (.bool (inB n lo hi)) ∧ w = w' := by
  unfold inB
  go_enter Tryz.func37, Tryz.ntmps37
  go_wp2
  all_goals go_ret
  all_goals exact ⟨by first | (simp [*]; done) | (simp [*]; omega), rfl⟩

theorem l00In_is {b : Bool} (n lo hi : Int) (w : World) (h : inB n lo hi = b) : Calls Tryz.prog 116 #[.int .i64 n, .int .i64 lo, .int .i64 hi] w fun e w' => e = .returned (.bool b) ∧ w = w' := by
  rw [← h]; exact l00In n lo hi w
theorem within_is {b : Bool} (n lo hi : Int) (w : World) (h : inB n lo hi = b) : Calls Tryz.prog 37 #[.int .i64 n, .int .i64 lo, .int .i64 hi] w fun e w' => e = .returned (.bool b) ∧ w = w' := by
  rw [← h]; exact within n lo hi w
end Go.Proofs.YtockglfoeagahaaGreatDoor
namespace Go.Proofs.YtockglfoeagahaaGreatDoor
open Go.ChangeShapes Go.WideShapes Go.ChangeAt Go.RowKit Go.Deep Go.Joins
set_option linter.unusedVariables false
set_option maxRecDepth 100000
set_option linter.unusedSimpArgs false
def weightB (n : Int) : Bool := (n != 0) && inB n (-1000) 1000
def spotB (x : Spot) : Bool := inB x.angle 0 359 && weightB x.weight

theorem spec_l12Weight (n : Int) (w : World) : Calls Tryz.prog 89 #[.int .i64 n] w fun e w' => e = .returned (.bool (weightB n)) ∧ w = w' := by
  unfold weightB
  by_cases h : n = 0
  · subst h
    go_enter Tryz.func89, Tryz.ntmps89
    go_wp2_with (go_at_call 116; refine (l00In _ _ _ _).mono ?_; rintro e w' ⟨rfl, rfl⟩)
    go_ret
    exact ⟨rfl, rfl⟩
  · have hz : (n != 0) = true := by simpa using h
    go_enter Tryz.func89, Tryz.ntmps89
    go_wp2_with (go_at_call 116; refine (l00In _ _ _ _).mono ?_; rintro e w' ⟨rfl, rfl⟩)
    go_ret
    exact ⟨by simp [h], rfl⟩
theorem impl_isWeight (n : Int) (w : World) : Calls Tryz.prog 30 #[.int .i64 n] w fun e w' => e = .returned (.bool (weightB n)) ∧ w = w' := by
  unfold weightB
  by_cases h : n = 0
  · subst h
    go_enter Tryz.func30, Tryz.ntmps30
    go_wp2_with (go_at_call 37; refine (within _ _ _ _).mono ?_; rintro e w' ⟨rfl, rfl⟩)
    go_ret
    exact ⟨rfl, rfl⟩
  · have hz : (n != 0) = true := by simpa using h
    go_enter Tryz.func30, Tryz.ntmps30
    go_wp2_with (go_at_call 37; refine (within _ _ _ _).mono ?_; rintro e w' ⟨rfl, rfl⟩)
    go_ret
    exact ⟨by simp [h], rfl⟩
theorem impl_isSpot_is {b : Bool} (x : Spot) (w : World) (h : spotB x = b) (hx : x.ok) :
    Calls Tryz.prog 32 #[.agg #[.int .i64 x.angle, .int .i64 x.weight]] w fun e w' => e = .returned (.bool b) ∧ Below w.heap.size w w' := by
  subst h
  unfold spotB
  cases hA : inB x.angle 0 359
  · go_enter Tryz.func32, Tryz.ntmps32
    go_wp2_with (go_at_call 37; refine (within_is _ _ _ _ (by assumption)).mono ?_; rintro e w' ⟨rfl, rfl⟩)
    go_ret
    exact ⟨rfl, by (repeat' (first | (with_reducible exact Below.refl _ _) | (with_reducible assumption) | (with_reducible refine below_dn ?_ _) | (with_reducible refine Below.drew ?_) | (with_reducible refine Below.alloc ?_ ?_ _) | (with_reducible refine Below.setCell ?_ ?_ _) | go_size))⟩
  · go_enter Tryz.func32, Tryz.ntmps32
    go_wp2_with (first | (go_at_call 37; refine (within_is _ _ _ _ (by assumption)).mono ?_; rintro e w' ⟨rfl, rfl⟩) | (go_at_call 30; refine (impl_isWeight _ _).mono ?_; rintro e w' ⟨rfl, rfl⟩))
    go_ret
    exact ⟨by simp, by (repeat' (first | (with_reducible exact Below.refl _ _) | (with_reducible assumption) | (with_reducible refine below_dn ?_ _) | (with_reducible refine Below.drew ?_) | (with_reducible refine Below.alloc ?_ ?_ _) | (with_reducible refine Below.setCell ?_ ?_ _) | go_size))⟩
end Go.Proofs.YtockglfoeagahaaGreatDoor
namespace Go.Proofs.YtockglfoeagahaaGreatDoor
open Go.ChangeShapes Go.WideShapes Go.ChangeAt Go.RowKit Go.Deep Go.Joins
set_option linter.unusedVariables false
set_option maxRecDepth 100000
set_option linter.unusedSimpArgs false
def allK (f : Nat → Bool) : Nat → Bool
  | 0 => true
  | k + 1 => allK f k && f k
theorem allK_succ (f : Nat → Bool) (k : Nat) : allK f (k + 1) = (allK f k && f k) := rfl
theorem allK_false (f : Nat → Bool) (n k : Nat) (h : k < n) (hf : f k = false) : allK f n = false := by
  induction n with
  | zero => omega
  | succ n ih =>
    rw [allK_succ]
    by_cases hk : k = n
    · subst hk; simp [hf]
    · rw [ih (by omega)]; rfl
theorem allK_true {f : Nat → Bool} {n : Nat} (h : allK f n = true) (k : Nat) (hk : k < n) : f k = true := by
  cases hf : f k with
  | true => rfl
  | false => rw [allK_false f n k hk hf] at h; cases h
theorem allK_intro {f : Nat → Bool} : ∀ {n : Nat}, (∀ k, k < n → f k = true) → allK f n = true
  | 0, _ => rfl
  | n + 1, h => by rw [allK_succ, allK_intro (fun k hk => h k (by omega)), h n (by omega)]; rfl
/-- element k is valid, and behind the one before it -/
def stepB {α : Type} (ok : α → Bool) (lt : α → α → Bool) (xs : List α) (k : Nat) : Bool :=
  match xs[k]? with
  | none => true
  | some x => ok x && (match k with
    | 0 => true
    | j + 1 => match xs[j]? with
      | none => true
      | some y => lt y x)
section
variable {α : Type} {ok : α → Bool} {lt : α → α → Bool} {xs : List α} {k : Nat}
theorem stepB_no (h : k < xs.length) (hO : ok xs[k] = false) : stepB ok lt xs k = false := by
  unfold stepB
  rw [List.getElem?_eq_getElem h]
  simp [hO]
theorem stepB_zero (h : 0 < xs.length) (hO : ok xs[0] = true) : stepB ok lt xs 0 = true := by
  unfold stepB
  rw [List.getElem?_eq_getElem h]
  simp [hO]
theorem stepB_k0 (h : k < xs.length) (h0 : k = 0) (hO : ok xs[k] = true) : stepB ok lt xs k = true := by
  subst h0; exact stepB_zero h hO
theorem stepB_pos (h : k < xs.length) (hp : 0 < k) (hO : ok xs[k] = true) : stepB ok lt xs k = lt xs[k - 1] xs[k] := by
  match k, hp with
  | j + 1, _ =>
    unfold stepB
    rw [List.getElem?_eq_getElem h]
    simp [hO, List.getElem?_eq_getElem (show j < xs.length by omega)]
theorem stepB_lt (h : k < xs.length) (hp : 0 < k) (hO : ok xs[k] = true) (hT : lt xs[k - 1] xs[k] = false) : stepB ok lt xs k = false := by rw [stepB_pos h hp hO, hT]
theorem stepB_yes (h : k < xs.length) (hp : 0 < k) (hO : ok xs[k] = true) (hT : lt xs[k - 1] xs[k] = true) : stepB ok lt xs k = true := by rw [stepB_pos h hp hO, hT]
end

theorem not_less : ∀ (a b : List UInt8), (!(Op.bytesLess b a)) = (Op.bytesLess a b || a == b)
  | [], [] => by simp [Op.bytesLess]
  | [], b :: y => by simp [Op.bytesLess]
  | a :: x, [] => by simp [Op.bytesLess]
  | a :: x, b :: y => by
    have ih := not_less x y
    simp only [Op.bytesLess]
    by_cases h1 : a < b
    · have h2 : ¬ b < a := fun h => by simp only [UInt8.lt_iff_toNat_lt] at h h1; omega
      have h3 : (b == a) = false := by
        rw [beq_eq_false_iff_ne]
        intro h
        subst h
        exact h2 h1
      simp [h1, h2, h3]
    · by_cases h2 : b < a
      · have h3 : (a == b) = false := by
          rw [beq_eq_false_iff_ne]
          intro h
          subst h
          exact h1 h2
        have h4 : a ≠ b := by simpa using h3
        simp [h1, h2, h3, h4]
      · have h3 : a = b := by
          apply UInt8.toNat_inj.1
          simp only [UInt8.lt_iff_toNat_lt] at h1 h2
          omega
        subst h3
        simp [h1, ih]
theorem less_irrefl : ∀ (a : List UInt8), Op.bytesLess a a = false
  | [] => rfl
  | a :: x => by simp [Op.bytesLess, less_irrefl x]
theorem less_trans : ∀ (a b c : List UInt8), Op.bytesLess a b = true → Op.bytesLess b c = true → Op.bytesLess a c = true
  | _, [], _, h, _ => by simp [Op.bytesLess] at h
  | _, _ :: _, [], _, h => by simp [Op.bytesLess] at h
  | [], _ :: _, _ :: _, _, _ => rfl
  | a :: x, b :: y, c :: z, h1, h2 => by
    simp only [Op.bytesLess, Bool.or_eq_true, Bool.and_eq_true, decide_eq_true_eq, beq_iff_eq] at h1 h2 ⊢
    simp only [UInt8.lt_iff_toNat_lt] at h1 h2 ⊢
    rcases h1 with h1 | ⟨rfl, h1⟩
    · rcases h2 with h2 | ⟨rfl, h2⟩
      · left; omega
      · left; exact h1
    · rcases h2 with h2 | ⟨rfl, h2⟩
      · left; exact h2
      · right; exact ⟨rfl, less_trans x y z h1 h2⟩
end Go.Proofs.YtockglfoeagahaaGreatDoor
