/- Contracts and plain facts, joined: Round, Density, AlloyAt, OneIngot, Steps. -/
import Derived.Test.YtnbodmbagendnaaGreatDoorRows
import Derived.Test.YtnbodmbagendnaaGreatDoorZFnMeltsA
import Derived.Test.YtnbodmbagendnaaGreatDoorZFnMeltsD
import Derived.Test.YtnbodmbagendnaaGreatDoorZFnMeltsE
namespace Go.Proofs.YtnbodmbagendnaaGreatDoor
open Go.ChangeShapes Go.WideShapes Go.ChangeAt Go.RowKit Go.Deep Go.Joins
set_option linter.unusedVariables false
set_option maxRecDepth 100000
set_option linter.unusedSimpArgs false
/-- the nearest integer to a / b, halves away from 0; b is positive -/
def divR (a b : Int) : Int := if a < 0 then -((b - 2 * a) / (2 * b)) else (2 * a + b) / (2 * b)

theorem half (q r b : Int) (hb : 0 < b) (h0 : 0 ≤ r) (h1 : r < b) : (2 * (b * q + r) + b) / (2 * b) = if b - r ≤ r then q + 1 else q := by
  have e : 2 * (b * q + r) + b = (2 * r + b) + q * (2 * b) := by
    have h1 : 2 * (b * q + r) = 2 * (b * q) + 2 * r := by omega
    have h2 : q * (2 * b) = 2 * (b * q) := by rw [Int.mul_comm q, Int.mul_assoc]
    omega
  rw [e, Int.add_mul_ediv_right _ _ (by omega)]
  split
  · rename_i h
    have : (2 * r + b) / (2 * b) = 1 := by
      have h2 : 2 * r + b = (2 * r - b) + 1 * (2 * b) := by omega
      rw [h2, Int.add_mul_ediv_right _ _ (by omega), Int.ediv_eq_zero_of_lt (by omega) (by omega)]
      omega
    omega
  · rename_i h
    have : (2 * r + b) / (2 * b) = 0 := Int.ediv_eq_zero_of_lt (by omega) (by omega)
    omega

/-- for a that is not negative -/
theorem divR_pos (a b : Int) (hb : 0 < b) (ha : 0 ≤ a) : divR a b = if b - a % b ≤ a % b then a / b + 1 else a / b := by
  unfold divR
  rw [if_neg (by omega)]
  have h := half (a / b) (a % b) b hb (Int.emod_nonneg _ (by omega)) (Int.emod_lt_of_pos _ hb)
  rw [Int.mul_ediv_add_emod] at h
  exact h
theorem divR_neg (a b : Int) (hb : 0 < b) (ha : a < 0) : divR a b = -(if b - (-a) % b ≤ (-a) % b then (-a) / b + 1 else (-a) / b) := by
  unfold divR
  rw [if_pos ha]
  have h := half ((-a) / b) ((-a) % b) b hb (Int.emod_nonneg _ (by omega)) (Int.emod_lt_of_pos _ hb)
  rw [Int.mul_ediv_add_emod] at h
  rw [← h]
  congr 2
  omega

theorem spec_l01Div (a b : Int) (w : World) (hb : 0 < b) (hb2 : b ≤ 1000000000000000000) (ha : -1000000000000000000 ≤ a) (ha2 : a ≤ 1000000000000000000) :
    Calls Tryz.prog 129 #[.int .i64 a, .int .i64 b] w fun e w' => e = .returned (.int .i64 (divR a b)) ∧ w = w' := by
  unfold divR
  by_cases h : a < 0
  · rw [if_pos h]
    have h1 : 0 ≤ (b - 2 * a) / (2 * b) := Int.ediv_nonneg (by omega) (by omega)
    have h2 : (b - 2 * a) / (2 * b) ≤ 4000000000000000000 := by
      apply Int.ediv_le_of_le_mul (by omega)
      have : b - 2 * a ≤ 4000000000000000000 := by omega
      have h3 : (4000000000000000000 : Int) * 1 ≤ 4000000000000000000 * (2 * b) := Int.mul_le_mul_of_nonneg_left (by omega) (by omega)
      omega
    go_enter Tryz.func129, Tryz.ntmps129
    go_wp2
    go_ret
    exact ⟨rfl, rfl⟩
  · rw [if_neg h]
    go_enter Tryz.func129, Tryz.ntmps129
    go_wp2
    go_ret
    exact ⟨rfl, rfl⟩

theorem impl_abs_pos (a : Int) (w : World) (h : 0 ≤ a) : Calls Tryz.prog 86 #[.int .i64 a] w fun e w' => e = .returned (.int .i64 a) ∧ w = w' := by
  go_enter Tryz.func86, Tryz.ntmps86
  go_wp2
  all_goals go_ret
  all_goals exact ⟨rfl, rfl⟩
theorem impl_abs_neg (a : Int) (w : World) (h : 0 ≤ a) (h2 : a ≤ 1000000000000000000) : Calls Tryz.prog 86 #[.int .i64 (-a)] w fun e w' => e = .returned (.int .i64 a) ∧ w = w' := by
  by_cases h0 : a = 0
  · subst h0
    go_enter Tryz.func86, Tryz.ntmps86
    go_wp2
    all_goals go_ret
    all_goals exact ⟨rfl, rfl⟩
  · have h1 : -a < 0 := by omega
    go_enter Tryz.func86, Tryz.ntmps86
    go_wp2
    all_goals go_ret
    all_goals exact ⟨by simp, rfl⟩

theorem impl_nearest (a b : Int) (w : World) (hb : 0 < b) (hb2 : b ≤ 1000000000000000000) (ha : -1000000000000000000 ≤ a) (ha2 : a ≤ 1000000000000000000) :
    Calls Tryz.prog 60 #[.int .i64 a, .int .i64 b] w fun e w' => e = .returned (.int .i64 (divR a b)) ∧ Drew w w' := by
  by_cases h : a < 0
  · rw [divR_neg a b hb h]
    obtain ⟨m, rfl⟩ : ∃ m, a = -m := ⟨-a, by omega⟩
    rw [Int.neg_neg]
    have h0 : 0 < m := by omega
    have h1 : 0 ≤ m / b := Int.ediv_nonneg (by omega) (by omega)
    have h2 : 0 ≤ m % b := Int.emod_nonneg _ (by omega)
    have h3 : m % b < b := Int.emod_lt_of_pos _ hb
    have h4 : m / b ≤ m := by
      apply Int.ediv_le_self _ (by omega)
    have e1 : (-m).tdiv b = -(m / b) := by rw [Int.neg_tdiv, Int.tdiv_eq_ediv_of_nonneg (by omega)]
    have e2 : (-m).tmod b = -(m % b) := by rw [Int.neg_tmod, Int.tmod_eq_emod_of_nonneg (by omega)]
    have d1 : decide (-m < 0) = true := by simpa using h
    have d2 : decide (b < 0) = false := by simp; omega
    clear h
    by_cases h5 : b - m % b ≤ m % b
    all_goals
      simp only [h5, if_true, if_false]
      go_enter Tryz.func60, Tryz.ntmps60
      go_wp2
      go_quiet ((first | (go_at_call 86; exact quietE (impl_abs_neg _ _ (by assumption) (by omega))) | (go_at_call 86; exact quietE (impl_abs_pos _ _ (by omega)))))
      go_wp2
      all_goals go_ret
      all_goals exact ⟨congrArg (fun x => Ending.returned (Value.int .i64 x)) (by omega), _, rfl⟩
  · rw [divR_pos a b hb (by omega)]
    have h1 : 0 ≤ a / b := Int.ediv_nonneg (by omega) (by omega)
    have h2 : 0 ≤ a % b := Int.emod_nonneg _ (by omega)
    have h3 : a % b < b := Int.emod_lt_of_pos _ hb
    have h4 : a / b ≤ a := Int.ediv_le_self _ (by omega)
    have d1 : decide (a < 0) = false := by simpa using h
    have d2 : decide (b < 0) = false := by simp; omega
    clear h
    by_cases h5 : b - a % b ≤ a % b
    all_goals
      simp only [h5, if_true, if_false]
      go_enter Tryz.func60, Tryz.ntmps60
      go_wp2
      go_quiet ((go_at_call 86; exact quietE (impl_abs_pos _ _ (by omega))))
      go_wp2
      all_goals go_ret
      all_goals exact ⟨rfl, _, rfl⟩
end Go.Proofs.YtnbodmbagendnaaGreatDoor
namespace Go.Proofs.YtnbodmbagendnaaGreatDoor
open Go.ChangeShapes Go.WideShapes Go.ChangeAt Go.RowKit Go.Deep Go.Joins
set_option linter.unusedVariables false
set_option maxRecDepth 100000
set_option linter.unusedSimpArgs false
def densS (x : Alloy) : Int × Int := if alloyB x then (divR (8960 * x.copper + 7310 * x.tin + 8000 * x.other) 1000000, 0) else (0, 1)
theorem alloyB_true {x : Alloy} (h : alloyB x = true) : (0 ≤ x.copper ∧ x.copper ≤ 1000000) ∧ (0 ≤ x.tin ∧ x.tin ≤ 1000000) ∧ (0 ≤ x.other ∧ x.other ≤ 1000000) ∧ x.copper + x.tin + x.other = 1000000 := by
  simp only [alloyB, Bool.and_eq_true, decide_eq_true_eq] at h
  exact ⟨inB_true h.1, inB_true h.2.1, inB_true h.2.2.1, h.2.2.2⟩
theorem impl_ValidAlloy_is {b : Bool} (x : Alloy) (w : World) (h : alloyB x = b) :
    Calls Tryz.prog 84 #[.agg #[.int .i64 x.copper, .int .i64 x.tin, .int .i64 x.other]] w fun e w' => e = .returned (.bool b) ∧ Below w.heap.size w w' := by
  rw [← h]; exact impl_ValidAlloy x w
theorem spec_l13Alloy_is {b : Bool} (x : Alloy) (a : Nat) (w : World) (h : alloyB x = b) (h0 : w.cell? ⟨a, 0, none⟩ = some (.int .i64 x.copper)) (h1 : w.cell? ⟨a, 1, none⟩ = some (.int .i64 x.tin)) (h2 : w.cell? ⟨a, 2, none⟩ = some (.int .i64 x.other)) :
    Calls Tryz.prog 151 #[.pointer (some ⟨a, 0, none⟩)] w fun e w' => e = .returned (.bool b) ∧ Drew w w' := by
  rw [← h]; exact spec_l13Alloy x a w h0 h1 h2
end Go.Proofs.YtnbodmbagendnaaGreatDoor
namespace Go.Proofs.YtnbodmbagendnaaGreatDoor
open Go.ChangeShapes Go.WideShapes Go.ChangeAt Go.RowKit Go.Deep Go.Joins
set_option linter.unusedVariables false
set_option maxRecDepth 100000
set_option linter.unusedSimpArgs false
theorem spec_l13Alloy_at {r : Bool} (x : Alloy) (a o : Nat) (w : World) (h0 : w.cell? ⟨a, o, none⟩ = some (.int .i64 x.copper)) (h1 : w.cell? ⟨a, o + 1, none⟩ = some (.int .i64 x.tin)) (h2 : w.cell? ⟨a, o + 2, none⟩ = some (.int .i64 x.other)) (hr : alloyB x = r) :
    Calls Tryz.prog 151 #[.pointer (some ⟨a, o, none⟩)] w fun e w' => e = .returned (.bool r) ∧ Drew w w' := by
  subst hr
  unfold alloyB
  cases hA : inB x.copper 0 1000000
  · go_enter Tryz.func151, Tryz.ntmps151
    go_wp2_with fail
    go_quiet ((go_at_call 100; exact quietE (l00In_is _ _ _ _ (by assumption))))
    go_wp2_with fail
    go_ret
    exact ⟨rfl, _, rfl⟩
  · cases hB : inB x.tin 0 1000000
    · go_enter Tryz.func151, Tryz.ntmps151
      go_wp2_with fail
      go_quiet ((go_at_call 100; exact quietE (l00In_is _ _ _ _ (by assumption))))
      go_wp2_with fail
      go_ret
      exact ⟨rfl, _, rfl⟩
    · cases hC : inB x.other 0 1000000
      · go_enter Tryz.func151, Tryz.ntmps151
        go_wp2_with fail
        go_quiet ((go_at_call 100; exact quietE (l00In_is _ _ _ _ (by assumption))))
        go_wp2_with fail
        go_ret
        exact ⟨rfl, _, rfl⟩
      · have a1 := inB_true hA
        have a2 := inB_true hB
        have a3 := inB_true hC
        go_enter Tryz.func151, Tryz.ntmps151
        go_wp2_with fail
        go_quiet ((go_at_call 100; exact quietE (l00In_is _ _ _ _ (by assumption))))
        go_wp2_with fail
        go_ret
        exact ⟨by simp [Bool.beq_eq_decide_eq]; try rfl, _, rfl⟩
end Go.Proofs.YtnbodmbagendnaaGreatDoor
namespace Go.Proofs.YtnbodmbagendnaaGreatDoor
open Go.ChangeShapes Go.WideShapes Go.ChangeAt Go.RowKit Go.Deep Go.Joins
set_option linter.unusedVariables false
set_option maxRecDepth 100000
set_option linter.unusedSimpArgs false
def ingotB (x : Ingot) : Bool := nameB x.id && (inB x.mass 1 20000000 && alloyB x.alloy)

theorem spec_l13One_is {b : Bool} (x : Ingot) (a o : Nat) (w : World) (h : ingotB x = b) (h0 : w.cell? ⟨a, o, none⟩ = some (.string x.id)) (h1 : w.cell? ⟨a, o + 1, none⟩ = some (.int .i64 x.mass))
    (h2 : w.cell? ⟨a, o + 2, none⟩ = some (.int .i64 x.alloy.copper)) (h3 : w.cell? ⟨a, o + 3, none⟩ = some (.int .i64 x.alloy.tin)) (h4 : w.cell? ⟨a, o + 4, none⟩ = some (.int .i64 x.alloy.other)) (hx : x.ok) :
    Calls Tryz.prog 145 #[.pointer (some ⟨a, o, none⟩)] w fun e w' => e = .returned (.bool b) ∧ Below w.heap.size w w' := by
  subst h
  have hn := Lib.hid hx.1
  clear hx
  unfold ingotB
  cases hN : nameB x.id
  case false =>
    go_enter Tryz.func145, Tryz.ntmps145
    go_wp2_with (first | (go_at_call 99; refine (spec_l01Name_is _ _ hn.out (by assumption)).mono ?_; rintro e w' ⟨rfl, rfl⟩) | (go_at_call 100; refine (l00In_is _ _ _ _ (by assumption)).mono ?_; rintro e w' ⟨rfl, rfl⟩))
    go_ret
    exact ⟨rfl, by (repeat' (first | (with_reducible exact Below.refl _ _) | (with_reducible assumption) | (with_reducible refine below_dn ?_ _) | (with_reducible refine Below.drew ?_) | (with_reducible refine Below.alloc ?_ ?_ _) | (with_reducible refine Below.setCell ?_ ?_ _) | go_size))⟩
  cases hA : inB x.mass 1 20000000
  case false =>
    go_enter Tryz.func145, Tryz.ntmps145
    go_wp2_with (first | (go_at_call 99; refine (spec_l01Name_is _ _ hn.out (by assumption)).mono ?_; rintro e w' ⟨rfl, rfl⟩) | (go_at_call 100; refine (l00In_is _ _ _ _ (by assumption)).mono ?_; rintro e w' ⟨rfl, rfl⟩))
    go_ret
    exact ⟨rfl, by (repeat' (first | (with_reducible exact Below.refl _ _) | (with_reducible assumption) | (with_reducible refine below_dn ?_ _) | (with_reducible refine Below.drew ?_) | (with_reducible refine Below.alloc ?_ ?_ _) | (with_reducible refine Below.setCell ?_ ?_ _) | go_size))⟩
  go_enter Tryz.func145, Tryz.ntmps145
  go_wp2_with (first | (go_at_call 99; refine (spec_l01Name_is _ _ hn.out (by assumption)).mono ?_; rintro e w' ⟨rfl, rfl⟩) | (go_at_call 100; refine (l00In_is _ _ _ _ (by assumption)).mono ?_; rintro e w' ⟨rfl, rfl⟩))
  refine (spec_l13Alloy_at x.alloy _ _ _ h2 h3 h4 rfl).mono ?_; rintro e w1 ⟨rfl, n, rfl⟩
  go_wp2_with fail
  go_ret
  exact ⟨by simp, by (repeat' (first | (with_reducible exact Below.refl _ _) | (with_reducible assumption) | (with_reducible refine below_dn ?_ _) | (with_reducible refine Below.drew ?_) | (with_reducible refine Below.alloc ?_ ?_ _) | (with_reducible refine Below.setCell ?_ ?_ _) | go_size))⟩

theorem impl_validIngot_is {b : Bool} (x : Ingot) (w : World) (h : ingotB x = b) (hx : x.ok) :
    Calls Tryz.prog 53 #[.agg #[.string x.id, .int .i64 x.mass, .int .i64 x.alloy.copper, .int .i64 x.alloy.tin, .int .i64 x.alloy.other]] w fun e w' => e = .returned (.bool b) ∧ Below w.heap.size w w' := by
  subst h
  have hn := Lib.hid hx.1
  clear hx
  unfold ingotB
  cases hN : nameB x.id
  case false =>
    go_enter Tryz.func53, Tryz.ntmps53
    go_wp2_with fail
    refine (impl_IsName_is _ _ hn.out (by assumption)).mono ?_; rintro e w1 ⟨rfl, b1⟩
    go_wp2_with fail
    go_ret
    exact ⟨rfl, Below.trans (by (repeat' (first | (with_reducible exact Below.refl _ _) | (with_reducible assumption) | (with_reducible refine below_dn ?_ _) | (with_reducible refine Below.drew ?_) | (with_reducible refine Below.alloc ?_ ?_ _) | (with_reducible refine Below.setCell ?_ ?_ _) | go_size))) (b1.mono (by simp))⟩
  cases hA : inB x.mass 1 20000000
  case false =>
    go_enter Tryz.func53, Tryz.ntmps53
    go_wp2_with fail
    refine (impl_IsName_is _ _ hn.out (by assumption)).mono ?_; rintro e w1 ⟨rfl, b1⟩
    obtain ⟨hc, hf⟩ := bcell b1
    go_wp2_with (go_at_call 57; refine (within_is _ _ _ _ (by assumption)).mono ?_; rintro e w' ⟨rfl, rfl⟩)
    go_ret
    exact ⟨rfl, Below.trans (by (repeat' (first | (with_reducible exact Below.refl _ _) | (with_reducible assumption) | (with_reducible refine below_dn ?_ _) | (with_reducible refine Below.drew ?_) | (with_reducible refine Below.alloc ?_ ?_ _) | (with_reducible refine Below.setCell ?_ ?_ _) | go_size))) (b1.mono (by simp))⟩
  go_enter Tryz.func53, Tryz.ntmps53
  go_wp2_with fail
  refine (impl_IsName_is _ _ hn.out (by assumption)).mono ?_; rintro e w1 ⟨rfl, b1⟩
  obtain ⟨hc, hf⟩ := bcell b1
  go_wp2_with (go_at_call 57; refine (within_is _ _ _ _ (by assumption)).mono ?_; rintro e w' ⟨rfl, rfl⟩)
  clear hc hf
  refine (impl_ValidAlloy x.alloy _).mono ?_; rintro e w2 ⟨rfl, b2⟩
  have B2 := bnext b1 b2; clear b1 b2
  go_wp2_with fail
  go_ret
  exact ⟨by simp, Below.trans (by (repeat' (first | (with_reducible exact Below.refl _ _) | (with_reducible assumption) | (with_reducible refine below_dn ?_ _) | (with_reducible refine Below.drew ?_) | (with_reducible refine Below.alloc ?_ ?_ _) | (with_reducible refine Below.setCell ?_ ?_ _) | go_size))) (B2.mono (by simp))⟩
end Go.Proofs.YtnbodmbagendnaaGreatDoor
namespace Go.Proofs.YtnbodmbagendnaaGreatDoor
open Go.ChangeShapes Go.WideShapes Go.ChangeAt Go.RowKit Go.Deep Go.Joins
set_option linter.unusedVariables false
set_option maxRecDepth 100000
set_option linter.unusedSimpArgs false
def allK (f : Nat → Bool) : Nat → Bool
  | 0 => true
  | k + 1 => allK f k && f k
theorem allK_succ (f : Nat → Bool) (k : Nat) : allK f (k + 1) = (allK f k && f k) := rfl
theorem allK_false (f : Nat → Bool) (n k : Nat) (h : k < n) (hf : f k = false) : allK f n = false := by
  induction n with
  | zero => omega
  | succ n ih =>
    rw [allK_succ]
    by_cases hk : k = n
    · subst hk; simp [hf]
    · rw [ih (by omega)]; rfl
theorem allK_true {f : Nat → Bool} {n : Nat} (h : allK f n = true) (k : Nat) (hk : k < n) : f k = true := by
  cases hf : f k with
  | true => rfl
  | false => rw [allK_false f n k hk hf] at h; cases h
theorem allK_intro {f : Nat → Bool} : ∀ {n : Nat}, (∀ k, k < n → f k = true) → allK f n = true
  | 0, _ => rfl
  | n + 1, h => by rw [allK_succ, allK_intro (fun k hk => h k (by omega)), h n (by omega)]; rfl
/-- element k is valid, and behind the one before it -/
def stepB {α : Type} (ok : α → Bool) (lt : α → α → Bool) (xs : List α) (k : Nat) : Bool :=
  match xs[k]? with
  | none => true
  | some x => ok x && (match k with
    | 0 => true
    | j + 1 => match xs[j]? with
      | none => true
      | some y => lt y x)
section
variable {α : Type} {ok : α → Bool} {lt : α → α → Bool} {xs : List α} {k : Nat}
theorem stepB_no (h : k < xs.length) (hO : ok xs[k] = false) : stepB ok lt xs k = false := by
  unfold stepB
  rw [List.getElem?_eq_getElem h]
  simp [hO]
theorem stepB_zero (h : 0 < xs.length) (hO : ok xs[0] = true) : stepB ok lt xs 0 = true := by
  unfold stepB
  rw [List.getElem?_eq_getElem h]
  simp [hO]
theorem stepB_k0 (h : k < xs.length) (h0 : k = 0) (hO : ok xs[k] = true) : stepB ok lt xs k = true := by
  subst h0; exact stepB_zero h hO
theorem stepB_pos (h : k < xs.length) (hp : 0 < k) (hO : ok xs[k] = true) : stepB ok lt xs k = lt xs[k - 1] xs[k] := by
  match k, hp with
  | j + 1, _ =>
    unfold stepB
    rw [List.getElem?_eq_getElem h]
    simp [hO, List.getElem?_eq_getElem (show j < xs.length by omega)]
theorem stepB_lt (h : k < xs.length) (hp : 0 < k) (hO : ok xs[k] = true) (hT : lt xs[k - 1] xs[k] = false) : stepB ok lt xs k = false := by rw [stepB_pos h hp hO, hT]
theorem stepB_yes (h : k < xs.length) (hp : 0 < k) (hO : ok xs[k] = true) (hT : lt xs[k - 1] xs[k] = true) : stepB ok lt xs k = true := by rw [stepB_pos h hp hO, hT]
end

theorem not_less : ∀ (a b : List UInt8), (!(Op.bytesLess b a)) = (Op.bytesLess a b || a == b)
  | [], [] => by simp [Op.bytesLess]
  | [], b :: y => by simp [Op.bytesLess]
  | a :: x, [] => by simp [Op.bytesLess]
  | a :: x, b :: y => by
    have ih := not_less x y
    simp only [Op.bytesLess]
    by_cases h1 : a < b
    · have h2 : ¬ b < a := fun h => by simp only [UInt8.lt_iff_toNat_lt] at h h1; omega
      have h3 : (b == a) = false := by
        rw [beq_eq_false_iff_ne]
        intro h
        subst h
        exact h2 h1
      simp [h1, h2, h3]
    · by_cases h2 : b < a
      · have h3 : (a == b) = false := by
          rw [beq_eq_false_iff_ne]
          intro h
          subst h
          exact h1 h2
        have h4 : a ≠ b := by simpa using h3
        simp [h1, h2, h3, h4]
      · have h3 : a = b := by
          apply UInt8.toNat_inj.1
          simp only [UInt8.lt_iff_toNat_lt] at h1 h2
          omega
        subst h3
        simp [h1, ih]
theorem less_irrefl : ∀ (a : List UInt8), Op.bytesLess a a = false
  | [] => rfl
  | a :: x => by simp [Op.bytesLess, less_irrefl x]
theorem less_trans : ∀ (a b c : List UInt8), Op.bytesLess a b = true → Op.bytesLess b c = true → Op.bytesLess a c = true
  | _, [], _, h, _ => by simp [Op.bytesLess] at h
  | _, _ :: _, [], _, h => by simp [Op.bytesLess] at h
  | [], _ :: _, _ :: _, _, _ => rfl
  | a :: x, b :: y, c :: z, h1, h2 => by
    simp only [Op.bytesLess, Bool.or_eq_true, Bool.and_eq_true, decide_eq_true_eq, beq_iff_eq] at h1 h2 ⊢
    simp only [UInt8.lt_iff_toNat_lt] at h1 h2 ⊢
    rcases h1 with h1 | ⟨rfl, h1⟩
    · rcases h2 with h2 | ⟨rfl, h2⟩
      · left; omega
      · left; exact h1
    · rcases h2 with h2 | ⟨rfl, h2⟩
      · left; exact h2
      · right; exact ⟨rfl, less_trans x y z h1 h2⟩
end Go.Proofs.YtnbodmbagendnaaGreatDoor
