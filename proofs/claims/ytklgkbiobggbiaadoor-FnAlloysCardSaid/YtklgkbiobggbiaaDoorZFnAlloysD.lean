/- Contracts and plain facts, joined: ReadLiL, NameIs, Part, Alloy, Round, Density, AlloyAt, OneIngot, IngTx, FreeT, ReadInL, Steps, ChoiceS, HAlloy, HIngot. -/
import Derived.Test.YtklgkbiobggbiaaDoorRows
import Derived.Test.YtklgkbiobggbiaaDoorZFnAlloysC
import Derived.Deep.RegionHeld3
namespace Go.Proofs.YtklgkbiobggbiaaDoor
open Go.ChangeShapes Go.WideShapes Go.ChangeAt Go.RowKit Go.Deep Go.Joins
set_option linter.unusedVariables false
set_option maxRecDepth 100000
set_option linter.unusedSimpArgs false
/-- a number of a list -/
def valB (n : Int) : Bool := inB n (-1000000000000) 1000000000000
/-- the text that the program writes of a list -/
def listX (zs : List Int) : ByteArray := if zs.length ≤ 64 ∧ zs.all valB = true then listT zs else ⟨#[]⟩
def numB (w : ByteArray) : Option Int := (numS w).bind fun x => if valB x = true then some x else none
def readN : List ByteArray → Option (List Int)
  | [] => some []
  | w :: ws => (numB w).bind fun x => (readN ws).map (x :: ·)
def listR (s : ByteArray) : Option (List Int) := if s = ⟨#[45]⟩ then some [] else if 64 < (partsS 44 s).length then none else readN (partsS 44 s)
def listL (s : ByteArray) : List Int := (listR s).getD []
theorem valB_bd {n : Int} (h : valB n = true) : -1000000000000 ≤ n ∧ n ≤ 1000000000000 := inB_true h
theorem numB_some {w : ByteArray} {x : Int} (h : numB w = some x) : w = decT x ∧ numV w = x ∧ valB x = true ∧ numS w = some x := by
  unfold numB at h
  cases hn : numS w with
  | none => rw [hn] at h; cases h
  | some y =>
    rw [hn, Option.bind_some] at h
    by_cases hv : valB y = true
    · rw [if_pos hv] at h
      obtain rfl : y = x := by simpa using h
      exact ⟨(num_text hn).1.symm, (num_some hn).1, hv, rfl⟩
    · rw [if_neg hv] at h; cases h
theorem numB_text {x : Int} (h : valB x = true) : numB (decT x) = some x := by
  have := valB_bd h
  unfold numB
  rw [num_decT (by omega) (by omega), Option.bind_some, if_pos h]
theorem readN_some : ∀ {ws : List ByteArray} {xs : List Int}, readN ws = some xs → ws = xs.map decT ∧ ws.map numV = xs ∧ xs.all valB = true
  | [], xs, h => by
    obtain rfl : [] = xs := by simpa [readN] using h
    exact ⟨rfl, rfl, rfl⟩
  | w :: ws, xs, h => by
    cases hw : numB w with
    | none => simp [readN, hw] at h
    | some x =>
      cases hr : readN ws with
      | none => simp [readN, hw, hr] at h
      | some ys =>
        obtain rfl : x :: ys = xs := by simpa [readN, hw, hr] using h
        obtain ⟨h1, h2, h5⟩ := readN_some hr
        obtain ⟨h3, h4, h6, _⟩ := numB_some hw
        exact ⟨by rw [List.map_cons, ← h3, ← h1], by rw [List.map_cons, h4, h2], by rw [List.all_cons, h6, h5]; rfl⟩
theorem readN_texts : ∀ {xs : List Int}, xs.all valB = true → readN (xs.map decT) = some xs
  | [], _ => rfl
  | x :: xs, h => by
    rw [List.all_cons, Bool.and_eq_true] at h
    rw [List.map_cons]
    unfold readN
    rw [numB_text h.1, readN_texts h.2]
    rfl
theorem readN_snoc : ∀ (ws : List ByteArray) (w : ByteArray), readN (ws ++ [w]) = (readN ws).bind fun o => (numB w).map fun x => o ++ [x]
  | [], w => by
    simp only [List.nil_append, readN]
    cases numB w <;> rfl
  | v :: ws, w => by
    simp only [List.cons_append, readN, readN_snoc ws w]
    cases numB v with
    | none => rfl
    | some x => cases readN ws with
      | none => rfl
      | some o => cases numB w <;> rfl
theorem readN_bad {ws : List ByteArray} {k : Nat} (hk : k < ws.length) (h : numB ws[k] = none) : readN ws = none := by
  induction ws generalizing k with
  | nil => simp at hk
  | cons w ws ih =>
    unfold readN
    cases k with
    | zero => rw [show numB w = none from h]; rfl
    | succ k =>
      rw [ih (k := k) (by simpa using hk) h]
      cases numB w <;> rfl
theorem readN_len {xs : List Int} {ws : List ByteArray} (h : readN ws = some xs) : xs.length = ws.length := by
  obtain ⟨h1, _⟩ := readN_some h
  rw [h1, List.length_map]
theorem listR_dash : listR ⟨#[45]⟩ = some [] := if_pos rfl
theorem listR_word {s : ByteArray} (h : s ≠ ⟨#[45]⟩) : listR s = if 64 < (partsS 44 s).length then none else readN (partsS 44 s) := if_neg h
theorem listL_none {s : ByteArray} (h : listR s = none) : listL s = [] ∧ (listR s).isSome = false := by unfold listL; rw [h]; exact ⟨rfl, rfl⟩
theorem listL_some {s : ByteArray} {xs : List Int} (h : listR s = some xs) : listL s = xs ∧ (listR s).isSome = true := by unfold listL; rw [h]; exact ⟨rfl, rfl⟩
theorem numV_nil : numV ⟨#[]⟩ = 0 := (num_none (numS_bad (s := ⟨#[]⟩) (.inl (Nat.zero_le _)))).1
/-- the program's one test says what the reference finds -/
theorem list_tests {s : ByteArray} (h : s ≠ ⟨#[45]⟩) (xs : List Int) (hx : xs = (partsS 44 s).map numV) : (listX xs = s → listR s = some xs) ∧ (listX xs ≠ s → listR s = none) := by
  have hr := listR_word h
  have hpos := (partsS_len 44 s).1
  have hl : xs.length = (partsS 44 s).length := by rw [hx, List.length_map]
  constructor
  · intro ht
    by_cases hc : xs.length ≤ 64 ∧ xs.all valB = true
    · have e : listX xs = joinT 44 (xs.map decT) := if_pos hc
      rw [e] at ht
      have hp := parts_joinT 44 (xs.map decT) (fun q => by
        have := congrArg List.length q
        rw [List.length_map, List.length_nil] at this; omega) (fun x hx => by
        obtain ⟨y, _, rfl⟩ := List.mem_map.1 hx
        exact decT_free (by decide) (by decide))
      rw [ht] at hp
      rw [hr, if_neg (by omega), hp, readN_texts hc.2]
    · have e : listX xs = ⟨#[]⟩ := if_neg hc
      rw [e] at ht
      subst ht
      have e2 : partsS 44 ⟨#[]⟩ = [⟨#[]⟩] := rfl
      rw [e2, List.map_cons, numV_nil] at hx
      subst hx
      exact absurd ⟨by simp, by decide⟩ hc
  · intro hn
    rw [hr]
    by_cases h64 : 64 < (partsS 44 s).length
    · rw [if_pos h64]
    · rw [if_neg h64]
      cases hw : readN (partsS 44 s) with
      | none => rfl
      | some ys =>
        obtain ⟨h1, h2, h3⟩ := readN_some hw
        rw [← hx] at h2
        subst h2
        refine absurd ?_ hn
        have hc : xs.length ≤ 64 ∧ xs.all valB = true := ⟨by omega, h3⟩
        have e : listX xs = joinT 44 (xs.map decT) := if_pos hc
        rw [e, ← h1, partsS_join]
/-- a list that is read is the list of its text -/
theorem listR_text {s : ByteArray} {xs : List Int} (h : listR s = some xs) (h0 : xs ≠ []) : s = listT xs ∧ xs.length ≤ 64 ∧ xs.all valB = true := by
  by_cases hd : s = ⟨#[45]⟩
  · rw [hd, listR_dash] at h
    exact absurd (by simpa using h.symm) h0
  · rw [listR_word hd] at h
    by_cases h64 : 64 < (partsS 44 s).length
    · rw [if_pos h64] at h; cases h
    · rw [if_neg h64] at h
      obtain ⟨h1, _, h3⟩ := readN_some h
      have hl := readN_len h
      refine ⟨?_, by omega, h3⟩
      unfold listT
      rw [← h1, partsS_join]
theorem listL_bd (s : ByteArray) : (listL s).length ≤ 64 ∧ ∀ x ∈ listL s, -1000000000000 ≤ x ∧ x ≤ 1000000000000 := by
  cases h : listR s with
  | none => rw [(listL_none h).1]; exact ⟨by simp, fun x hx => by cases hx⟩
  | some xs =>
    rw [(listL_some h).1]
    by_cases h0 : xs = []
    · subst h0; exact ⟨by simp, fun x hx => by cases hx⟩
    · obtain ⟨_, h1, h2⟩ := listR_text h h0
      exact ⟨h1, fun x hx => valB_bd (List.all_eq_true.1 h2 x hx)⟩
theorem decT_sizeV {n : Int} (h : -1000000000000 ≤ n ∧ n ≤ 1000000000000) : (decT n).size ≤ 21 := by
  by_cases hn : n < 0
  · obtain ⟨u, rfl⟩ : ∃ u : Nat, n = -(u : Int) := ⟨n.natAbs, by omega⟩
    have e : (decT (-(u : Int))).size = (Lib.itoa (-(u : Int))).length := by unfold decT ByteArray.size; simp
    have hd := decD_len u (by omega)
    unfold decD at hd
    rw [if_neg (by omega)] at hd
    rw [e, itoa_neg' (u := u) (by omega), List.length_cons]
    omega
  · have := decT_sizeN n (by omega) (by omega)
    omega
end Go.Proofs.YtklgkbiobggbiaaDoor
namespace Go.Proofs.YtklgkbiobggbiaaDoor
open Go.ChangeShapes Go.WideShapes Go.ChangeAt Go.RowKit Go.Deep Go.Joins
set_option linter.unusedVariables false
set_option maxRecDepth 100000
set_option linter.unusedSimpArgs false
theorem spec_l01Name_is {b : Bool} (s : ByteArray) (w : World) (hs : s.size ≤ maxLen) (h : nameB s = b) : Calls Tryd.prog 103 #[.string s] w fun e w' => e = .returned (.bool b) ∧ w = w' := by
  rw [← h]; exact spec_l01Name s w hs
theorem impl_IsName_is {b : Bool} (s : ByteArray) (w : World) (hs : s.size ≤ maxLen) (h : nameB s = b) : Calls Tryd.prog 69 #[.string s] w fun e w' => e = .returned (.bool b) ∧ Below w.heap.size w w' := by
  rw [← h]; exact impl_IsName s w hs
end Go.Proofs.YtklgkbiobggbiaaDoor
namespace Go.Proofs.YtklgkbiobggbiaaDoor
open Go.ChangeShapes Go.WideShapes Go.ChangeAt Go.RowKit Go.Deep Go.Joins
set_option linter.unusedVariables false
set_option maxRecDepth 100000
set_option linter.unusedSimpArgs false
theorem impl_isPart (n : Int) (w : World) : Calls Tryd.prog 102 #[.int .i64 n] w fun e w' => e = .returned (.bool (inB n 0 1000000)) ∧ w = w' := by
  go_enter Tryd.func102, Tryd.ntmps102
  go_wp2_with (go_at_call 70; refine (within _ _ _ _).mono ?_; rintro e w' ⟨rfl, rfl⟩)
  go_ret
  exact ⟨rfl, rfl⟩
theorem impl_isPart_is {b : Bool} (n : Int) (w : World) (h : inB n 0 1000000 = b) : Calls Tryd.prog 102 #[.int .i64 n] w fun e w' => e = .returned (.bool b) ∧ w = w' := by
  rw [← h]; exact impl_isPart n w
end Go.Proofs.YtklgkbiobggbiaaDoor
namespace Go.Proofs.YtklgkbiobggbiaaDoor
open Go.ChangeShapes Go.WideShapes Go.ChangeAt Go.RowKit Go.Deep Go.Joins
set_option linter.unusedVariables false
set_option maxRecDepth 100000
set_option linter.unusedSimpArgs false
def alloyB (x : Alloy) : Bool := inB x.copper 0 1000000 && (inB x.tin 0 1000000 && (inB x.other 0 1000000 && decide (x.copper + x.tin + x.other = 1000000)))

theorem spec_l13Alloy (x : Alloy) (a : Nat) (w : World) (h0 : w.cell? ⟨a, 0, none⟩ = some (.int .i64 x.copper)) (h1 : w.cell? ⟨a, 1, none⟩ = some (.int .i64 x.tin)) (h2 : w.cell? ⟨a, 2, none⟩ = some (.int .i64 x.other)) :
    Calls Tryd.prog 65 #[.pointer (some ⟨a, 0, none⟩)] w fun e w' => e = .returned (.bool (alloyB x)) ∧ Drew w w' := by
  unfold alloyB
  cases hA : inB x.copper 0 1000000
  · go_enter Tryd.func65, Tryd.ntmps65
    go_wp2_with fail
    go_quiet ((go_at_call 87; exact quietE (l00In_is _ _ _ _ (by assumption))))
    go_wp2_with fail
    go_ret
    exact ⟨rfl, _, rfl⟩
  · cases hB : inB x.tin 0 1000000
    · go_enter Tryd.func65, Tryd.ntmps65
      go_wp2_with fail
      go_quiet ((go_at_call 87; exact quietE (l00In_is _ _ _ _ (by assumption))))
      go_wp2_with fail
      go_ret
      exact ⟨rfl, _, rfl⟩
    · cases hC : inB x.other 0 1000000
      · go_enter Tryd.func65, Tryd.ntmps65
        go_wp2_with fail
        go_quiet ((go_at_call 87; exact quietE (l00In_is _ _ _ _ (by assumption))))
        go_wp2_with fail
        go_ret
        exact ⟨rfl, _, rfl⟩
      · have a1 := inB_true hA
        have a2 := inB_true hB
        have a3 := inB_true hC
        go_enter Tryd.func65, Tryd.ntmps65
        go_wp2_with fail
        go_quiet ((go_at_call 87; exact quietE (l00In_is _ _ _ _ (by assumption))))
        go_wp2_with fail
        go_ret
        exact ⟨by simp [Bool.beq_eq_decide_eq]; try rfl, _, rfl⟩

theorem spec_ValidAlloy (x : Alloy) (w : World) :
    Calls Tryd.prog 29 #[.agg #[.int .i64 x.copper, .int .i64 x.tin, .int .i64 x.other]] w fun e w' => e = .returned (.bool (alloyB x)) ∧ Below w.heap.size w w' := by
  go_enter Tryd.func29, Tryd.ntmps29
  go_wp2_with (go_at_call 65; go_call (spec_l13Alloy x) as e w' ⟨rfl, n, rfl⟩)
  go_ret
  exact ⟨rfl, by (repeat' (first | (with_reducible exact Below.refl _ _) | (with_reducible assumption) | (with_reducible refine below_dn ?_ _) | (with_reducible refine Below.drew ?_) | (with_reducible refine Below.alloc ?_ ?_ _) | (with_reducible refine Below.setCell ?_ ?_ _) | go_size))⟩
theorem impl_ValidAlloy (x : Alloy) (w : World) :
    Calls Tryd.prog 64 #[.agg #[.int .i64 x.copper, .int .i64 x.tin, .int .i64 x.other]] w fun e w' => e = .returned (.bool (alloyB x)) ∧ Below w.heap.size w w' := by
  unfold alloyB
  go_enter Tryd.func64, Tryd.ntmps64
  cases hA : inB x.copper 0 1000000
  · go_wp2_with (go_at_call 102; refine (impl_isPart_is _ _ (by assumption)).mono ?_; rintro e w' ⟨rfl, rfl⟩)
    go_ret
    exact ⟨rfl, by (repeat' (first | (with_reducible exact Below.refl _ _) | (with_reducible assumption) | (with_reducible refine below_dn ?_ _) | (with_reducible refine Below.drew ?_) | (with_reducible refine Below.alloc ?_ ?_ _) | (with_reducible refine Below.setCell ?_ ?_ _) | go_size))⟩
  · cases hB : inB x.tin 0 1000000
    · go_wp2_with (go_at_call 102; refine (impl_isPart_is _ _ (by assumption)).mono ?_; rintro e w' ⟨rfl, rfl⟩)
      go_ret
      exact ⟨rfl, by (repeat' (first | (with_reducible exact Below.refl _ _) | (with_reducible assumption) | (with_reducible refine below_dn ?_ _) | (with_reducible refine Below.drew ?_) | (with_reducible refine Below.alloc ?_ ?_ _) | (with_reducible refine Below.setCell ?_ ?_ _) | go_size))⟩
    · cases hC : inB x.other 0 1000000
      · go_wp2_with (go_at_call 102; refine (impl_isPart_is _ _ (by assumption)).mono ?_; rintro e w' ⟨rfl, rfl⟩)
        go_ret
        exact ⟨rfl, by (repeat' (first | (with_reducible exact Below.refl _ _) | (with_reducible assumption) | (with_reducible refine below_dn ?_ _) | (with_reducible refine Below.drew ?_) | (with_reducible refine Below.alloc ?_ ?_ _) | (with_reducible refine Below.setCell ?_ ?_ _) | go_size))⟩
      · have a1 := inB_true hA
        have a2 := inB_true hB
        have a3 := inB_true hC
        go_wp2_with (go_at_call 102; refine (impl_isPart_is _ _ (by assumption)).mono ?_; rintro e w' ⟨rfl, rfl⟩)
        go_ret
        exact ⟨by simp [Bool.beq_eq_decide_eq]; try rfl, by (repeat' (first | (with_reducible exact Below.refl _ _) | (with_reducible assumption) | (with_reducible refine below_dn ?_ _) | (with_reducible refine Below.drew ?_) | (with_reducible refine Below.alloc ?_ ?_ _) | (with_reducible refine Below.setCell ?_ ?_ _) | go_size))⟩
end Go.Proofs.YtklgkbiobggbiaaDoor
namespace Go.Proofs.YtklgkbiobggbiaaDoor
open Go.ChangeShapes Go.WideShapes Go.ChangeAt Go.RowKit Go.Deep Go.Joins
set_option linter.unusedVariables false
set_option maxRecDepth 100000
set_option linter.unusedSimpArgs false
/-- the nearest integer to a / b, halves away from 0; b is positive -/
def divR (a b : Int) : Int := if a < 0 then -((b - 2 * a) / (2 * b)) else (2 * a + b) / (2 * b)

theorem half (q r b : Int) (hb : 0 < b) (h0 : 0 ≤ r) (h1 : r < b) : (2 * (b * q + r) + b) / (2 * b) = if b - r ≤ r then q + 1 else q := by
  have e : 2 * (b * q + r) + b = (2 * r + b) + q * (2 * b) := by
    have h1 : 2 * (b * q + r) = 2 * (b * q) + 2 * r := by omega
    have h2 : q * (2 * b) = 2 * (b * q) := by rw [Int.mul_comm q, Int.mul_assoc]
    omega
  rw [e, Int.add_mul_ediv_right _ _ (by omega)]
  split
  · rename_i h
    have : (2 * r + b) / (2 * b) = 1 := by
      have h2 : 2 * r + b = (2 * r - b) + 1 * (2 * b) := by omega
      rw [h2, Int.add_mul_ediv_right _ _ (by omega), Int.ediv_eq_zero_of_lt (by omega) (by omega)]
      omega
    omega
  · rename_i h
    have : (2 * r + b) / (2 * b) = 0 := Int.ediv_eq_zero_of_lt (by omega) (by omega)
    omega

/-- for a that is not negative -/
theorem divR_pos (a b : Int) (hb : 0 < b) (ha : 0 ≤ a) : divR a b = if b - a % b ≤ a % b then a / b + 1 else a / b := by
  unfold divR
  rw [if_neg (by omega)]
  have h := half (a / b) (a % b) b hb (Int.emod_nonneg _ (by omega)) (Int.emod_lt_of_pos _ hb)
  rw [Int.mul_ediv_add_emod] at h
  exact h
theorem divR_neg (a b : Int) (hb : 0 < b) (ha : a < 0) : divR a b = -(if b - (-a) % b ≤ (-a) % b then (-a) / b + 1 else (-a) / b) := by
  unfold divR
  rw [if_pos ha]
  have h := half ((-a) / b) ((-a) % b) b hb (Int.emod_nonneg _ (by omega)) (Int.emod_lt_of_pos _ hb)
  rw [Int.mul_ediv_add_emod] at h
  rw [← h]
  congr 2
  omega

theorem impl_abs_pos (a : Int) (w : World) (h : 0 ≤ a) : Calls Tryd.prog 96 #[.int .i64 a] w fun e w' => e = .returned (.int .i64 a) ∧ w = w' := by
  go_enter Tryd.func96, Tryd.ntmps96
  go_wp2
  all_goals go_ret
  all_goals exact ⟨rfl, rfl⟩
theorem impl_abs_neg (a : Int) (w : World) (h : 0 ≤ a) (h2 : a ≤ 1000000000000000000) : Calls Tryd.prog 96 #[.int .i64 (-a)] w fun e w' => e = .returned (.int .i64 a) ∧ w = w' := by
  by_cases h0 : a = 0
  · subst h0
    go_enter Tryd.func96, Tryd.ntmps96
    go_wp2
    all_goals go_ret
    all_goals exact ⟨rfl, rfl⟩
  · have h1 : -a < 0 := by omega
    go_enter Tryd.func96, Tryd.ntmps96
    go_wp2
    all_goals go_ret
    all_goals exact ⟨by simp, rfl⟩

theorem impl_nearest (a b : Int) (w : World) (hb : 0 < b) (hb2 : b ≤ 1000000000000000000) (ha : -1000000000000000000 ≤ a) (ha2 : a ≤ 1000000000000000000) :
    Calls Tryd.prog 59 #[.int .i64 a, .int .i64 b] w fun e w' => e = .returned (.int .i64 (divR a b)) ∧ Drew w w' := by
  by_cases h : a < 0
  · rw [divR_neg a b hb h]
    obtain ⟨m, rfl⟩ : ∃ m, a = -m := ⟨-a, by omega⟩
    rw [Int.neg_neg]
    have h0 : 0 < m := by omega
    have h1 : 0 ≤ m / b := Int.ediv_nonneg (by omega) (by omega)
    have h2 : 0 ≤ m % b := Int.emod_nonneg _ (by omega)
    have h3 : m % b < b := Int.emod_lt_of_pos _ hb
    have h4 : m / b ≤ m := by
      apply Int.ediv_le_self _ (by omega)
    have e1 : (-m).tdiv b = -(m / b) := by rw [Int.neg_tdiv, Int.tdiv_eq_ediv_of_nonneg (by omega)]
    have e2 : (-m).tmod b = -(m % b) := by rw [Int.neg_tmod, Int.tmod_eq_emod_of_nonneg (by omega)]
    have d1 : decide (-m < 0) = true := by simpa using h
    have d2 : decide (b < 0) = false := by simp; omega
    clear h
    by_cases h5 : b - m % b ≤ m % b
    all_goals
      simp only [h5, if_true, if_false]
      go_enter Tryd.func59, Tryd.ntmps59
      go_wp2
      go_quiet ((first | (go_at_call 96; exact quietE (impl_abs_neg _ _ (by assumption) (by omega))) | (go_at_call 96; exact quietE (impl_abs_pos _ _ (by omega)))))
      go_wp2
      all_goals go_ret
      all_goals exact ⟨congrArg (fun x => Ending.returned (Value.int .i64 x)) (by omega), _, rfl⟩
  · rw [divR_pos a b hb (by omega)]
    have h1 : 0 ≤ a / b := Int.ediv_nonneg (by omega) (by omega)
    have h2 : 0 ≤ a % b := Int.emod_nonneg _ (by omega)
    have h3 : a % b < b := Int.emod_lt_of_pos _ hb
    have h4 : a / b ≤ a := Int.ediv_le_self _ (by omega)
    have d1 : decide (a < 0) = false := by simpa using h
    have d2 : decide (b < 0) = false := by simp; omega
    clear h
    by_cases h5 : b - a % b ≤ a % b
    all_goals
      simp only [h5, if_true, if_false]
      go_enter Tryd.func59, Tryd.ntmps59
      go_wp2
      go_quiet ((go_at_call 96; exact quietE (impl_abs_pos _ _ (by omega))))
      go_wp2
      all_goals go_ret
      all_goals exact ⟨rfl, _, rfl⟩
end Go.Proofs.YtklgkbiobggbiaaDoor
namespace Go.Proofs.YtklgkbiobggbiaaDoor
open Go.ChangeShapes Go.WideShapes Go.ChangeAt Go.RowKit Go.Deep Go.Joins
set_option linter.unusedVariables false
set_option maxRecDepth 100000
set_option linter.unusedSimpArgs false
def densS (x : Alloy) : Int × Int := if alloyB x then (divR (8960 * x.copper + 7310 * x.tin + 8000 * x.other) 1000000, 0) else (0, 1)
theorem alloyB_true {x : Alloy} (h : alloyB x = true) : (0 ≤ x.copper ∧ x.copper ≤ 1000000) ∧ (0 ≤ x.tin ∧ x.tin ≤ 1000000) ∧ (0 ≤ x.other ∧ x.other ≤ 1000000) ∧ x.copper + x.tin + x.other = 1000000 := by
  simp only [alloyB, Bool.and_eq_true, decide_eq_true_eq] at h
  exact ⟨inB_true h.1, inB_true h.2.1, inB_true h.2.2.1, h.2.2.2⟩
theorem impl_ValidAlloy_is {b : Bool} (x : Alloy) (w : World) (h : alloyB x = b) :
    Calls Tryd.prog 64 #[.agg #[.int .i64 x.copper, .int .i64 x.tin, .int .i64 x.other]] w fun e w' => e = .returned (.bool b) ∧ Below w.heap.size w w' := by
  rw [← h]; exact impl_ValidAlloy x w
theorem spec_l13Alloy_is {b : Bool} (x : Alloy) (a : Nat) (w : World) (h : alloyB x = b) (h0 : w.cell? ⟨a, 0, none⟩ = some (.int .i64 x.copper)) (h1 : w.cell? ⟨a, 1, none⟩ = some (.int .i64 x.tin)) (h2 : w.cell? ⟨a, 2, none⟩ = some (.int .i64 x.other)) :
    Calls Tryd.prog 65 #[.pointer (some ⟨a, 0, none⟩)] w fun e w' => e = .returned (.bool b) ∧ Drew w w' := by
  rw [← h]; exact spec_l13Alloy x a w h0 h1 h2

theorem impl_DensityOf (x : Alloy) (w : World) : Calls Tryd.prog 28 #[.agg #[.int .i64 x.copper, .int .i64 x.tin, .int .i64 x.other]] w fun e w' => e = .returned (.tuple #[.int .i64 (densS x).1, .int .i64 (densS x).2]) ∧ Below w.heap.size w w' := by
  unfold densS
  cases h : alloyB x
  · go_enter Tryd.func28, Tryd.ntmps28
    go_wp2_with fail
    refine (impl_ValidAlloy_is x _ h).mono ?_; rintro e w1 ⟨rfl, b1⟩
    go_wp2_with fail
    go_ret2
    exact ⟨rfl, Below.trans (by (repeat' (first | (with_reducible exact Below.refl _ _) | (with_reducible assumption) | (with_reducible refine below_dn ?_ _) | (with_reducible refine Below.drew ?_) | (with_reducible refine Below.alloc ?_ ?_ _) | (with_reducible refine Below.setCell ?_ ?_ _) | go_size))) (b1.mono (by simp))⟩
  · obtain ⟨⟨a1, a2⟩, ⟨a3, a4⟩, ⟨a5, a6⟩, a7⟩ := alloyB_true h
    go_enter Tryd.func28, Tryd.ntmps28
    clear a7
    go_wp2_with fail
    refine (impl_ValidAlloy_is x _ h).mono ?_; rintro e w1 ⟨rfl, b1⟩
    obtain ⟨hc, hf⟩ := bcell b1
    go_wp2_with (go_at_call 59; refine (impl_nearest _ _ _ (by omega) (by omega) (by omega) (by omega)).mono ?_; rintro e w' ⟨rfl, n, rfl⟩)
    go_ret2
    exact ⟨rfl, below_dn (Below.trans (by (repeat' (first | (with_reducible exact Below.refl _ _) | (with_reducible assumption) | (with_reducible refine below_dn ?_ _) | (with_reducible refine Below.drew ?_) | (with_reducible refine Below.alloc ?_ ?_ _) | (with_reducible refine Below.setCell ?_ ?_ _) | go_size))) (b1.mono (by simp))) _⟩
end Go.Proofs.YtklgkbiobggbiaaDoor
namespace Go.Proofs.YtklgkbiobggbiaaDoor
open Go.ChangeShapes Go.WideShapes Go.ChangeAt Go.RowKit Go.Deep Go.Joins
set_option linter.unusedVariables false
set_option maxRecDepth 100000
set_option linter.unusedSimpArgs false
theorem spec_l13Alloy_at {r : Bool} (x : Alloy) (a o : Nat) (w : World) (h0 : w.cell? ⟨a, o, none⟩ = some (.int .i64 x.copper)) (h1 : w.cell? ⟨a, o + 1, none⟩ = some (.int .i64 x.tin)) (h2 : w.cell? ⟨a, o + 2, none⟩ = some (.int .i64 x.other)) (hr : alloyB x = r) :
    Calls Tryd.prog 65 #[.pointer (some ⟨a, o, none⟩)] w fun e w' => e = .returned (.bool r) ∧ Drew w w' := by
  subst hr
  unfold alloyB
  cases hA : inB x.copper 0 1000000
  · go_enter Tryd.func65, Tryd.ntmps65
    go_wp2_with fail
    go_quiet ((go_at_call 87; exact quietE (l00In_is _ _ _ _ (by assumption))))
    go_wp2_with fail
    go_ret
    exact ⟨rfl, _, rfl⟩
  · cases hB : inB x.tin 0 1000000
    · go_enter Tryd.func65, Tryd.ntmps65
      go_wp2_with fail
      go_quiet ((go_at_call 87; exact quietE (l00In_is _ _ _ _ (by assumption))))
      go_wp2_with fail
      go_ret
      exact ⟨rfl, _, rfl⟩
    · cases hC : inB x.other 0 1000000
      · go_enter Tryd.func65, Tryd.ntmps65
        go_wp2_with fail
        go_quiet ((go_at_call 87; exact quietE (l00In_is _ _ _ _ (by assumption))))
        go_wp2_with fail
        go_ret
        exact ⟨rfl, _, rfl⟩
      · have a1 := inB_true hA
        have a2 := inB_true hB
        have a3 := inB_true hC
        go_enter Tryd.func65, Tryd.ntmps65
        go_wp2_with fail
        go_quiet ((go_at_call 87; exact quietE (l00In_is _ _ _ _ (by assumption))))
        go_wp2_with fail
        go_ret
        exact ⟨by simp [Bool.beq_eq_decide_eq]; try rfl, _, rfl⟩
end Go.Proofs.YtklgkbiobggbiaaDoor
namespace Go.Proofs.YtklgkbiobggbiaaDoor
open Go.ChangeShapes Go.WideShapes Go.ChangeAt Go.RowKit Go.Deep Go.Joins
set_option linter.unusedVariables false
set_option maxRecDepth 100000
set_option linter.unusedSimpArgs false
def ingotB (x : Ingot) : Bool := nameB x.id && (inB x.mass 1 20000000 && alloyB x.alloy)

theorem spec_l13One_is {b : Bool} (x : Ingot) (a o : Nat) (w : World) (h : ingotB x = b) (h0 : w.cell? ⟨a, o, none⟩ = some (.string x.id)) (h1 : w.cell? ⟨a, o + 1, none⟩ = some (.int .i64 x.mass))
    (h2 : w.cell? ⟨a, o + 2, none⟩ = some (.int .i64 x.alloy.copper)) (h3 : w.cell? ⟨a, o + 3, none⟩ = some (.int .i64 x.alloy.tin)) (h4 : w.cell? ⟨a, o + 4, none⟩ = some (.int .i64 x.alloy.other)) (hx : x.ok) :
    Calls Tryd.prog 67 #[.pointer (some ⟨a, o, none⟩)] w fun e w' => e = .returned (.bool b) ∧ Below w.heap.size w w' := by
  subst h
  have hn := Lib.hid hx.1
  clear hx
  unfold ingotB
  cases hN : nameB x.id
  case false =>
    go_enter Tryd.func67, Tryd.ntmps67
    go_wp2_with (first | (go_at_call 103; refine (spec_l01Name_is _ _ hn.out (by assumption)).mono ?_; rintro e w' ⟨rfl, rfl⟩) | (go_at_call 87; refine (l00In_is _ _ _ _ (by assumption)).mono ?_; rintro e w' ⟨rfl, rfl⟩))
    go_ret
    exact ⟨rfl, by (repeat' (first | (with_reducible exact Below.refl _ _) | (with_reducible assumption) | (with_reducible refine below_dn ?_ _) | (with_reducible refine Below.drew ?_) | (with_reducible refine Below.alloc ?_ ?_ _) | (with_reducible refine Below.setCell ?_ ?_ _) | go_size))⟩
  cases hA : inB x.mass 1 20000000
  case false =>
    go_enter Tryd.func67, Tryd.ntmps67
    go_wp2_with (first | (go_at_call 103; refine (spec_l01Name_is _ _ hn.out (by assumption)).mono ?_; rintro e w' ⟨rfl, rfl⟩) | (go_at_call 87; refine (l00In_is _ _ _ _ (by assumption)).mono ?_; rintro e w' ⟨rfl, rfl⟩))
    go_ret
    exact ⟨rfl, by (repeat' (first | (with_reducible exact Below.refl _ _) | (with_reducible assumption) | (with_reducible refine below_dn ?_ _) | (with_reducible refine Below.drew ?_) | (with_reducible refine Below.alloc ?_ ?_ _) | (with_reducible refine Below.setCell ?_ ?_ _) | go_size))⟩
  go_enter Tryd.func67, Tryd.ntmps67
  go_wp2_with (first | (go_at_call 103; refine (spec_l01Name_is _ _ hn.out (by assumption)).mono ?_; rintro e w' ⟨rfl, rfl⟩) | (go_at_call 87; refine (l00In_is _ _ _ _ (by assumption)).mono ?_; rintro e w' ⟨rfl, rfl⟩))
  refine (spec_l13Alloy_at x.alloy _ _ _ h2 h3 h4 rfl).mono ?_; rintro e w1 ⟨rfl, n, rfl⟩
  go_wp2_with fail
  go_ret
  exact ⟨by simp, by (repeat' (first | (with_reducible exact Below.refl _ _) | (with_reducible assumption) | (with_reducible refine below_dn ?_ _) | (with_reducible refine Below.drew ?_) | (with_reducible refine Below.alloc ?_ ?_ _) | (with_reducible refine Below.setCell ?_ ?_ _) | go_size))⟩

theorem impl_validIngot_is {b : Bool} (x : Ingot) (w : World) (h : ingotB x = b) (hx : x.ok) :
    Calls Tryd.prog 33 #[.agg #[.string x.id, .int .i64 x.mass, .int .i64 x.alloy.copper, .int .i64 x.alloy.tin, .int .i64 x.alloy.other]] w fun e w' => e = .returned (.bool b) ∧ Below w.heap.size w w' := by
  subst h
  have hn := Lib.hid hx.1
  clear hx
  unfold ingotB
  cases hN : nameB x.id
  case false =>
    go_enter Tryd.func33, Tryd.ntmps33
    go_wp2_with fail
    refine (impl_IsName_is _ _ hn.out (by assumption)).mono ?_; rintro e w1 ⟨rfl, b1⟩
    go_wp2_with fail
    go_ret
    exact ⟨rfl, Below.trans (by (repeat' (first | (with_reducible exact Below.refl _ _) | (with_reducible assumption) | (with_reducible refine below_dn ?_ _) | (with_reducible refine Below.drew ?_) | (with_reducible refine Below.alloc ?_ ?_ _) | (with_reducible refine Below.setCell ?_ ?_ _) | go_size))) (b1.mono (by simp))⟩
  cases hA : inB x.mass 1 20000000
  case false =>
    go_enter Tryd.func33, Tryd.ntmps33
    go_wp2_with fail
    refine (impl_IsName_is _ _ hn.out (by assumption)).mono ?_; rintro e w1 ⟨rfl, b1⟩
    obtain ⟨hc, hf⟩ := bcell b1
    go_wp2_with (go_at_call 70; refine (within_is _ _ _ _ (by assumption)).mono ?_; rintro e w' ⟨rfl, rfl⟩)
    go_ret
    exact ⟨rfl, Below.trans (by (repeat' (first | (with_reducible exact Below.refl _ _) | (with_reducible assumption) | (with_reducible refine below_dn ?_ _) | (with_reducible refine Below.drew ?_) | (with_reducible refine Below.alloc ?_ ?_ _) | (with_reducible refine Below.setCell ?_ ?_ _) | go_size))) (b1.mono (by simp))⟩
  go_enter Tryd.func33, Tryd.ntmps33
  go_wp2_with fail
  refine (impl_IsName_is _ _ hn.out (by assumption)).mono ?_; rintro e w1 ⟨rfl, b1⟩
  obtain ⟨hc, hf⟩ := bcell b1
  go_wp2_with (go_at_call 70; refine (within_is _ _ _ _ (by assumption)).mono ?_; rintro e w' ⟨rfl, rfl⟩)
  clear hc hf
  refine (impl_ValidAlloy x.alloy _).mono ?_; rintro e w2 ⟨rfl, b2⟩
  have B2 := bnext b1 b2; clear b1 b2
  go_wp2_with fail
  go_ret
  exact ⟨by simp, Below.trans (by (repeat' (first | (with_reducible exact Below.refl _ _) | (with_reducible assumption) | (with_reducible refine below_dn ?_ _) | (with_reducible refine Below.drew ?_) | (with_reducible refine Below.alloc ?_ ?_ _) | (with_reducible refine Below.setCell ?_ ?_ _) | go_size))) (B2.mono (by simp))⟩
end Go.Proofs.YtklgkbiobggbiaaDoor
namespace Go.Proofs.YtklgkbiobggbiaaDoor
open Go.ChangeShapes Go.WideShapes Go.ChangeAt Go.RowKit Go.Deep Go.Joins
set_option linter.unusedVariables false
set_option maxRecDepth 100000
set_option linter.unusedSimpArgs false
theorem rd4 (W : World) (a b c d : Int) (n : Nat) (hn : W.heap.size = n) : Rd (W.alloc (.cells #[.int .i64 a, .int .i64 b, .int .i64 c, .int .i64 d] 2)).heap.size (W.alloc (.cells #[.int .i64 a, .int .i64 b, .int .i64 c, .int .i64 d] 2)) (.slice (some ⟨n, 0, none⟩) 4 4) 1 4 ([a, b, c, d].flatMap putI) := by
  have o := Own.newAt 2 [.int .i64 a, .int .i64 b, .int .i64 c, .int .i64 d] hn
  exact o.rd o.lt (n := 4) rfl (by unfold maxLen; omega) _ (Nat.le_refl _) (by unfold maxLen; omega)
theorem rd4d (W : World) (a b c d : Int) : Rd (W.alloc (.cells #[.int .i64 a, .int .i64 b, .int .i64 c, .int .i64 d] 2)).drew.heap.size (W.alloc (.cells #[.int .i64 a, .int .i64 b, .int .i64 c, .int .i64 d] 2)).drew (.slice (some ⟨W.heap.size, 0, none⟩) 4 4) 1 4 ([a, b, c, d].flatMap putI) := rd4 W a b c d _ rfl
def ingT (x : Ingot) : ByteArray := if ingotB x = true then x.id ++ ⟨#[32]⟩ ++ listT [x.mass, x.alloy.copper, x.alloy.tin, x.alloy.other] else ⟨#[]⟩
theorem nameB_size {s : ByteArray} (h : nameB s = true) : s.size ≤ 10 := by
  unfold nameB nameL at h
  simp only [Bool.and_eq_true, decide_eq_true_eq] at h
  have e : s.data.toList.length = s.size := rfl
  omega
theorem ingotB_facts {x : Ingot} (h : ingotB x = true) : x.id.size ≤ 10 ∧ ∀ z ∈ [x.mass, x.alloy.copper, x.alloy.tin, x.alloy.other], 0 ≤ z ∧ z ≤ 1000000000000 := by
  simp only [ingotB, alloyB, Bool.and_eq_true] at h
  have h1 := inB_true h.2.1
  have h2 := inB_true h.2.2.1
  have h3 := inB_true h.2.2.2.1
  have h4 := inB_true h.2.2.2.2.1
  refine ⟨nameB_size h.1, fun z hz => ?_⟩
  simp at hz
  rcases hz with rfl | rfl | rfl | rfl <;> omega
theorem same_nt (x : ByteArray) : (!(x.toList == x.toList)) = false := by simp
theorem same_t (x : ByteArray) : (x.toList == x.toList) = true := by simp

set_option maxHeartbeats 4000000 in
theorem impl_IngotText (x : Ingot) (w : World) (hx : x.ok) (hp : Pow10 w) :
    Calls Tryd.prog 26 #[.agg #[.string x.id, .int .i64 x.mass, .int .i64 x.alloy.copper, .int .i64 x.alloy.tin, .int .i64 x.alloy.other]] w fun e w' => e = .returned (.string (ingT x)) ∧ Below w.heap.size w w' := by
  have VB := Lib.hid (Own.new w 25 [.string x.id, .int .i64 x.mass, .int .i64 x.alloy.copper, .int .i64 x.alloy.tin, .int .i64 x.alloy.other])
  have B0 : Below w.heap.size w (w.alloc (.cells #[.string x.id, .int .i64 x.mass, .int .i64 x.alloy.copper, .int .i64 x.alloy.tin, .int .i64 x.alloy.other] 25)) := by (repeat' (first | (with_reducible exact Below.refl _ _) | (with_reducible assumption) | (with_reducible refine below_dn ?_ _) | (with_reducible refine Below.drew ?_) | (with_reducible refine Below.alloc ?_ ?_ _) | (with_reducible refine Below.setCell ?_ ?_ _) | go_size))
  have HB0 := Lib.hid B0
  cases hb : ingotB x
  · have e : Hid (ingT x = ⟨#[]⟩) := (if_neg (by rw [hb]; simp) : ingT x = ⟨#[]⟩)
    have H := Lib.hid (impl_validIngot_is x (w.alloc (.cells #[.string x.id, .int .i64 x.mass, .int .i64 x.alloy.copper, .int .i64 x.alloy.tin, .int .i64 x.alloy.other] 25)) hb hx)
    clear hb B0
    go_enter Tryd.func26, Tryd.ntmps26
    go_wp2_with fail
    refine H.out.mono ?_; rintro e1 w1 ⟨rfl, b1⟩
    have HB1 := Lib.hid (bnext HB0.out b1)
    clear b1
    go_wp2_with fail
    go_ret
    exact ⟨by rw [e.out]; try rfl, HB1.out⟩
  · have H := Lib.hid (impl_validIngot_is x (w.alloc (.cells #[.string x.id, .int .i64 x.mass, .int .i64 x.alloy.copper, .int .i64 x.alloy.tin, .int .i64 x.alloy.other] 25)) hb hx)
    obtain ⟨f1, f2⟩ := ingotB_facts hb
    have e : Hid (ingT x = x.id ++ ⟨#[32]⟩ ++ listT [x.mass, x.alloy.copper, x.alloy.tin, x.alloy.other]) := (if_pos hb : ingT x = _)
    have HL := Lib.hid (fun w' v (h : Rd w'.heap.size w' v 1 4 ([x.mass, x.alloy.copper, x.alloy.tin, x.alloy.other].flatMap putI)) (h' : Below w.heap.size w w') => impl_ListText w' v [x.mass, x.alloy.copper, x.alloy.tin, x.alloy.other] h (by simp) (by simp) f2 (hp.below h'))
    have s1 : (x.id ++ (⟨#[32]⟩ : ByteArray)).size = x.id.size + 1 := by rw [ByteArray.size_append]; rfl
    have s0 : (⟨#[32]⟩ : ByteArray).size = 1 := rfl
    have g2 := listT_size _ f2
    simp only [List.length_cons, List.length_nil] at g2
    have q1 : ¬ (9223372036854775807 < x.id.size + 1) := by omega
    have q2 : ¬ (9223372036854775807 ≤ x.id.size) := by omega
    have q3 : ¬ (9223372036854775807 < x.id.size + 1 + (listT [x.mass, x.alloy.copper, x.alloy.tin, x.alloy.other]).size) := by omega
    generalize listT [x.mass, x.alloy.copper, x.alloy.tin, x.alloy.other] = J at *
    clear hb B0 hp f2
    go_enter Tryd.func26, Tryd.ntmps26
    go_wp2_with fail
    refine H.out.mono ?_; rintro e1 w1 ⟨rfl, b1⟩
    have HB1 := Lib.hid (bnext HB0.out b1)
    have HV1 := Lib.hid (VB.out.below b1 VB.out.lt)
    have c0 := HV1.out.cell 0
    have c1 := HV1.out.cell 1
    have c2 := HV1.out.cell 2
    have c3 := HV1.out.cell 3
    have c4 := HV1.out.cell 4
    have ha := HV1.out.lt
    have hws := HB1.out.size
    clear b1
    go_wp2_with fail
    go_region_held3 (fun w' => w'.cell? ⟨w.heap.size, 0, none⟩ = some (.string x.id) ∧ w'.cell? ⟨w.heap.size, 1, none⟩ = some (.int .i64 x.mass) ∧ w'.cell? ⟨w.heap.size, 2, none⟩ = some (.int .i64 x.alloy.copper) ∧ w'.cell? ⟨w.heap.size, 3, none⟩ = some (.int .i64 x.alloy.tin) ∧ w'.cell? ⟨w.heap.size, 4, none⟩ = some (.int .i64 x.alloy.other)) (first | assumption | go_keep) (first
      | (go_at_call 60
         refine (HL.out _ _ (rd4d _ _ _ _ _) (HB1.out.trans ((by (repeat' (first | (with_reducible exact Below.refl _ _) | (with_reducible assumption) | (with_reducible refine below_dn ?_ _) | (with_reducible refine Below.drew ?_) | (with_reducible refine Below.alloc ?_ ?_ _) | (with_reducible refine Below.setCell ?_ ?_ _) | go_size)) : Below w1.heap.size w1 _).mono hws))).mono ?_; rintro e1 w2 ⟨rfl, b2⟩
         have B2 : Below w1.heap.size w1 w2 := Below.trans (by (repeat' (first | (with_reducible exact Below.refl _ _) | (with_reducible assumption) | (with_reducible refine below_dn ?_ _) | (with_reducible refine Below.drew ?_) | (with_reducible refine Below.alloc ?_ ?_ _) | (with_reducible refine Below.setCell ?_ ?_ _) | go_size))) (b2.mono (by simp <;> omega))
         have V2 := Lib.hid (HV1.out.below B2 HV1.out.lt)
         have HS2 : w2.cell? ⟨w.heap.size, 0, none⟩ = some (.string x.id) ∧ w2.cell? ⟨w.heap.size, 1, none⟩ = some (.int .i64 x.mass) ∧ w2.cell? ⟨w.heap.size, 2, none⟩ = some (.int .i64 x.alloy.copper) ∧ w2.cell? ⟨w.heap.size, 3, none⟩ = some (.int .i64 x.alloy.tin) ∧ w2.cell? ⟨w.heap.size, 4, none⟩ = some (.int .i64 x.alloy.other) := ⟨V2.out.cell 0, V2.out.cell 1, V2.out.cell 2, V2.out.cell 3, V2.out.cell 4⟩
         have HB2 := Lib.hid (bnext HB1.out B2)
         clear b2))
    go_wp2_with fail
    go_ret
    exact ⟨by rw [e.out]; try rfl, HB2.out⟩
end Go.Proofs.YtklgkbiobggbiaaDoor
namespace Go.Proofs.YtklgkbiobggbiaaDoor
open Go.ChangeShapes Go.WideShapes Go.ChangeAt Go.RowKit Go.Deep Go.Joins
set_option linter.unusedVariables false
set_option maxRecDepth 100000
set_option linter.unusedSimpArgs false
theorem joinT_free {c d : UInt8} (hcd : c ≠ d) : ∀ (xs : List ByteArray), (∀ x ∈ xs, c ∉ x.data.toList) → c ∉ (joinT d xs).data.toList := by
  intro xs h
  unfold joinT
  cases xs with
  | nil => simp [Lib.join, List.intercalate]
  | cons a r =>
    rw [List.map_cons, Lib.join_cons]
    intro q
    have q' : c ∈ a.data.toList ++ Lib.joinTail [d] (r.map (·.data.toList)) := by simpa using q
    rcases List.mem_append.1 q' with q1 | q1
    · exact h a (List.mem_cons_self ..) q1
    · unfold Lib.joinTail at q1
      obtain ⟨l, hl, hc⟩ := List.mem_flatten.1 q1
      rw [List.map_map] at hl
      obtain ⟨x, hx, rfl⟩ := List.mem_map.1 hl
      rcases List.mem_append.1 hc with q2 | q2
      · exact hcd (by simpa using q2)
      · exact h x (List.mem_cons_of_mem _ hx) q2
theorem nameB_free {s : ByteArray} (h : nameB s = true) : (32 : UInt8) ∉ s.data.toList := by
  intro q
  unfold nameB nameL at h
  simp only [Bool.and_eq_true, decide_eq_true_eq] at h
  have hr := h.2.2.2
  have hh := h.2.2.1
  have := List.all_eq_true.1 hr 32 q
  exact absurd this (by decide)
theorem joinT_three (c : UInt8) (a b d : ByteArray) : joinT c [a, b, d] = a ++ ⟨#[c]⟩ ++ b ++ ⟨#[c]⟩ ++ d := by
  apply bytes_inj
  unfold joinT
  simp [Lib.join, List.intercalate]
theorem parts_three {c : UInt8} {w a b d : ByteArray} (h : partsS c w = [a, b, d]) : w = a ++ ⟨#[c]⟩ ++ b ++ ⟨#[c]⟩ ++ d := by
  have := partsS_join c w
  rw [h, joinT_three] at this
  exact this.symm
theorem app_cancel {a b c : ByteArray} (h : a ++ b = a ++ c) : b = c := by
  apply bytes_inj
  have := congrArg (fun x : ByteArray => x.data.toList) h
  simpa using this
theorem three_of {α : Type} {l : List α} (h : l.length = 3) : ∃ a b c, l = [a, b, c] := by
  match l, h with
  | [a, b, c], _ => exact ⟨a, b, c, rfl⟩
end Go.Proofs.YtklgkbiobggbiaaDoor
namespace Go.Proofs.YtklgkbiobggbiaaDoor
open Go.ChangeShapes Go.WideShapes Go.ChangeAt Go.RowKit Go.Deep Go.Joins
set_option linter.unusedVariables false
set_option maxRecDepth 100000
set_option linter.unusedSimpArgs false
def ingOf (a : ByteArray) (n : List Int) : Option Ingot := match n with
  | [m, c, t, o] => if ingotB ⟨a, m, ⟨c, t, o⟩⟩ = true then some ⟨a, m, ⟨c, t, o⟩⟩ else none
  | _ => none
def ingR (s : ByteArray) : Option Ingot := match partsS 32 s with
  | [a, b] => ingOf a (listL b)
  | _ => none
def ingZ : Ingot := ⟨⟨#[]⟩, 0, ⟨0, 0, 0⟩⟩
def ingV (s : ByteArray) : Ingot := (ingR s).getD ingZ
theorem ingOf_some {a : ByteArray} {n : List Int} {x : Ingot} (h : ingOf a n = some x) : ingotB x = true ∧ x.id = a ∧ n = [x.mass, x.alloy.copper, x.alloy.tin, x.alloy.other] := by
  unfold ingOf at h
  split at h
  · rename_i m c t o
    by_cases hb : ingotB ⟨a, m, ⟨c, t, o⟩⟩ = true
    · rw [if_pos hb] at h
      obtain rfl : (⟨a, m, ⟨c, t, o⟩⟩ : Ingot) = x := by simpa using h
      exact ⟨hb, rfl, rfl⟩
    · rw [if_neg hb] at h; cases h
  · cases h
theorem ingOf_not4 {a : ByteArray} {n : List Int} (h : n.length ≠ 4) : ingOf a n = none := by
  unfold ingOf
  split
  · simp at h
  · rfl
theorem ingOf_four (a : ByteArray) (m c t o : Int) : ingOf a [m, c, t, o] = if ingotB ⟨a, m, ⟨c, t, o⟩⟩ = true then some ⟨a, m, ⟨c, t, o⟩⟩ else none := rfl
theorem four_of {α : Type} {l : List α} (h : l.length = 4) : ∃ a b c d, l = [a, b, c, d] := by
  match l, h with
  | [a, b, c, d], _ => exact ⟨a, b, c, d, rfl⟩
theorem listT_free {c : UInt8} (h1 : c ≠ 44) (h2 : c ≠ 45) (h3 : ¬ (48 ≤ c.toNat ∧ c.toNat ≤ 57)) (zs : List Int) : c ∉ (listT zs).data.toList :=
  joinT_free h1 _ fun x hx => by
    obtain ⟨y, _, rfl⟩ := List.mem_map.1 hx
    exact decT_free h2 h3
theorem ingR_two {s a b : ByteArray} (h : partsS 32 s = [a, b]) : ingR s = ingOf a (listL b) ∧ cutA 32 s = a ∧ cutB 32 s = b := by
  obtain ⟨e, h1, h2⟩ := parts_two h
  refine ⟨?_, ?_, ?_⟩
  · unfold ingR; rw [h]
  · rw [e]; exact (cut_joined h1).1
  · rw [e]; exact (cut_joined h1).2
theorem ingR_not2 {s : ByteArray} (h : (partsS 32 s).length ≠ 2) : ingR s = none := by
  unfold ingR
  split
  · rename_i a b hp; rw [hp] at h; exact absurd rfl h
  · rfl
theorem ingR_bad {s : ByteArray} (h : ingOf (cutA 32 s) (listL (cutB 32 s)) = none) : ingR s = none := by
  by_cases h2 : (partsS 32 s).length = 2
  · obtain ⟨a, b, hp⟩ : ∃ a b, partsS 32 s = [a, b] := by
      match hq : partsS 32 s, h2 with
      | [a, b], _ => exact ⟨a, b, rfl⟩
    obtain ⟨e1, e2, e3⟩ := ingR_two hp
    rw [e1, ← e2, ← e3]; exact h
  · exact ingR_not2 h2
theorem ingR_good {s : ByteArray} {x : Ingot} (h : ingOf (cutA 32 s) (listL (cutB 32 s)) = some x) : (ingT x = s → ingR s = some x) ∧ (ingT x ≠ s → ingR s = none) := by
  obtain ⟨hb, hid, hn⟩ := ingOf_some h
  have e : ingT x = x.id ++ ⟨#[32]⟩ ++ listT [x.mass, x.alloy.copper, x.alloy.tin, x.alloy.other] := if_pos hb
  have hnm : nameB x.id = true := by
    have := hb
    unfold ingotB at this
    rw [Bool.and_eq_true] at this
    exact this.1
  constructor
  · intro ht
    rw [e] at ht
    have hp := parts_of_two (nameB_free hnm) (listT_free (c := 32) (by decide) (by decide) (by decide) [x.mass, x.alloy.copper, x.alloy.tin, x.alloy.other])
    rw [ht] at hp
    obtain ⟨e1, e2, e3⟩ := ingR_two hp
    rw [e1, ← e2, ← e3]; exact h
  · intro ht
    by_cases h2 : (partsS 32 s).length = 2
    · obtain ⟨a, b, hp⟩ : ∃ a b, partsS 32 s = [a, b] := by
        match hq : partsS 32 s, h2 with
        | [a, b], _ => exact ⟨a, b, rfl⟩
      obtain ⟨e1, e2, e3⟩ := ingR_two hp
      have es := (parts_two hp).1
      rw [e3] at hn
      cases hl : listR b with
      | none => rw [(listL_none hl).1] at hn; cases hn
      | some ys =>
        rw [(listL_some hl).1] at hn
        obtain ⟨et, _⟩ := listR_text hl (by rw [hn]; simp)
        refine absurd ?_ ht
        rw [e, es, et, hn, hid, e2]
    · exact ingR_not2 h2
theorem ingV_some {s : ByteArray} {x : Ingot} (h : ingR s = some x) : ingV s = x ∧ (ingR s).isSome = true := by unfold ingV; rw [h]; exact ⟨rfl, rfl⟩
theorem ingV_none {s : ByteArray} (h : ingR s = none) : ingV s = ingZ ∧ (ingR s).isSome = false := by unfold ingV; rw [h]; exact ⟨rfl, rfl⟩
end Go.Proofs.YtklgkbiobggbiaaDoor
namespace Go.Proofs.YtklgkbiobggbiaaDoor
open Go.ChangeShapes Go.WideShapes Go.ChangeAt Go.RowKit Go.Deep Go.Joins
set_option linter.unusedVariables false
set_option maxRecDepth 100000
set_option linter.unusedSimpArgs false
def allK (f : Nat → Bool) : Nat → Bool
  | 0 => true
  | k + 1 => allK f k && f k
theorem allK_succ (f : Nat → Bool) (k : Nat) : allK f (k + 1) = (allK f k && f k) := rfl
theorem allK_false (f : Nat → Bool) (n k : Nat) (h : k < n) (hf : f k = false) : allK f n = false := by
  induction n with
  | zero => omega
  | succ n ih =>
    rw [allK_succ]
    by_cases hk : k = n
    · subst hk; simp [hf]
    · rw [ih (by omega)]; rfl
theorem allK_true {f : Nat → Bool} {n : Nat} (h : allK f n = true) (k : Nat) (hk : k < n) : f k = true := by
  cases hf : f k with
  | true => rfl
  | false => rw [allK_false f n k hk hf] at h; cases h
theorem allK_intro {f : Nat → Bool} : ∀ {n : Nat}, (∀ k, k < n → f k = true) → allK f n = true
  | 0, _ => rfl
  | n + 1, h => by rw [allK_succ, allK_intro (fun k hk => h k (by omega)), h n (by omega)]; rfl
/-- element k is valid, and behind the one before it -/
def stepB {α : Type} (ok : α → Bool) (lt : α → α → Bool) (xs : List α) (k : Nat) : Bool :=
  match xs[k]? with
  | none => true
  | some x => ok x && (match k with
    | 0 => true
    | j + 1 => match xs[j]? with
      | none => true
      | some y => lt y x)
section
variable {α : Type} {ok : α → Bool} {lt : α → α → Bool} {xs : List α} {k : Nat}
theorem stepB_no (h : k < xs.length) (hO : ok xs[k] = false) : stepB ok lt xs k = false := by
  unfold stepB
  rw [List.getElem?_eq_getElem h]
  simp [hO]
theorem stepB_zero (h : 0 < xs.length) (hO : ok xs[0] = true) : stepB ok lt xs 0 = true := by
  unfold stepB
  rw [List.getElem?_eq_getElem h]
  simp [hO]
theorem stepB_k0 (h : k < xs.length) (h0 : k = 0) (hO : ok xs[k] = true) : stepB ok lt xs k = true := by
  subst h0; exact stepB_zero h hO
theorem stepB_pos (h : k < xs.length) (hp : 0 < k) (hO : ok xs[k] = true) : stepB ok lt xs k = lt xs[k - 1] xs[k] := by
  match k, hp with
  | j + 1, _ =>
    unfold stepB
    rw [List.getElem?_eq_getElem h]
    simp [hO, List.getElem?_eq_getElem (show j < xs.length by omega)]
theorem stepB_lt (h : k < xs.length) (hp : 0 < k) (hO : ok xs[k] = true) (hT : lt xs[k - 1] xs[k] = false) : stepB ok lt xs k = false := by rw [stepB_pos h hp hO, hT]
theorem stepB_yes (h : k < xs.length) (hp : 0 < k) (hO : ok xs[k] = true) (hT : lt xs[k - 1] xs[k] = true) : stepB ok lt xs k = true := by rw [stepB_pos h hp hO, hT]
end

theorem not_less : ∀ (a b : List UInt8), (!(Op.bytesLess b a)) = (Op.bytesLess a b || a == b)
  | [], [] => by simp [Op.bytesLess]
  | [], b :: y => by simp [Op.bytesLess]
  | a :: x, [] => by simp [Op.bytesLess]
  | a :: x, b :: y => by
    have ih := not_less x y
    simp only [Op.bytesLess]
    by_cases h1 : a < b
    · have h2 : ¬ b < a := fun h => by simp only [UInt8.lt_iff_toNat_lt] at h h1; omega
      have h3 : (b == a) = false := by
        rw [beq_eq_false_iff_ne]
        intro h
        subst h
        exact h2 h1
      simp [h1, h2, h3]
    · by_cases h2 : b < a
      · have h3 : (a == b) = false := by
          rw [beq_eq_false_iff_ne]
          intro h
          subst h
          exact h1 h2
        have h4 : a ≠ b := by simpa using h3
        simp [h1, h2, h3, h4]
      · have h3 : a = b := by
          apply UInt8.toNat_inj.1
          simp only [UInt8.lt_iff_toNat_lt] at h1 h2
          omega
        subst h3
        simp [h1, ih]
theorem less_irrefl : ∀ (a : List UInt8), Op.bytesLess a a = false
  | [] => rfl
  | a :: x => by simp [Op.bytesLess, less_irrefl x]
theorem less_trans : ∀ (a b c : List UInt8), Op.bytesLess a b = true → Op.bytesLess b c = true → Op.bytesLess a c = true
  | _, [], _, h, _ => by simp [Op.bytesLess] at h
  | _, _ :: _, [], _, h => by simp [Op.bytesLess] at h
  | [], _ :: _, _ :: _, _, _ => rfl
  | a :: x, b :: y, c :: z, h1, h2 => by
    simp only [Op.bytesLess, Bool.or_eq_true, Bool.and_eq_true, decide_eq_true_eq, beq_iff_eq] at h1 h2 ⊢
    simp only [UInt8.lt_iff_toNat_lt] at h1 h2 ⊢
    rcases h1 with h1 | ⟨rfl, h1⟩
    · rcases h2 with h2 | ⟨rfl, h2⟩
      · left; omega
      · left; exact h1
    · rcases h2 with h2 | ⟨rfl, h2⟩
      · left; exact h2
      · right; exact ⟨rfl, less_trans x y z h1 h2⟩
end Go.Proofs.YtklgkbiobggbiaaDoor
namespace Go.Proofs.YtklgkbiobggbiaaDoor
open Go.ChangeShapes Go.WideShapes Go.ChangeAt Go.RowKit Go.Deep Go.Joins
set_option linter.unusedVariables false
set_option maxRecDepth 100000
set_option linter.unusedSimpArgs false
def okC (n : Nat) (c : Int) : Bool := inB c 0 ((n : Int) - 1)
def ltC (a b : Int) : Bool := decide (a < b)
def choiceB (n : Nat) (cs : List Int) : Bool := allK (stepB (okC n) ltC cs) cs.length
theorem okC_true {n : Nat} {c : Int} (h : okC n c = true) : 0 ≤ c ∧ c ≤ (n : Int) - 1 := inB_true h
theorem choice_rises {n : Nat} {cs : List Int} (h : choiceB n cs = true) (k : Nat) (hk : k < cs.length) : okC n cs[k] = true := by
  have := allK_true h k hk
  unfold stepB at this
  rw [List.getElem?_eq_getElem hk] at this
  simp only [Bool.and_eq_true] at this
  exact this.1
theorem choice_less {n : Nat} {cs : List Int} (h : choiceB n cs = true) (k : Nat) (hk : k + 1 < cs.length) : cs[k] < cs[k + 1] := by
  have h1 := allK_true h (k + 1) hk
  rw [stepB_pos hk (by omega) (choice_rises h (k + 1) hk)] at h1
  simpa [ltC] using h1
theorem choice_ge {n : Nat} {cs : List Int} (h : choiceB n cs = true) : ∀ (k : Nat) (hk : k < cs.length), (k : Int) ≤ cs[k]
  | 0, hk => by have := okC_true (choice_rises h 0 hk); omega
  | k + 1, hk => by
    have h1 := choice_ge h k (by omega)
    have h2 := choice_less h k hk
    omega
theorem choice_len {n : Nat} {cs : List Int} (h : choiceB n cs = true) : cs.length ≤ n := by
  rcases Nat.eq_zero_or_pos cs.length with h0 | h0
  · omega
  · have h1 := choice_ge h (cs.length - 1) (by omega)
    have h2 := okC_true (choice_rises h (cs.length - 1) (by omega))
    omega
theorem choice_at {n : Nat} {cs : List Int} (h : choiceB n cs = true) (k : Nat) (hk : k < cs.length) : ∃ j : Nat, cs[k] = (j : Int) ∧ j < n := by
  have := okC_true (choice_rises h k hk)
  exact ⟨cs[k].toNat, by omega, by omega⟩

/-- a sum over chosen ingots -/
def sumK (f : Ingot → Int) (xs : List Ingot) (cs : List Int) : Int := (cs.map fun c => (xs[c.toNat]?).elim 0 f).sum
theorem sumK_succ (f : Ingot → Int) (xs : List Ingot) (cs : List Int) (k : Nat) (hk : k < cs.length) (j : Nat) (hj : cs[k] = (j : Int)) (hl : j < xs.length) : sumK f xs (cs.take (k + 1)) = sumK f xs (cs.take k) + f xs[j] := by
  unfold sumK
  rw [List.take_succ_eq_append_getElem hk, List.map_append, List.sum_append, hj]
  simp [List.getElem?_eq_getElem hl]
theorem sumK_bd (f : Ingot → Int) (xs : List Ingot) (m : Int) (hm : 0 ≤ m) (hf : ∀ x ∈ xs, 0 ≤ f x ∧ f x ≤ m) : ∀ (cs : List Int), 0 ≤ sumK f xs cs ∧ sumK f xs cs ≤ cs.length * m
  | [] => by simp [sumK]
  | c :: cs => by
    have ih := sumK_bd f xs m hm hf cs
    have h1 : 0 ≤ (xs[c.toNat]?).elim 0 f ∧ (xs[c.toNat]?).elim 0 f ≤ m := by
      cases h : xs[c.toNat]? with
      | none => simp [hm]
      | some x => exact hf x (List.mem_of_getElem? h)
    have e : sumK f xs (c :: cs) = (xs[c.toNat]?).elim 0 f + sumK f xs cs := by simp [sumK]
    have e2 : (((c :: cs).length : Nat) : Int) * m = cs.length * m + m := by
      rw [List.length_cons]; push_cast; rw [Int.add_mul]; omega
    rw [e, e2]; omega
def massF (x : Ingot) : Int := x.mass
def tinF (x : Ingot) : Int := x.mass * x.alloy.tin
def otherF (x : Ingot) : Int := x.mass * x.alloy.other
theorem part_bd (m t : Int) (h1 : 1 ≤ m ∧ m ≤ 20000000) (h2 : 0 ≤ t ∧ t ≤ 1000000) : 0 ≤ m * t ∧ m * t ≤ 20000000000000 := by
  refine ⟨Int.mul_nonneg (by omega) (by omega), ?_⟩
  have := Int.mul_le_mul h1.2 h2.2 h2.1 (by omega)
  omega
theorem ingotB_nums {x : Ingot} (h : ingotB x = true) : (1 ≤ x.mass ∧ x.mass ≤ 20000000) ∧ (0 ≤ x.alloy.tin ∧ x.alloy.tin ≤ 1000000) ∧ (0 ≤ x.alloy.other ∧ x.alloy.other ≤ 1000000) := by
  simp only [ingotB, Bool.and_eq_true, alloyB] at h
  exact ⟨inB_true h.2.1, inB_true h.2.2.2.1, inB_true h.2.2.2.2.1⟩
theorem sum_len {cs : List Int} {k : Nat} (hc : cs.length ≤ 16) (b m S : Int) (hS : S ≤ ((cs.take k).length : Nat) * m) (hm : 0 ≤ m) (hb : 16 * m ≤ b) : S ≤ b := by
  have h1 : ((cs.take k).length : Int) ≤ 16 := by have := List.length_take_le k cs; have : (cs.take k).length ≤ cs.length := by rw [List.length_take]; omega
                                                  omega
  have h2 : ((cs.take k).length : Int) * m ≤ 16 * m := Int.mul_le_mul_of_nonneg_right h1 hm
  omega
theorem massF_bd {xs : List Ingot} (hv : ∀ x ∈ xs, ingotB x = true) {cs : List Int} (hc : cs.length ≤ 16) (k : Nat) : 0 ≤ sumK massF xs (cs.take k) ∧ sumK massF xs (cs.take k) ≤ 320000000 := by
  have h := sumK_bd massF xs 20000000 (by omega) (fun x hx => by have := (ingotB_nums (hv x hx)).1; unfold massF; omega) (cs.take k)
  exact ⟨h.1, sum_len hc _ _ _ h.2 (by omega) (by omega)⟩
theorem tinF_bd {xs : List Ingot} (hv : ∀ x ∈ xs, ingotB x = true) {cs : List Int} (hc : cs.length ≤ 16) (k : Nat) : 0 ≤ sumK tinF xs (cs.take k) ∧ sumK tinF xs (cs.take k) ≤ 320000000000000 := by
  have h := sumK_bd tinF xs 20000000000000 (by omega) (fun x hx => by have := ingotB_nums (hv x hx); exact part_bd _ _ this.1 this.2.1) (cs.take k)
  exact ⟨h.1, sum_len hc _ _ _ h.2 (by omega) (by omega)⟩
theorem otherF_bd {xs : List Ingot} (hv : ∀ x ∈ xs, ingotB x = true) {cs : List Int} (hc : cs.length ≤ 16) (k : Nat) : 0 ≤ sumK otherF xs (cs.take k) ∧ sumK otherF xs (cs.take k) ≤ 320000000000000 := by
  have h := sumK_bd otherF xs 20000000000000 (by omega) (fun x hx => by have := ingotB_nums (hv x hx); exact part_bd _ _ this.1 this.2.2) (cs.take k)
  exact ⟨h.1, sum_len hc _ _ _ h.2 (by omega) (by omega)⟩
theorem take_all {α : Type} {cs : List α} {k : Nat} (h : cs.length ≤ k) : cs.take k = cs := List.take_of_length_le h
/-- the mass of a choice that is not empty is not 0 -/
theorem mass_pos {xs : List Ingot} (hv : ∀ x ∈ xs, ingotB x = true) {cs : List Int} (hc : choiceB xs.length cs = true) (h0 : 0 < cs.length) : 1 ≤ sumK massF xs cs := by
  obtain ⟨j, hj, hl⟩ := choice_at hc 0 h0
  have hs := sumK_succ massF xs cs 0 h0 j hj hl
  have h1 := (ingotB_nums (hv xs[j] (List.getElem_mem hl))).1
  have hr : sumK massF xs cs = sumK massF xs (cs.take 1) + sumK massF xs (cs.drop 1) := by
    unfold sumK; rw [← List.sum_append, ← List.map_append, List.take_append_drop]
  have h2 := (sumK_bd massF xs 20000000 (by omega) (fun x hx => by have := (ingotB_nums (hv x hx)).1; unfold massF; omega) (cs.drop 1)).1
  have e0 : sumK massF xs (cs.take 0) = 0 := rfl
  have e1 : massF xs[j] = xs[j].mass := rfl
  rw [hr, hs, e0, e1]; omega

def fitsB (d : Demand) (m t o : Int) : Bool := inB m d.least d.most && (inB t (d.minTin * m) (d.maxTin * m) && decide (o ≤ d.other * m))
end Go.Proofs.YtklgkbiobggbiaaDoor
namespace Go.Proofs.YtklgkbiobggbiaaDoor
open Go.ChangeShapes Go.WideShapes Go.ChangeAt Go.RowKit Go.Deep Go.Joins
set_option linter.unusedVariables false
set_option maxRecDepth 100000
set_option linter.unusedSimpArgs false
theorem eqAlloy (x : Alloy) (w : World) : Calls Tryd.prog 34 #[.agg #[.int .i64 x.copper, .int .i64 x.tin, .int .i64 x.other], .agg #[.int .i64 x.copper, .int .i64 x.tin, .int .i64 x.other]] w fun e w' => e = .returned (.bool true) ∧ Below w.heap.size w w' := by
  go_enter Tryd.func34, Tryd.ntmps34
  repeat (go_wp2_with fail; go_quiet (fail))
  go_wp2_with fail
  go_ret
  exact ⟨rfl, by (repeat' (first | (with_reducible exact Below.refl _ _) | (with_reducible assumption) | (with_reducible refine below_dn ?_ _) | (with_reducible refine Below.drew ?_) | (with_reducible refine Below.alloc ?_ ?_ _) | (with_reducible refine Below.setCell ?_ ?_ _) | go_size))⟩
end Go.Proofs.YtklgkbiobggbiaaDoor
namespace Go.Proofs.YtklgkbiobggbiaaDoor
open Go.ChangeShapes Go.WideShapes Go.ChangeAt Go.RowKit Go.Deep Go.Joins
set_option linter.unusedVariables false
set_option maxRecDepth 100000
set_option linter.unusedSimpArgs false
theorem Ingot_len (xs : List Ingot) : (xs.flatMap Ingot.put).length = xs.length * 5 := flat_len xs (fun _ _ => rfl)
theorem Ingot_get0 (xs : List Ingot) (k : Nat) (h : k < xs.length) : (xs.flatMap Ingot.put)[k * 5 + 0]? = some (.string xs[k].id) := by
  rw [flat_get (f := Ingot.put) (s := 5) xs (fun _ _ => rfl) (j := 0) (by omega) k, List.getElem?_eq_getElem h]
  rfl
theorem Ingot_get1 (xs : List Ingot) (k : Nat) (h : k < xs.length) : (xs.flatMap Ingot.put)[k * 5 + 1]? = some (.int .i64 xs[k].mass) := by
  rw [flat_get (f := Ingot.put) (s := 5) xs (fun _ _ => rfl) (j := 1) (by omega) k, List.getElem?_eq_getElem h]
  rfl
theorem Ingot_get2 (xs : List Ingot) (k : Nat) (h : k < xs.length) : (xs.flatMap Ingot.put)[k * 5 + 2]? = some (.int .i64 xs[k].alloy.copper) := by
  rw [flat_get (f := Ingot.put) (s := 5) xs (fun _ _ => rfl) (j := 2) (by omega) k, List.getElem?_eq_getElem h]
  rfl
theorem Ingot_get3 (xs : List Ingot) (k : Nat) (h : k < xs.length) : (xs.flatMap Ingot.put)[k * 5 + 3]? = some (.int .i64 xs[k].alloy.tin) := by
  rw [flat_get (f := Ingot.put) (s := 5) xs (fun _ _ => rfl) (j := 3) (by omega) k, List.getElem?_eq_getElem h]
  rfl
theorem Ingot_get4 (xs : List Ingot) (k : Nat) (h : k < xs.length) : (xs.flatMap Ingot.put)[k * 5 + 4]? = some (.int .i64 xs[k].alloy.other) := by
  rw [flat_get (f := Ingot.put) (s := 5) xs (fun _ _ => rfl) (j := 4) (by omega) k, List.getElem?_eq_getElem h]
  rfl
theorem Ingot_info : (Tryd.prog.info? 25).map (fun i => (i.zero, i.size, i.bytes)) = some (some (.agg #[.string ByteArray.empty, .int .i64 0, .int .i64 0, .int .i64 0, .int .i64 0]), 5, 48) := by kernel_rfl

theorem eqIngot (x : Ingot) (w : World) : Calls Tryd.prog 10 #[.agg #[.string x.id, .int .i64 x.mass, .int .i64 x.alloy.copper, .int .i64 x.alloy.tin, .int .i64 x.alloy.other], .agg #[.string x.id, .int .i64 x.mass, .int .i64 x.alloy.copper, .int .i64 x.alloy.tin, .int .i64 x.alloy.other]] w fun e w' => e = .returned (.bool true) ∧ Below w.heap.size w w' := by
  go_enter Tryd.func10, Tryd.ntmps10
  repeat (go_wp2_with fail; go_quiet (fail))
  go_wp2_with fail
  refine (eqAlloy x.alloy _).mono ?_; rintro e w1 ⟨rfl, b1⟩
  go_wp2_with fail
  go_ret
  exact ⟨rfl, Below.trans (by (repeat' (first | (with_reducible exact Below.refl _ _) | (with_reducible assumption) | (with_reducible refine below_dn ?_ _) | (with_reducible refine Below.drew ?_) | (with_reducible refine Below.alloc ?_ ?_ _) | (with_reducible refine Below.setCell ?_ ?_ _) | go_size))) (b1.mono (by simp; try omega))⟩
def wtIngot (xs : List Ingot) : Nat := (xs.map fun x => x.id.size).sum
theorem wtIngot_succ (xs : List Ingot) (k : Nat) (h : k < xs.length) : wtIngot (xs.take (k + 1)) = wtIngot (xs.take k) + xs[k].id.size := by
  unfold wtIngot
  rw [List.take_succ_eq_append_getElem h, List.map_append, List.sum_append]
  simp only [List.map_cons, List.map_nil, List.sum_cons, List.sum_nil, Nat.add_zero]
theorem wtIngot_le (xs : List Ingot) (k : Nat) : wtIngot (xs.take k) ≤ wtIngot xs := by
  have h : wtIngot xs = wtIngot (xs.take k) + wtIngot (xs.drop k) := by
    unfold wtIngot
    rw [← List.sum_append, ← List.map_append, List.take_append_drop]
  omega
theorem wtIngot_mem (xs : List Ingot) (x : Ingot) (h : x ∈ xs) : x.id.size ≤ wtIngot xs := by
  unfold wtIngot
  exact le_sum_of (List.mem_map.2 ⟨x, h, rfl⟩)
end Go.Proofs.YtklgkbiobggbiaaDoor
