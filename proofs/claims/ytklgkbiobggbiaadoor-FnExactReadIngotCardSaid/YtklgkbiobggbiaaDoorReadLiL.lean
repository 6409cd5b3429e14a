/- Lists of numbers read from their text: what both sides compute. -/
import Derived.Test.YtklgkbiobggbiaaDoorRows
import Derived.Test.YtklgkbiobggbiaaDoorNumT
import Derived.Test.YtklgkbiobggbiaaDoorListTx
namespace Go.Proofs.YtklgkbiobggbiaaDoor
open Go.ChangeShapes Go.WideShapes Go.ChangeAt Go.RowKit Go.Deep Go.Joins
set_option linter.unusedVariables false
set_option maxRecDepth 100000
set_option linter.unusedSimpArgs false
/-- a number of a list -/
def valB (n : Int) : Bool := inB n (-1000000000000) 1000000000000
/-- the text that the program writes of a list -/
def listX (zs : List Int) : ByteArray := if zs.length ≤ 64 ∧ zs.all valB = true then listT zs else ⟨#[]⟩
def numB (w : ByteArray) : Option Int := (numS w).bind fun x => if valB x = true then some x else none
def readN : List ByteArray → Option (List Int)
  | [] => some []
  | w :: ws => (numB w).bind fun x => (readN ws).map (x :: ·)
def listR (s : ByteArray) : Option (List Int) := if s = ⟨#[45]⟩ then some [] else if 64 < (partsS 44 s).length then none else readN (partsS 44 s)
def listL (s : ByteArray) : List Int := (listR s).getD []
theorem valB_bd {n : Int} (h : valB n = true) : -1000000000000 ≤ n ∧ n ≤ 1000000000000 := inB_true h
theorem numB_some {w : ByteArray} {x : Int} (h : numB w = some x) : w = decT x ∧ numV w = x ∧ valB x = true ∧ numS w = some x := by
  unfold numB at h
  cases hn : numS w with
  | none => rw [hn] at h; cases h
  | some y =>
    rw [hn, Option.bind_some] at h
    by_cases hv : valB y = true
    · rw [if_pos hv] at h
      obtain rfl : y = x := by simpa using h
      exact ⟨(num_text hn).1.symm, (num_some hn).1, hv, rfl⟩
    · rw [if_neg hv] at h; cases h
theorem numB_text {x : Int} (h : valB x = true) : numB (decT x) = some x := by
  have := valB_bd h
  unfold numB
  rw [num_decT (by omega) (by omega), Option.bind_some, if_pos h]
theorem readN_some : ∀ {ws : List ByteArray} {xs : List Int}, readN ws = some xs → ws = xs.map decT ∧ ws.map numV = xs ∧ xs.all valB = true
  | [], xs, h => by
    obtain rfl : [] = xs := by simpa [readN] using h
    exact ⟨rfl, rfl, rfl⟩
  | w :: ws, xs, h => by
    cases hw : numB w with
    | none => simp [readN, hw] at h
    | some x =>
      cases hr : readN ws with
      | none => simp [readN, hw, hr] at h
      | some ys =>
        obtain rfl : x :: ys = xs := by simpa [readN, hw, hr] using h
        obtain ⟨h1, h2, h5⟩ := readN_some hr
        obtain ⟨h3, h4, h6, _⟩ := numB_some hw
        exact ⟨by rw [List.map_cons, ← h3, ← h1], by rw [List.map_cons, h4, h2], by rw [List.all_cons, h6, h5]; rfl⟩
theorem readN_texts : ∀ {xs : List Int}, xs.all valB = true → readN (xs.map decT) = some xs
  | [], _ => rfl
  | x :: xs, h => by
    rw [List.all_cons, Bool.and_eq_true] at h
    rw [List.map_cons]
    unfold readN
    rw [numB_text h.1, readN_texts h.2]
    rfl
theorem readN_snoc : ∀ (ws : List ByteArray) (w : ByteArray), readN (ws ++ [w]) = (readN ws).bind fun o => (numB w).map fun x => o ++ [x]
  | [], w => by
    simp only [List.nil_append, readN]
    cases numB w <;> rfl
  | v :: ws, w => by
    simp only [List.cons_append, readN, readN_snoc ws w]
    cases numB v with
    | none => rfl
    | some x => cases readN ws with
      | none => rfl
      | some o => cases numB w <;> rfl
theorem readN_bad {ws : List ByteArray} {k : Nat} (hk : k < ws.length) (h : numB ws[k] = none) : readN ws = none := by
  induction ws generalizing k with
  | nil => simp at hk
  | cons w ws ih =>
    unfold readN
    cases k with
    | zero => rw [show numB w = none from h]; rfl
    | succ k =>
      rw [ih (k := k) (by simpa using hk) h]
      cases numB w <;> rfl
theorem readN_len {xs : List Int} {ws : List ByteArray} (h : readN ws = some xs) : xs.length = ws.length := by
  obtain ⟨h1, _⟩ := readN_some h
  rw [h1, List.length_map]
theorem listR_dash : listR ⟨#[45]⟩ = some [] := if_pos rfl
theorem listR_word {s : ByteArray} (h : s ≠ ⟨#[45]⟩) : listR s = if 64 < (partsS 44 s).length then none else readN (partsS 44 s) := if_neg h
theorem listL_none {s : ByteArray} (h : listR s = none) : listL s = [] ∧ (listR s).isSome = false := by unfold listL; rw [h]; exact ⟨rfl, rfl⟩
theorem listL_some {s : ByteArray} {xs : List Int} (h : listR s = some xs) : listL s = xs ∧ (listR s).isSome = true := by unfold listL; rw [h]; exact ⟨rfl, rfl⟩
theorem numV_nil : numV ⟨#[]⟩ = 0 := (num_none (numS_bad (s := ⟨#[]⟩) (.inl (Nat.zero_le _)))).1
/-- the program's one test says what the reference finds -/
theorem list_tests {s : ByteArray} (h : s ≠ ⟨#[45]⟩) (xs : List Int) (hx : xs = (partsS 44 s).map numV) : (listX xs = s → listR s = some xs) ∧ (listX xs ≠ s → listR s = none) := by
  have hr := listR_word h
  have hpos := (partsS_len 44 s).1
  have hl : xs.length = (partsS 44 s).length := by rw [hx, List.length_map]
  constructor
  · intro ht
    by_cases hc : xs.length ≤ 64 ∧ xs.all valB = true
    · have e : listX xs = joinT 44 (xs.map decT) := if_pos hc
      rw [e] at ht
      have hp := parts_joinT 44 (xs.map decT) (fun q => by
        have := congrArg List.length q
        rw [List.length_map, List.length_nil] at this; omega) (fun x hx => by
        obtain ⟨y, _, rfl⟩ := List.mem_map.1 hx
        exact decT_free (by decide) (by decide))
      rw [ht] at hp
      rw [hr, if_neg (by omega), hp, readN_texts hc.2]
    · have e : listX xs = ⟨#[]⟩ := if_neg hc
      rw [e] at ht
      subst ht
      have e2 : partsS 44 ⟨#[]⟩ = [⟨#[]⟩] := rfl
      rw [e2, List.map_cons, numV_nil] at hx
      subst hx
      exact absurd ⟨by simp, by decide⟩ hc
  · intro hn
    rw [hr]
    by_cases h64 : 64 < (partsS 44 s).length
    · rw [if_pos h64]
    · rw [if_neg h64]
      cases hw : readN (partsS 44 s) with
      | none => rfl
      | some ys =>
        obtain ⟨h1, h2, h3⟩ := readN_some hw
        rw [← hx] at h2
        subst h2
        refine absurd ?_ hn
        have hc : xs.length ≤ 64 ∧ xs.all valB = true := ⟨by omega, h3⟩
        have e : listX xs = joinT 44 (xs.map decT) := if_pos hc
        rw [e, ← h1, partsS_join]
/-- a list that is read is the list of its text -/
theorem listR_text {s : ByteArray} {xs : List Int} (h : listR s = some xs) (h0 : xs ≠ []) : s = listT xs ∧ xs.length ≤ 64 ∧ xs.all valB = true := by
  by_cases hd : s = ⟨#[45]⟩
  · rw [hd, listR_dash] at h
    exact absurd (by simpa using h.symm) h0
  · rw [listR_word hd] at h
    by_cases h64 : 64 < (partsS 44 s).length
    · rw [if_pos h64] at h; cases h
    · rw [if_neg h64] at h
      obtain ⟨h1, _, h3⟩ := readN_some h
      have hl := readN_len h
      refine ⟨?_, by omega, h3⟩
      unfold listT
      rw [← h1, partsS_join]
theorem listL_bd (s : ByteArray) : (listL s).length ≤ 64 ∧ ∀ x ∈ listL s, -1000000000000 ≤ x ∧ x ≤ 1000000000000 := by
  cases h : listR s with
  | none => rw [(listL_none h).1]; exact ⟨by simp, fun x hx => by cases hx⟩
  | some xs =>
    rw [(listL_some h).1]
    by_cases h0 : xs = []
    · subst h0; exact ⟨by simp, fun x hx => by cases hx⟩
    · obtain ⟨_, h1, h2⟩ := listR_text h h0
      exact ⟨h1, fun x hx => valB_bd (List.all_eq_true.1 h2 x hx)⟩
theorem decT_sizeV {n : Int} (h : -1000000000000 ≤ n ∧ n ≤ 1000000000000) : (decT n).size ≤ 21 := by
  by_cases hn : n < 0
  · obtain ⟨u, rfl⟩ : ∃ u : Nat, n = -(u : Int) := ⟨n.natAbs, by omega⟩
    have e : (decT (-(u : Int))).size = (Lib.itoa (-(u : Int))).length := by unfold decT ByteArray.size; simp
    have hd := decD_len u (by omega)
    unfold decD at hd
    rw [if_neg (by omega)] at hd
    rw [e, itoa_neg' (u := u) (by omega), List.length_cons]
    omega
  · have := decT_sizeN n (by omega) (by omega)
    omega
end Go.Proofs.YtklgkbiobggbiaaDoor
