/- Contracts and plain facts, joined: ReadSpL, Num. -/
import Derived.Test.YtockglfoeagahaaGreatDoorRows
import Derived.Test.YtockglfoeagahaaGreatDoorZFnWarbleZB
import Derived.Test.YtockglfoeagahaaGreatDoorZFnWarbleZC
import Derived.Shelf.Strings.Prefix
import Derived.Shelf.Strconv.ParseIntPublic10
import Derived.Shelf.Strconv.ErrVarParseInt
namespace Go.Proofs.YtockglfoeagahaaGreatDoor
open Go.ChangeShapes Go.WideShapes Go.ChangeAt Go.RowKit Go.Deep Go.Joins
set_option linter.unusedVariables false
set_option maxRecDepth 100000
set_option linter.unusedSimpArgs false
/-- a word of the text, as the reference reads it -/
def specW (w : ByteArray) : Option Spot := match partsS 58 w with
  | [a, b] => match numS a, numS b with
    | some x, some y => some ⟨x, y⟩
    | _, _ => none
  | _ => none
/-- .. as the program reads it -/
def spotW (w : ByteArray) : Spot := ⟨numV (cutA 58 w), numV (cutB 58 w)⟩
def readW : List ByteArray → Option (List Spot)
  | [] => some []
  | w :: ws => (specW w).bind fun x => (readW ws).map (x :: ·)
theorem specW_some {w : ByteArray} {x : Spot} (h : specW w = some x) : w = spotT x ∧ spotW w = x := by
  unfold specW at h
  split at h
  · rename_i a b hp
    split at h
    · rename_i n m hn hm
      obtain rfl : (⟨n, m⟩ : Spot) = x := by simpa using h
      obtain ⟨e, h1, h2⟩ := parts_two hp
      have ea := (num_text hn).1
      have eb := (num_text hm).1
      refine ⟨?_, ?_⟩
      · unfold spotT
        rw [ea, eb]; exact e
      · unfold spotW
        rw [e, (cut_joined h1).1, (cut_joined h1).2, (num_some hn).1, (num_some hm).1]
    · cases h
  · cases h
theorem specW_text {x : Spot} (h : (0 ≤ x.angle ∧ x.angle ≤ 359) ∧ -1000 ≤ x.weight ∧ x.weight ≤ 1000) : specW (spotT x) = some x := by
  have hf : ∀ n : Int, (58 : UInt8) ∉ (decT n).data.toList := fun n => decT_free (by decide) (by decide)
  have hp : partsS 58 (spotT x) = [decT x.angle, decT x.weight] := parts_of_two (hf _) (hf _)
  unfold specW
  rw [hp]
  show (match numS (decT x.angle), numS (decT x.weight) with
    | some a, some b => some (⟨a, b⟩ : Spot)
    | _, _ => none) = _
  rw [num_decT (by omega) (by omega), num_decT (by omega) (by omega)]
theorem readW_some : ∀ {ws : List ByteArray} {xs : List Spot}, readW ws = some xs → ws = xs.map spotT ∧ ws.map spotW = xs
  | [], xs, h => by
    obtain rfl : [] = xs := by simpa [readW] using h
    exact ⟨rfl, rfl⟩
  | w :: ws, xs, h => by
    cases hw : specW w with
    | none => simp [readW, hw] at h
    | some x =>
      cases hr : readW ws with
      | none => simp [readW, hw, hr] at h
      | some ys =>
        obtain rfl : x :: ys = xs := by simpa [readW, hw, hr] using h
        obtain ⟨h1, h2⟩ := readW_some hr
        obtain ⟨h3, h4⟩ := specW_some hw
        exact ⟨by rw [List.map_cons, ← h3, ← h1], by rw [List.map_cons, h4, h2]⟩
theorem readW_texts : ∀ {xs : List Spot}, (∀ x ∈ xs, (0 ≤ x.angle ∧ x.angle ≤ 359) ∧ -1000 ≤ x.weight ∧ x.weight ≤ 1000) → readW (xs.map spotT) = some xs
  | [], _ => rfl
  | x :: xs, h => by
    rw [List.map_cons]
    unfold readW
    rw [specW_text (h x (List.mem_cons_self ..)), readW_texts fun y hy => h y (List.mem_cons_of_mem _ hy)]
    rfl
theorem readW_snoc : ∀ (ws : List ByteArray) (w : ByteArray), readW (ws ++ [w]) = (readW ws).bind fun o => (specW w).map fun x => o ++ [x]
  | [], w => by
    simp only [List.nil_append, readW]
    cases specW w <;> rfl
  | v :: ws, w => by
    simp only [List.cons_append, readW, readW_snoc ws w]
    cases specW v with
    | none => rfl
    | some x => cases readW ws with
      | none => rfl
      | some o => cases specW w <;> rfl
theorem readW_bad {ws : List ByteArray} {k : Nat} (hk : k < ws.length) (h : specW ws[k] = none) : readW ws = none := by
  induction ws generalizing k with
  | nil => simp at hk
  | cons w ws ih =>
    unfold readW
    cases k with
    | zero => rw [show specW w = none from h]; rfl
    | succ k =>
      rw [ih (k := k) (by simpa using hk) h]
      cases specW w <;> rfl
/-- what is read -/
def readR (s : ByteArray) : Option (List Spot) := if s = ⟨#[45]⟩ then some [] else (readW (partsS 32 s)).bind fun xs => if validSpotS xs = true then some xs else none
def readL (s : ByteArray) : List Spot := (readR s).getD []
theorem spotT_free (x : Spot) : (32 : UInt8) ∉ (spotT x).data.toList := by
  unfold spotT
  rw [ByteArray.data_append, ByteArray.data_append]
  simp only [Array.toList_append, List.mem_append]
  intro q
  rcases q with (q | q) | q
  · exact decT_free (by decide) (by decide) q
  · simp at q
  · exact decT_free (by decide) (by decide) q
/-- the program's two tests say what the reference finds -/
theorem read_tests {s : ByteArray} (h : s ≠ ⟨#[45]⟩) (xs : List Spot) (hx : xs = (partsS 32 s).map spotW) : (validSpotS xs = true ∧ spotsT xs = s → readR s = some xs) ∧ (¬ (validSpotS xs = true ∧ spotsT xs = s) → readR s = none) := by
  have hr : readR s = (readW (partsS 32 s)).bind fun xs => if validSpotS xs = true then some xs else none := if_neg h
  have hpos := (partsS_len 32 s).1
  have hx0 : xs.length ≠ 0 := by rw [hx, List.length_map]; omega
  constructor
  · rintro ⟨hv, ht⟩
    have e : spotsT xs = joinT 32 (xs.map spotT) := by unfold spotsT; rw [if_pos hv, if_neg hx0]
    rw [e] at ht
    have hp := parts_joinT 32 (xs.map spotT) (fun q => hx0 (by simpa using congrArg List.length q)) (fun x hx => by
      obtain ⟨y, _, rfl⟩ := List.mem_map.1 hx
      exact spotT_free y)
    rw [ht] at hp
    rw [hr, hp, readW_texts (validSpotS_parts hv).2]
    show (if validSpotS xs = true then some xs else none) = _
    rw [if_pos hv]
  · intro hn
    rw [hr]
    cases hw : readW (partsS 32 s) with
    | none => rfl
    | some ys =>
      obtain ⟨h1, h2⟩ := readW_some hw
      rw [← hx] at h2
      subst h2
      show (if validSpotS xs = true then some xs else none) = _
      rw [if_neg]
      intro hv
      refine hn ⟨hv, ?_⟩
      unfold spotsT
      rw [if_pos hv, if_neg hx0, ← h1, partsS_join]
end Go.Proofs.YtockglfoeagahaaGreatDoor
namespace Go.Proofs.YtockglfoeagahaaGreatDoor
open Go.ChangeShapes Go.WideShapes Go.ChangeAt Go.RowKit Go.Deep Go.Joins
set_option linter.unusedVariables false
set_option maxRecDepth 100000
set_option linter.unusedSimpArgs false
theorem head_at (s : ByteArray) (k : Nat) (h : k < s.size) : (s.data.toList.drop k).head? = some s[k] := by
  rw [List.head?_drop, List.getElem?_eq_getElem (by simpa using h)]; rfl
theorem drop_at (s : ByteArray) (a k : Nat) (h : a + k < s.size) : (s.data.toList.drop a)[k]? = some s[a + k] := by
  rw [List.getElem?_drop, List.getElem?_eq_getElem (by simpa using h)]; rfl
theorem len_drop (s : ByteArray) (a : Nat) : (s.data.toList.drop a).length = s.size - a := by
  rw [List.length_drop]; simp
end Go.Proofs.YtockglfoeagahaaGreatDoor
