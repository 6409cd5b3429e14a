/- An ingot read from its text: what both sides compute. -/
import Derived.Test.YtklgkbiobggbiaaDoorRows
import Derived.Test.YtklgkbiobggbiaaDoorReadLiL
import Derived.Test.YtklgkbiobggbiaaDoorIngTx
import Derived.Test.YtklgkbiobggbiaaDoorFreeT
namespace Go.Proofs.YtklgkbiobggbiaaDoor
open Go.ChangeShapes Go.WideShapes Go.ChangeAt Go.RowKit Go.Deep Go.Joins
set_option linter.unusedVariables false
set_option maxRecDepth 100000
set_option linter.unusedSimpArgs false
def ingOf (a : ByteArray) (n : List Int) : Option Ingot := match n with
  | [m, c, t, o] => if ingotB ⟨a, m, ⟨c, t, o⟩⟩ = true then some ⟨a, m, ⟨c, t, o⟩⟩ else none
  | _ => none
def ingR (s : ByteArray) : Option Ingot := match partsS 32 s with
  | [a, b] => ingOf a (listL b)
  | _ => none
def ingZ : Ingot := ⟨⟨#[]⟩, 0, ⟨0, 0, 0⟩⟩
def ingV (s : ByteArray) : Ingot := (ingR s).getD ingZ
theorem ingOf_some {a : ByteArray} {n : List Int} {x : Ingot} (h : ingOf a n = some x) : ingotB x = true ∧ x.id = a ∧ n = [x.mass, x.alloy.copper, x.alloy.tin, x.alloy.other] := by
  unfold ingOf at h
  split at h
  · rename_i m c t o
    by_cases hb : ingotB ⟨a, m, ⟨c, t, o⟩⟩ = true
    · rw [if_pos hb] at h
      obtain rfl : (⟨a, m, ⟨c, t, o⟩⟩ : Ingot) = x := by simpa using h
      exact ⟨hb, rfl, rfl⟩
    · rw [if_neg hb] at h; cases h
  · cases h
theorem ingOf_not4 {a : ByteArray} {n : List Int} (h : n.length ≠ 4) : ingOf a n = none := by
  unfold ingOf
  split
  · simp at h
  · rfl
theorem ingOf_four (a : ByteArray) (m c t o : Int) : ingOf a [m, c, t, o] = if ingotB ⟨a, m, ⟨c, t, o⟩⟩ = true then some ⟨a, m, ⟨c, t, o⟩⟩ else none := rfl
theorem four_of {α : Type} {l : List α} (h : l.length = 4) : ∃ a b c d, l = [a, b, c, d] := by
  match l, h with
  | [a, b, c, d], _ => exact ⟨a, b, c, d, rfl⟩
theorem listT_free {c : UInt8} (h1 : c ≠ 44) (h2 : c ≠ 45) (h3 : ¬ (48 ≤ c.toNat ∧ c.toNat ≤ 57)) (zs : List Int) : c ∉ (listT zs).data.toList :=
  joinT_free h1 _ fun x hx => by
    obtain ⟨y, _, rfl⟩ := List.mem_map.1 hx
    exact decT_free h2 h3
theorem ingR_two {s a b : ByteArray} (h : partsS 32 s = [a, b]) : ingR s = ingOf a (listL b) ∧ cutA 32 s = a ∧ cutB 32 s = b := by
  obtain ⟨e, h1, h2⟩ := parts_two h
  refine ⟨?_, ?_, ?_⟩
  · unfold ingR; rw [h]
  · rw [e]; exact (cut_joined h1).1
  · rw [e]; exact (cut_joined h1).2
theorem ingR_not2 {s : ByteArray} (h : (partsS 32 s).length ≠ 2) : ingR s = none := by
  unfold ingR
  split
  · rename_i a b hp; rw [hp] at h; exact absurd rfl h
  · rfl
theorem ingR_bad {s : ByteArray} (h : ingOf (cutA 32 s) (listL (cutB 32 s)) = none) : ingR s = none := by
  by_cases h2 : (partsS 32 s).length = 2
  · obtain ⟨a, b, hp⟩ : ∃ a b, partsS 32 s = [a, b] := by
      match hq : partsS 32 s, h2 with
      | [a, b], _ => exact ⟨a, b, rfl⟩
    obtain ⟨e1, e2, e3⟩ := ingR_two hp
    rw [e1, ← e2, ← e3]; exact h
  · exact ingR_not2 h2
theorem ingR_good {s : ByteArray} {x : Ingot} (h : ingOf (cutA 32 s) (listL (cutB 32 s)) = some x) : (ingT x = s → ingR s = some x) ∧ (ingT x ≠ s → ingR s = none) := by
  obtain ⟨hb, hid, hn⟩ := ingOf_some h
  have e : ingT x = x.id ++ ⟨#[32]⟩ ++ listT [x.mass, x.alloy.copper, x.alloy.tin, x.alloy.other] := if_pos hb
  have hnm : nameB x.id = true := by
    have := hb
    unfold ingotB at this
    rw [Bool.and_eq_true] at this
    exact this.1
  constructor
  · intro ht
    rw [e] at ht
    have hp := parts_of_two (nameB_free hnm) (listT_free (c := 32) (by decide) (by decide) (by decide) [x.mass, x.alloy.copper, x.alloy.tin, x.alloy.other])
    rw [ht] at hp
    obtain ⟨e1, e2, e3⟩ := ingR_two hp
    rw [e1, ← e2, ← e3]; exact h
  · intro ht
    by_cases h2 : (partsS 32 s).length = 2
    · obtain ⟨a, b, hp⟩ : ∃ a b, partsS 32 s = [a, b] := by
        match hq : partsS 32 s, h2 with
        | [a, b], _ => exact ⟨a, b, rfl⟩
      obtain ⟨e1, e2, e3⟩ := ingR_two hp
      have es := (parts_two hp).1
      rw [e3] at hn
      cases hl : listR b with
      | none => rw [(listL_none hl).1] at hn; cases hn
      | some ys =>
        rw [(listL_some hl).1] at hn
        obtain ⟨et, _⟩ := listR_text hl (by rw [hn]; simp)
        refine absurd ?_ ht
        rw [e, es, et, hn, hid, e2]
    · exact ingR_not2 h2
theorem ingV_some {s : ByteArray} {x : Ingot} (h : ingR s = some x) : ingV s = x ∧ (ingR s).isSome = true := by unfold ingV; rw [h]; exact ⟨rfl, rfl⟩
theorem ingV_none {s : ByteArray} (h : ingR s = none) : ingV s = ingZ ∧ (ingR s).isSome = false := by unfold ingV; rw [h]; exact ⟨rfl, rfl⟩
end Go.Proofs.YtklgkbiobggbiaaDoor
