/- A measurement read from its text: what both sides compute. -/
import Derived.Test.YtklgkbiobggbiaaDoorRows
import Derived.Test.YtklgkbiobggbiaaDoorHertzL
import Derived.Test.YtklgkbiobggbiaaDoorMeasTx
namespace Go.Proofs.YtklgkbiobggbiaaDoor
open Go.ChangeShapes Go.WideShapes Go.ChangeAt Go.RowKit Go.Deep Go.Joins
set_option linter.unusedVariables false
set_option maxRecDepth 100000
set_option linter.unusedSimpArgs false
/-- the partial of a name: the last of 1 .. k whose name it is, or 0 -/
def partN (b : ByteArray) : Nat → Int
  | 0 => 0
  | k + 1 => if partT ((k + 1 : Nat) : Int) = b then ((k + 1 : Nat) : Int) else partN b k
theorem partN_yes {b : ByteArray} {k : Nat} (h : partT ((k + 1 : Nat) : Int) = b) : partN b (k + 1) = ((k + 1 : Nat) : Int) := if_pos h
theorem partN_no {b : ByteArray} {k : Nat} (h : partT ((k + 1 : Nat) : Int) ≠ b) : partN b (k + 1) = partN b k := if_neg h
theorem partN_bd (b : ByteArray) : ∀ k, 0 ≤ partN b k ∧ partN b k ≤ (k : Int)
  | 0 => ⟨Int.le_refl _, Int.le_refl _⟩
  | k + 1 => by
    have := partN_bd b k
    by_cases h : partT ((k + 1 : Nat) : Int) = b
    · rw [partN_yes h]; omega
    · rw [partN_no h]; omega
theorem partN_name {b : ByteArray} : ∀ k, partN b k ≠ 0 → partT (partN b k) = b
  | 0, h => absurd rfl h
  | k + 1, h => by
    by_cases q : partT ((k + 1 : Nat) : Int) = b
    · rw [partN_yes q]; exact q
    · rw [partN_no q] at h ⊢
      exact partN_name k h
def measOf (a b : ByteArray) (c : Option Int) : Option Measure := match c with
  | some f => if measureB ⟨a, partN b 5, f⟩ = true then some ⟨a, partN b 5, f⟩ else none
  | none => none
def measR (s : ByteArray) : Option Measure := match partsS 32 s with
  | [a, b, c] => measOf a b (hertzR c)
  | _ => none
def measZ : Measure := ⟨⟨#[]⟩, 0, 0⟩
def measV (s : ByteArray) : Measure := (measR s).getD measZ
theorem measV_some {s : ByteArray} {x : Measure} (h : measR s = some x) : measV s = x ∧ (measR s).isSome = true := by unfold measV; rw [h]; exact ⟨rfl, rfl⟩
theorem measV_none {s : ByteArray} (h : measR s = none) : measV s = measZ ∧ (measR s).isSome = false := by unfold measV; rw [h]; exact ⟨rfl, rfl⟩
theorem measR_not3 {s : ByteArray} (h : (partsS 32 s).length ≠ 3) : measR s = none := by
  unfold measR
  split
  · rename_i a b c hp; rw [hp] at h; exact absurd rfl h
  · rfl
theorem measR_three {s a b c : ByteArray} (h : partsS 32 s = [a, b, c]) : measR s = measOf a b (hertzR c) := by unfold measR; rw [h]
theorem measR_no {s a b c : ByteArray} (h : partsS 32 s = [a, b, c]) (hn : hertzR c = none) : measR s = none := by rw [measR_three h, hn]; rfl
theorem measR_yes {s a b c : ByteArray} {f : Int} (h : partsS 32 s = [a, b, c]) (hn : hertzR c = some f) : measR s = if measureB ⟨a, partN b 5, f⟩ = true then some ⟨a, partN b 5, f⟩ else none := by rw [measR_three h, hn]; rfl
theorem measT_parts {a b c : ByteArray} {f : Int} (hb : measureB ⟨a, partN b 5, f⟩ = true) : measT ⟨a, partN b 5, f⟩ = a ++ ⟨#[32]⟩ ++ b ++ ⟨#[32]⟩ ++ hertzT f ∧ hzB f = true := by
  have e : measT ⟨a, partN b 5, f⟩ = a ++ ⟨#[32]⟩ ++ partT (partN b 5) ++ ⟨#[32]⟩ ++ hertzT f := if_pos hb
  simp only [measureB, Bool.and_eq_true] at hb
  have h1 := inB_true hb.2.1
  rw [e, partN_name 5 (by have := h1.1; omega)]
  exact ⟨rfl, hb.2.2⟩
/-- the program's two tests say what the reference finds -/
theorem meas_tests {s a b c : ByteArray} (h : partsS 32 s = [a, b, c]) : (measureB ⟨a, partN b 5, hertzV c⟩ = true → measT ⟨a, partN b 5, hertzV c⟩ = s → measR s = some ⟨a, partN b 5, hertzV c⟩) ∧ (measureB ⟨a, partN b 5, hertzV c⟩ = false → measR s = none) ∧ (measT ⟨a, partN b 5, hertzV c⟩ ≠ s → measR s = none) := by
  have es := parts_three h
  refine ⟨fun hb ht => ?_, fun hb => ?_, fun ht => ?_⟩
  · obtain ⟨e, hz⟩ := measT_parts (c := c) hb
    rw [e] at ht
    have hc : hertzT (hertzV c) = c := app_cancel (ht.trans es)
    have hn : hertzR c = some (hertzV c) := by
      have := hertzR_text hz
      rw [hc] at this; exact this
    rw [measR_yes h hn, if_pos hb]
  · cases hn : hertzR c with
    | none => exact measR_no h hn
    | some f =>
      rw [(hertzV_some hn).1] at hb
      rw [measR_yes h hn, if_neg (by rw [hb]; simp)]
  · cases hn : hertzR c with
    | none => exact measR_no h hn
    | some f =>
      rw [measR_yes h hn]
      rw [(hertzV_some hn).1] at ht
      by_cases hb : measureB ⟨a, partN b 5, f⟩ = true
      · refine absurd ?_ ht
        rw [(measT_parts (c := c) hb).1, (hertzR_some hn).2, ← es]
      · exact if_neg hb
theorem measOk {a b : ByteArray} {f : Int} (ha : a.size ≤ 1048576) (hf : I64 f) : (⟨a, partN b 5, f⟩ : Measure).ok := by
  have := partN_bd b 5
  refine ⟨?_, ⟨?_, ?_⟩, hf⟩
  · unfold maxLen; show a.size ≤ _; omega
  · show _ ≤ partN b 5; omega
  · show partN b 5 ≤ _; omega
theorem hertzV_bd (s : ByteArray) : I64 (hertzV s) := by
  cases h : hertzR s with
  | none => rw [(hertzV_none h).1]; exact ⟨by decide, by decide⟩
  | some f =>
    have := inB_true (hertzR_some h).1
    rw [(hertzV_some h).1]
    exact ⟨by omega, by omega⟩
end Go.Proofs.YtklgkbiobggbiaaDoor
