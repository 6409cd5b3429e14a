/- What letters a text is free of. -/
import Derived.Test.YtklgkbiobggbiaaDoorRows
import Derived.Test.YtklgkbiobggbiaaDoorNumT
import Derived.Test.YtklgkbiobggbiaaDoorName
namespace Go.Proofs.YtklgkbiobggbiaaDoor
open Go.ChangeShapes Go.WideShapes Go.ChangeAt Go.RowKit Go.Deep Go.Joins
set_option linter.unusedVariables false
set_option maxRecDepth 100000
set_option linter.unusedSimpArgs false
theorem joinT_free {c d : UInt8} (hcd : c ≠ d) : ∀ (xs : List ByteArray), (∀ x ∈ xs, c ∉ x.data.toList) → c ∉ (joinT d xs).data.toList := by
  intro xs h
  unfold joinT
  cases xs with
  | nil => simp [Lib.join, List.intercalate]
  | cons a r =>
    rw [List.map_cons, Lib.join_cons]
    intro q
    have q' : c ∈ a.data.toList ++ Lib.joinTail [d] (r.map (·.data.toList)) := by simpa using q
    rcases List.mem_append.1 q' with q1 | q1
    · exact h a (List.mem_cons_self ..) q1
    · unfold Lib.joinTail at q1
      obtain ⟨l, hl, hc⟩ := List.mem_flatten.1 q1
      rw [List.map_map] at hl
      obtain ⟨x, hx, rfl⟩ := List.mem_map.1 hl
      rcases List.mem_append.1 hc with q2 | q2
      · exact hcd (by simpa using q2)
      · exact h x (List.mem_cons_of_mem _ hx) q2
theorem nameB_free {s : ByteArray} (h : nameB s = true) : (32 : UInt8) ∉ s.data.toList := by
  intro q
  unfold nameB nameL at h
  simp only [Bool.and_eq_true, decide_eq_true_eq] at h
  have hr := h.2.2.2
  have hh := h.2.2.1
  have := List.all_eq_true.1 hr 32 q
  exact absurd this (by decide)
theorem joinT_three (c : UInt8) (a b d : ByteArray) : joinT c [a, b, d] = a ++ ⟨#[c]⟩ ++ b ++ ⟨#[c]⟩ ++ d := by
  apply bytes_inj
  unfold joinT
  simp [Lib.join, List.intercalate]
theorem parts_three {c : UInt8} {w a b d : ByteArray} (h : partsS c w = [a, b, d]) : w = a ++ ⟨#[c]⟩ ++ b ++ ⟨#[c]⟩ ++ d := by
  have := partsS_join c w
  rw [h, joinT_three] at this
  exact this.symm
theorem app_cancel {a b c : ByteArray} (h : a ++ b = a ++ c) : b = c := by
  apply bytes_inj
  have := congrArg (fun x : ByteArray => x.data.toList) h
  simpa using this
theorem three_of {α : Type} {l : List α} (h : l.length = 3) : ∃ a b c, l = [a, b, c] := by
  match l, h with
  | [a, b, c], _ => exact ⟨a, b, c, rfl⟩
end Go.Proofs.YtklgkbiobggbiaaDoor
