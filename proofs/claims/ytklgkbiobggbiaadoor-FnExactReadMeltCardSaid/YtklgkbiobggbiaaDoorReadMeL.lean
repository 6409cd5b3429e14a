/- A melt read from its text: what both sides compute. -/
import Derived.Test.YtklgkbiobggbiaaDoorRows
import Derived.Test.YtklgkbiobggbiaaDoorFreeT
import Derived.Test.YtklgkbiobggbiaaDoorMeltTx
import Derived.Test.YtklgkbiobggbiaaDoorPartsL
namespace Go.Proofs.YtklgkbiobggbiaaDoor
open Go.ChangeShapes Go.WideShapes Go.ChangeAt Go.RowKit Go.Deep Go.Joins
set_option linter.unusedVariables false
set_option maxRecDepth 100000
set_option linter.unusedSimpArgs false
def mkMelt (a : ByteArray) (xs : List ByteArray) (m : Int) : Melt := ⟨a, .slice none 0 0, xs, m⟩
def meltOf (a b : ByteArray) (c : Option Int) : Option Melt := match c with
  | some m => if meltB (mkMelt a (partsS 44 b) m) = true then some (mkMelt a (partsS 44 b) m) else none
  | none => none
def meltR (s : ByteArray) : Option Melt := match partsS 32 s with
  | [a, b, c] => meltOf a b (numS c)
  | _ => none
def meltV (s : ByteArray) : Melt := (meltR s).getD (mkMelt ⟨#[]⟩ [] 0)
theorem meltV_some {s : ByteArray} {x : Melt} (h : meltR s = some x) : meltV s = x ∧ (meltR s).isSome = true := by unfold meltV; rw [h]; exact ⟨rfl, rfl⟩
theorem meltV_none {s : ByteArray} (h : meltR s = none) : meltV s = mkMelt ⟨#[]⟩ [] 0 ∧ (meltR s).isSome = false := by unfold meltV; rw [h]; exact ⟨rfl, rfl⟩
theorem meltR_not3 {s : ByteArray} (h : (partsS 32 s).length ≠ 3) : meltR s = none := by
  unfold meltR
  split
  · rename_i a b c hp; rw [hp] at h; exact absurd rfl h
  · rfl
theorem meltR_three {s a b c : ByteArray} (h : partsS 32 s = [a, b, c]) : meltR s = meltOf a b (numS c) := by unfold meltR; rw [h]
theorem meltR_no {s a b c : ByteArray} (h : partsS 32 s = [a, b, c]) (hn : numS c = none) : meltR s = none := by rw [meltR_three h, hn]; rfl
theorem meltR_yes {s a b c : ByteArray} {m : Int} (h : partsS 32 s = [a, b, c]) (hn : numS c = some m) : meltR s = if meltB (mkMelt a (partsS 44 b) m) = true then some (mkMelt a (partsS 44 b) m) else none := by rw [meltR_three h, hn]; rfl
/-- the program's two tests say what the reference finds -/
theorem melt_tests {s a b c : ByteArray} (h : partsS 32 s = [a, b, c]) : (meltB (mkMelt a (partsS 44 b) (numV c)) = true → meltT (mkMelt a (partsS 44 b) (numV c)) = s → meltR s = some (mkMelt a (partsS 44 b) (numV c))) ∧ (meltB (mkMelt a (partsS 44 b) (numV c)) = false → meltR s = none) ∧ (meltT (mkMelt a (partsS 44 b) (numV c)) ≠ s → meltR s = none) := by
  have es := parts_three h
  refine ⟨fun hb ht => ?_, fun hb => ?_, fun ht => ?_⟩
  · have e : meltT (mkMelt a (partsS 44 b) (numV c)) = a ++ ⟨#[32]⟩ ++ joinT 44 (partsS 44 b) ++ ⟨#[32]⟩ ++ decT (numV c) := if_pos hb
    rw [e, partsS_join] at ht
    have hc : decT (numV c) = c := app_cancel (ht.trans es)
    have hbd := numV_bd c
    have hn := (num_iff hbd.1 hbd.2).2 hc
    rw [meltR_yes h hn, if_pos hb]
  · cases hn : numS c with
    | none => exact meltR_no h hn
    | some m =>
      rw [(num_some hn).1] at hb
      rw [meltR_yes h hn, if_neg (by rw [hb]; simp)]
  · cases hn : numS c with
    | none => exact meltR_no h hn
    | some m =>
      rw [meltR_yes h hn]
      rw [(num_some hn).1] at ht
      by_cases hb : meltB (mkMelt a (partsS 44 b) m) = true
      · refine absurd ?_ ht
        have e : meltT (mkMelt a (partsS 44 b) m) = a ++ ⟨#[32]⟩ ++ joinT 44 (partsS 44 b) ++ ⟨#[32]⟩ ++ decT m := if_pos hb
        rw [e, partsS_join, (num_text hn).1, ← es]
      · exact if_neg hb
end Go.Proofs.YtklgkbiobggbiaaDoor
