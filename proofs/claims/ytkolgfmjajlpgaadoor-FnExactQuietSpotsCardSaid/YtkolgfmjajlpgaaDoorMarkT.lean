/- The laws' marks: the text of a number. -/
import Derived.Test.YtkolgfmjajlpgaaDoorRows
import Derived.Test.YtkolgfmjajlpgaaDoorLaw
import Derived.Laws.IdiomStrings
namespace Go.Proofs.YtkolgfmjajlpgaaDoor
open Go.ChangeShapes Go.WideShapes Go.ChangeAt Go.RowKit Go.Deep Go.Joins
set_option linter.unusedVariables false
set_option maxRecDepth 100000
set_option linter.unusedSimpArgs false
def digB (k : Nat) : ByteArray := ⟨#[UInt8.ofNat (48 + k % 10)]⟩
theorem digB_size (k : Nat) : (digB k).size = 1 := rfl
/-- the digits of k ahead of out -/
def mkT : Nat → Nat → ByteArray → ByteArray
  | 0, _, out => out
  | f + 1, k, out => if k = 0 then out else mkT f (k / 10) (digB k ++ out)
def markT (k : Nat) : ByteArray := ⟨#[109]⟩ ++ mkT k k ⟨#[]⟩
end Go.Proofs.YtkolgfmjajlpgaaDoor
