/- Numbers that are not negative in decimal. -/
import Derived.Test.YtklgkbiobggbiaaDoorRows
import Derived.Test.YtklgkbiobggbiaaDoorDec
namespace Go.Proofs.YtklgkbiobggbiaaDoor
open Go.ChangeShapes Go.WideShapes Go.ChangeAt Go.RowKit Go.Deep Go.Joins
set_option linter.unusedVariables false
set_option maxRecDepth 100000
set_option linter.unusedSimpArgs false
theorem decT_sizeN (n : Int) (h0 : 0 ≤ n) (h1 : n ≤ 9223372036854775807) : (decT n).size ≤ 20 := by
  obtain ⟨N, rfl⟩ : ∃ N : Nat, n = (N : Int) := ⟨n.toNat, by omega⟩
  have e : (decT (N : Int)).size = (Lib.decDigits N).length := by
    unfold decT Lib.itoa ByteArray.size
    rw [if_neg (by omega)]
    simp
  rw [e]
  by_cases h : N = 0
  · subst h
    rw [Lib.decDigits, dif_pos (by decide)]; simp
  · have hd := decD_len N (by omega)
    unfold decD at hd
    rwa [if_neg h] at hd
end Go.Proofs.YtklgkbiobggbiaaDoor
