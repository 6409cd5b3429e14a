/- Numbers that are not negative in decimal. -/
import Derived.Test.YtmkemjfbmnnflaaDoorRows
import Derived.Test.YtmkemjfbmnnflaaDoorDec
namespace Go.Proofs.YtmkemjfbmnnflaaDoor
open Go.ChangeShapes Go.WideShapes Go.ChangeAt Go.RowKit Go.Deep Go.Joins
set_option linter.unusedVariables false
set_option maxRecDepth 100000
set_option linter.unusedSimpArgs false
theorem spec_l01DecN (n : Int) (w : World) (h0 : 0 ≤ n) (h1 : n ≤ 9223372036854775807) :
    Calls Tryd.prog 49 #[.int .i64 n] w fun e w' => e = .returned (.string (decT n)) ∧ Below w.heap.size w w' := by
  by_cases h : n = 0
  · subst h
    have e : decT 0 = ⟨#[48]⟩ := by
      unfold decT Lib.itoa
      rw [if_neg (by omega), Lib.decDigits, dif_pos (by decide)]; rfl
    go_enter Tryd.func49, Tryd.ntmps49
    go_wp2
    go_ret
    exact ⟨by rw [e]; try rfl, by (repeat' (first | (with_reducible exact Below.refl _ _) | (with_reducible assumption) | (with_reducible refine below_dn ?_ _) | (with_reducible refine Below.drew ?_) | (with_reducible refine Below.alloc ?_ ?_ _) | (with_reducible refine Below.setCell ?_ ?_ _) | go_size))⟩
  · exact spec_l01Dec n w (by omega) h1
theorem decT_sizeN (n : Int) (h0 : 0 ≤ n) (h1 : n ≤ 9223372036854775807) : (decT n).size ≤ 20 := by
  obtain ⟨N, rfl⟩ : ∃ N : Nat, n = (N : Int) := ⟨n.toNat, by omega⟩
  have e : (decT (N : Int)).size = (Lib.decDigits N).length := by
    unfold decT Lib.itoa ByteArray.size
    rw [if_neg (by omega)]
    simp
  rw [e]
  by_cases h : N = 0
  · subst h
    rw [Lib.decDigits, dif_pos (by decide)]; simp
  · have hd := decD_len N (by omega)
    unfold decD at hd
    rwa [if_neg h] at hd
end Go.Proofs.YtmkemjfbmnnflaaDoor
