/- The sine of an angle: both sides compute the same. -/
import Derived.Test.YtldbahcpjhmhpaaDoorRows
import Derived.Test.YtldbahcpjhmhpaaDoorCopyInts
namespace Go.Proofs.YtldbahcpjhmhpaaDoor
open Go.ChangeShapes Go.WideShapes Go.ChangeAt Go.RowKit Go.Deep Go.Joins
set_option linter.unusedVariables false
set_option maxRecDepth 100000
set_option linter.unusedSimpArgs false
def sinT : List Int := [0, 17452, 34899, 52336, 69756, 87156, 104528, 121869, 139173, 156434, 173648, 190809, 207912, 224951, 241922, 258819, 275637, 292372, 309017, 325568, 342020, 358368, 374607, 390731, 406737, 422618, 438371, 453990, 469472, 484810, 500000, 515038, 529919, 544639, 559193, 573576, 587785, 601815, 615661, 629320, 642788, 656059, 669131, 681998, 694658, 707107, 719340, 731354, 743145, 754710, 766044, 777146, 788011, 798636, 809017, 819152, 829038, 838671, 848048, 857167, 866025, 874620, 882948, 891007, 898794, 906308, 913545, 920505, 927184, 933580, 939693, 945519, 951057, 956305, 961262, 965926, 970296, 974370, 978148, 981627, 984808, 987688, 990268, 992546, 994522, 996195, 997564, 998630, 999391, 999848, 1000000]
theorem sinT_len : sinT.length = 91 := rfl
def tab (i : Nat) : Int := sinT[i]?.getD 0
theorem tab_bd (i : Nat) (h : i < 91) : 0 ≤ tab i ∧ tab i ≤ 1000000 := by
  have key : ∀ j : Fin 91, 0 ≤ tab j.1 ∧ tab j.1 ≤ 1000000 := by decide +kernel
  exact key ⟨i, h⟩
theorem tab_get (i : Nat) (h : i < 91) : (sinT.flatMap putI)[i]? = some (.int .i64 (tab i)) := by
  rw [putI_get sinT i h]
  unfold tab
  rw [List.getElem?_eq_getElem (by rw [sinT_len]; exact h)]
  rfl
/-- the sine at an angle from 0 to 359 -/
def sinN (t : Nat) : Int := if t ≤ 90 then tab t else if t ≤ 180 then tab (180 - t) else if t ≤ 270 then -tab (t - 180) else -tab (360 - t)
theorem sinN_bd (t : Nat) (h : t < 360) : -1000000 ≤ sinN t ∧ sinN t ≤ 1000000 := by
  unfold sinN
  have h1 := tab_bd t
  have h2 := tab_bd (180 - t)
  have h3 := tab_bd (t - 180)
  have h4 := tab_bd (360 - t)
  split
  · omega
  · split
    · omega
    · split <;> omega
def sineS (d : Int) : Int := sinN (d % 360).toNat
theorem sineS_bd (d : Int) : -1000000 ≤ sineS d ∧ sineS d ≤ 1000000 := sinN_bd _ (by omega)


theorem turn_eq (d : Int) : (d.tmod 360 + 360) % 360 = d % 360 := by
  rcases Int.le_total 0 d with h | h
  · rw [Int.tmod_eq_emod_of_nonneg h]; omega
  · obtain ⟨m, rfl⟩ : ∃ m, d = -m := ⟨-d, by omega⟩
    rw [Int.neg_tmod, Int.tmod_eq_emod_of_nonneg (by omega)]; omega
theorem turn_bd (d : Int) : -359 ≤ d.tmod 360 ∧ d.tmod 360 ≤ 359 := by
  have h1 := Int.tmod_lt_of_pos d (b := 360) (by omega)
  have h2 : -360 < d.tmod 360 := Int.lt_tmod_of_pos d (by omega)
  omega
end Go.Proofs.YtldbahcpjhmhpaaDoor
