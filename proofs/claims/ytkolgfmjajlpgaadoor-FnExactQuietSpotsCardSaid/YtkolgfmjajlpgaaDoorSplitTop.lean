/- SplitOf, SplitAngle: both sides compute the same. -/
import Derived.Test.YtkolgfmjajlpgaaDoorRows
import Derived.Test.YtkolgfmjajlpgaaDoorSplit
namespace Go.Proofs.YtkolgfmjajlpgaaDoor
open Go.ChangeShapes Go.WideShapes Go.ChangeAt Go.RowKit Go.Deep Go.Joins
set_option linter.unusedVariables false
set_option maxRecDepth 100000
set_option linter.unusedSimpArgs false
theorem impl_waved (w : World) (v : Value) (xs : List Spot) (n : Int) (h : Rd w.heap.size w v 2 xs.length (xs.flatMap Spot.put)) (hl : xs.length ≤ 1048576) (hok : ∀ x ∈ xs, x.ok) :
    Calls Tryd.prog 20 #[v, .int .i64 n] w fun e w' => e = .returned (.int .i64 (codeW xs n)) ∧ Below w.heap.size w w' := by
  have H := Lib.hid h; clear h
  have Hok := Lib.hid hok; clear hok
  cases hV : validSpotS xs
  · have e : Hid (codeW xs n = 1) := (by unfold codeW; rw [hV]; rfl : codeW xs n = 1)
    have HV := Lib.hid hV; clear hV
    go_enter Tryd.func20, Tryd.ntmps20
    go_wp2_with fail
    refine (impl_ValidSpots_is _ _ xs H.out hl Hok.out HV.out).mono ?_; rintro e1 w1 ⟨rfl, b1⟩
    go_wp2_with fail
    go_ret
    exact ⟨by rw [e.out]; rfl, b1⟩
  cases hB : inB n 2 6
  · have e : Hid (codeW xs n = 2) := (by unfold codeW; rw [hV, hB]; rfl : codeW xs n = 2)
    have HV := Lib.hid hV; clear hV
    have HI := Lib.hid hB; clear hB
    go_enter Tryd.func20, Tryd.ntmps20
    go_wp2_with fail
    refine (impl_ValidSpots_is _ _ xs H.out hl Hok.out HV.out).mono ?_; rintro e1 w1 ⟨rfl, b1⟩
    go_wp2_with (first | (go_at_call 27; refine (within_is _ _ _ _ HI.out).mono ?_; rintro e w' ⟨rfl, rfl⟩))
    go_ret
    exact ⟨by rw [e.out]; rfl, b1⟩
  · have e : Hid (codeW xs n = 0) := (by unfold codeW; rw [hV, hB]; rfl : codeW xs n = 0)
    have HV := Lib.hid hV; clear hV
    have HI := Lib.hid hB; clear hB
    go_enter Tryd.func20, Tryd.ntmps20
    go_wp2_with fail
    refine (impl_ValidSpots_is _ _ xs H.out hl Hok.out HV.out).mono ?_; rintro e1 w1 ⟨rfl, b1⟩
    go_wp2_with (first | (go_at_call 27; refine (within_is _ _ _ _ HI.out).mono ?_; rintro e w' ⟨rfl, rfl⟩))
    go_ret
    exact ⟨by rw [e.out]; rfl, b1⟩

/-- the loops over the angles -/
theorem bestN_succ (v : Int → Int) (k : Nat) : bestN v (k + 1) = if (bestN v k).2 < v (k + 1 : Nat) then (((k + 1 : Nat) : Int), v (k + 1 : Nat)) else bestN v k := rfl
end Go.Proofs.YtkolgfmjajlpgaaDoor
