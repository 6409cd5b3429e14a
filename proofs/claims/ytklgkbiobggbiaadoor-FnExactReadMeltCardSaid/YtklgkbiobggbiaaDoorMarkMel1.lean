/- The marks of the laws at one melt. -/
import Derived.Test.YtklgkbiobggbiaaDoorRows
import Derived.Test.YtklgkbiobggbiaaDoorMarkString
import Derived.Test.YtklgkbiobggbiaaDoorHMelt
namespace Go.Proofs.YtklgkbiobggbiaaDoor
open Go.ChangeShapes Go.WideShapes Go.ChangeAt Go.RowKit Go.Deep Go.Joins
set_option linter.unusedVariables false
set_option maxRecDepth 100000
set_option linter.unusedSimpArgs false
theorem markMelt1 (k : Int) (w : World) (lo hi : Nat) (id : ByteArray) (v : Value) (m : Int) (n : Nat) (L : List Value) (h : Held lo hi w 9 1 v n L) (hhi : hi ≤ w.heap.size) (hn : n ≤ 1048576) (h1 : 1 ≤ k) (hk : k ≤ 536870912) :
    Calls Tryd.prog 17 #[.agg #[.string id, v, .int .i64 m], .int .i64 k] w fun e w' => e = .returned (.int .i64 (k + 1 * (n : Int))) ∧ Turn lo hi w w' ∧ Held lo hi w' 9 1 v n (marksString k n) := by
  obtain ⟨ao, cap, rfl⟩ := h.form
  have HB : Hid (Below w.heap.size w (w.alloc (.cells #[.string id, .slice ao n cap, .int .i64 m] 37))) := Lib.hid ((Below.refl _ _).alloc (Nat.le_refl _) _)
  have H := Lib.hid (h.below HB.out)
  clear h
  obtain ⟨q, hq⟩ : ∃ q : Int, k + 1 * (n : Int) = q := ⟨_, rfl⟩
  rw [hq]
  have HQ := Lib.hid hq
  clear hq
  go_enter Tryd.func17, Tryd.ntmps17
  go_wp2_with fail
  refine (toM (markStringS k _ lo hi _ n L H.out hn h1 hk) HQ.out).mono ?_; rintro e w1 ⟨rfl, t1, o1⟩
  have T1 := Lib.hid ((Turn.of_below (lo := lo) (hi := hi) HB.out).trans t1)
  have O1 := Lib.hid o1
  clear t1 o1 HB H
  go_wp2_with fail
  go_ret
  exact ⟨rfl, T1.out, O1.out⟩
theorem heldMelt1 (k : Int) (w : World) (id : ByteArray) (v : Value) (m : Int) (n : Nat) (h : Rd w.heap.size w v 1 n (marksString k n)) (hn : n ≤ 1048576) (h1 : 1 ≤ k) (hk : k ≤ 536870912) :
    Calls Tryd.prog 18 #[.agg #[.string id, v, .int .i64 m], .int .i64 k] w fun e w' => e = .returned (.int .i64 (k + 1 * (n : Int))) ∧ Below w.heap.size w w' := by
  obtain ⟨ao, cap, rfl⟩ := h.form
  have HB : Hid (Below w.heap.size w (w.alloc (.cells #[.string id, .slice ao n cap, .int .i64 m] 37))) := Lib.hid ((Below.refl _ _).alloc (Nat.le_refl _) _)
  have H := Lib.hid (h.up HB.out)
  clear h
  obtain ⟨q, hq, hq1⟩ : ∃ q : Int, k + 1 * (n : Int) = q ∧ 0 ≤ q := ⟨_, rfl, by omega⟩
  rw [hq]
  have tq : decide (q < (0 : Int)) = false := decide_eq_false (by omega)
  have HQ := Lib.hid hq
  clear hq
  go_enter Tryd.func18, Tryd.ntmps18
  go_wp2_with fail
  refine (toM (heldStringS k _ _ n H.out hn h1 hk) HQ.out).mono ?_; rintro e w1 ⟨rfl, b1⟩
  have B1 := Lib.hid (bnext HB.out b1)
  clear b1 HB H
  go_wp2_with fail
  go_ret
  exact ⟨rfl, B1.out⟩
end Go.Proofs.YtklgkbiobggbiaaDoor
