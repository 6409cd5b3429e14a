/- The reference's look at an alloy that lies inside a struct. -/
import Derived.Test.YtklgkbiobggbiaaDoorRows
import Derived.Test.YtklgkbiobggbiaaDoorAlloy
namespace Go.Proofs.YtklgkbiobggbiaaDoor
open Go.ChangeShapes Go.WideShapes Go.ChangeAt Go.RowKit Go.Deep Go.Joins
set_option linter.unusedVariables false
set_option maxRecDepth 100000
set_option linter.unusedSimpArgs false
theorem spec_l13Alloy_at {r : Bool} (x : Alloy) (a o : Nat) (w : World) (h0 : w.cell? ⟨a, o, none⟩ = some (.int .i64 x.copper)) (h1 : w.cell? ⟨a, o + 1, none⟩ = some (.int .i64 x.tin)) (h2 : w.cell? ⟨a, o + 2, none⟩ = some (.int .i64 x.other)) (hr : alloyB x = r) :
    Calls Tryd.prog 65 #[.pointer (some ⟨a, o, none⟩)] w fun e w' => e = .returned (.bool r) ∧ Drew w w' := by
  subst hr
  unfold alloyB
  cases hA : inB x.copper 0 1000000
  · go_enter Tryd.func65, Tryd.ntmps65
    go_wp2_with fail
    go_quiet ((go_at_call 87; exact quietE (l00In_is _ _ _ _ (by assumption))))
    go_wp2_with fail
    go_ret
    exact ⟨rfl, _, rfl⟩
  · cases hB : inB x.tin 0 1000000
    · go_enter Tryd.func65, Tryd.ntmps65
      go_wp2_with fail
      go_quiet ((go_at_call 87; exact quietE (l00In_is _ _ _ _ (by assumption))))
      go_wp2_with fail
      go_ret
      exact ⟨rfl, _, rfl⟩
    · cases hC : inB x.other 0 1000000
      · go_enter Tryd.func65, Tryd.ntmps65
        go_wp2_with fail
        go_quiet ((go_at_call 87; exact quietE (l00In_is _ _ _ _ (by assumption))))
        go_wp2_with fail
        go_ret
        exact ⟨rfl, _, rfl⟩
      · have a1 := inB_true hA
        have a2 := inB_true hB
        have a3 := inB_true hC
        go_enter Tryd.func65, Tryd.ntmps65
        go_wp2_with fail
        go_quiet ((go_at_call 87; exact quietE (l00In_is _ _ _ _ (by assumption))))
        go_wp2_with fail
        go_ret
        exact ⟨by simp [Bool.beq_eq_decide_eq]; try rfl, _, rfl⟩
end Go.Proofs.YtklgkbiobggbiaaDoor
