/- One melt: toMelt, eqMelt, szMelt. -/
import Derived.Test.YtmkemjfbmnnflaaDoorRows
import Derived.Test.YtmkemjfbmnnflaaDoorHString
namespace Go.Proofs.YtmkemjfbmnnflaaDoor
open Go.ChangeShapes Go.WideShapes Go.ChangeAt Go.RowKit Go.Deep Go.Joins
set_option linter.unusedVariables false
set_option maxRecDepth 100000
set_option linter.unusedSimpArgs false
def Melt.val (x : Melt) : Value := .agg #[.string x.id, x.list, .int .i64 x.mass]

theorem toMelt (x : Melt) (w : World) (h : Rd w.heap.size w x.list 1 x.ingots.length (x.ingots.flatMap putStr)) (hn : x.ingots.length ≤ 1048576) :
    Calls Tryd.prog 18 #[.agg #[.string x.id, x.list, .int .i64 x.mass]] w fun e w' => ∃ g, e = .returned (.agg #[.string x.id, .slice (some ⟨g, 0, none⟩) x.ingots.length x.ingots.length, .int .i64 x.mass]) ∧ w.heap.size ≤ g ∧ Own w' g 9 (x.ingots.flatMap putStr) ∧ Below w.heap.size w w' := by
  have H := Lib.hid h; clear h
  go_enter Tryd.func18, Tryd.ntmps18
  go_wp2_with fail
  refine (toStringS _ _ x.ingots (by exact H.out.up (by (repeat' (first | (with_reducible exact Below.refl _ _) | (with_reducible assumption) | (with_reducible refine below_dn ?_ _) | (with_reducible refine Below.drew ?_) | (with_reducible refine Below.alloc ?_ ?_ _) | (with_reducible refine Below.setCell ?_ ?_ _) | go_size)))) hn).mono ?_; rintro e w1 ⟨g, rfl, hg, o1, b1⟩
  obtain ⟨hc, hf⟩ := bcell b1
  have O1 := Lib.hid o1; clear o1
  have M : Own w1 (w.heap.size + 1) 45 [.string ⟨#[]⟩, .slice none 0 0, .int .i64 0] := by
    refine Own.below (Own.alloc ?_ _) b1 (by simp)
    have e1 : (w.alloc (Obj.cells #[Value.string x.id, x.list, Value.int IntKind.i64 x.mass] 42)).heap.size = w.heap.size + 1 := by simp
    rw [← e1]
    exact Own.new _ _ [.string ⟨#[]⟩, .slice none 0 0, .int .i64 0]
  have c10 : w1.cell? ⟨w.heap.size + 1, 0, none⟩ = some (.string ⟨#[]⟩) := M.cell 0
  have c11 : w1.cell? ⟨w.heap.size + 1, 1, none⟩ = some (.slice none 0 0) := M.cell 1
  have c12 : w1.cell? ⟨w.heap.size + 1, 2, none⟩ = some (.int .i64 0) := M.cell 2
  have HB := Lib.hid b1; clear b1
  have HG := Lib.hid hg; clear hg
  go_wp2_with fail
  clear hc hf c10 c11 c12
  refine bodyPost_ret (v := .agg #[.string x.id, .slice (some ⟨g, 0, none⟩) x.ingots.length x.ingots.length, .int .i64 x.mass]) ?_ rfl ?_
  · have M2 := ((((((M.other (a := ⟨w.heap.size + 1 + 1, 1, none⟩) (by simp) (Value.slice (some ⟨g, 0, none⟩) x.ingots.length x.ingots.length)).other (a := ⟨w.heap.size + 1 + 1, 2, none⟩) (by simp) (Value.int .i64 x.mass)).set 0 (.string x.id)).set 1 (Value.slice (some ⟨g, 0, none⟩) x.ingots.length x.ingots.length)).set 2 (Value.int .i64 x.mass)))
    have d0 := M2.cell 0
    have d1 := M2.cell 1
    have d2 := M2.cell 2
    simp only [List.set, List.getElem?_cons_zero, List.getElem?_cons_succ] at d0 d1 d2
    clear M M2 HB O1
    simp [results, Tryd.results18, go_sem, d0, d1, d2]
  · refine ⟨g, rfl, ?_, ?_, ?_⟩
    · have := HG.out; simp at this; omega
    · have := HG.out
      simp at this
      exact ((((O1.out.other (by simp; omega) _).other (by simp; omega) _).other (by simp; omega) _).other (by simp; omega) _).other (by simp; omega) _
    · refine Below.setCell (Below.setCell (Below.setCell (Below.setCell (Below.setCell (Below.trans ?_ (HB.out.mono (by simp; omega))) ?_ _) ?_ _) ?_ _) ?_ _) ?_ _
      all_goals first | (simp; done) | (simp; omega) | (repeat' (first | (with_reducible exact Below.refl _ _) | (with_reducible assumption) | (with_reducible refine below_dn ?_ _) | (with_reducible refine Below.drew ?_) | (with_reducible refine Below.alloc ?_ ?_ _) | (with_reducible refine Below.setCell ?_ ?_ _) | go_size))

theorem eqMelt (x : Melt) (l1 l2 : Value) (w : World) (h1 : Rd w.heap.size w l1 1 x.ingots.length (x.ingots.flatMap putStr)) (h2 : Rd w.heap.size w l2 1 x.ingots.length (x.ingots.flatMap putStr)) (hn : x.ingots.length ≤ 1048576) :
    Calls Tryd.prog 20 #[.agg #[.string x.id, l1, .int .i64 x.mass], .agg #[.string x.id, l2, .int .i64 x.mass]] w fun e w' => e = .returned (.bool true) ∧ Below w.heap.size w w' := by
  have H1 := Lib.hid h1; clear h1
  have H2 := Lib.hid h2; clear h2
  go_enter Tryd.func20, Tryd.ntmps20
  go_wp2_with fail
  refine (eqStringS _ _ _ _ _ x.ingots (by exact H1.out.below (by (repeat' (first | (with_reducible exact Below.refl _ _) | (with_reducible assumption) | (with_reducible refine below_dn ?_ _) | (with_reducible refine Below.drew ?_) | (with_reducible refine Below.alloc ?_ ?_ _) | (with_reducible refine Below.setCell ?_ ?_ _) | go_size)))) (by exact H2.out.below (by (repeat' (first | (with_reducible exact Below.refl _ _) | (with_reducible assumption) | (with_reducible refine below_dn ?_ _) | (with_reducible refine Below.drew ?_) | (with_reducible refine Below.alloc ?_ ?_ _) | (with_reducible refine Below.setCell ?_ ?_ _) | go_size)))) hn).mono ?_; rintro e w1 ⟨rfl, n, rfl⟩
  go_wp2_with fail
  go_ret
  exact ⟨rfl, by (repeat' (first | (with_reducible exact Below.refl _ _) | (with_reducible assumption) | (with_reducible refine below_dn ?_ _) | (with_reducible refine Below.drew ?_) | (with_reducible refine Below.alloc ?_ ?_ _) | (with_reducible refine Below.setCell ?_ ?_ _) | go_size))⟩

theorem szMelt (x : Melt) (left : Int) (w : World) (h : x.ok w) (h0 : 0 ≤ left) (h1 : left ≤ 1048576) :
    Calls Tryd.prog 16 #[.agg #[.string x.id, x.list, .int .i64 x.mass], .int .i64 left] w fun e w' => e = .returned (.int .i64 (szR left (x.id.size + (x.ingots.length + wtStr x.ingots)))) ∧ Below w.heap.size w w' := by
  obtain ⟨hi, ⟨hr, hl, hs⟩, _⟩ := h
  have hi2 := hi
  unfold maxLen at hi2
  have HR := Lib.hid hr; clear hr
  have HS := Lib.hid hs; clear hs
  by_cases hq : (x.id.size : Int) ≤ left
  case neg =>
    have e : Hid (szR left (x.id.size + (x.ingots.length + wtStr x.ingots)) = -1) := (if_neg (by omega) : szR left (x.id.size + (x.ingots.length + wtStr x.ingots)) = -1)
    go_enter Tryd.func16, Tryd.ntmps16
    go_wp2
    go_ret
    exact ⟨by rw [e.out]; rfl, by (repeat' (first | (with_reducible exact Below.refl _ _) | (with_reducible assumption) | (with_reducible refine below_dn ?_ _) | (with_reducible refine Below.drew ?_) | (with_reducible refine Below.alloc ?_ ?_ _) | (with_reducible refine Below.setCell ?_ ?_ _) | go_size))⟩
  have es : Hid (szR (left - x.id.size) (x.ingots.length + wtStr x.ingots) = szR left (x.id.size + (x.ingots.length + wtStr x.ingots))) := (by
    unfold szR
    by_cases hz : ((x.ingots.length + wtStr x.ingots : Nat) : Int) ≤ left - x.id.size
    · rw [if_pos hz, if_pos (by push_cast at *; omega)]; push_cast; omega
    · rw [if_neg hz, if_neg (by push_cast at *; omega)] : szR (left - x.id.size) (x.ingots.length + wtStr x.ingots) = szR left (x.id.size + (x.ingots.length + wtStr x.ingots)))
  generalize hZ : szR left (x.id.size + (x.ingots.length + wtStr x.ingots)) = z at es
  have hzr : -1 ≤ z ∧ z ≤ left := by
    rw [← hZ]; unfold szR; split <;> omega
  clear hZ
  rcases (show z = -1 ∨ 0 ≤ z by omega) with rfl | hz0
  all_goals
    go_enter Tryd.func16, Tryd.ntmps16
    go_wp2_with fail
    refine (szStringS w.heap.size _ _ x.ingots _ (by exact HR.out.below (by (repeat' (first | (with_reducible exact Below.refl _ _) | (with_reducible assumption) | (with_reducible refine below_dn ?_ _) | (with_reducible refine Below.drew ?_) | (with_reducible refine Below.alloc ?_ ?_ _) | (with_reducible refine Below.setCell ?_ ?_ _) | go_size)))) hl HS.out (by omega) (by omega)).mono ?_; rw [es.out]; rintro e w1 ⟨rfl, rfl⟩
    go_wp2_with fail
    go_ret
    exact ⟨rfl, by (repeat' (first | (with_reducible exact Below.refl _ _) | (with_reducible assumption) | (with_reducible refine below_dn ?_ _) | (with_reducible refine Below.drew ?_) | (with_reducible refine Below.alloc ?_ ?_ _) | (with_reducible refine Below.setCell ?_ ?_ _) | go_size))⟩
end Go.Proofs.YtmkemjfbmnnflaaDoor
