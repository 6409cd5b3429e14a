/- Contracts and plain facts, joined: AddMY. -/
import Derived.Test.YtnbodmbagendnaaGreatDoorRows
import Derived.Test.YtnbodmbagendnaaGreatDoorZFnMeltsZD
namespace Go.Proofs.YtnbodmbagendnaaGreatDoor
open Go.ChangeShapes Go.WideShapes Go.ChangeAt Go.RowKit Go.Deep Go.Joins
set_option linter.unusedVariables false
set_option maxRecDepth 100000
set_option linter.unusedSimpArgs false
theorem addM_fine (xs : List Ingot) (ms : List Melt) (x : Melt) : (addM xs ms x).1.length ≤ 12 ∧ ∀ y ∈ (addM xs ms x).1, 1 ≤ y.ingots.length ∧ y.ingots.length ≤ 16 := by
  unfold addM
  split
  case isFalse => exact ⟨by simp, fun y hy => by simp at hy⟩
  case isTrue hV =>
    split
    case isFalse => exact ⟨by simp, fun y hy => by simp at hy⟩
    case isTrue =>
      split
      · exact ⟨by simp, fun y hy => by simp at hy⟩
      · split
        · exact ⟨by simp, fun y hy => by simp at hy⟩
        · split
          · exact ⟨by simp, fun y hy => by simp at hy⟩
          · split
            · exact ⟨by simp, fun y hy => by simp at hy⟩
            · simp only [Bool.and_eq_true] at hV
              obtain ⟨h12, hall⟩ := meltsB_all hV.2.1
              have hp := posM_le ms x.id
              refine ⟨?_, fun y hy => ?_⟩
              · simp only [insM, List.length_append, List.length_cons, List.length_take, List.length_drop]; omega
              · have hb : meltB y = true := by
                  simp only [insM] at hy
                  rcases List.mem_append.1 hy with h | h
                  · exact hall y (List.mem_of_mem_take h)
                  · rcases List.mem_cons.1 h with h | h
                    · rw [h]; exact hV.2.2
                    · exact hall y (List.mem_of_mem_drop h)
                have := meltB_parts hb
                exact ⟨this.2.1, this.2.2.1⟩
theorem addM_said (xs : List Ingot) (ms : List Melt) (x : Melt) (v : Value) : (addM xs ms ⟨x.id, v, x.ingots, x.mass⟩).2 = (addM xs ms x).2 ∧ (addM xs ms ⟨x.id, v, x.ingots, x.mass⟩).1.map Melt.said = (addM xs ms x).1.map Melt.said := by
  have hb : meltB ⟨x.id, v, x.ingots, x.mass⟩ = meltB x := rfl
  have hi : (insM ⟨x.id, v, x.ingots, x.mass⟩ ms).map Melt.said = (insM x ms).map Melt.said := by unfold insM; rw [List.map_append, List.map_append, List.map_cons, List.map_cons]; rfl
  unfold addM
  simp only [hb]
  split
  · split
    · split
      · exact ⟨rfl, rfl⟩
      · split
        · exact ⟨rfl, rfl⟩
        · split
          · exact ⟨rfl, rfl⟩
          · split
            · exact ⟨rfl, rfl⟩
            · exact ⟨rfl, hi⟩
    · exact ⟨rfl, rfl⟩
  · exact ⟨rfl, rfl⟩
theorem spec_AddMelt2O (w : World) (v u : Value) (xs : List Ingot) (ms : List Melt) (x : Melt) (lo : Option Addr) (lc : Nat) (h : Rd w.heap.size w v 5 xs.length (xs.flatMap Ingot.put)) (hn : xs.length ≤ 1048576) (hok : ∀ x ∈ xs, x.ok) (h2 : RdM w.heap.size w u ms) (hn2 : ms.length ≤ 1048576) (hf : ∀ m ∈ ms, m.fine) (hx : Rd w.heap.size w (.slice lo x.ingots.length lc) 1 x.ingots.length (x.ingots.flatMap putStr)) (hxf : x.fine) :
    Calls Tryz.prog 80 #[v, u, .agg #[.string x.id, .slice lo x.ingots.length lc, .int .i64 x.mass]] w fun e w' => ∃ r os gs, e = .returned (.tuple #[r, .int .i64 (addM xs ms x).2]) ∧ w'.ownsRow w.heap.size 28 3 r os.length (os.flatMap Melt.put) ∧ Kids w.heap.size w' os gs ∧ os.map Melt.said = (addM xs ms x).1.map Melt.said ∧ Below w.heap.size w w' := by
  have q := spec_AddMeltO w v u xs ms ⟨x.id, .slice lo x.ingots.length lc, x.ingots, x.mass⟩ lo lc h hn hok h2 hn2 hf rfl hx hxf
  obtain ⟨e1, e2⟩ := addM_said xs ms x (.slice lo x.ingots.length lc)
  rw [e1, e2] at q
  exact q
end Go.Proofs.YtnbodmbagendnaaGreatDoor
