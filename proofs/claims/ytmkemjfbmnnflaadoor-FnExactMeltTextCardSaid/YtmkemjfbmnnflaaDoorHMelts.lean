/- Lists of melts: toMeltS, eqMeltS, szMeltS. -/
import Derived.Test.YtmkemjfbmnnflaaDoorRows
import Derived.Test.YtmkemjfbmnnflaaDoorHMelt
namespace Go.Proofs.YtmkemjfbmnnflaaDoor
open Go.ChangeShapes Go.WideShapes Go.ChangeAt Go.RowKit Go.Deep Go.Joins
set_option linter.unusedVariables false
set_option maxRecDepth 100000
set_option linter.unusedSimpArgs false
theorem Melt_len (xs : List Melt) : (xs.flatMap Melt.put).length = xs.length * 3 := flat_len xs (fun _ _ => rfl)
theorem Melt_get0 (xs : List Melt) (k : Nat) (h : k < xs.length) : (xs.flatMap Melt.put)[k * 3 + 0]? = some (.string xs[k].id) := by
  rw [flat_get (f := Melt.put) (s := 3) xs (fun _ _ => rfl) (j := 0) (by omega) k, List.getElem?_eq_getElem h]
  rfl
theorem Melt_get1 (xs : List Melt) (k : Nat) (h : k < xs.length) : (xs.flatMap Melt.put)[k * 3 + 1]? = some xs[k].list := by
  rw [flat_get (f := Melt.put) (s := 3) xs (fun _ _ => rfl) (j := 1) (by omega) k, List.getElem?_eq_getElem h]
  rfl
theorem Melt_get2 (xs : List Melt) (k : Nat) (h : k < xs.length) : (xs.flatMap Melt.put)[k * 3 + 2]? = some (.int .i64 xs[k].mass) := by
  rw [flat_get (f := Melt.put) (s := 3) xs (fun _ _ => rfl) (j := 2) (by omega) k, List.getElem?_eq_getElem h]
  rfl
theorem Melt_info : (Tryd.prog.info? 45).map (fun i => (i.zero, i.size, i.bytes)) = some (some (.agg #[.string ByteArray.empty, .slice none 0 0, .int .i64 0]), 3, 48) := by kernel_rfl

/-- what a melt says, wherever its list lies -/
def Melt.said (x : Melt) : ByteArray × List ByteArray × Int := (x.id, x.ingots, x.mass)

theorem Melt.ok.up {w w' : World} {x : Melt} (h : x.ok w) (hb : Below w.heap.size w w') : x.ok w' := ⟨h.1, ⟨h.2.1.1.up hb, h.2.1.2⟩, h.2.2⟩

/-- a melt whose list is a block of its own above block B -/
def Melt.mine (B : Nat) (w : World) (x : Melt) : Prop := ∃ g, x.list = .slice (some ⟨g, 0, none⟩) x.ingots.length x.ingots.length ∧ B < g ∧ Own w g 9 (x.ingots.flatMap putStr)
theorem Melt.mine.below {B C : Nat} {w w' : World} {x : Melt} (h : x.mine B w) (hC : w.heap.size ≤ C) (hb : Below C w w') : x.mine B w' := by
  obtain ⟨g, h1, h2, h3⟩ := h
  exact ⟨g, h1, h2, h3.below hb (Nat.lt_of_lt_of_le h3.lt hC)⟩
theorem Melt.mine.set {B i : Nat} {w : World} {x : Melt} (h : x.mine B w) (v : Value) : x.mine B (w.setCell ⟨B, i, none⟩ v) := by
  obtain ⟨g, h1, h2, h3⟩ := h
  exact ⟨g, h1, h2, h3.other (by simp; omega) v⟩
theorem Melt.mine.rd {B : Nat} {w : World} {x : Melt} (h : x.mine B w) (hn : x.ingots.length ≤ 1048576) : Rd w.heap.size w x.list 1 x.ingots.length (x.ingots.flatMap putStr) := by
  obtain ⟨g, h1, h2, h3⟩ := h
  rw [h1]
  exact h3.rd h3.lt (putStr_len _) (by unfold maxLen; omega) _ (Nat.le_refl _) (by unfold maxLen; omega)

theorem said_at {ys zs : List Melt} (h : ys.map Melt.said = zs.map Melt.said) (k : Nat) (hy : k < ys.length) (hz : k < zs.length) : zs[k].id = ys[k].id ∧ zs[k].ingots = ys[k].ingots ∧ zs[k].mass = ys[k].mass := by
  have h2 : (ys.map Melt.said)[k]? = (zs.map Melt.said)[k]? := by rw [h]
  simp only [List.getElem?_map, List.getElem?_eq_getElem hy, List.getElem?_eq_getElem hz, Option.map_some, Option.some.injEq, Melt.said, Prod.mk.injEq] at h2
  exact ⟨h2.1.symm, h2.2.1.symm, h2.2.2.symm⟩

theorem said_len {ys zs : List Melt} (h : ys.map Melt.said = zs.map Melt.said) : ys.length = zs.length := by
  have := congrArg List.length h
  simpa using this

def Melt.wt (x : Melt) : Nat := x.id.size + (x.ingots.length + wtStr x.ingots)
def wtMelt (xs : List Melt) : Nat := (xs.map Melt.wt).sum
theorem wtMelt_succ (xs : List Melt) (k : Nat) (h : k < xs.length) : wtMelt (xs.take (k + 1)) = wtMelt (xs.take k) + xs[k].wt := by
  unfold wtMelt
  rw [List.take_succ_eq_append_getElem h, List.map_append, List.sum_append]
  simp only [List.map_cons, List.map_nil, List.sum_cons, List.sum_nil, Nat.add_zero]
theorem wtMelt_le (xs : List Melt) (k : Nat) : wtMelt (xs.take k) ≤ wtMelt xs := by
  have h : wtMelt xs = wtMelt (xs.take k) + wtMelt (xs.drop k) := by
    unfold wtMelt
    rw [← List.sum_append, ← List.map_append, List.take_append_drop]
  omega
theorem wtMelt_mem (xs : List Melt) (x : Melt) (h : x ∈ xs) : x.wt ≤ wtMelt xs := by
  unfold wtMelt
  exact le_sum_of (List.mem_map.2 ⟨x, h, rfl⟩)
end Go.Proofs.YtmkemjfbmnnflaaDoor
