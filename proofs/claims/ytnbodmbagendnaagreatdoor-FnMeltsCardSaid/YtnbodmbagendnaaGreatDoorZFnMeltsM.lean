/- Contracts and plain facts, joined: HMelts, RdM, Any. -/
import Derived.Test.YtnbodmbagendnaaGreatDoorRows
import Derived.Test.YtnbodmbagendnaaGreatDoorZFnMeltsA
import Derived.Test.YtnbodmbagendnaaGreatDoorZFnMeltsK
namespace Go.Proofs.YtnbodmbagendnaaGreatDoor
open Go.ChangeShapes Go.WideShapes Go.ChangeAt Go.RowKit Go.Deep Go.Joins
set_option linter.unusedVariables false
set_option maxRecDepth 100000
set_option linter.unusedSimpArgs false
theorem Melt_len (xs : List Melt) : (xs.flatMap Melt.put).length = xs.length * 3 := flat_len xs (fun _ _ => rfl)
theorem Melt_get0 (xs : List Melt) (k : Nat) (h : k < xs.length) : (xs.flatMap Melt.put)[k * 3 + 0]? = some (.string xs[k].id) := by
  rw [flat_get (f := Melt.put) (s := 3) xs (fun _ _ => rfl) (j := 0) (by omega) k, List.getElem?_eq_getElem h]
  rfl
theorem Melt_get1 (xs : List Melt) (k : Nat) (h : k < xs.length) : (xs.flatMap Melt.put)[k * 3 + 1]? = some xs[k].list := by
  rw [flat_get (f := Melt.put) (s := 3) xs (fun _ _ => rfl) (j := 1) (by omega) k, List.getElem?_eq_getElem h]
  rfl
theorem Melt_get2 (xs : List Melt) (k : Nat) (h : k < xs.length) : (xs.flatMap Melt.put)[k * 3 + 2]? = some (.int .i64 xs[k].mass) := by
  rw [flat_get (f := Melt.put) (s := 3) xs (fun _ _ => rfl) (j := 2) (by omega) k, List.getElem?_eq_getElem h]
  rfl
theorem Melt_info : (Tryz.prog.info? 28).map (fun i => (i.zero, i.size, i.bytes)) = some (some (.agg #[.string ByteArray.empty, .slice none 0 0, .int .i64 0]), 3, 48) := by kernel_rfl

/-- what a melt says, wherever its list lies -/
def Melt.said (x : Melt) : ByteArray × List ByteArray × Int := (x.id, x.ingots, x.mass)

theorem Melt.ok.up {w w' : World} {x : Melt} (h : x.ok w) (hb : Below w.heap.size w w') : x.ok w' := ⟨h.1, ⟨h.2.1.1.up hb, h.2.1.2⟩, h.2.2⟩

/-- a melt whose list is a block of its own above block B -/
def Melt.mine (B : Nat) (w : World) (x : Melt) : Prop := ∃ g, x.list = .slice (some ⟨g, 0, none⟩) x.ingots.length x.ingots.length ∧ B < g ∧ Own w g 9 (x.ingots.flatMap putStr)
theorem Melt.mine.below {B C : Nat} {w w' : World} {x : Melt} (h : x.mine B w) (hC : w.heap.size ≤ C) (hb : Below C w w') : x.mine B w' := by
  obtain ⟨g, h1, h2, h3⟩ := h
  exact ⟨g, h1, h2, h3.below hb (Nat.lt_of_lt_of_le h3.lt hC)⟩
theorem Melt.mine.set {B i : Nat} {w : World} {x : Melt} (h : x.mine B w) (v : Value) : x.mine B (w.setCell ⟨B, i, none⟩ v) := by
  obtain ⟨g, h1, h2, h3⟩ := h
  exact ⟨g, h1, h2, h3.other (by simp; omega) v⟩
theorem Melt.mine.rd {B : Nat} {w : World} {x : Melt} (h : x.mine B w) (hn : x.ingots.length ≤ 1048576) : Rd w.heap.size w x.list 1 x.ingots.length (x.ingots.flatMap putStr) := by
  obtain ⟨g, h1, h2, h3⟩ := h
  rw [h1]
  exact h3.rd h3.lt (putStr_len _) (by unfold maxLen; omega) _ (Nat.le_refl _) (by unfold maxLen; omega)

theorem said_at {ys zs : List Melt} (h : ys.map Melt.said = zs.map Melt.said) (k : Nat) (hy : k < ys.length) (hz : k < zs.length) : zs[k].id = ys[k].id ∧ zs[k].ingots = ys[k].ingots ∧ zs[k].mass = ys[k].mass := by
  have h2 : (ys.map Melt.said)[k]? = (zs.map Melt.said)[k]? := by rw [h]
  simp only [List.getElem?_map, List.getElem?_eq_getElem hy, List.getElem?_eq_getElem hz, Option.map_some, Option.some.injEq, Melt.said, Prod.mk.injEq] at h2
  exact ⟨h2.1.symm, h2.2.1.symm, h2.2.2.symm⟩

theorem said_len {ys zs : List Melt} (h : ys.map Melt.said = zs.map Melt.said) : ys.length = zs.length := by
  have := congrArg List.length h
  simpa using this

def Melt.wt (x : Melt) : Nat := x.id.size + (x.ingots.length + wtStr x.ingots)
def wtMelt (xs : List Melt) : Nat := (xs.map Melt.wt).sum
theorem wtMelt_succ (xs : List Melt) (k : Nat) (h : k < xs.length) : wtMelt (xs.take (k + 1)) = wtMelt (xs.take k) + xs[k].wt := by
  unfold wtMelt
  rw [List.take_succ_eq_append_getElem h, List.map_append, List.sum_append]
  simp only [List.map_cons, List.map_nil, List.sum_cons, List.sum_nil, Nat.add_zero]
theorem wtMelt_le (xs : List Melt) (k : Nat) : wtMelt (xs.take k) ≤ wtMelt xs := by
  have h : wtMelt xs = wtMelt (xs.take k) + wtMelt (xs.drop k) := by
    unfold wtMelt
    rw [← List.sum_append, ← List.map_append, List.take_append_drop]
  omega
theorem wtMelt_mem (xs : List Melt) (x : Melt) (h : x ∈ xs) : x.wt ≤ wtMelt xs := by
  unfold wtMelt
  exact le_sum_of (List.mem_map.2 ⟨x, h, rfl⟩)
end Go.Proofs.YtnbodmbagendnaaGreatDoor
namespace Go.Proofs.YtnbodmbagendnaaGreatDoor
open Go.ChangeShapes Go.WideShapes Go.ChangeAt Go.RowKit Go.Deep Go.Joins
set_option linter.unusedVariables false
set_option maxRecDepth 100000
set_option linter.unusedSimpArgs false
/-- v is a slice of the melts xs: ids, masses and lists read as they say -/
def RdM (B : Nat) (w : World) (v : Value) (xs : List Melt) : Prop :=
  ∃ ao cap, v = .slice ao xs.length cap ∧ xs.length ≤ cap ∧ cap ≤ maxLen ∧
    (0 < xs.length → ∃ b off, ao = some ⟨b, off, none⟩ ∧ b < B ∧ ∀ k (h : k < xs.length), ∃ l, w.cell? ⟨b, off + k * 3, none⟩ = some (.string xs[k].id) ∧ w.cell? ⟨b, off + k * 3 + 1, none⟩ = some l ∧
      w.cell? ⟨b, off + k * 3 + 2, none⟩ = some (.int .i64 xs[k].mass) ∧ Rd B w l 1 xs[k].ingots.length (xs[k].ingots.flatMap putStr))
theorem RdM.below {B : Nat} {w w' : World} {v : Value} {xs : List Melt} (h : RdM B w v xs) (hb : Below B w w') : RdM B w' v xs := by
  obtain ⟨ao, cap, h1, h2, h3, h4⟩ := h
  refine ⟨ao, cap, h1, h2, h3, fun hp => ?_⟩
  obtain ⟨b, off, e, hB, hc⟩ := h4 hp
  refine ⟨b, off, e, hB, fun k hk => ?_⟩
  obtain ⟨l, c0, c1, c2, hr⟩ := hc k hk
  exact ⟨l, (hb.cell (p := ⟨b, _, none⟩) hB).trans c0, (hb.cell (p := ⟨b, _, none⟩) hB).trans c1, (hb.cell (p := ⟨b, _, none⟩) hB).trans c2, hr.below hb⟩
theorem RdM.mono {B B' : Nat} {w : World} {v : Value} {xs : List Melt} (h : RdM B w v xs) (hB : B ≤ B') : RdM B' w v xs := by
  obtain ⟨ao, cap, h1, h2, h3, h4⟩ := h
  refine ⟨ao, cap, h1, h2, h3, fun hp => ?_⟩
  obtain ⟨b, off, e, hb, hc⟩ := h4 hp
  refine ⟨b, off, e, Nat.lt_of_lt_of_le hb hB, fun k hk => ?_⟩
  obtain ⟨l, c0, c1, c2, hr⟩ := hc k hk
  exact ⟨l, c0, c1, c2, hr.mono hB⟩
theorem RdM.up {w w' : World} {v : Value} {xs : List Melt} (h : RdM w.heap.size w v xs) (hb : Below w.heap.size w w') : RdM w'.heap.size w' v xs := (h.below hb).mono hb.size

/-- block g holds the melts ys, each with a list of its own, which say what xs say -/
def MeltsAt (w : World) (g : Nat) (ys xs : List Melt) : Prop := Own w g 28 (ys.flatMap Melt.put) ∧ ys.map Melt.said = xs.map Melt.said ∧ ∀ y ∈ ys, y.mine g w
theorem MeltsAt.lt {w : World} {g : Nat} {ys xs : List Melt} (h : MeltsAt w g ys xs) : g < w.heap.size := h.1.lt
theorem MeltsAt.below {w w' : World} {g : Nat} {ys xs : List Melt} (h : MeltsAt w g ys xs) (hb : Below w.heap.size w w') (_ : g < w.heap.size) : MeltsAt w' g ys xs :=
  ⟨h.1.below hb h.1.lt, h.2.1, fun y hy => (h.2.2 y hy).below (Nat.le_refl _) hb⟩
theorem MeltsAt.rdm {w : World} {g : Nat} {ys xs : List Melt} (h : MeltsAt w g ys xs) (hn : xs.length ≤ 1048576) (hi : ∀ x ∈ xs, x.ingots.length ≤ 1048576) : RdM w.heap.size w (.slice (some ⟨g, 0, none⟩) xs.length xs.length) xs := by
  refine ⟨_, _, rfl, Nat.le_refl _, by unfold maxLen; omega, fun hp => ⟨g, 0, rfl, h.lt, fun k hk => ?_⟩⟩
  have hl := said_len h.2.1
  have hk2 : k < ys.length := by omega
  obtain ⟨s0, s1, s2⟩ := said_at h.2.1 k hk2 hk
  have hm := h.2.2 ys[k] (List.getElem_mem hk2)
  have hz := hi xs[k] (List.getElem_mem hk)
  rw [s1] at hz
  refine ⟨ys[k].list, ?_, ?_, ?_, by rw [s1]; exact hm.rd hz⟩
  · rw [Nat.zero_add, h.1.cell, s0]; exact Melt_get0 ys k hk2
  · rw [Nat.zero_add, h.1.cell]; exact Melt_get1 ys k hk2
  · rw [Nat.zero_add, h.1.cell, s2]; exact Melt_get2 ys k hk2

theorem said_mem {ys xs : List Melt} (h : ys.map Melt.said = xs.map Melt.said) {y : Melt} (hy : y ∈ ys) : ∃ x ∈ xs, x.ingots = y.ingots := by
  have : y.said ∈ xs.map Melt.said := by rw [← h]; exact List.mem_map.2 ⟨y, hy, rfl⟩
  obtain ⟨x, hx, e⟩ := List.mem_map.1 this
  exact ⟨x, hx, by have := congrArg (fun t => t.2.1) e; exact this⟩

/-- a list of one melt, just laid -/
theorem rdm_one (w : World) (x : Melt) (lo : Option Addr) (lc : Nat) (h : Rd w.heap.size w (.slice lo x.ingots.length lc) 1 x.ingots.length (x.ingots.flatMap putStr)) :
    RdM (w.alloc (.cells #[.string x.id, .slice lo x.ingots.length lc, .int .i64 x.mass] 28)).heap.size (w.alloc (.cells #[.string x.id, .slice lo x.ingots.length lc, .int .i64 x.mass] 28)) (.slice (some ⟨w.heap.size, 0, none⟩) 1 1) [x] := by
  have O := Own.new w 28 [.string x.id, .slice lo x.ingots.length lc, .int .i64 x.mass]
  refine ⟨_, _, rfl, Nat.le_refl _, by unfold maxLen; omega, fun _ => ⟨w.heap.size, 0, rfl, O.lt, fun k hk => ?_⟩⟩
  obtain rfl : k = 0 := by simpa using hk
  exact ⟨_, O.cell 0, O.cell 1, O.cell 2, h.up ((Below.refl _ _).alloc (Nat.le_refl _) _)⟩
end Go.Proofs.YtnbodmbagendnaaGreatDoor
namespace Go.Proofs.YtnbodmbagendnaaGreatDoor
open Go.ChangeShapes Go.WideShapes Go.ChangeAt Go.RowKit Go.Deep Go.Joins
set_option linter.unusedVariables false
set_option maxRecDepth 100000
set_option linter.unusedSimpArgs false
theorem any_take {α : Type} {p : α → Bool} (xs : List α) (k : Nat) (h : k < xs.length) : (xs.take (k + 1)).any p = ((xs.take k).any p || p xs[k]) := by
  rw [List.take_succ_eq_append_getElem h, List.any_append]; simp
theorem any_at {α : Type} {p : α → Bool} (xs : List α) (k : Nat) (h : k < xs.length) (hp : p xs[k] = true) : xs.any p = true := by
  rw [List.any_eq_true]; exact ⟨xs[k], List.getElem_mem h, hp⟩
theorem any_full {α : Type} {p : α → Bool} {xs : List α} {k : Nat} (h : (xs.take k).any p = false) (hk : xs.length ≤ k) : xs.any p = false := by
  rwa [List.take_of_length_le hk] at h
theorem any_two {α β : Type} (f : α → β → Bool) (g : β → α → Bool) (hfg : ∀ a b, f a b = g b a) (xs : List α) (ys : List β) : (xs.any fun a => ys.any fun b => f a b) = ys.any fun b => xs.any fun a => g b a := by
  rw [Bool.eq_iff_iff]
  simp only [List.any_eq_true]
  constructor
  · rintro ⟨a, ha, b, hb, h⟩; exact ⟨b, hb, a, ha, by rw [← hfg]; exact h⟩
  · rintro ⟨b, hb, a, ha, h⟩; exact ⟨a, ha, b, hb, by rw [hfg]; exact h⟩
end Go.Proofs.YtnbodmbagendnaaGreatDoor
