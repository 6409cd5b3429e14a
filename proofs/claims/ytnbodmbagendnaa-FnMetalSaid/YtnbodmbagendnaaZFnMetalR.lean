/- Contracts and plain facts, joined: RdM, Any. -/
import Derived.Test.YtnbodmbagendnaaRows
import Derived.Test.YtnbodmbagendnaaZFnMetalA
import Derived.Test.YtnbodmbagendnaaZFnMetalQ
namespace Go.Proofs.Ytnbodmbagendnaa
open Go.ChangeShapes Go.WideShapes Go.ChangeAt Go.RowKit Go.Deep Go.Joins
set_option linter.unusedVariables false
set_option maxRecDepth 100000
set_option linter.unusedSimpArgs false
/-- v is a slice of the melts xs: ids, masses and lists read as they say -/
def RdM (B : Nat) (w : World) (v : Value) (xs : List Melt) : Prop :=
  ∃ ao cap, v = .slice ao xs.length cap ∧ xs.length ≤ cap ∧ cap ≤ maxLen ∧
    (0 < xs.length → ∃ b off, ao = some ⟨b, off, none⟩ ∧ b < B ∧ ∀ k (h : k < xs.length), ∃ l, w.cell? ⟨b, off + k * 3, none⟩ = some (.string xs[k].id) ∧ w.cell? ⟨b, off + k * 3 + 1, none⟩ = some l ∧
      w.cell? ⟨b, off + k * 3 + 2, none⟩ = some (.int .i64 xs[k].mass) ∧ Rd B w l 1 xs[k].ingots.length (xs[k].ingots.flatMap putStr))
theorem RdM.below {B : Nat} {w w' : World} {v : Value} {xs : List Melt} (h : RdM B w v xs) (hb : Below B w w') : RdM B w' v xs := by
  obtain ⟨ao, cap, h1, h2, h3, h4⟩ := h
  refine ⟨ao, cap, h1, h2, h3, fun hp => ?_⟩
  obtain ⟨b, off, e, hB, hc⟩ := h4 hp
  refine ⟨b, off, e, hB, fun k hk => ?_⟩
  obtain ⟨l, c0, c1, c2, hr⟩ := hc k hk
  exact ⟨l, (hb.cell (p := ⟨b, _, none⟩) hB).trans c0, (hb.cell (p := ⟨b, _, none⟩) hB).trans c1, (hb.cell (p := ⟨b, _, none⟩) hB).trans c2, hr.below hb⟩
theorem RdM.mono {B B' : Nat} {w : World} {v : Value} {xs : List Melt} (h : RdM B w v xs) (hB : B ≤ B') : RdM B' w v xs := by
  obtain ⟨ao, cap, h1, h2, h3, h4⟩ := h
  refine ⟨ao, cap, h1, h2, h3, fun hp => ?_⟩
  obtain ⟨b, off, e, hb, hc⟩ := h4 hp
  refine ⟨b, off, e, Nat.lt_of_lt_of_le hb hB, fun k hk => ?_⟩
  obtain ⟨l, c0, c1, c2, hr⟩ := hc k hk
  exact ⟨l, c0, c1, c2, hr.mono hB⟩
theorem RdM.up {w w' : World} {v : Value} {xs : List Melt} (h : RdM w.heap.size w v xs) (hb : Below w.heap.size w w') : RdM w'.heap.size w' v xs := (h.below hb).mono hb.size

/-- block g holds the melts ys, each with a list of its own, which say what xs say -/
def MeltsAt (w : World) (g : Nat) (ys xs : List Melt) : Prop := Own w g 63 (ys.flatMap Melt.put) ∧ ys.map Melt.said = xs.map Melt.said ∧ ∀ y ∈ ys, y.mine g w
theorem MeltsAt.lt {w : World} {g : Nat} {ys xs : List Melt} (h : MeltsAt w g ys xs) : g < w.heap.size := h.1.lt
theorem MeltsAt.below {w w' : World} {g : Nat} {ys xs : List Melt} (h : MeltsAt w g ys xs) (hb : Below w.heap.size w w') (_ : g < w.heap.size) : MeltsAt w' g ys xs :=
  ⟨h.1.below hb h.1.lt, h.2.1, fun y hy => (h.2.2 y hy).below (Nat.le_refl _) hb⟩
theorem MeltsAt.rdm {w : World} {g : Nat} {ys xs : List Melt} (h : MeltsAt w g ys xs) (hn : xs.length ≤ 1048576) (hi : ∀ x ∈ xs, x.ingots.length ≤ 1048576) : RdM w.heap.size w (.slice (some ⟨g, 0, none⟩) xs.length xs.length) xs := by
  refine ⟨_, _, rfl, Nat.le_refl _, by unfold maxLen; omega, fun hp => ⟨g, 0, rfl, h.lt, fun k hk => ?_⟩⟩
  have hl := said_len h.2.1
  have hk2 : k < ys.length := by omega
  obtain ⟨s0, s1, s2⟩ := said_at h.2.1 k hk2 hk
  have hm := h.2.2 ys[k] (List.getElem_mem hk2)
  have hz := hi xs[k] (List.getElem_mem hk)
  rw [s1] at hz
  refine ⟨ys[k].list, ?_, ?_, ?_, by rw [s1]; exact hm.rd hz⟩
  · rw [Nat.zero_add, h.1.cell, s0]; exact Melt_get0 ys k hk2
  · rw [Nat.zero_add, h.1.cell]; exact Melt_get1 ys k hk2
  · rw [Nat.zero_add, h.1.cell, s2]; exact Melt_get2 ys k hk2

theorem toMeltL (w : World) (v : Value) (xs : List Melt) (h : Rd w.heap.size w v 3 xs.length (xs.flatMap Melt.put)) (hn : xs.length ≤ 1048576) (hx : ∀ x ∈ xs, x.ok w ∧ x.ingots.length ≤ 1048576) :
    Calls Try.prog 28 #[v] w fun e w' => ∃ (g : Nat) (ys : List Melt), e = .returned (.slice (some ⟨g, 0, none⟩) xs.length xs.length) ∧ w.heap.size ≤ g ∧ MeltsAt w' g ys xs ∧ Below w.heap.size w w' :=
  (toMeltS w v xs h hn hx).mono fun _ _ ⟨g, ys, h1, h2, h3, h4, h5, h6⟩ => ⟨g, ys, h1, h2, ⟨h3, h4, h5⟩, h6⟩

theorem said_mem {ys xs : List Melt} (h : ys.map Melt.said = xs.map Melt.said) {y : Melt} (hy : y ∈ ys) : ∃ x ∈ xs, x.ingots = y.ingots := by
  have : y.said ∈ xs.map Melt.said := by rw [← h]; exact List.mem_map.2 ⟨y, hy, rfl⟩
  obtain ⟨x, hx, e⟩ := List.mem_map.1 this
  exact ⟨x, hx, by have := congrArg (fun t => t.2.1) e; exact this⟩

theorem eqMeltL (w : World) (g1 g2 : Nat) (ys zs xs : List Melt) (h1 : MeltsAt w g1 ys xs) (h2 : MeltsAt w g2 zs xs) (hn : xs.length ≤ 1048576) (hi : ∀ x ∈ xs, x.ingots.length ≤ 1048576) :
    Calls Try.prog 31 #[.slice (some ⟨g1, 0, none⟩) xs.length xs.length, .slice (some ⟨g2, 0, none⟩) xs.length xs.length] w fun e w' => e = .returned (.bool true) ∧ Below w.heap.size w w' := by
  have l1 := said_len h1.2.1
  have l2 := said_len h2.2.1
  have r1 : ∀ y ∈ ys, y.ingots.length ≤ 1048576 := fun y hy => by
    obtain ⟨x, hx, e⟩ := said_mem h1.2.1 hy
    rw [← e]; exact hi x hx
  have r2 : ∀ y ∈ zs, y.ingots.length ≤ 1048576 := fun y hy => by
    obtain ⟨x, hx, e⟩ := said_mem h2.2.1 hy
    rw [← e]; exact hi x hx
  have q1 : Rd w.heap.size w (.slice (some ⟨g1, 0, none⟩) xs.length xs.length) 3 ys.length (ys.flatMap Melt.put) := by
    rw [← l1]; exact h1.1.rd h1.lt (Melt_len ys) (by unfold maxLen; omega) _ (Nat.le_refl _) (by unfold maxLen; omega)
  have q2 : Rd w.heap.size w (.slice (some ⟨g2, 0, none⟩) xs.length xs.length) 3 zs.length (zs.flatMap Melt.put) := by
    rw [← l2]; exact h2.1.rd h2.lt (Melt_len zs) (by unfold maxLen; omega) _ (Nat.le_refl _) (by unfold maxLen; omega)
  exact eqMeltS w _ _ ys zs q1 q2 (by omega) (by rw [h1.2.1, h2.2.1]) (fun y hy => ⟨(h1.2.2 y hy).rd (r1 y hy), r1 y hy⟩) (fun y hy => (h2.2.2 y hy).rd (r2 y hy))
/-- a list of one melt, just laid -/
theorem rdm_one (w : World) (x : Melt) (lo : Option Addr) (lc : Nat) (h : Rd w.heap.size w (.slice lo x.ingots.length lc) 1 x.ingots.length (x.ingots.flatMap putStr)) :
    RdM (w.alloc (.cells #[.string x.id, .slice lo x.ingots.length lc, .int .i64 x.mass] 63)).heap.size (w.alloc (.cells #[.string x.id, .slice lo x.ingots.length lc, .int .i64 x.mass] 63)) (.slice (some ⟨w.heap.size, 0, none⟩) 1 1) [x] := by
  have O := Own.new w 63 [.string x.id, .slice lo x.ingots.length lc, .int .i64 x.mass]
  refine ⟨_, _, rfl, Nat.le_refl _, by unfold maxLen; omega, fun _ => ⟨w.heap.size, 0, rfl, O.lt, fun k hk => ?_⟩⟩
  obtain rfl : k = 0 := by simpa using hk
  exact ⟨_, O.cell 0, O.cell 1, O.cell 2, h.up ((Below.refl _ _).alloc (Nat.le_refl _) _)⟩
end Go.Proofs.Ytnbodmbagendnaa
namespace Go.Proofs.Ytnbodmbagendnaa
open Go.ChangeShapes Go.WideShapes Go.ChangeAt Go.RowKit Go.Deep Go.Joins
set_option linter.unusedVariables false
set_option maxRecDepth 100000
set_option linter.unusedSimpArgs false
theorem any_take {α : Type} {p : α → Bool} (xs : List α) (k : Nat) (h : k < xs.length) : (xs.take (k + 1)).any p = ((xs.take k).any p || p xs[k]) := by
  rw [List.take_succ_eq_append_getElem h, List.any_append]; simp
theorem any_at {α : Type} {p : α → Bool} (xs : List α) (k : Nat) (h : k < xs.length) (hp : p xs[k] = true) : xs.any p = true := by
  rw [List.any_eq_true]; exact ⟨xs[k], List.getElem_mem h, hp⟩
theorem any_full {α : Type} {p : α → Bool} {xs : List α} {k : Nat} (h : (xs.take k).any p = false) (hk : xs.length ≤ k) : xs.any p = false := by
  rwa [List.take_of_length_le hk] at h
theorem any_two {α β : Type} (f : α → β → Bool) (g : β → α → Bool) (hfg : ∀ a b, f a b = g b a) (xs : List α) (ys : List β) : (xs.any fun a => ys.any fun b => f a b) = ys.any fun b => xs.any fun a => g b a := by
  rw [Bool.eq_iff_iff]
  simp only [List.any_eq_true]
  constructor
  · rintro ⟨a, ha, b, hb, h⟩; exact ⟨b, hb, a, ha, by rw [← hfg]; exact h⟩
  · rintro ⟨b, hb, a, ha, h⟩; exact ⟨a, ha, b, hb, by rw [hfg]; exact h⟩
end Go.Proofs.Ytnbodmbagendnaa
