/- Contracts and plain facts, joined: ClonS, Nest, OwnK. -/
import Derived.Test.YtnbodmbagendnaaRows
import Derived.Test.YtnbodmbagendnaaZFnMetalR
import Derived.Test.YtnbodmbagendnaaZFnMetalY
import Derived.Test.YtnbodmbagendnaaZFnMetalZ
import Derived.Test.YtnbodmbagendnaaZFnMetalZB
import Derived.Test.YtnbodmbagendnaaZFnMetalZC
import Derived.Test.YtnbodmbagendnaaZFnMetalZD
import Derived.Lib.SliceRun
namespace Go.Proofs.Ytnbodmbagendnaa
open Go.ChangeShapes Go.WideShapes Go.ChangeAt Go.RowKit Go.Deep Go.Joins
set_option linter.unusedVariables false
set_option maxRecDepth 100000
set_option linter.unusedSimpArgs false
theorem Spot_one (xs : List Spot) : ∀ u ∈ xs.flatMap Spot.put, u.oneCell' = true := by
  intro u hu
  obtain ⟨x, _, hx⟩ := List.mem_flatMap.1 hu
  simp [Spot.put] at hx
  rcases hx with rfl | rfl <;> rfl
theorem spot_one2 (a b : Int) : ∀ u ∈ [Value.int .i64 a, Value.int .i64 b], u.oneCell' = true := by
  intro u hu
  simp at hu
  rcases hu with rfl | rfl <;> rfl
theorem take_flat (xs : List Spot) : ∀ k, (xs.flatMap Spot.put).take (k * 2) = (xs.take k).flatMap Spot.put := by
  induction xs with
  | nil => intro k; simp
  | cons x xs ih =>
    intro k
    cases k with
    | zero => simp
    | succ k =>
      rw [show (k + 1) * 2 = k * 2 + 2 from by omega]
      show ((.int .i64 x.angle) :: (.int .i64 x.weight) :: xs.flatMap Spot.put).take (k * 2 + 2) = (x :: xs.take k).flatMap Spot.put
      rw [List.take_succ_cons, List.take_succ_cons, ih k]
      rfl
theorem drop_flat (xs : List Spot) : ∀ k, (xs.flatMap Spot.put).drop (k * 2) = (xs.drop k).flatMap Spot.put := by
  induction xs with
  | nil => intro k; simp
  | cons x xs ih =>
    intro k
    cases k with
    | zero => simp
    | succ k =>
      rw [show (k + 1) * 2 = k * 2 + 2 from by omega]
      show ((.int .i64 x.angle) :: (.int .i64 x.weight) :: xs.flatMap Spot.put).drop (k * 2 + 2) = (xs.drop k).flatMap Spot.put
      rw [List.drop_succ_cons, List.drop_succ_cons, ih k]
theorem ins_flat (xs : List Spot) (s : Spot) (k : Nat) : (xs.flatMap Spot.put).take (k * 2) ++ ([.int .i64 s.angle, .int .i64 s.weight] ++ (xs.flatMap Spot.put).drop (k * 2)) = (xs.take k ++ (s :: xs.drop k)).flatMap Spot.put := by
  rw [take_flat, drop_flat, List.flatMap_append]
  rfl
theorem del_flat (xs : List Spot) (k : Nat) : (xs.flatMap Spot.put).take (k * 2) ++ (xs.flatMap Spot.put).drop ((k + 1) * 2) = (xs.take k ++ xs.drop (k + 1)).flatMap Spot.put := by
  rw [take_flat, drop_flat, List.flatMap_append]
theorem set_flat1 (xs : List Spot) (n : Int) : ∀ k (h : k < xs.length), (xs.flatMap Spot.put).set (k * 2 + 1) (.int .i64 n) = (xs.set k ⟨xs[k].angle, n⟩).flatMap Spot.put := by
  induction xs with
  | nil => intro k h; simp at h
  | cons x xs ih =>
    intro k h
    cases k with
    | zero => rfl
    | succ k =>
      rw [show (k + 1) * 2 + 1 = k * 2 + 1 + 2 from by omega]
      show ((.int .i64 x.angle) :: (.int .i64 x.weight) :: (xs.flatMap Spot.put).set (k * 2 + 1) (.int .i64 n)) = _
      rw [ih k (by simpa using h)]
      rfl
theorem set_flat0 (xs : List Spot) (n : Int) : ∀ k (h : k < xs.length), (xs.flatMap Spot.put).set (k * 2) (.int .i64 n) = (xs.set k ⟨n, xs[k].weight⟩).flatMap Spot.put := by
  induction xs with
  | nil => intro k h; simp at h
  | cons x xs ih =>
    intro k h
    cases k with
    | zero => rfl
    | succ k =>
      rw [show (k + 1) * 2 = k * 2 + 2 from by omega]
      show ((.int .i64 x.angle) :: (.int .i64 x.weight) :: (xs.flatMap Spot.put).set (k * 2) (.int .i64 n)) = _
      rw [ih k (by simpa using h)]
      rfl
/-- a store into a slice of one's own -/
theorem own_setI {w : World} {base g cap n s : Nat} {E : TypeId} {L : List Value} (h : w.ownsRow base E s (.slice (some ⟨g, 0, none⟩) n cap) n L) (i : Nat) (hi : i < n * s) (u : Value) : (w.setCell ⟨g, i, none⟩ u).ownsRow base E s (.slice (some ⟨g, 0, none⟩) n cap) n (L.set i u) := by
  obtain ⟨h1, h2⟩ := h
  rcases h2 with ⟨e, _⟩ | ⟨g', cap', cur, e, hb, hg, hn, hm, hs, ht⟩
  · cases e
  · injection e with q1 q2 q3
    injection q1 with q4
    injection q4 with q5
    subst q5; subst q3
    have ho : Own w g E cur.toList := by unfold Own; simpa using hg
    refine row_of_own (ho.set i u) hb hn hm (by simpa using hs) (by rw [List.length_set, h1]) ?_
    rw [List.take_set, ht]
theorem own_base {w : World} {base base' n s : Nat} {E : TypeId} {v : Value} {L : List Value} (h : w.ownsRow base E s v n L) (hb : base' ≤ base) : w.ownsRow base' E s v n L := by
  obtain ⟨h1, h2⟩ := h
  refine ⟨h1, ?_⟩
  rcases h2 with h2 | ⟨g, cap, cur, e, hb0, rest⟩
  · exact .inl h2
  · exact .inr ⟨g, cap, cur, e, Nat.le_trans hb hb0, rest⟩
/-- its cells -/
theorem own_cellI {w : World} {base g cap n s : Nat} {E : TypeId} {L : List Value} (h : w.ownsRow base E s (.slice (some ⟨g, 0, none⟩) n cap) n L) (i : Nat) (hi : i < n * s) : w.cell? ⟨g, i, none⟩ = L[i]? ∧ w.frozen? ⟨g, i, none⟩ = false ∧ g < w.heap.size ∧ base ≤ g := by
  obtain ⟨h1, h2⟩ := h
  rcases h2 with ⟨e, _⟩ | ⟨g', cap', cur, e, hb, hg, hn, hm, hs, ht⟩
  · cases e
  · injection e with q1 q2 q3
    injection q1 with q4
    injection q4 with q5
    subst q5; subst q3
    have ho : Own w g E cur.toList := by unfold Own; simpa using hg
    refine ⟨?_, ho.free i, ho.lt, hb⟩
    rw [ho.cell, ← ht, List.getElem?_take_of_lt hi]
end Go.Proofs.Ytnbodmbagendnaa
namespace Go.Proofs.Ytnbodmbagendnaa
open Go.ChangeShapes Go.WideShapes Go.ChangeAt Go.RowKit Go.Deep Go.Joins
set_option linter.unusedVariables false
set_option maxRecDepth 100000
set_option linter.unusedSimpArgs false
/-- each melt's ingots lie in a block of their own; gs are these blocks -/
def Kids (base : Nat) (w : World) (xs : List Melt) (gs : List Nat) : Prop :=
  gs.length = xs.length ∧ gs.Nodup ∧ ∀ i (h : i < xs.length) (h' : i < gs.length), ∃ V c, xs[i].list = .slice (some ⟨gs[i], 0, none⟩) xs[i].ingots.length c ∧ xs[i].ingots.length ≤ c ∧ c ≤ maxLen ∧ base ≤ gs[i] ∧ Own w gs[i] 9 (xs[i].ingots.flatMap putStr ++ V)
theorem Kids.nil (base : Nat) (w : World) : Kids base w [] [] := ⟨rfl, List.nodup_nil, fun i h => by simp at h⟩
theorem Kids.kept {base : Nat} {w w' : World} {xs : List Melt} {gs : List Nat} (h : Kids base w xs gs) (k : ∀ b L, Own w b 9 L → Own w' b 9 L) : Kids base w' xs gs := by
  obtain ⟨h1, h2, h3⟩ := h
  refine ⟨h1, h2, fun i hi hi' => ?_⟩
  obtain ⟨V, c, e1, e2, e3, e4, e5⟩ := h3 i hi hi'
  exact ⟨V, c, e1, e2, e3, e4, k _ _ e5⟩
theorem Kids.below {base : Nat} {w w' : World} {xs : List Melt} {gs : List Nat} (h : Kids base w xs gs) (b : Below w.heap.size w w') : Kids base w' xs gs := h.kept fun _ _ o => o.below b o.lt
theorem Kids.lt {base : Nat} {w : World} {xs : List Melt} {gs : List Nat} (h : Kids base w xs gs) : ∀ g ∈ gs, g < w.heap.size := by
  intro g hg
  obtain ⟨i, hi, rfl⟩ := List.mem_iff_getElem.1 hg
  obtain ⟨V, c, _, _, _, _, e5⟩ := h.2.2 i (by have := h.1; omega) hi
  exact e5.lt
theorem Kids.snoc {base : Nat} {w : World} {xs : List Melt} {gs : List Nat} (h : Kids base w xs gs) {x : Melt} {g c : Nat} {V : List Value} (hg : ∀ g' ∈ gs, g' ≠ g) (e1 : x.list = .slice (some ⟨g, 0, none⟩) x.ingots.length c) (e2 : x.ingots.length ≤ c) (e3 : c ≤ maxLen) (e4 : base ≤ g)
    (e5 : Own w g 9 (x.ingots.flatMap putStr ++ V)) : Kids base w (xs ++ [x]) (gs ++ [g]) := by
  obtain ⟨h1, h2, h3⟩ := h
  refine ⟨by simp [h1], ?_, fun i hi hi' => ?_⟩
  · rw [List.nodup_append]
    refine ⟨h2, by simp, fun a ha b hb => ?_⟩
    obtain rfl : b = g := by simpa using hb
    exact hg a ha
  · rcases Nat.lt_or_ge i xs.length with q | q
    · have a1 : (xs ++ [x])[i] = xs[i] := List.getElem_append_left q
      have a2 : (gs ++ [g])[i] = gs[i]'(by omega) := List.getElem_append_left (by omega)
      rw [a1, a2]
      exact h3 i q (by omega)
    · have : i = xs.length := by simp at hi; omega
      have a1 : (xs ++ [x])[i] = x := by simp [this]
      have a2 : (gs ++ [g])[i] = g := by simp [this, ← h1]
      rw [a1, a2]
      exact ⟨V, c, e1, e2, e3, e4, e5⟩
theorem Kids.base {base base' : Nat} {w : World} {xs : List Melt} {gs : List Nat} (h : Kids base w xs gs) (hb : base' ≤ base) : Kids base' w xs gs := by
  obtain ⟨h1, h2, h3⟩ := h
  refine ⟨h1, h2, fun i hi hi' => ?_⟩
  obtain ⟨V, c, e1, e2, e3, e4, e5⟩ := h3 i hi hi'
  exact ⟨V, c, e1, e2, e3, by omega, e5⟩
theorem own_neT {w : World} {a b : Nat} {E E' : TypeId} {L L' : List Value} (h : Own w a E L) (h' : Own w b E' L') (hne : E ≠ E') : a ≠ b := by
  rintro rfl
  unfold Own at h h'
  rw [h] at h'
  injection h' with h'
  injection h' with _ q _
  exact hne q
theorem eraseIdx_get {α : Type} {l : List α} {k i : Nat} (h : i < (l.eraseIdx k).length) : ∃ h2 : (if i < k then i else i + 1) < l.length, (l.eraseIdx k)[i] = l[if i < k then i else i + 1] := by
  have := List.getElem_eraseIdx (l := l) (i := k) h
  by_cases hk : i < k
  · simp only [hk, if_true] at this ⊢
    refine ⟨?_, by rw [this]; simp⟩
    rw [List.length_eraseIdx] at h
    split at h <;> omega
  · simp only [hk, if_false] at this ⊢
    refine ⟨?_, by rw [this]; simp⟩
    rw [List.length_eraseIdx] at h
    split at h <;> omega
theorem Kids.erase {base : Nat} {w : World} {xs : List Melt} {gs : List Nat} (h : Kids base w xs gs) (k : Nat) : Kids base w (xs.eraseIdx k) (gs.eraseIdx k) := by
  obtain ⟨h1, h2, h3⟩ := h
  refine ⟨by rw [List.length_eraseIdx, List.length_eraseIdx, h1], h2.sublist (List.eraseIdx_sublist gs k), fun i hi hi' => ?_⟩
  obtain ⟨q1, e1⟩ := eraseIdx_get hi
  obtain ⟨q2, e2⟩ := eraseIdx_get hi'
  rw [e1, e2]
  exact h3 _ q1 q2
theorem insertIdx_get {α : Type} {l : List α} {a : α} {k i : Nat} (hk : k ≤ l.length) (h : i < (l.take k ++ a :: l.drop k).length) : (i < k ∧ ∃ h2 : i < l.length, (l.take k ++ a :: l.drop k)[i] = l[i]) ∨ (i = k ∧ (l.take k ++ a :: l.drop k)[i] = a) ∨ (k < i ∧ ∃ h2 : i - 1 < l.length, (l.take k ++ a :: l.drop k)[i] = l[i - 1]) := by
  have hl : (l.take k).length = k := by rw [List.length_take]; omega
  rcases Nat.lt_trichotomy i k with q | q | q
  · refine .inl ⟨q, by omega, ?_⟩
    rw [List.getElem_append_left (by omega), List.getElem_take]
  · refine .inr (.inl ⟨q, ?_⟩)
    rw [List.getElem_append_right (by omega)]
    simp [hl, q]
  · have hh : i - 1 < l.length := by
      simp only [List.length_append, List.length_cons, List.length_drop, hl] at h; omega
    refine .inr (.inr ⟨q, hh, ?_⟩)
    rw [List.getElem_append_right (by omega)]
    obtain ⟨m, hm⟩ : ∃ m, i - (l.take k).length = m + 1 := ⟨i - k - 1, by omega⟩
    simp only [hm, List.getElem_cons_succ, List.getElem_drop]
    congr 1
    omega
theorem Kids.insert {base : Nat} {w : World} {xs : List Melt} {gs : List Nat} (h : Kids base w xs gs) {k : Nat} (hk : k ≤ xs.length) {x : Melt} {g c : Nat} {V : List Value} (hg : ∀ g' ∈ gs, g' ≠ g) (e1 : x.list = .slice (some ⟨g, 0, none⟩) x.ingots.length c) (e2 : x.ingots.length ≤ c) (e3 : c ≤ maxLen) (e4 : base ≤ g)
    (e5 : Own w g 9 (x.ingots.flatMap putStr ++ V)) : Kids base w (xs.take k ++ x :: xs.drop k) (gs.take k ++ g :: gs.drop k) := by
  obtain ⟨h1, h2, h3⟩ := h
  refine ⟨by simp [h1], ?_, fun i hi hi' => ?_⟩
  · have hp : (g :: gs).Nodup := List.nodup_cons.2 ⟨fun q => hg g q rfl, h2⟩
    have e : (gs.take k ++ g :: gs.drop k).Perm (g :: gs) := by
      refine List.perm_middle.trans ?_
      rw [List.take_append_drop]
    exact e.nodup_iff.2 hp
  · rcases insertIdx_get hk hi with ⟨q, z, ex⟩ | ⟨q, ex⟩ | ⟨q, z, ex⟩
    · rcases insertIdx_get (by omega) hi' with ⟨q', z', eg⟩ | ⟨q', eg⟩ | ⟨q', z', eg⟩
      · rw [ex, eg]; exact h3 i z z'
      · omega
      · omega
    · rcases insertIdx_get (by omega) hi' with ⟨q', z', eg⟩ | ⟨q', eg⟩ | ⟨q', z', eg⟩
      · omega
      · rw [ex, eg]; exact ⟨V, c, e1, e2, e3, e4, e5⟩
      · omega
    · rcases insertIdx_get (by omega) hi' with ⟨q', z', eg⟩ | ⟨q', eg⟩ | ⟨q', z', eg⟩
      · omega
      · omega
      · rw [ex, eg]; exact h3 (i - 1) z z'

/-- a result: melts whose list lies in lo .. hi, and their ingots' lists too, each in a block of its own -/
def Nest (lo hi : Nat) (w : World) (v : Value) (xs : List Melt) : Prop :=
  Held lo hi w 63 3 v xs.length (xs.flatMap Melt.put) ∧ ∃ gs, Kids lo w xs gs ∧ ∀ g ∈ gs, g < hi
theorem Nest.form {lo hi : Nat} {w : World} {v : Value} {xs : List Melt} (h : Nest lo hi w v xs) : ∃ ao cap, v = .slice ao xs.length cap := h.1.form
theorem Nest.turn {lo hi lo' hi' : Nat} {w w' : World} {v : Value} {xs : List Melt} (h : Nest lo hi w v xs) (t : Turn lo' hi' w w') (hd : hi ≤ lo' ∨ hi' ≤ lo) : Nest lo hi w' v xs := by
  obtain ⟨h1, gs, ⟨k1, k2, k3⟩, h3⟩ := h
  refine ⟨h1.turn t hd, gs, ⟨k1, k2, fun i hi1 hi2 => ?_⟩, h3⟩
  obtain ⟨V, c, e1, e2, e3, e4, e5⟩ := k3 i hi1 hi2
  have := h3 gs[i] (List.getElem_mem hi2)
  exact ⟨V, c, e1, e2, e3, e4, e5.turn t (by omega)⟩
theorem Nest.below {lo hi : Nat} {w w' : World} {v : Value} {xs : List Melt} (h : Nest lo hi w v xs) (b : Below w.heap.size w w') : Nest lo hi w' v xs := h.turn (Turn.of_below (lo := hi) (hi := hi) b) (.inl (Nat.le_refl _))
theorem Nest.of {base : Nat} {w : World} {v : Value} {xs : List Melt} {gs : List Nat} (h : w.ownsRow base 63 3 v xs.length (xs.flatMap Melt.put)) (k : Kids base w xs gs) : Nest base w.heap.size w v xs := ⟨Held.of_row h, gs, k, k.lt⟩
/-- what a list of one's own reads as -/
theorem Nest.rd {lo hi : Nat} {w : World} {v : Value} {xs : List Melt} (h : Nest lo hi w v xs) : Rd w.heap.size w v 3 xs.length (xs.flatMap Melt.put) := h.1.rd
theorem Kids.rd {base : Nat} {w : World} {xs : List Melt} {gs : List Nat} (h : Kids base w xs gs) : ∀ x ∈ xs, Rd w.heap.size w x.list 1 x.ingots.length (x.ingots.flatMap putStr) := by
  intro x hx
  obtain ⟨i, hi, rfl⟩ := List.mem_iff_getElem.1 hx
  obtain ⟨V, c, e1, e2, e3, e4, e5⟩ := h.2.2 i hi (by have := h.1; omega)
  rw [e1]
  refine ⟨putStr_len _, _, _, rfl, e2, e3, (fun q => by cases q), fun hn => ⟨_, 0, rfl, e5.lt, fun j hj => ?_⟩⟩
  rw [Nat.zero_add, e5.cell, List.getElem?_append_left (by rw [putStr_len]; exact hj)]
theorem Nest.kids {lo hi : Nat} {w : World} {v : Value} {xs : List Melt} (h : Nest lo hi w v xs) : ∀ x ∈ xs, Rd w.heap.size w x.list 1 x.ingots.length (x.ingots.flatMap putStr) := by
  obtain ⟨_, gs, k, _⟩ := h
  exact k.rd
/-- two such results that say the same are equal -/
theorem eqMeltN (w : World) (lo hi lo2 hi2 : Nat) (v1 v2 : Value) (xs ys : List Melt) (h1 : Nest lo hi w v1 xs) (h2 : Nest lo2 hi2 w v2 ys) (hs : xs.map Melt.said = ys.map Melt.said) (hn : xs.length ≤ 1048576) (hi : ∀ x ∈ xs, x.ingots.length ≤ 1048576) :
    Calls Try.prog 31 #[v1, v2] w fun e w' => e = .returned (.bool true) ∧ Below w.heap.size w w' :=
  eqMeltS w v1 v2 xs ys h1.rd h2.rd hn hs (fun x hx => ⟨h1.kids x hx, hi x hx⟩) (fun y hy => h2.kids y hy)
theorem Nest.rdm {lo hi : Nat} {w : World} {v : Value} {xs : List Melt} (h : Nest lo hi w v xs) : RdM w.heap.size w v xs := by
  obtain ⟨hl, ao, cap, e, hc, hm, hnil, hs⟩ := h.rd
  refine ⟨ao, cap, e, hc, hm, fun hp => ?_⟩
  obtain ⟨b, off, e2, hb, hcell⟩ := hs hp
  have hw : xs.length ≤ 1048576 ∨ True := .inr trivial
  refine ⟨b, off, e2, hb, fun k hk => ⟨xs[k].list, ?_, ?_, ?_, h.kids xs[k] (List.getElem_mem hk)⟩⟩
  · have := hcell (k * 3) (by omega); rw [this]; exact Melt_get0 xs k hk
  · have := hcell (k * 3 + 1) (by omega); rw [Nat.add_assoc, this]; exact Melt_get1 xs k hk
  · have := hcell (k * 3 + 2) (by omega); rw [Nat.add_assoc, this]; exact Melt_get2 xs k hk
end Go.Proofs.Ytnbodmbagendnaa
namespace Go.Proofs.Ytnbodmbagendnaa
open Go.ChangeShapes Go.WideShapes Go.ChangeAt Go.RowKit Go.Deep Go.Joins
set_option linter.unusedVariables false
set_option maxRecDepth 100000
set_option linter.unusedSimpArgs false
theorem own_block {w : World} {base g cap n s : Nat} {E : TypeId} {L : List Value} (h : w.ownsRow base E s (.slice (some ⟨g, 0, none⟩) n cap) n L) : ∃ U, Own w g E (L ++ U) := by
  obtain ⟨h1, h2⟩ := h
  rcases h2 with ⟨e, _⟩ | ⟨g', cap', cur, e, hb, hg, hn, hm, hs, ht⟩
  · cases e
  · injection e with q1 q2 q3
    injection q1 with q4
    injection q4 with q5
    subst q5
    refine ⟨cur.toList.drop (n * s), ?_⟩
    rw [← ht, List.take_append_drop]
    unfold Own
    simpa using hg
/-- blocks of two types are two blocks -/
theorem own_apart_type {w : World} {base s n g : Nat} {E E' : TypeId} {v : Value} {L L' : List Value} (h : w.ownsRow base E s v n L) (o : Own w g E' L') (hne : E ≠ E') : ∀ g', v.ownBlock = some g' → g' ≠ g := by
  rintro g' hg rfl
  obtain ⟨h1, h2⟩ := h
  rcases h2 with ⟨rfl, _⟩ | ⟨g2, cap, cur, rfl, hb, hg2, rest⟩
  · cases hg
  · obtain rfl : g2 = g' := by injection hg
    unfold Own at o
    rw [hg2] at o
    injection o with o
    injection o with _ q _
    exact hne q
theorem own_rdU {w : World} {g n : Nat} {E : TypeId} {L U : List Value} (h : Own w g E (L ++ U)) (hl : L.length = n * 1) (k : Nat) (hk : k < n) : w.cell? ⟨g, k, none⟩ = L[k]? := by
  rw [h.cell, List.getElem?_append_left (by omega)]
theorem dash_list : (⟨#[45]⟩ : ByteArray).toList = [45] := by rw [ByteArray.toList_eq]
theorem two_of {α : Type} {l : List α} (h : l.length = 2) : ∃ a b, l = [a, b] := by
  match l, h with
  | [a, b], _ => exact ⟨a, b, rfl⟩
end Go.Proofs.Ytnbodmbagendnaa
