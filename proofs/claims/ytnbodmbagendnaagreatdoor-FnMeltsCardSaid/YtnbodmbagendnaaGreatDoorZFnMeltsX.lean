/- Contracts and plain facts, joined: Nest, OwnK, OwnMelt. -/
import Derived.Test.YtnbodmbagendnaaGreatDoorRows
import Derived.Test.YtnbodmbagendnaaGreatDoorZFnMeltsM
import Derived.Test.YtnbodmbagendnaaGreatDoorZFnMeltsT
import Derived.Test.YtnbodmbagendnaaGreatDoorZFnMeltsU
import Derived.Test.YtnbodmbagendnaaGreatDoorZFnMeltsV
import Derived.Test.YtnbodmbagendnaaGreatDoorZFnMeltsW
import Derived.Deep.RegionLaw
namespace Go.Proofs.YtnbodmbagendnaaGreatDoor
open Go.ChangeShapes Go.WideShapes Go.ChangeAt Go.RowKit Go.Deep Go.Joins
set_option linter.unusedVariables false
set_option maxRecDepth 100000
set_option linter.unusedSimpArgs false
/-- each melt's ingots lie in a block of their own; gs are these blocks -/
def Kids (base : Nat) (w : World) (xs : List Melt) (gs : List Nat) : Prop :=
  gs.length = xs.length ∧ gs.Nodup ∧ ∀ i (h : i < xs.length) (h' : i < gs.length), ∃ V c, xs[i].list = .slice (some ⟨gs[i], 0, none⟩) xs[i].ingots.length c ∧ xs[i].ingots.length ≤ c ∧ c ≤ maxLen ∧ base ≤ gs[i] ∧ Own w gs[i] 9 (xs[i].ingots.flatMap putStr ++ V)
theorem Kids.nil (base : Nat) (w : World) : Kids base w [] [] := ⟨rfl, List.nodup_nil, fun i h => by simp at h⟩
theorem Kids.kept {base : Nat} {w w' : World} {xs : List Melt} {gs : List Nat} (h : Kids base w xs gs) (k : ∀ b L, Own w b 9 L → Own w' b 9 L) : Kids base w' xs gs := by
  obtain ⟨h1, h2, h3⟩ := h
  refine ⟨h1, h2, fun i hi hi' => ?_⟩
  obtain ⟨V, c, e1, e2, e3, e4, e5⟩ := h3 i hi hi'
  exact ⟨V, c, e1, e2, e3, e4, k _ _ e5⟩
theorem Kids.below {base : Nat} {w w' : World} {xs : List Melt} {gs : List Nat} (h : Kids base w xs gs) (b : Below w.heap.size w w') : Kids base w' xs gs := h.kept fun _ _ o => o.below b o.lt
theorem Kids.lt {base : Nat} {w : World} {xs : List Melt} {gs : List Nat} (h : Kids base w xs gs) : ∀ g ∈ gs, g < w.heap.size := by
  intro g hg
  obtain ⟨i, hi, rfl⟩ := List.mem_iff_getElem.1 hg
  obtain ⟨V, c, _, _, _, _, e5⟩ := h.2.2 i (by have := h.1; omega) hi
  exact e5.lt
theorem Kids.snoc {base : Nat} {w : World} {xs : List Melt} {gs : List Nat} (h : Kids base w xs gs) {x : Melt} {g c : Nat} {V : List Value} (hg : ∀ g' ∈ gs, g' ≠ g) (e1 : x.list = .slice (some ⟨g, 0, none⟩) x.ingots.length c) (e2 : x.ingots.length ≤ c) (e3 : c ≤ maxLen) (e4 : base ≤ g)
    (e5 : Own w g 9 (x.ingots.flatMap putStr ++ V)) : Kids base w (xs ++ [x]) (gs ++ [g]) := by
  obtain ⟨h1, h2, h3⟩ := h
  refine ⟨by simp [h1], ?_, fun i hi hi' => ?_⟩
  · rw [List.nodup_append]
    refine ⟨h2, by simp, fun a ha b hb => ?_⟩
    obtain rfl : b = g := by simpa using hb
    exact hg a ha
  · rcases Nat.lt_or_ge i xs.length with q | q
    · have a1 : (xs ++ [x])[i] = xs[i] := List.getElem_append_left q
      have a2 : (gs ++ [g])[i] = gs[i]'(by omega) := List.getElem_append_left (by omega)
      rw [a1, a2]
      exact h3 i q (by omega)
    · have : i = xs.length := by simp at hi; omega
      have a1 : (xs ++ [x])[i] = x := by simp [this]
      have a2 : (gs ++ [g])[i] = g := by simp [this, ← h1]
      rw [a1, a2]
      exact ⟨V, c, e1, e2, e3, e4, e5⟩
theorem Kids.base {base base' : Nat} {w : World} {xs : List Melt} {gs : List Nat} (h : Kids base w xs gs) (hb : base' ≤ base) : Kids base' w xs gs := by
  obtain ⟨h1, h2, h3⟩ := h
  refine ⟨h1, h2, fun i hi hi' => ?_⟩
  obtain ⟨V, c, e1, e2, e3, e4, e5⟩ := h3 i hi hi'
  exact ⟨V, c, e1, e2, e3, by omega, e5⟩
theorem own_neT {w : World} {a b : Nat} {E E' : TypeId} {L L' : List Value} (h : Own w a E L) (h' : Own w b E' L') (hne : E ≠ E') : a ≠ b := by
  rintro rfl
  unfold Own at h h'
  rw [h] at h'
  injection h' with h'
  injection h' with _ q _
  exact hne q
theorem eraseIdx_get {α : Type} {l : List α} {k i : Nat} (h : i < (l.eraseIdx k).length) : ∃ h2 : (if i < k then i else i + 1) < l.length, (l.eraseIdx k)[i] = l[if i < k then i else i + 1] := by
  have := List.getElem_eraseIdx (l := l) (i := k) h
  by_cases hk : i < k
  · simp only [hk, if_true] at this ⊢
    refine ⟨?_, by rw [this]; simp⟩
    rw [List.length_eraseIdx] at h
    split at h <;> omega
  · simp only [hk, if_false] at this ⊢
    refine ⟨?_, by rw [this]; simp⟩
    rw [List.length_eraseIdx] at h
    split at h <;> omega
theorem Kids.erase {base : Nat} {w : World} {xs : List Melt} {gs : List Nat} (h : Kids base w xs gs) (k : Nat) : Kids base w (xs.eraseIdx k) (gs.eraseIdx k) := by
  obtain ⟨h1, h2, h3⟩ := h
  refine ⟨by rw [List.length_eraseIdx, List.length_eraseIdx, h1], h2.sublist (List.eraseIdx_sublist gs k), fun i hi hi' => ?_⟩
  obtain ⟨q1, e1⟩ := eraseIdx_get hi
  obtain ⟨q2, e2⟩ := eraseIdx_get hi'
  rw [e1, e2]
  exact h3 _ q1 q2
theorem insertIdx_get {α : Type} {l : List α} {a : α} {k i : Nat} (hk : k ≤ l.length) (h : i < (l.take k ++ a :: l.drop k).length) : (i < k ∧ ∃ h2 : i < l.length, (l.take k ++ a :: l.drop k)[i] = l[i]) ∨ (i = k ∧ (l.take k ++ a :: l.drop k)[i] = a) ∨ (k < i ∧ ∃ h2 : i - 1 < l.length, (l.take k ++ a :: l.drop k)[i] = l[i - 1]) := by
  have hl : (l.take k).length = k := by rw [List.length_take]; omega
  rcases Nat.lt_trichotomy i k with q | q | q
  · refine .inl ⟨q, by omega, ?_⟩
    rw [List.getElem_append_left (by omega), List.getElem_take]
  · refine .inr (.inl ⟨q, ?_⟩)
    rw [List.getElem_append_right (by omega)]
    simp [hl, q]
  · have hh : i - 1 < l.length := by
      simp only [List.length_append, List.length_cons, List.length_drop, hl] at h; omega
    refine .inr (.inr ⟨q, hh, ?_⟩)
    rw [List.getElem_append_right (by omega)]
    obtain ⟨m, hm⟩ : ∃ m, i - (l.take k).length = m + 1 := ⟨i - k - 1, by omega⟩
    simp only [hm, List.getElem_cons_succ, List.getElem_drop]
    congr 1
    omega
theorem Kids.insert {base : Nat} {w : World} {xs : List Melt} {gs : List Nat} (h : Kids base w xs gs) {k : Nat} (hk : k ≤ xs.length) {x : Melt} {g c : Nat} {V : List Value} (hg : ∀ g' ∈ gs, g' ≠ g) (e1 : x.list = .slice (some ⟨g, 0, none⟩) x.ingots.length c) (e2 : x.ingots.length ≤ c) (e3 : c ≤ maxLen) (e4 : base ≤ g)
    (e5 : Own w g 9 (x.ingots.flatMap putStr ++ V)) : Kids base w (xs.take k ++ x :: xs.drop k) (gs.take k ++ g :: gs.drop k) := by
  obtain ⟨h1, h2, h3⟩ := h
  refine ⟨by simp [h1], ?_, fun i hi hi' => ?_⟩
  · have hp : (g :: gs).Nodup := List.nodup_cons.2 ⟨fun q => hg g q rfl, h2⟩
    have e : (gs.take k ++ g :: gs.drop k).Perm (g :: gs) := by
      refine List.perm_middle.trans ?_
      rw [List.take_append_drop]
    exact e.nodup_iff.2 hp
  · rcases insertIdx_get hk hi with ⟨q, z, ex⟩ | ⟨q, ex⟩ | ⟨q, z, ex⟩
    · rcases insertIdx_get (by omega) hi' with ⟨q', z', eg⟩ | ⟨q', eg⟩ | ⟨q', z', eg⟩
      · rw [ex, eg]; exact h3 i z z'
      · omega
      · omega
    · rcases insertIdx_get (by omega) hi' with ⟨q', z', eg⟩ | ⟨q', eg⟩ | ⟨q', z', eg⟩
      · omega
      · rw [ex, eg]; exact ⟨V, c, e1, e2, e3, e4, e5⟩
      · omega
    · rcases insertIdx_get (by omega) hi' with ⟨q', z', eg⟩ | ⟨q', eg⟩ | ⟨q', z', eg⟩
      · omega
      · omega
      · rw [ex, eg]; exact h3 (i - 1) z z'

/-- a result: melts whose list lies in lo .. hi, and their ingots' lists too, each in a block of its own -/
def Nest (lo hi : Nat) (w : World) (v : Value) (xs : List Melt) : Prop :=
  Held lo hi w 28 3 v xs.length (xs.flatMap Melt.put) ∧ ∃ gs, Kids lo w xs gs ∧ ∀ g ∈ gs, g < hi
theorem Nest.form {lo hi : Nat} {w : World} {v : Value} {xs : List Melt} (h : Nest lo hi w v xs) : ∃ ao cap, v = .slice ao xs.length cap := h.1.form
theorem Nest.turn {lo hi lo' hi' : Nat} {w w' : World} {v : Value} {xs : List Melt} (h : Nest lo hi w v xs) (t : Turn lo' hi' w w') (hd : hi ≤ lo' ∨ hi' ≤ lo) : Nest lo hi w' v xs := by
  obtain ⟨h1, gs, ⟨k1, k2, k3⟩, h3⟩ := h
  refine ⟨h1.turn t hd, gs, ⟨k1, k2, fun i hi1 hi2 => ?_⟩, h3⟩
  obtain ⟨V, c, e1, e2, e3, e4, e5⟩ := k3 i hi1 hi2
  have := h3 gs[i] (List.getElem_mem hi2)
  exact ⟨V, c, e1, e2, e3, e4, e5.turn t (by omega)⟩
theorem Nest.below {lo hi : Nat} {w w' : World} {v : Value} {xs : List Melt} (h : Nest lo hi w v xs) (b : Below w.heap.size w w') : Nest lo hi w' v xs := h.turn (Turn.of_below (lo := hi) (hi := hi) b) (.inl (Nat.le_refl _))
theorem Nest.of {base : Nat} {w : World} {v : Value} {xs : List Melt} {gs : List Nat} (h : w.ownsRow base 28 3 v xs.length (xs.flatMap Melt.put)) (k : Kids base w xs gs) : Nest base w.heap.size w v xs := ⟨Held.of_row h, gs, k, k.lt⟩
/-- what a list of one's own reads as -/
theorem Nest.rd {lo hi : Nat} {w : World} {v : Value} {xs : List Melt} (h : Nest lo hi w v xs) : Rd w.heap.size w v 3 xs.length (xs.flatMap Melt.put) := h.1.rd
theorem Kids.rd {base : Nat} {w : World} {xs : List Melt} {gs : List Nat} (h : Kids base w xs gs) : ∀ x ∈ xs, Rd w.heap.size w x.list 1 x.ingots.length (x.ingots.flatMap putStr) := by
  intro x hx
  obtain ⟨i, hi, rfl⟩ := List.mem_iff_getElem.1 hx
  obtain ⟨V, c, e1, e2, e3, e4, e5⟩ := h.2.2 i hi (by have := h.1; omega)
  rw [e1]
  refine ⟨putStr_len _, _, _, rfl, e2, e3, (fun q => by cases q), fun hn => ⟨_, 0, rfl, e5.lt, fun j hj => ?_⟩⟩
  rw [Nat.zero_add, e5.cell, List.getElem?_append_left (by rw [putStr_len]; exact hj)]
theorem Nest.kids {lo hi : Nat} {w : World} {v : Value} {xs : List Melt} (h : Nest lo hi w v xs) : ∀ x ∈ xs, Rd w.heap.size w x.list 1 x.ingots.length (x.ingots.flatMap putStr) := by
  obtain ⟨_, gs, k, _⟩ := h
  exact k.rd
theorem Nest.rdm {lo hi : Nat} {w : World} {v : Value} {xs : List Melt} (h : Nest lo hi w v xs) : RdM w.heap.size w v xs := by
  obtain ⟨hl, ao, cap, e, hc, hm, hnil, hs⟩ := h.rd
  refine ⟨ao, cap, e, hc, hm, fun hp => ?_⟩
  obtain ⟨b, off, e2, hb, hcell⟩ := hs hp
  have hw : xs.length ≤ 1048576 ∨ True := .inr trivial
  refine ⟨b, off, e2, hb, fun k hk => ⟨xs[k].list, ?_, ?_, ?_, h.kids xs[k] (List.getElem_mem hk)⟩⟩
  · have := hcell (k * 3) (by omega); rw [this]; exact Melt_get0 xs k hk
  · have := hcell (k * 3 + 1) (by omega); rw [Nat.add_assoc, this]; exact Melt_get1 xs k hk
  · have := hcell (k * 3 + 2) (by omega); rw [Nat.add_assoc, this]; exact Melt_get2 xs k hk
end Go.Proofs.YtnbodmbagendnaaGreatDoor
namespace Go.Proofs.YtnbodmbagendnaaGreatDoor
open Go.ChangeShapes Go.WideShapes Go.ChangeAt Go.RowKit Go.Deep Go.Joins
set_option linter.unusedVariables false
set_option maxRecDepth 100000
set_option linter.unusedSimpArgs false
theorem own_block {w : World} {base g cap n s : Nat} {E : TypeId} {L : List Value} (h : w.ownsRow base E s (.slice (some ⟨g, 0, none⟩) n cap) n L) : ∃ U, Own w g E (L ++ U) := by
  obtain ⟨h1, h2⟩ := h
  rcases h2 with ⟨e, _⟩ | ⟨g', cap', cur, e, hb, hg, hn, hm, hs, ht⟩
  · cases e
  · injection e with q1 q2 q3
    injection q1 with q4
    injection q4 with q5
    subst q5
    refine ⟨cur.toList.drop (n * s), ?_⟩
    rw [← ht, List.take_append_drop]
    unfold Own
    simpa using hg
/-- blocks of two types are two blocks -/
theorem own_apart_type {w : World} {base s n g : Nat} {E E' : TypeId} {v : Value} {L L' : List Value} (h : w.ownsRow base E s v n L) (o : Own w g E' L') (hne : E ≠ E') : ∀ g', v.ownBlock = some g' → g' ≠ g := by
  rintro g' hg rfl
  obtain ⟨h1, h2⟩ := h
  rcases h2 with ⟨rfl, _⟩ | ⟨g2, cap, cur, rfl, hb, hg2, rest⟩
  · cases hg
  · obtain rfl : g2 = g' := by injection hg
    unfold Own at o
    rw [hg2] at o
    injection o with o
    injection o with _ q _
    exact hne q
theorem own_rdU {w : World} {g n : Nat} {E : TypeId} {L U : List Value} (h : Own w g E (L ++ U)) (hl : L.length = n * 1) (k : Nat) (hk : k < n) : w.cell? ⟨g, k, none⟩ = L[k]? := by
  rw [h.cell, List.getElem?_append_left (by omega)]
theorem dash_list : (⟨#[45]⟩ : ByteArray).toList = [45] := by rw [ByteArray.toList_eq]
theorem two_of {α : Type} {l : List α} (h : l.length = 2) : ∃ a b, l = [a, b] := by
  match l, h with
  | [a, b], _ => exact ⟨a, b, rfl⟩
end Go.Proofs.YtnbodmbagendnaaGreatDoor
namespace Go.Proofs.YtnbodmbagendnaaGreatDoor
open Go.ChangeShapes Go.WideShapes Go.ChangeAt Go.RowKit Go.Deep Go.Joins
set_option linter.unusedVariables false
set_option maxRecDepth 100000
set_option linter.unusedSimpArgs false
theorem sapp_slE {P : Program} {w1 : World} {ops : Array Oper} {o : Oper} {a : Act} {K : Act → World → Prop} {Q : Exit → Act → World → Prop} {X : Prop} (hgd : o.guard = none) (s x : Operand) (T E : TypeId)
    (ho : o.op = .call { callee := .builtin .append, args := #[s, x], argTypes := #[T, T] }) (i : TypeInfo) (z : Value) (sz bytes : Nat)
    (hT : P.underlying T = some (.slice E)) (hi : P.info? E = some i) (hz : i.zero = some z) (h1 : i.size = sz) (h2 : i.bytes = bytes) (hzs : z.cells.size = sz) (hsz : 0 < sz)
    (w0 : World) (hs : a.eval s = .slice (some ⟨w0.heap.size, 0, none⟩) 0 0) (xv : Value) (m : Nat) (cs : List Value) (hx : a.eval x = xv) (hr : Rd w0.heap.size w0 xv sz m cs) (hone : ∀ u ∈ cs, u.oneCell' = true) (hm : 0 < m) (hn : m ≤ 2097152) (hby : bytes ≤ 64)
    (hw : w1 = w0.alloc (.cells #[] E))
    (h : ∀ g cap w', Hid (w'.ownsRow w0.heap.size E sz (.slice (some ⟨g, 0, none⟩) m cap) m cs) → Hid (Below w0.heap.size w0 w') → K (a.put o.dst (.slice (some ⟨g, 0, none⟩) m cap)) w') :
    if Region.wanted o (yielded ops a.tmps) = true then Oper.wp P o a w1 K Q else X := by
  have hwt : Region.wanted o (yielded ops a.tmps) = true := by simp [Region.wanted, hgd]
  rw [if_pos hwt]
  subst hw
  have hb : (0 + m) * bytes ≤ 140737488355328 := by
    have := Nat.mul_le_mul hn hby
    rw [Nat.zero_add]
    omega
  have b0 : Below w0.heap.size w0 (w0.alloc (.cells #[] E)) := (Below.refl _ w0).alloc (Nat.le_refl _) _
  obtain ⟨hl, ao, cap, rfl, hc, hmx, hnil, hsome⟩ := hr
  obtain ⟨b, off, rfl, hbB, hcell⟩ := hsome hm
  refine wp_append_lies _ s x T ho w0.heap.size E i z sz bytes hT hi hz h1 h2 hzs hsz _ 0 [] hs (own_empty w0 w0.heap.size E sz (Nat.le_refl _)) ⟨b, off, none⟩ m cap cs hx hl (fun j u hj => ?_) hone hm (by unfold maxLen; omega) hb b0.size _ rfl ?_
  · have hj' := (List.getElem?_eq_some_iff.1 hj).1
    rw [Addr.add_lit, b0.cell (p := ⟨b, off + j, none⟩) hbB, hcell j (by omega), hj]
  · intro g cap' w' hown hgrow _ _
    rw [Nat.zero_add, List.nil_append] at hown
    rw [Nat.zero_add]
    exact h g cap' w' (Lib.hid hown) (Lib.hid (grown_below b0 (own_empty w0 w0.heap.size E sz (Nat.le_refl _)) b0.size hgrow))
theorem infoOM : (Tryz.prog.info? 9).map (fun i => (i.zero, i.size, i.bytes)) = some (some (.string ByteArray.empty), 1, 16) := by kernel_rfl
theorem putStr_one (xs : List ByteArray) : ∀ u ∈ xs.flatMap putStr, u.oneCell' = true := by
  intro u hu
  obtain ⟨x, _, hx⟩ := List.mem_flatMap.1 hu
  obtain rfl : u = .string x := by simpa [putStr] using hx
  rfl
/-- a list of one's own that is not empty: its block -/
theorem own_kid {w : World} {base : Nat} {n : Nat} {v : Value} {E : TypeId} {L : List Value} (h : w.ownsRow base E 1 v n L) (h0 : 0 < n) : ∃ g c V, v = .slice (some ⟨g, 0, none⟩) n c ∧ n ≤ c ∧ c ≤ maxLen ∧ base ≤ g ∧ Own w g E (L ++ V) := by
  rcases own_form h with ⟨_, q⟩ | ⟨g, cap, rfl⟩
  · omega
  obtain ⟨U, ou⟩ := own_block h
  obtain ⟨_, ao, c2, e, h2, h3, _⟩ := own_rd h
  injection e with _ _ e3
  subst e3
  have hb : base ≤ g := (h.lt g rfl).1
  exact ⟨g, cap, U, rfl, h2, h3, hb, ou⟩
set_option maxHeartbeats 4000000 in
theorem spec_l14Own (w : World) (a o : Nat) (id : ByteArray) (ids : List ByteArray) (mass : Int) (v : Value) (c0 : w.cell? ⟨a, o, none⟩ = some (.string id)) (c1 : w.cell? ⟨a, o + 1, none⟩ = some v) (c2 : w.cell? ⟨a, o + 2, none⟩ = some (.int .i64 mass)) (ha : a < w.heap.size)
    (h : Rd w.heap.size w v 1 ids.length (ids.flatMap putStr)) (h0 : 1 ≤ ids.length) (hn : ids.length ≤ 1048576) :
    Calls Tryz.prog 105 #[.pointer (some ⟨a, o, none⟩)] w fun e w' => ∃ g c V, e = .returned (.agg #[.string id, .slice (some ⟨g, 0, none⟩) ids.length c, .int .i64 mass]) ∧ ids.length ≤ c ∧ c ≤ maxLen ∧ w.heap.size ≤ g ∧ Own w' g 9 (ids.flatMap putStr ++ V) ∧ Below w.heap.size w w' := by
  obtain ⟨i0, hi, hz0, hz1, hz2⟩ := info_parts infoOM
  have hR0 : Hid (Own (w.alloc (.cells #[.string ⟨#[]⟩, .slice none 0 0, .int .i64 0] 28)) w.heap.size 28 [.string ⟨#[]⟩, .slice none 0 0, .int .i64 0]) := Lib.hid (Own.new w _ _)
  have HB0 : Hid (Below w.heap.size w (w.alloc (.cells #[.string ⟨#[]⟩, .slice none 0 0, .int .i64 0] 28)).drew) := Lib.hid (((Below.refl _ _).alloc (Nat.le_refl _) _).drew)
  have HR := Lib.hid (h.up ((Below.refl _ w).alloc (Nat.le_refl _) (.cells #[.string ⟨#[]⟩, .slice none 0 0, .int .i64 0] 28)))
  obtain ⟨lo, lc, rfl⟩ := h.form
  have h1 := putStr_one ids
  have mixed : Tryz.prog.follows .mixedOrders = true := by kernel_rfl
  clear h
  go_enter Tryz.func105, Tryz.ntmps105
  go_wp2_with fail
  go_region_law_o (refine sapp_slE rfl _ _ 26 9 rfl i0 (.string ByteArray.empty) 1 16 Tryz.underlying26 hi hz0 hz1 hz2 (by rfl) (by decide) (w.alloc (.cells #[.string ⟨#[]⟩, .slice none 0 0, .int .i64 0] 28)).drew (by simp [Act.eval, Act.put]) _ ids.length (ids.flatMap putStr) (by simp [Act.eval, Act.put]; try rfl) HR.out h1 (by omega) (by omega) (by decide) (by rfl) ?_; intro g cap w1 HO1 HB1; have HBW : Hid (Below w.heap.size w w1) := Lib.hid (HB0.out.trans (HB1.out.mono HB0.out.size)); have R1 : Hid (Own w1 w.heap.size 28 [.string ⟨#[]⟩, .slice none 0 0, .int .i64 0]) := Lib.hid (Own.below (w := (w.alloc (.cells #[.string ⟨#[]⟩, .slice none 0 0, .int .i64 0] 28)).drew) hR0.out HB1.out hR0.out.lt); have d0 := (HBW.out.cell (p := ⟨a, o, none⟩) ha).trans c0; have d1 := (HBW.out.cell (p := ⟨a, o + 1, none⟩) ha).trans c1; have d2 := (HBW.out.cell (p := ⟨a, o + 2, none⟩) ha).trans c2; have q0 : w1.cell? ⟨w.heap.size, 0, none⟩ = some (.string ⟨#[]⟩) := R1.out.cell 0; have q1 : w1.cell? ⟨w.heap.size, 1, none⟩ = some (.slice none 0 0) := R1.out.cell 1; have q2 : w1.cell? ⟨w.heap.size, 2, none⟩ = some (.int .i64 0) := R1.out.cell 2; have f0 := R1.out.free 0; have f1 := R1.out.free 1; have f2 := R1.out.free 2; have hlt := R1.out.lt; have hne : ¬ w.heap.size = w1.heap.size := (by omega))
  all_goals go_wp2_with fail
  all_goals obtain ⟨g', c', V, e1, k2, k3, k4, k5⟩ := own_kid HO1.out (by omega)
  all_goals cases e1
  all_goals have hgs : w.heap.size + 1 ≤ g := by simpa using k4
  all_goals have hb := HBW.out
  all_goals refine bodyPost_ret (v := .agg #[.string id, .slice (some ⟨g, 0, none⟩) ids.length cap, .int .i64 mass]) (by simp [results, Tryz.results105, go_sem, q0, q1, q2, hlt, hne]) rfl ?_
  all_goals exact ⟨g, cap, V, rfl, k2, k3, by omega, ((k5.other (by show w.heap.size ≠ g; omega) _).other (by show w.heap.size ≠ g; omega) _).other (by show w.heap.size ≠ g; omega) _, by (repeat' (first | (with_reducible exact Below.refl _ _) | (with_reducible assumption) | (with_reducible refine below_dn ?_ _) | (with_reducible refine Below.drew ?_) | (with_reducible refine Below.alloc ?_ ?_ _) | (with_reducible refine Below.setCell ?_ ?_ _) | go_size))⟩
end Go.Proofs.YtnbodmbagendnaaGreatDoor
