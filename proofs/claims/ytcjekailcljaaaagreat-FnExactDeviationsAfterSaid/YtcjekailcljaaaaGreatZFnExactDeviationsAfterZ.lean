/- Contracts and plain facts, joined: AppSl, OwnK. -/
import Derived.Test.YtcjekailcljaaaaGreatRows
import Derived.Test.YtcjekailcljaaaaGreatZFnExactDeviationsAfterJ
import Derived.Laws.AppendOwnNone
namespace Go.Proofs.YtcjekailcljaaaaGreat
open Go.ChangeShapes Go.WideShapes Go.ChangeAt Go.RowKit Go.Deep Go.Joins
set_option linter.unusedVariables false
set_option maxRecDepth 100000
set_option linter.unusedSimpArgs false
/-- 'append(s, x...)' of a slice that can be read -/
theorem app_sl {P : Program} {ops : Array Oper} {rest : List Oper} {o : Oper} {a : Act} {Q : Exit → Act → World → Prop} (hgd : o.guard = none) (s x : Operand) (T E : TypeId) (i : TypeInfo) (z : Value) (sz bytes : Nat)
    (hT : P.underlying T = some (.slice E)) (hi : P.info? E = some i) (hz : i.zero = some z) (h1 : i.size = sz) (h2 : i.bytes = bytes) (hzs : z.cells.size = sz) (hsz : 0 < sz)
    (ho : o.op = .call { callee := .builtin .append, args := #[s, x], argTypes := #[T, T] }) (w : World) (base : Nat) (v : Value) (n : Nat) (L : List Value) (hs : a.eval s = v) (hown : w.ownsRow base E sz v n L)
    (xv : Value) (m : Nat) (cs : List Value) (hx : a.eval x = xv) (hr : Rd w.heap.size w xv sz m cs) (hone : ∀ u ∈ cs, u.oneCell' = true) (hn : n + m ≤ 2097152) (hby : bytes ≤ 64) (hbase : base ≤ w.heap.size)
    (h : ∀ ao cap w', w'.ownsRow base E sz (.slice ao (n + m) cap) (n + m) (L ++ cs) → w.grownBy w' v.ownBlock → (∀ W, Below base W w → Below base W w') → wpList P ops Q rest (a.put o.dst (.slice ao (n + m) cap)) w') :
    wpList P ops Q (o :: rest) a w := by
  have hb : (n + m) * bytes ≤ 140737488355328 := by
    have := Nat.mul_le_mul hn hby
    omega
  have fin : ∀ v' w', w'.ownsRow base E sz v' (n + m) (L ++ cs) → w.grownBy w' v.ownBlock → wpList P ops Q rest (a.put o.dst v') w' := fun v' w' hown' hg => by
    obtain ⟨ao, cap, rfl⟩ := (own_rd hown').form
    exact h ao cap w' hown' hg fun W hW => grown_below hW hown hbase hg
  obtain ⟨hl, ao, cap, rfl, hc, hmx, hnil, hsome⟩ := hr
  cases ao with
  | none =>
    obtain ⟨rfl, rfl⟩ := hnil rfl
    have e : cs = [] := List.eq_nil_of_length_eq_zero (by simpa using hl)
    subst e
    refine wpList_append_own_none hgd s x T ho base E i sz hT hi v n L hs hown hx ?_
    exact fin v w (by simpa using hown) (World.grownBy.refl w _)
  | some p =>
    refine wpList_append_own w hgd s x T ho base E i z sz bytes hT hi hz h1 h2 hzs hsz v n L hs hown p m cap cs hx hl ?_ hone (by unfold maxLen; omega) hb hbase (fun v' w' a b _ => fin v' w' a b)
    intro j u hj
    have hj' := (List.getElem?_eq_some_iff.1 hj).1
    have hm : 0 < m := by
      rcases Nat.eq_zero_or_pos m with h0 | h0
      · have h00 : cs.length = 0 := by rw [hl, h0, Nat.zero_mul]
        omega
      · exact h0
    obtain ⟨b, off, e, _, hcell⟩ := hsome hm
    cases e
    have hadd : (⟨b, off, none⟩ : Addr).add j = ⟨b, off + j, none⟩ := by unfold Addr.add; split <;> simp_all
    rw [hadd, hcell j (by rw [← hl]; exact hj'), hj]
/-- what is owned and lies apart from the slice that an append may have written -/
theorem own_apart {w w' : World} {base base' : Nat} {E E' : TypeId} {s s' n n' : Nat} {v v' : Value} {L L' : List Value} (h : w.ownsRow base E s v n L) (k : w.ownsRow base' E' s' v' n' L') (hlt : ∀ g, v.ownBlock = some g → g < base') (hg : w.grownBy w' v'.ownBlock) : w'.ownsRow base E s v n L := by
  refine h.kept hg ?_
  cases e : v.ownBlock with
  | none => exact .inl rfl
  | some g =>
    right
    intro e2
    have h1 := hlt g e
    have h2 := (k.lt g e2.symm).1
    omega
/-- a slice's first j elements -/
theorem Rd.takeS {B : Nat} {w : World} {ao : Option Addr} {n cap s j : Nat} {L : List Value} (h : Rd B w (.slice ao n cap) s n L) (hj : j ≤ n) : Rd B w (.slice ao j cap) s j (L.take (j * s)) := by
  obtain ⟨hL, ao', cap', e, hcap, hmax, hnil, hsome⟩ := h
  obtain ⟨rfl, rfl⟩ : ao = ao' ∧ cap = cap' := by cases e; exact ⟨rfl, rfl⟩
  have hm : j * s ≤ n * s := Nat.mul_le_mul_right s hj
  refine ⟨by rw [List.length_take]; omega, ao, cap, rfl, by omega, hmax, fun h0 => ⟨by have := (hnil h0).1; omega, (hnil h0).2⟩, fun h0 => ?_⟩
  obtain ⟨b, off, e1, hb, hc⟩ := hsome (by omega)
  exact ⟨b, off, e1, hb, fun i hi => by rw [hc i (by omega), List.getElem?_take_of_lt hi]⟩
/-- a slice's elements from the jth on -/
theorem Rd.dropS {B : Nat} {w : World} {b off n cap s j : Nat} {L : List Value} (h : Rd B w (.slice (some ⟨b, off, none⟩) n cap) s n L) (hj : j ≤ n) : Rd B w (.slice (some ⟨b, off + j * s, none⟩) (n - j) (cap - j)) s (n - j) (L.drop (j * s)) := by
  obtain ⟨hL, ao', cap', e, hcap, hmax, hnil, hsome⟩ := h
  obtain ⟨rfl, rfl⟩ : some ⟨b, off, none⟩ = ao' ∧ cap = cap' := by cases e; exact ⟨rfl, rfl⟩
  have hm : j * s ≤ n * s := Nat.mul_le_mul_right s hj
  refine ⟨by rw [List.length_drop, hL, Nat.sub_mul], _, _, rfl, by omega, by omega, (fun h0 => by cases h0), fun h0 => ?_⟩
  obtain ⟨b', off', e1, hb, hc⟩ := hsome (by omega)
  cases e1
  refine ⟨b, off + j * s, rfl, hb, fun i hi => ?_⟩
  rw [Nat.sub_mul] at hi
  rw [Nat.add_assoc, hc (j * s + i) (by omega), List.getElem?_drop]
theorem own_form {w : World} {base : Nat} {E : TypeId} {s n : Nat} {v : Value} {L : List Value} (h : w.ownsRow base E s v n L) : (v = .slice none 0 0 ∧ n = 0) ∨ ∃ g cap, v = .slice (some ⟨g, 0, none⟩) n cap := by
  obtain ⟨h1, h2⟩ := h
  rcases h2 with ⟨rfl, rfl⟩ | ⟨g, cap, cur, rfl, rest⟩
  · exact .inl ⟨rfl, rfl⟩
  · exact .inr ⟨g, cap, rfl⟩
/-- 'append([]T{}, x...)' -/
theorem app_slE {P : Program} {ops : Array Oper} {rest : List Oper} {o : Oper} {a : Act} {Q : Exit → Act → World → Prop} (hgd : o.guard = none) (s x : Operand) (T E : TypeId) (i : TypeInfo) (z : Value) (sz bytes : Nat)
    (hT : P.underlying T = some (.slice E)) (hi : P.info? E = some i) (hz : i.zero = some z) (h1 : i.size = sz) (h2 : i.bytes = bytes) (hzs : z.cells.size = sz) (hsz : 0 < sz)
    (ho : o.op = .call { callee := .builtin .append, args := #[s, x], argTypes := #[T, T] }) (w : World) (hs : a.eval s = .slice (some ⟨w.heap.size, 0, none⟩) 0 0)
    (xv : Value) (m : Nat) (cs : List Value) (hx : a.eval x = xv) (hr : Rd w.heap.size w xv sz m cs) (hone : ∀ u ∈ cs, u.oneCell' = true) (hn : m ≤ 2097152) (hby : bytes ≤ 64)
    (h : ∀ ao cap w', w'.ownsRow w.heap.size E sz (.slice ao m cap) m cs → Below w.heap.size w w' → wpList P ops Q rest (a.put o.dst (.slice ao m cap)) w') :
    wpList P ops Q (o :: rest) a (w.alloc (.cells #[] E)) := by
  have b0 : Below w.heap.size w (w.alloc (.cells #[] E)) := (Below.refl _ w).alloc (Nat.le_refl _) _
  refine app_sl hgd s x T E i z sz bytes hT hi hz h1 h2 hzs hsz ho _ w.heap.size _ 0 [] hs (own_empty w w.heap.size E sz (Nat.le_refl _)) xv m cs hx (hr.up b0) hone (by omega) hby b0.size ?_
  intro ao cap w' hown _ hB
  rw [Nat.zero_add, List.nil_append] at hown
  rw [Nat.zero_add]
  exact h ao cap w' hown (hB w b0)
theorem Rd.takeX {B : Nat} {w : World} {ao : Option Addr} {n cap s j n' : Nat} {L : List Value} (h : Rd B w (.slice ao n cap) s n L) (hj : j ≤ n) (e : n' = j) : Rd B w (.slice ao n' cap) s j (L.take (j * s)) := by
  subst e; exact h.takeS hj
theorem Rd.dropX {B : Nat} {w : World} {b off o' n' c' n cap s j : Nat} {L : List Value} (h : Rd B w (.slice (some ⟨b, off, none⟩) n cap) s n L) (hj : j ≤ n) (e1 : o' = off + j * s) (e2 : n' = n - j) (e3 : c' = cap - j) :
    Rd B w (.slice (some ⟨b, o', none⟩) n' c') s (n - j) (L.drop (j * s)) := by
  subst e1; subst e2; subst e3; exact h.dropS hj
/-- .. if none are left -/
theorem Rd.dropZ {B : Nat} {w : World} {v : Value} {b o' n' c' n s j : Nat} {L : List Value} (h : Rd B w v s n L) (hj : j = n) (e2 : n' = 0) (e3 : c' ≤ maxLen) :
    Rd B w (.slice (some ⟨b, o', none⟩) n' c') s (n - j) (L.drop (j * s)) := by
  subst hj; subst e2
  have e : L.drop (j * s) = [] := List.drop_eq_nil_of_le (by rw [h.1]; exact Nat.le_refl _)
  rw [e, Nat.sub_self]
  exact ⟨by simp, _, _, rfl, Nat.zero_le _, e3, (fun h0 => by cases h0), fun h0 => by omega⟩
theorem Rd.dropN {B : Nat} {w : World} {v : Value} {n' c' n s j : Nat} {L : List Value} (h : Rd B w v s n L) (hn : n = 0) (e2 : n' = 0) (e3 : c' = 0) :
    Rd B w (.slice none n' c') s (n - j) (L.drop (j * s)) := by
  subst hn; subst e2; subst e3
  have e : L = [] := List.eq_nil_of_length_eq_zero (by rw [h.1]; simp)
  rw [e, Nat.zero_sub, List.drop_nil]
  exact ⟨by simp, none, 0, rfl, Nat.le_refl _, Nat.zero_le _, fun _ => ⟨rfl, rfl⟩, fun h0 => by omega⟩
/-- .. as the walk spells it -/
theorem Rd.dropI {B : Nat} {w : World} {b off o' o'' n' c' n cap s j : Nat} {L : List Value} [Decidable (cap = j)] (h : Rd B w (.slice (some ⟨b, off, none⟩) n cap) s n L) (hj : j ≤ n) (e1 : o' = off + j * s) (e2 : n' = n - j) (e3 : c' = cap - j) :
    Rd B w (.slice (if cap = j then some ⟨b, o'', none⟩ else some ⟨b, o', none⟩) n' c') s (n - j) (L.drop (j * s)) := by
  split
  · rename_i hc
    have h4 : n ≤ cap ∧ cap ≤ maxLen := by
      obtain ⟨_, ao', cap', e, h1, h2, _⟩ := h
      injection e with q1 q2 q3
      subst q3
      exact ⟨h1, h2⟩
    exact h.dropZ (by omega) (by omega) (by omega)
  · exact h.dropX hj e1 e2 e3
end Go.Proofs.YtcjekailcljaaaaGreat
namespace Go.Proofs.YtcjekailcljaaaaGreat
open Go.ChangeShapes Go.WideShapes Go.ChangeAt Go.RowKit Go.Deep Go.Joins
set_option linter.unusedVariables false
set_option maxRecDepth 100000
set_option linter.unusedSimpArgs false
theorem own_block {w : World} {base g cap n s : Nat} {E : TypeId} {L : List Value} (h : w.ownsRow base E s (.slice (some ⟨g, 0, none⟩) n cap) n L) : ∃ U, Own w g E (L ++ U) := by
  obtain ⟨h1, h2⟩ := h
  rcases h2 with ⟨e, _⟩ | ⟨g', cap', cur, e, hb, hg, hn, hm, hs, ht⟩
  · cases e
  · injection e with q1 q2 q3
    injection q1 with q4
    injection q4 with q5
    subst q5
    refine ⟨cur.toList.drop (n * s), ?_⟩
    rw [← ht, List.take_append_drop]
    unfold Own
    simpa using hg
/-- blocks of two types are two blocks -/
theorem own_apart_type {w : World} {base s n g : Nat} {E E' : TypeId} {v : Value} {L L' : List Value} (h : w.ownsRow base E s v n L) (o : Own w g E' L') (hne : E ≠ E') : ∀ g', v.ownBlock = some g' → g' ≠ g := by
  rintro g' hg rfl
  obtain ⟨h1, h2⟩ := h
  rcases h2 with ⟨rfl, _⟩ | ⟨g2, cap, cur, rfl, hb, hg2, rest⟩
  · cases hg
  · obtain rfl : g2 = g' := by injection hg
    unfold Own at o
    rw [hg2] at o
    injection o with o
    injection o with _ q _
    exact hne q
theorem own_rdU {w : World} {g n : Nat} {E : TypeId} {L U : List Value} (h : Own w g E (L ++ U)) (hl : L.length = n * 1) (k : Nat) (hk : k < n) : w.cell? ⟨g, k, none⟩ = L[k]? := by
  rw [h.cell, List.getElem?_append_left (by omega)]
theorem dash_list : (⟨#[45]⟩ : ByteArray).toList = [45] := by rw [ByteArray.toList_eq]
theorem two_of {α : Type} {l : List α} (h : l.length = 2) : ∃ a b, l = [a, b] := by
  match l, h with
  | [a, b], _ => exact ⟨a, b, rfl⟩
end Go.Proofs.YtcjekailcljaaaaGreat
