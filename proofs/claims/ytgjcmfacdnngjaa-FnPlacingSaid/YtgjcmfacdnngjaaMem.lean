/- Memory that a call makes: a block known whole. -/
import Derived.Test.YtgjcmfacdnngjaaRows
import Derived.Test.YtgjcmfacdnngjaaOpn
namespace Go.Proofs.Ytgjcmfacdnngjaa
open Go.ChangeShapes Go.WideShapes Go.ChangeAt Go.RowKit Go.Deep Go.Joins
set_option linter.unusedVariables false
set_option maxRecDepth 100000
set_option linter.unusedSimpArgs false
theorem le_sum_of {l : List Nat} {n : Nat} (h : n ∈ l) : n ≤ l.sum := by
  induction l with
  | nil => cases h
  | cons a l ih =>
    simp only [List.sum_cons]
    cases h with
    | head => omega
    | tail _ h => have := ih h; omega

/-- what is left of a bound behind n values, or -1 -/
def szR (left : Int) (n : Nat) : Int := if (n : Int) ≤ left then left - n else -1

/-- block g holds just the cells L, none of them frozen -/
def Own (w : World) (g : Nat) (E : TypeId) (L : List Value) : Prop := w.heap[g]? = some (.cells L.toArray E (0, 0))

section
variable {w w' : World} {g : Nat} {E : TypeId} {L : List Value}
theorem Own.lt (h : Own w g E L) : g < w.heap.size := (Array.getElem?_eq_some_iff.1 h).1
theorem Own.cell (h : Own w g E L) (i : Nat) : w.cell? ⟨g, i, none⟩ = L[i]? := by
  unfold Own at h
  simp [World.cell?, h]
theorem Own.free (h : Own w g E L) (i : Nat) : w.frozen? ⟨g, i, none⟩ = false := by
  unfold Own at h
  simp [World.frozen?, h]
theorem Own.below {B : Nat} (h : Own w g E L) (hb : Below B w w') (hg : g < B) : Own w' g E L := (hb.block g hg).trans h
theorem Own.dn (h : Own w g E L) (n : Nat) : Own (w.drewN n) g E L := h
theorem Own.drew (h : Own w g E L) (hd : Drew w w') : Own w' g E L := by
  obtain ⟨n, rfl⟩ := hd
  exact h
theorem Own.alloc (h : Own w g E L) (o : Obj) : Own (w.alloc o) g E L := (Below.heap_alloc w o g h.lt).trans h
theorem Own.new (w : World) (E : TypeId) (L : List Value) : Own (w.alloc (.cells L.toArray E)) w.heap.size E L := by
  show (w.heap.push _)[w.heap.size]? = _
  simp
theorem Own.newAt {w : World} {n : Nat} (E : TypeId) (L : List Value) (h : w.heap.size = n) : Own (w.alloc (.cells L.toArray E)) n E L := by
  subst h; exact Own.new w E L
theorem Own.set (h : Own w g E L) (i : Nat) (v : Value) : Own (w.setCell ⟨g, i, none⟩ v) g E (L.set i v) := by
  unfold Own at *
  simp [World.setCell, Array.getElem?_modify, h]
theorem Own.other (h : Own w g E L) {a : Addr} (ha : a.block ≠ g) (v : Value) : Own (w.setCell a v) g E L := (Below.heap_setCell w a v g (Ne.symm ha)).trans h
theorem Own.rd {B s n : Nat} (h : Own w g E L) (hg : g < B) (hL : L.length = n * s) (hn : n ≤ maxLen) (cap : Nat) (hc : n ≤ cap) (hc2 : cap ≤ maxLen) : Rd B w (.slice (some ⟨g, 0, none⟩) n cap) s n L := by
  refine ⟨hL, some ⟨g, 0, none⟩, cap, rfl, hc, hc2, (fun h => by cases h), fun _ => ⟨g, 0, rfl, hg, fun i _ => ?_⟩⟩
  rw [Nat.zero_add]; exact h.cell i
end

theorem made_len (z : Array Value) (n : Nat) : (madeCells z n).toList.length = n := by simp [size_madeCells]

/-- 'make([]T, n)': the new block known whole -/
theorem wpList_make_blk {P : Program} (w : World) {ops : Array Oper} {rest : List Oper} {o : Oper} {a : Act} {Q : Exit → Act → World → Prop}
    (hg : o.guard = none) (l c : Operand) (t : TypeId) (hop : o.op = Op.makeSlice t l c)
    (e : TypeId) (i : TypeInfo) (z : Value) (size bytes : Nat) (h1 : P.underlying t = some (.slice e)) (h2 : P.info? e = some i) (h3 : i.zero = some z) (h4 : i.size = size) (h5 : i.bytes = bytes)
    (kl kc : IntKind) (L C : Int) (n : Nat) (hl : a.eval l = .int kl L) (hc : a.eval c = .int kc C) (hL : L = (n : Int)) (hC : C = (n : Int)) (b2 : bytes * n ≤ 281474976710656) (b3 : n ≤ maxLen)
    (hK : ∀ w', Own w' w.heap.size e (madeCells z.cells (n * size)).toList → Below w.heap.size w w' → w.heap.size < w'.heap.size → wpList P ops Q rest (a.put o.dst (.slice (some ⟨w.heap.size, 0, none⟩) n n)) w') :
    wpList P ops Q (o :: rest) a w := by
  subst hL; subst hC; subst h4; subst h5
  refine wpList_plain hg fun K hK' => ?_
  have h63 : (n : Int) ≤ 9223372036854775807 := by
    unfold maxLen at b3
    omega
  have hb' : (i.bytes : Int) * (n : Int) ≤ 281474976710656 := by
    have : ((i.bytes * n : Nat) : Int) ≤ 281474976710656 := by omega
    simpa using this
  have hrun := run_make (P := P) w t e i z h1 h2 h3 kl kc n n (by omega) (by omega) hb' h63
  simp only [Int.toNat_natCast] at hrun
  have hx : (execOp a.eval o).run P w = .ok (.value (.slice (some ⟨w.heap.size, 0, none⟩) n n)) (w.alloc (.cells (madeCells z.cells (n * i.size)) e)) := by
    simp [execOp, hop, hl, hc, hrun]
  unfold Oper.wp
  rw [hx]
  refine hK' _ _ (hK _ ?_ ?_ ?_)
  · have := Own.new w e (madeCells z.cells (n * i.size)).toList
    simpa using this
  · exact (Below.refl _ _).alloc (Nat.le_refl _) _
  · simp

theorem set2 (A U : List Value) (t0 t1 v0 v1 : Value) (i : Nat) (hA : A.length = i) : (((A ++ t0 :: t1 :: U).set (i) v0).set (i + 1) v1) = (A ++ [v0, v1]) ++ U := by
  subst hA
  simp [List.set_append]
theorem cons2 {U : List Value} {n : Nat} (h : U.length = n) (hn : 2 ≤ n) : ∃ t0 t1 U', U = t0 :: t1 :: U' ∧ U'.length = n - 2 := by
  match U, h with
  | t0 :: t1 :: U', h => exact ⟨t0, t1, U', rfl, by simp at h; omega⟩
  | [], h => simp at h; omega
  | [_], h => simp at h; omega

theorem set3 (A U : List Value) (t0 t1 t2 v0 v1 v2 : Value) (i : Nat) (hA : A.length = i) : ((((A ++ t0 :: t1 :: t2 :: U).set (i) v0).set (i + 1) v1).set (i + 2) v2) = (A ++ [v0, v1, v2]) ++ U := by
  subst hA
  simp [List.set_append]
theorem cons3 {U : List Value} {n : Nat} (h : U.length = n) (hn : 3 ≤ n) : ∃ t0 t1 t2 U', U = t0 :: t1 :: t2 :: U' ∧ U'.length = n - 3 := by
  match U, h with
  | t0 :: t1 :: t2 :: U', h => exact ⟨t0, t1, t2, U', rfl, by simp at h; omega⟩
  | [], h => simp at h; omega
  | [_], h => simp at h; omega
  | [_, _], h => simp at h; omega

theorem set5 (A U : List Value) (t0 t1 t2 t3 t4 v0 v1 v2 v3 v4 : Value) (i : Nat) (hA : A.length = i) : ((((((A ++ t0 :: t1 :: t2 :: t3 :: t4 :: U).set (i) v0).set (i + 1) v1).set (i + 2) v2).set (i + 3) v3).set (i + 4) v4) = (A ++ [v0, v1, v2, v3, v4]) ++ U := by
  subst hA
  simp [List.set_append]
theorem cons5 {U : List Value} {n : Nat} (h : U.length = n) (hn : 5 ≤ n) : ∃ t0 t1 t2 t3 t4 U', U = t0 :: t1 :: t2 :: t3 :: t4 :: U' ∧ U'.length = n - 5 := by
  match U, h with
  | t0 :: t1 :: t2 :: t3 :: t4 :: U', h => exact ⟨t0, t1, t2, t3, t4, U', rfl, by simp at h; omega⟩
  | [], h => simp at h; omega
  | [_], h => simp at h; omega
  | [_, _], h => simp at h; omega
  | [_, _, _], h => simp at h; omega
  | [_, _, _, _], h => simp at h; omega
end Go.Proofs.Ytgjcmfacdnngjaa
