/- Contracts and plain facts, joined: Opn, Mem, Law, MarkT, Acc. -/
import Derived.Test.YtnbodmbagendnaaGreatDoorRows
import Derived.Test.YtnbodmbagendnaaGreatDoorZFnMeltsA
import Derived.Laws.IdiomStrings
import Derived.Deep.AppendLies
import Derived.Deep.LoopGhost
namespace Go.Proofs.YtnbodmbagendnaaGreatDoor
open Go.ChangeShapes Go.WideShapes Go.ChangeAt Go.RowKit Go.Deep Go.Joins
set_option linter.unusedVariables false
set_option maxRecDepth 100000
set_option linter.unusedSimpArgs false
theorem cells_i64 : Tryz.prog.cellsOf 2 = 1 := by kernel_rfl
theorem one_i64 {f : Field} (k : Nat) (h : f.type = 2) (ho : f.offset = k) : One Tryz.prog f k (.int .i64) := ⟨by rw [h]; exact Tryz.underlying2, by rw [h]; exact cells_i64, ho⟩
theorem cells_str : Tryz.prog.cellsOf 9 = 1 := by kernel_rfl
theorem one_str {f : Field} (k : Nat) (h : f.type = 9) (ho : f.offset = k) : One Tryz.prog f k .string := ⟨by rw [h]; exact Tryz.underlying9, by rw [h]; exact cells_str, ho⟩

theorem open_Bytes : Opens Tryz.prog 22 (Value × List UInt8) (fun y => [y.1]) (fun W y => Rd W.heap.size W y.1 1 y.2.length (y.2.flatMap fun n => [.int .u8 n.toNat]) ∧ y.2.length ≤ maxLen ∧ ∀ x ∈ y.2, True) :=
  opens_slice Tryz.underlying22 (by kernel_rfl) (by decide) (opens_u8 Tryz.underlying5) (fun _ => rfl)
theorem open_Ints : Opens Tryz.prog 71 (Value × List Int) (fun y => [y.1]) (fun W y => Rd W.heap.size W y.1 1 y.2.length (y.2.flatMap fun n => [.int .i64 n]) ∧ y.2.length ≤ maxLen ∧ ∀ x ∈ y.2, I64 x) :=
  opens_slice Tryz.underlying71 (by kernel_rfl) (by decide) (opens_i64 Tryz.underlying2) (fun _ => rfl)
end Go.Proofs.YtnbodmbagendnaaGreatDoor
namespace Go.Proofs.YtnbodmbagendnaaGreatDoor
open Go.ChangeShapes Go.WideShapes Go.ChangeAt Go.RowKit Go.Deep Go.Joins
set_option linter.unusedVariables false
set_option maxRecDepth 100000
set_option linter.unusedSimpArgs false
theorem le_sum_of {l : List Nat} {n : Nat} (h : n ∈ l) : n ≤ l.sum := by
  induction l with
  | nil => cases h
  | cons a l ih =>
    simp only [List.sum_cons]
    cases h with
    | head => omega
    | tail _ h => have := ih h; omega

/-- what is left of a bound behind n values, or -1 -/
def szR (left : Int) (n : Nat) : Int := if (n : Int) ≤ left then left - n else -1

/-- block g holds just the cells L, none of them frozen -/
def Own (w : World) (g : Nat) (E : TypeId) (L : List Value) : Prop := w.heap[g]? = some (.cells L.toArray E (0, 0))

section
variable {w w' : World} {g : Nat} {E : TypeId} {L : List Value}
theorem Own.lt (h : Own w g E L) : g < w.heap.size := (Array.getElem?_eq_some_iff.1 h).1
theorem Own.cell (h : Own w g E L) (i : Nat) : w.cell? ⟨g, i, none⟩ = L[i]? := by
  unfold Own at h
  simp [World.cell?, h]
theorem Own.free (h : Own w g E L) (i : Nat) : w.frozen? ⟨g, i, none⟩ = false := by
  unfold Own at h
  simp [World.frozen?, h]
theorem Own.below {B : Nat} (h : Own w g E L) (hb : Below B w w') (hg : g < B) : Own w' g E L := (hb.block g hg).trans h
theorem Own.dn (h : Own w g E L) (n : Nat) : Own (w.drewN n) g E L := h
theorem Own.drew (h : Own w g E L) (hd : Drew w w') : Own w' g E L := by
  obtain ⟨n, rfl⟩ := hd
  exact h
theorem Own.alloc (h : Own w g E L) (o : Obj) : Own (w.alloc o) g E L := (Below.heap_alloc w o g h.lt).trans h
theorem Own.new (w : World) (E : TypeId) (L : List Value) : Own (w.alloc (.cells L.toArray E)) w.heap.size E L := by
  show (w.heap.push _)[w.heap.size]? = _
  simp
theorem Own.newAt {w : World} {n : Nat} (E : TypeId) (L : List Value) (h : w.heap.size = n) : Own (w.alloc (.cells L.toArray E)) n E L := by
  subst h; exact Own.new w E L
theorem Own.set (h : Own w g E L) (i : Nat) (v : Value) : Own (w.setCell ⟨g, i, none⟩ v) g E (L.set i v) := by
  unfold Own at *
  simp [World.setCell, Array.getElem?_modify, h]
theorem Own.other (h : Own w g E L) {a : Addr} (ha : a.block ≠ g) (v : Value) : Own (w.setCell a v) g E L := (Below.heap_setCell w a v g (Ne.symm ha)).trans h
theorem Own.rd {B s n : Nat} (h : Own w g E L) (hg : g < B) (hL : L.length = n * s) (hn : n ≤ maxLen) (cap : Nat) (hc : n ≤ cap) (hc2 : cap ≤ maxLen) : Rd B w (.slice (some ⟨g, 0, none⟩) n cap) s n L := by
  refine ⟨hL, some ⟨g, 0, none⟩, cap, rfl, hc, hc2, (fun h => by cases h), fun _ => ⟨g, 0, rfl, hg, fun i _ => ?_⟩⟩
  rw [Nat.zero_add]; exact h.cell i
end

theorem made_len (z : Array Value) (n : Nat) : (madeCells z n).toList.length = n := by simp [size_madeCells]

/-- 'make([]T, n)': the new block known whole -/
theorem wpList_make_blk {P : Program} (w : World) {ops : Array Oper} {rest : List Oper} {o : Oper} {a : Act} {Q : Exit → Act → World → Prop}
    (hg : o.guard = none) (l c : Operand) (t : TypeId) (hop : o.op = Op.makeSlice t l c)
    (e : TypeId) (i : TypeInfo) (z : Value) (size bytes : Nat) (h1 : P.underlying t = some (.slice e)) (h2 : P.info? e = some i) (h3 : i.zero = some z) (h4 : i.size = size) (h5 : i.bytes = bytes)
    (kl kc : IntKind) (L C : Int) (n : Nat) (hl : a.eval l = .int kl L) (hc : a.eval c = .int kc C) (hL : L = (n : Int)) (hC : C = (n : Int)) (b2 : bytes * n ≤ 281474976710656) (b3 : n ≤ maxLen)
    (hK : ∀ w', Own w' w.heap.size e (madeCells z.cells (n * size)).toList → Below w.heap.size w w' → w.heap.size < w'.heap.size → wpList P ops Q rest (a.put o.dst (.slice (some ⟨w.heap.size, 0, none⟩) n n)) w') :
    wpList P ops Q (o :: rest) a w := by
  subst hL; subst hC; subst h4; subst h5
  refine wpList_plain hg fun K hK' => ?_
  have h63 : (n : Int) ≤ 9223372036854775807 := by
    unfold maxLen at b3
    omega
  have hb' : (i.bytes : Int) * (n : Int) ≤ 281474976710656 := by
    have : ((i.bytes * n : Nat) : Int) ≤ 281474976710656 := by omega
    simpa using this
  have hrun := run_make (P := P) w t e i z h1 h2 h3 kl kc n n (by omega) (by omega) hb' h63
  simp only [Int.toNat_natCast] at hrun
  have hx : (execOp a.eval o).run P w = .ok (.value (.slice (some ⟨w.heap.size, 0, none⟩) n n)) (w.alloc (.cells (madeCells z.cells (n * i.size)) e)) := by
    simp [execOp, hop, hl, hc, hrun]
  unfold Oper.wp
  rw [hx]
  refine hK' _ _ (hK _ ?_ ?_ ?_)
  · have := Own.new w e (madeCells z.cells (n * i.size)).toList
    simpa using this
  · exact (Below.refl _ _).alloc (Nat.le_refl _) _
  · simp

theorem set2 (A U : List Value) (t0 t1 v0 v1 : Value) (i : Nat) (hA : A.length = i) : (((A ++ t0 :: t1 :: U).set (i) v0).set (i + 1) v1) = (A ++ [v0, v1]) ++ U := by
  subst hA
  simp [List.set_append]
theorem cons2 {U : List Value} {n : Nat} (h : U.length = n) (hn : 2 ≤ n) : ∃ t0 t1 U', U = t0 :: t1 :: U' ∧ U'.length = n - 2 := by
  match U, h with
  | t0 :: t1 :: U', h => exact ⟨t0, t1, U', rfl, by simp at h; omega⟩
  | [], h => simp at h; omega
  | [_], h => simp at h; omega

theorem set3 (A U : List Value) (t0 t1 t2 v0 v1 v2 : Value) (i : Nat) (hA : A.length = i) : ((((A ++ t0 :: t1 :: t2 :: U).set (i) v0).set (i + 1) v1).set (i + 2) v2) = (A ++ [v0, v1, v2]) ++ U := by
  subst hA
  simp [List.set_append]
theorem cons3 {U : List Value} {n : Nat} (h : U.length = n) (hn : 3 ≤ n) : ∃ t0 t1 t2 U', U = t0 :: t1 :: t2 :: U' ∧ U'.length = n - 3 := by
  match U, h with
  | t0 :: t1 :: t2 :: U', h => exact ⟨t0, t1, t2, U', rfl, by simp at h; omega⟩
  | [], h => simp at h; omega
  | [_], h => simp at h; omega
  | [_, _], h => simp at h; omega

theorem set5 (A U : List Value) (t0 t1 t2 t3 t4 v0 v1 v2 v3 v4 : Value) (i : Nat) (hA : A.length = i) : ((((((A ++ t0 :: t1 :: t2 :: t3 :: t4 :: U).set (i) v0).set (i + 1) v1).set (i + 2) v2).set (i + 3) v3).set (i + 4) v4) = (A ++ [v0, v1, v2, v3, v4]) ++ U := by
  subst hA
  simp [List.set_append]
theorem cons5 {U : List Value} {n : Nat} (h : U.length = n) (hn : 5 ≤ n) : ∃ t0 t1 t2 t3 t4 U', U = t0 :: t1 :: t2 :: t3 :: t4 :: U' ∧ U'.length = n - 5 := by
  match U, h with
  | t0 :: t1 :: t2 :: t3 :: t4 :: U', h => exact ⟨t0, t1, t2, t3, t4, U', rfl, by simp at h; omega⟩
  | [], h => simp at h; omega
  | [_], h => simp at h; omega
  | [_, _], h => simp at h; omega
  | [_, _, _], h => simp at h; omega
  | [_, _, _, _], h => simp at h; omega
end Go.Proofs.YtnbodmbagendnaaGreatDoor
namespace Go.Proofs.YtnbodmbagendnaaGreatDoor
open Go.ChangeShapes Go.WideShapes Go.ChangeAt Go.RowKit Go.Deep Go.Joins
set_option linter.unusedVariables false
set_option maxRecDepth 100000
set_option linter.unusedSimpArgs false
theorem toB {P : Program} {f : FuncId} {args : Array Value} {w : World} {v : Value} (h : Calls P f args w fun e w' => e = .returned v ∧ w = w') :
    Calls P f args w fun e w' => e = .returned v ∧ Below w.heap.size w w' := h.mono fun _ _ ⟨he, hw⟩ => ⟨he, hw ▸ Below.refl _ _⟩
theorem dB {P : Program} {f : FuncId} {args : Array Value} {w : World} {v : Value} (h : Calls P f args w fun e w' => e = .returned v ∧ Drew w w') :
    Calls P f args w fun e w' => e = .returned v ∧ Below w.heap.size w w' := h.mono fun _ _ ⟨he, hw⟩ => ⟨he, hw.below⟩
theorem Own.drew1 {w : World} {g : Nat} {E : TypeId} {L : List Value} (h : Own w g E L) : Own w.drew g E L := h
end Go.Proofs.YtnbodmbagendnaaGreatDoor
namespace Go.Proofs.YtnbodmbagendnaaGreatDoor
open Go.ChangeShapes Go.WideShapes Go.ChangeAt Go.RowKit Go.Deep Go.Joins
set_option linter.unusedVariables false
set_option maxRecDepth 100000
set_option linter.unusedSimpArgs false
def digB (k : Nat) : ByteArray := ⟨#[UInt8.ofNat (48 + k % 10)]⟩
theorem digB_size (k : Nat) : (digB k).size = 1 := rfl
/-- the digits of k ahead of out -/
def mkT : Nat → Nat → ByteArray → ByteArray
  | 0, _, out => out
  | f + 1, k, out => if k = 0 then out else mkT f (k / 10) (digB k ++ out)
def markT (k : Nat) : ByteArray := ⟨#[109]⟩ ++ mkT k k ⟨#[]⟩
theorem byte_str (W : World) (x : Nat) (hx : x < 256) : (convert 22 9 (.slice (some ⟨W.heap.size, 0, none⟩) 1 1)).run Tryz.prog (W.alloc (.cells #[.int .u8 (x : Int)] 5)) = .ok (.string ⟨#[UInt8.ofNat x]⟩) (W.alloc (.cells #[.int .u8 (x : Int)] 5)) := by
  have h := run_convert_bytes_back (P := Tryz.prog) (W.alloc (.cells #[.int .u8 (x : Int)] 5)) 22 9 5 ⟨W.heap.size, 0, none⟩ 1 [UInt8.ofNat x] Tryz.underlying22 Tryz.underlying5 Tryz.underlying9 (fun j hj => by
    have : j = 0 := by simpa using hj
    subst this
    rw [show (Addr.add ⟨W.heap.size, 0, none⟩ 0) = (⟨W.heap.size, 0, none⟩ : Addr) from rfl]
    have hc := (Own.new W 5 [.int .u8 (x : Int)]).cell 0
    rw [show ([Value.int .u8 (x : Int)] : List Value).toArray = #[.int .u8 (x : Int)] from rfl] at hc
    rw [hc]
    have : (UInt8.ofNat x).toNat = x := by rw [UInt8.toNat_ofNat']; omega
    simp [this])
  simpa using h

theorem byte_str' (W : World) (x : Int) (j : Nat) (h : x = ((48 + j % 10 : Nat) : Int)) : (convert 22 9 (.slice (some ⟨W.heap.size, 0, none⟩) 1 1)).run Tryz.prog (W.alloc (.cells #[.int .u8 x] 5)) = .ok (.string (digB j)) (W.alloc (.cells #[.int .u8 x] 5)) := by
  subst h; exact byte_str W _ (by omega)
end Go.Proofs.YtnbodmbagendnaaGreatDoor
namespace Go.Proofs.YtnbodmbagendnaaGreatDoor
open Go.ChangeShapes Go.WideShapes Go.ChangeAt Go.RowKit Go.Deep Go.Joins
set_option linter.unusedVariables false
set_option maxRecDepth 100000
set_option linter.unusedSimpArgs false
/-- block g of the call's own, or nil: reads as the cells L -/
theorem own_rd {w : World} {base : Nat} {E : TypeId} {s n : Nat} {v : Value} {L : List Value} (h : w.ownsRow base E s v n L) : Rd w.heap.size w v s n L := by
  obtain ⟨h1, h2⟩ := h
  rcases h2 with ⟨rfl, rfl⟩ | ⟨g, cap, cur, rfl, hb, hg, hn, hm, hs, ht⟩
  · have : L = [] := List.eq_nil_of_length_eq_zero (by simpa using h1)
    subst this
    exact ⟨by simp, none, 0, rfl, Nat.le_refl _, Nat.zero_le _, fun _ => ⟨rfl, rfl⟩, fun h => by omega⟩
  · refine ⟨h1, _, cap, rfl, hn, hm, (fun h => by cases h), fun _ => ⟨g, 0, rfl, (Array.getElem?_eq_some_iff.1 hg).1, fun i hi => ?_⟩⟩
    rw [← ht, List.getElem?_take_of_lt hi, Nat.zero_add]
    simp [World.cell?, hg]
theorem own_below {w w' : World} {B base : Nat} {E : TypeId} {s n : Nat} {v : Value} {L : List Value} (h : w.ownsRow base E s v n L) (hb : Below B w w') (hB : w.heap.size ≤ B) : w'.ownsRow base E s v n L := by
  obtain ⟨h1, h2⟩ := h
  refine ⟨h1, ?_⟩
  rcases h2 with h2 | ⟨g, cap, cur, rfl, hg0, hg, rest⟩
  · exact .inl h2
  · exact .inr ⟨g, cap, cur, rfl, hg0, (hb.block g (Nat.lt_of_lt_of_le (Array.getElem?_eq_some_iff.1 hg).1 hB)).trans hg, rest⟩
/-- behind an append: what lay below the call's own blocks is as it was -/
theorem grown_below {W w w' : World} {base : Nat} {E : TypeId} {s n : Nat} {v : Value} {L : List Value} (hb : Below base W w) (h : w.ownsRow base E s v n L) (hW : base ≤ w.heap.size) (hg : w.grownBy w' v.ownBlock) : Below base W w' := by
  refine hb.trans ⟨hg.os, hg.tape, hg.output, hg.size, fun b hlt => hg.block b (by omega) ?_⟩
  intro e
  have := (h.lt b e.symm).1
  omega
/-- a slice of the call's own as one fact: its value, its block from B on -/
def Acc (B : Nat) (w : World) (E : TypeId) (s : Nat) (v : Value) (n : Nat) (L : List Value) : Prop := w.ownsRow B E s v n L
theorem own_empty (w : World) (base : Nat) (E : TypeId) (s : Nat) (h : base ≤ w.heap.size) : (w.alloc (.cells #[] E)).ownsRow base E s (.slice (some ⟨w.heap.size, 0, none⟩) 0 0) 0 [] := by
  refine ⟨by simp, .inr ⟨w.heap.size, 0, #[], rfl, h, ?_, Nat.le_refl _, Nat.zero_le _, by simp, by simp⟩⟩
  exact Own.new w E []
theorem own_nil (w : World) (base : Nat) (E : TypeId) (s : Nat) : w.ownsRow base E s (.slice none 0 0) 0 [] := ⟨by simp, .inl ⟨rfl, rfl⟩⟩
theorem own_drew {w : World} {base : Nat} {E : TypeId} {s n : Nat} {v : Value} {L : List Value} (h : w.ownsRow base E s v n L) (m : Nat) : (w.drewN m).ownsRow base E s v n L := h

/-- 'append(out, x)' of one element: the element lies in a block of its own, the last one -/
theorem app_el {P : Program} {ops : Array Oper} {rest : List Oper} {o : Oper} {a : Act} {Q : Exit → Act → World → Prop} (hgd : o.guard = none) (s x : Operand) (T E : TypeId) (i : TypeInfo) (z : Value) (sz bytes : Nat)
    (hT : P.underlying T = some (.slice E)) (hi : P.info? E = some i) (hz : i.zero = some z) (h1 : i.size = sz) (h2 : i.bytes = bytes) (hzs : z.cells.size = sz) (hsz : 0 < sz)
    (ho : o.op = .call { callee := .builtin .append, args := #[s, x], argTypes := #[T, T] }) (w0 : World) (base : Nat) (v : Value) (n : Nat) (L : List Value) (hs : a.eval s = v) (hown : w0.ownsRow base E sz v n L)
    (cs : List Value) (hcs : cs.length = sz) (hone : ∀ u ∈ cs, u.oneCell' = true) (hx : a.eval x = .slice (some ⟨w0.heap.size, 0, none⟩) 1 1) (hn : n + 1 ≤ 2097152) (hby : bytes ≤ 64) (hbase : base ≤ w0.heap.size)
    (h : ∀ g cap w', w'.ownsRow base E sz (.slice (some ⟨g, 0, none⟩) (n + 1) cap) (n + 1) (L ++ cs) → (∀ W, Below base W w0 → Below base W w') → w0.heap.size < w'.heap.size → wpList P ops Q rest (a.put o.dst (.slice (some ⟨g, 0, none⟩) (n + 1) cap)) w') :
    wpList P ops Q (o :: rest) a (w0.alloc (.cells cs.toArray E)) := by
  have hb : (n + 1) * bytes ≤ 140737488355328 := by
    have := Nat.mul_le_mul hn hby
    omega
  refine wpList_append_lies _ hgd s x T ho base E i z sz bytes hT hi hz h1 h2 hzs hsz v n L hs (hown.alloc _) ⟨w0.heap.size, 0, none⟩ 1 1 cs hx (by omega) (World.news_of_block (Own.new w0 E cs)) hone (by omega) (by unfold maxLen; omega) hb (by simp; omega) _ rfl ?_
  intro g cap w' hown' hgrow _ _
  refine h g cap w' hown' (fun W hW => ?_) ?_
  · exact grown_below (hW.alloc hbase _) (hown.alloc _) (by simp; omega) hgrow
  · have := hgrow.size
    simp at this; omega
end Go.Proofs.YtnbodmbagendnaaGreatDoor
