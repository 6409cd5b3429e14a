/- Contracts and plain facts, joined: MarkT, Acc, Turn, MarkInt64. -/
import Derived.Test.YtcjekailcljaaaaGreatRows
import Derived.Test.YtcjekailcljaaaaGreatZFnExactGreedyPlanC
import Derived.Laws.IdiomStrings
import Derived.Deep.AppendLies
import Derived.Deep.LoopGhost
namespace Go.Proofs.YtcjekailcljaaaaGreat
open Go.ChangeShapes Go.WideShapes Go.ChangeAt Go.RowKit Go.Deep Go.Joins
set_option linter.unusedVariables false
set_option maxRecDepth 100000
set_option linter.unusedSimpArgs false
def digB (k : Nat) : ByteArray := ⟨#[UInt8.ofNat (48 + k % 10)]⟩
theorem digB_size (k : Nat) : (digB k).size = 1 := rfl
/-- the digits of k ahead of out -/
def mkT : Nat → Nat → ByteArray → ByteArray
  | 0, _, out => out
  | f + 1, k, out => if k = 0 then out else mkT f (k / 10) (digB k ++ out)
def markT (k : Nat) : ByteArray := ⟨#[109]⟩ ++ mkT k k ⟨#[]⟩
theorem byte_str (W : World) (x : Nat) (hx : x < 256) : (convert 169 9 (.slice (some ⟨W.heap.size, 0, none⟩) 1 1)).run Tryz.prog (W.alloc (.cells #[.int .u8 (x : Int)] 5)) = .ok (.string ⟨#[UInt8.ofNat x]⟩) (W.alloc (.cells #[.int .u8 (x : Int)] 5)) := by
  have h := run_convert_bytes_back (P := Tryz.prog) (W.alloc (.cells #[.int .u8 (x : Int)] 5)) 169 9 5 ⟨W.heap.size, 0, none⟩ 1 [UInt8.ofNat x] Tryz.underlying169 Tryz.underlying5 Tryz.underlying9 (fun j hj => by
    have : j = 0 := by simpa using hj
    subst this
    rw [show (Addr.add ⟨W.heap.size, 0, none⟩ 0) = (⟨W.heap.size, 0, none⟩ : Addr) from rfl]
    have hc := (Own.new W 5 [.int .u8 (x : Int)]).cell 0
    rw [show ([Value.int .u8 (x : Int)] : List Value).toArray = #[.int .u8 (x : Int)] from rfl] at hc
    rw [hc]
    have : (UInt8.ofNat x).toNat = x := by rw [UInt8.toNat_ofNat']; omega
    simp [this])
  simpa using h

theorem byte_str' (W : World) (x : Int) (j : Nat) (h : x = ((48 + j % 10 : Nat) : Int)) : (convert 169 9 (.slice (some ⟨W.heap.size, 0, none⟩) 1 1)).run Tryz.prog (W.alloc (.cells #[.int .u8 x] 5)) = .ok (.string (digB j)) (W.alloc (.cells #[.int .u8 x] 5)) := by
  subst h; exact byte_str W _ (by omega)
end Go.Proofs.YtcjekailcljaaaaGreat
namespace Go.Proofs.YtcjekailcljaaaaGreat
open Go.ChangeShapes Go.WideShapes Go.ChangeAt Go.RowKit Go.Deep Go.Joins
set_option linter.unusedVariables false
set_option maxRecDepth 100000
set_option linter.unusedSimpArgs false
/-- block g of the call's own, or nil: reads as the cells L -/
theorem own_rd {w : World} {base : Nat} {E : TypeId} {s n : Nat} {v : Value} {L : List Value} (h : w.ownsRow base E s v n L) : Rd w.heap.size w v s n L := by
  obtain ⟨h1, h2⟩ := h
  rcases h2 with ⟨rfl, rfl⟩ | ⟨g, cap, cur, rfl, hb, hg, hn, hm, hs, ht⟩
  · have : L = [] := List.eq_nil_of_length_eq_zero (by simpa using h1)
    subst this
    exact ⟨by simp, none, 0, rfl, Nat.le_refl _, Nat.zero_le _, fun _ => ⟨rfl, rfl⟩, fun h => by omega⟩
  · refine ⟨h1, _, cap, rfl, hn, hm, (fun h => by cases h), fun _ => ⟨g, 0, rfl, (Array.getElem?_eq_some_iff.1 hg).1, fun i hi => ?_⟩⟩
    rw [← ht, List.getElem?_take_of_lt hi, Nat.zero_add]
    simp [World.cell?, hg]
theorem own_below {w w' : World} {B base : Nat} {E : TypeId} {s n : Nat} {v : Value} {L : List Value} (h : w.ownsRow base E s v n L) (hb : Below B w w') (hB : w.heap.size ≤ B) : w'.ownsRow base E s v n L := by
  obtain ⟨h1, h2⟩ := h
  refine ⟨h1, ?_⟩
  rcases h2 with h2 | ⟨g, cap, cur, rfl, hg0, hg, rest⟩
  · exact .inl h2
  · exact .inr ⟨g, cap, cur, rfl, hg0, (hb.block g (Nat.lt_of_lt_of_le (Array.getElem?_eq_some_iff.1 hg).1 hB)).trans hg, rest⟩
/-- behind an append: what lay below the call's own blocks is as it was -/
theorem grown_below {W w w' : World} {base : Nat} {E : TypeId} {s n : Nat} {v : Value} {L : List Value} (hb : Below base W w) (h : w.ownsRow base E s v n L) (hW : base ≤ w.heap.size) (hg : w.grownBy w' v.ownBlock) : Below base W w' := by
  refine hb.trans ⟨hg.os, hg.tape, hg.output, hg.size, fun b hlt => hg.block b (by omega) ?_⟩
  intro e
  have := (h.lt b e.symm).1
  omega
/-- a slice of the call's own as one fact: its value, its block from B on -/
def Acc (B : Nat) (w : World) (E : TypeId) (s : Nat) (v : Value) (n : Nat) (L : List Value) : Prop := w.ownsRow B E s v n L
theorem own_empty (w : World) (base : Nat) (E : TypeId) (s : Nat) (h : base ≤ w.heap.size) : (w.alloc (.cells #[] E)).ownsRow base E s (.slice (some ⟨w.heap.size, 0, none⟩) 0 0) 0 [] := by
  refine ⟨by simp, .inr ⟨w.heap.size, 0, #[], rfl, h, ?_, Nat.le_refl _, Nat.zero_le _, by simp, by simp⟩⟩
  exact Own.new w E []
theorem own_nil (w : World) (base : Nat) (E : TypeId) (s : Nat) : w.ownsRow base E s (.slice none 0 0) 0 [] := ⟨by simp, .inl ⟨rfl, rfl⟩⟩
theorem own_drew {w : World} {base : Nat} {E : TypeId} {s n : Nat} {v : Value} {L : List Value} (h : w.ownsRow base E s v n L) (m : Nat) : (w.drewN m).ownsRow base E s v n L := h

/-- 'append(out, x)' of one element: the element lies in a block of its own, the last one -/
theorem app_el {P : Program} {ops : Array Oper} {rest : List Oper} {o : Oper} {a : Act} {Q : Exit → Act → World → Prop} (hgd : o.guard = none) (s x : Operand) (T E : TypeId) (i : TypeInfo) (z : Value) (sz bytes : Nat)
    (hT : P.underlying T = some (.slice E)) (hi : P.info? E = some i) (hz : i.zero = some z) (h1 : i.size = sz) (h2 : i.bytes = bytes) (hzs : z.cells.size = sz) (hsz : 0 < sz)
    (ho : o.op = .call { callee := .builtin .append, args := #[s, x], argTypes := #[T, T] }) (w0 : World) (base : Nat) (v : Value) (n : Nat) (L : List Value) (hs : a.eval s = v) (hown : w0.ownsRow base E sz v n L)
    (cs : List Value) (hcs : cs.length = sz) (hone : ∀ u ∈ cs, u.oneCell' = true) (hx : a.eval x = .slice (some ⟨w0.heap.size, 0, none⟩) 1 1) (hn : n + 1 ≤ 2097152) (hby : bytes ≤ 64) (hbase : base ≤ w0.heap.size)
    (h : ∀ g cap w', w'.ownsRow base E sz (.slice (some ⟨g, 0, none⟩) (n + 1) cap) (n + 1) (L ++ cs) → (∀ W, Below base W w0 → Below base W w') → w0.heap.size < w'.heap.size → wpList P ops Q rest (a.put o.dst (.slice (some ⟨g, 0, none⟩) (n + 1) cap)) w') :
    wpList P ops Q (o :: rest) a (w0.alloc (.cells cs.toArray E)) := by
  have hb : (n + 1) * bytes ≤ 140737488355328 := by
    have := Nat.mul_le_mul hn hby
    omega
  refine wpList_append_lies _ hgd s x T ho base E i z sz bytes hT hi hz h1 h2 hzs hsz v n L hs (hown.alloc _) ⟨w0.heap.size, 0, none⟩ 1 1 cs hx (by omega) (World.news_of_block (Own.new w0 E cs)) hone (by omega) (by unfold maxLen; omega) hb (by simp; omega) _ rfl ?_
  intro g cap w' hown' hgrow _ _
  refine h g cap w' hown' (fun W hW => ?_) ?_
  · exact grown_below (hW.alloc hbase _) (hown.alloc _) (by simp; omega) hgrow
  · have := hgrow.size
    simp at this; omega
end Go.Proofs.YtcjekailcljaaaaGreat
namespace Go.Proofs.YtcjekailcljaaaaGreat
open Go.ChangeShapes Go.WideShapes Go.ChangeAt Go.RowKit Go.Deep Go.Joins
set_option linter.unusedVariables false
set_option maxRecDepth 100000
set_option linter.unusedSimpArgs false
/-- blocks of lo .. hi may have been written; all others are as they were -/
def Turn (lo hi : Nat) (w w' : World) : Prop := w'.os = w.os ∧ w'.tape = w.tape ∧ w'.output = w.output ∧ w.heap.size ≤ w'.heap.size ∧ (∀ b, b < w.heap.size → (b < lo ∨ hi ≤ b) → w'.heap[b]? = w.heap[b]?) ∧ ∀ b E L, Own w b E L → ∃ L', L'.length = L.length ∧ Own w' b E L'
section
variable {lo hi : Nat} {w w' a b c : World}
theorem Turn.size (h : Turn lo hi w w') : w.heap.size ≤ w'.heap.size := h.2.2.2.1
theorem Turn.kept (h : Turn lo hi w w') {g : Nat} (hg : g < w.heap.size) (ho : g < lo ∨ hi ≤ g) : w'.heap[g]? = w.heap[g]? := h.2.2.2.2.1 g hg ho
theorem Turn.shape (h : Turn lo hi w w') {g : Nat} {E : TypeId} {L : List Value} (ho : Own w g E L) : ∃ L', L'.length = L.length ∧ Own w' g E L' := h.2.2.2.2.2 g E L ho
theorem Turn.refl (lo hi : Nat) (w : World) : Turn lo hi w w := ⟨rfl, rfl, rfl, Nat.le_refl _, fun _ _ _ => rfl, fun _ _ L h => ⟨L, rfl, h⟩⟩
theorem Turn.of_below (h : Below w.heap.size w w') : Turn lo hi w w' := ⟨h.os, h.tape, h.output, h.size, fun b hb _ => h.block b hb, fun _ _ L ho => ⟨L, rfl, ho.below h ho.lt⟩⟩
theorem Turn.trans (h : Turn lo hi a b) (k : Turn lo hi b c) : Turn lo hi a c :=
  ⟨k.1.trans h.1, k.2.1.trans h.2.1, k.2.2.1.trans h.2.2.1, Nat.le_trans h.size k.size, fun i hi' ho => (k.kept (Nat.lt_of_lt_of_le hi' h.size) ho).trans (h.kept hi' ho), fun _ _ _ ho => by
    obtain ⟨L1, e1, o1⟩ := h.shape ho
    obtain ⟨L2, e2, o2⟩ := k.shape o1
    exact ⟨L2, e2.trans e1, o2⟩⟩
theorem Turn.set (h : Turn lo hi a w) {g : Nat} (h1 : lo ≤ g) (h2 : g < hi) (o : Nat) (v : Value) : Turn lo hi a (w.setCell ⟨g, o, none⟩ v) :=
  h.trans ⟨rfl, rfl, rfl, by simp [World.setCell], fun k _ ho => Below.heap_setCell _ _ _ _ (by intro e; have e2 : k = g := e; omega), fun b E L ho => by
    by_cases hb : b = g
    · subst hb; exact ⟨L.set o v, by simp, ho.set o v⟩
    · exact ⟨L, rfl, ho.other (by show g ≠ b; omega) v⟩⟩
theorem Turn.wide (h : Turn lo hi w w') {lo' hi' : Nat} (h1 : lo' ≤ lo) (h2 : hi ≤ hi') : Turn lo' hi' w w' :=
  ⟨h.1, h.2.1, h.2.2.1, h.size, fun b hb ho => h.kept hb (by omega), h.2.2.2.2.2⟩
theorem Turn.below {B : Nat} (h : Turn lo hi w w') (hB : B ≤ lo) (hs : B ≤ w.heap.size) : Below B w w' :=
  ⟨h.1, h.2.1, h.2.2.1, h.size, fun b hb => h.kept (by omega) (by omega)⟩
theorem Own.turn {g : Nat} {E : TypeId} {L : List Value} (h : Own w g E L) (t : Turn lo hi w w') (hg : g < lo ∨ hi ≤ g) : Own w' g E L := (t.kept h.lt hg).trans h
end

/-- a slice, or nil, whose block lies in lo .. hi, known whole up to its length -/
def Held (lo hi : Nat) (w : World) (E : TypeId) (s : Nat) (v : Value) (n : Nat) (L : List Value) : Prop :=
  L.length = n * s ∧ ∃ ao cap, v = .slice ao n cap ∧ n ≤ cap ∧ cap ≤ maxLen ∧ (ao = none → n = 0 ∧ cap = 0) ∧ (0 < n → ∃ g U, ao = some ⟨g, 0, none⟩ ∧ lo ≤ g ∧ g < hi ∧ Own w g E (L ++ U))
section
variable {lo hi s n : Nat} {w w' : World} {E : TypeId} {v : Value} {L : List Value}
theorem Held.turn {lo' hi' : Nat} (h : Held lo hi w E s v n L) (t : Turn lo' hi' w w') (hd : hi ≤ lo' ∨ hi' ≤ lo) : Held lo hi w' E s v n L := by
  obtain ⟨h1, ao, cap, e, h2, h3, h4, h5⟩ := h
  refine ⟨h1, ao, cap, e, h2, h3, h4, fun hn => ?_⟩
  obtain ⟨g, U, e1, h6, h7, h8⟩ := h5 hn
  exact ⟨g, U, e1, h6, h7, h8.turn t (by omega)⟩
theorem Held.below (h : Held lo hi w E s v n L) (b : Below w.heap.size w w') : Held lo hi w' E s v n L := h.turn (Turn.of_below (lo := hi) (hi := hi) b) (.inl (Nat.le_refl _))
theorem Held.rd (h : Held lo hi w E s v n L) : Rd w.heap.size w v s n L := by
  obtain ⟨h1, ao, cap, e, h2, h3, h4, h5⟩ := h
  refine ⟨h1, ao, cap, e, h2, h3, h4, fun hn => ?_⟩
  obtain ⟨g, U, e1, h6, h7, h8⟩ := h5 hn
  refine ⟨g, 0, e1, h8.lt, fun i hi => ?_⟩
  rw [Nat.zero_add, h8.cell, List.getElem?_append_left (by omega)]
theorem Held.form (h : Held lo hi w E s v n L) : ∃ ao cap, v = .slice ao n cap := h.rd.form
theorem Held.wide (h : Held lo hi w E s v n L) {lo' hi' : Nat} (h1 : lo' ≤ lo) (h2 : hi ≤ hi') : Held lo' hi' w E s v n L := by
  obtain ⟨q1, ao, cap, e, q2, q3, q4, q5⟩ := h
  refine ⟨q1, ao, cap, e, q2, q3, q4, fun hn => ?_⟩
  obtain ⟨g, U, e1, h6, h7, h8⟩ := q5 hn
  exact ⟨g, U, e1, by omega, by omega, h8⟩
theorem Held.of_own {g : Nat} (h : Own w g E L) (hl : L.length = n * s) (hn : n ≤ maxLen) : Held g (g + 1) w E s (.slice (some ⟨g, 0, none⟩) n n) n L :=
  ⟨hl, _, _, rfl, Nat.le_refl _, hn, (fun h => by cases h), fun _ => ⟨g, [], rfl, Nat.le_refl _, Nat.lt_succ_self _, by simpa using h⟩⟩
theorem Held.of_row {B : Nat} (h : w.ownsRow B E s v n L) : Held B w.heap.size w E s v n L := by
  obtain ⟨h1, h2⟩ := h
  rcases h2 with ⟨rfl, rfl⟩ | ⟨g, cap, cur, rfl, hb, hg, hn, hm, hs, ht⟩
  · exact ⟨h1, none, 0, rfl, Nat.le_refl _, Nat.zero_le _, fun _ => ⟨rfl, rfl⟩, fun h => by omega⟩
  · refine ⟨h1, _, cap, rfl, hn, hm, (fun h => by cases h), fun _ => ⟨g, cur.toList.drop (n * s), rfl, hb, (Array.getElem?_eq_some_iff.1 hg).1, ?_⟩⟩
    rw [← ht, List.take_append_drop]
    simpa [Own] using hg
end
theorem marks_succ {s : Nat} (f : Nat → List Value) (hf : ∀ i, (f i).length = s) (j : Nat) : (List.range (j + 1)).flatMap f = (List.range j).flatMap f ++ f j ∧ ((List.range j).flatMap f).length = j * s := by
  refine ⟨by rw [List.range_succ, List.flatMap_append]; simp, ?_⟩
  have := flat_len (f := f) (s := s) (List.range j) (fun x _ => hf x)
  rwa [List.length_range] at this
theorem mset1 (A U : List Value) (t0 v0 : Value) (i : Nat) (hA : A.length = i) : ((A ++ t0 :: U).set (i) v0) = (A ++ [v0]) ++ U := by
  subst hA
  simp [List.set_append]
theorem mcons1 {U : List Value} {n : Nat} (h : U.length = n) (hn : 1 ≤ n) : ∃ t0 U', U = t0 :: U' ∧ U'.length = n - 1 := by
  match U, h with
  | t0 :: U', h => exact ⟨t0, U', rfl, by simp at h; omega⟩
  | [], h => simp at h; omega
theorem mA {P : Program} {f : FuncId} {args : Array Value} {w : World} {lo hi : Nat} {q c : Int} (h : Calls P f args w fun e w' => e = .returned (.int .i64 q) ∧ Turn lo hi w w') (h1 : 1 ≤ q) (h2 : q ≤ c) :
    Calls P f args w fun e w' => ∃ q' : Int, e = .returned (.int .i64 q') ∧ 1 ≤ q' ∧ q' ≤ c ∧ Turn lo hi w w' := h.mono fun _ _ ⟨a, b⟩ => ⟨q, a, h1, h2, b⟩
theorem mA3 {P : Program} {f : FuncId} {args : Array Value} {w : World} {lo hi : Nat} {q c : Int} {R : World → Prop} (h : Calls P f args w fun e w' => e = .returned (.int .i64 q) ∧ Turn lo hi w w' ∧ R w') (h1 : 1 ≤ q) (h2 : q ≤ c) :
    Calls P f args w fun e w' => ∃ q' : Int, e = .returned (.int .i64 q') ∧ 1 ≤ q' ∧ q' ≤ c ∧ Turn lo hi w w' := h.mono fun _ _ ⟨a, b, _⟩ => ⟨q, a, h1, h2, b⟩
theorem toM {P : Program} {f : FuncId} {args : Array Value} {w : World} {q m : Int} {T : World → Prop} (h : Calls P f args w fun e w' => e = .returned (.int .i64 q) ∧ T w') (hq : q = m) :
    Calls P f args w fun e w' => e = .returned (.int .i64 m) ∧ T w' := by subst hq; exact h
end Go.Proofs.YtcjekailcljaaaaGreat
namespace Go.Proofs.YtcjekailcljaaaaGreat
open Go.ChangeShapes Go.WideShapes Go.ChangeAt Go.RowKit Go.Deep Go.Joins
set_option linter.unusedVariables false
set_option maxRecDepth 100000
set_option linter.unusedSimpArgs false
def marksInt64 (k : Int) (n : Nat) : List Value := (List.range n).flatMap fun i => [.int .i64 (k + 1 * (i : Nat))]
theorem marksInt64_succ (k : Int) (j : Nat) : marksInt64 k (j + 1) = marksInt64 k j ++ [.int .i64 (k + 1 * (j : Nat))] ∧ (marksInt64 k j).length = j * 1 := marks_succ (s := 1) _ (fun _ => rfl) j
set_option maxHeartbeats 2000000 in
theorem markInt64S (k : Int) (w : World) (lo hi : Nat) (v : Value) (n : Nat) (L : List Value) (h : Held lo hi w 2 1 v n L) (hn : n ≤ 1048576) (h1 : 1 ≤ k) (hk : k ≤ 536870912) :
    Calls Tryz.prog 21 #[v, .int .i64 k] w fun e w' => e = .returned (.int .i64 (k + 1 * (n : Int))) ∧ Turn lo hi w w' ∧ Held lo hi w' 2 1 v n (marksInt64 k n) := by
  obtain ⟨hL, ao, cap, rfl, hcap, hmax, hnil, hsome⟩ := h
  obtain ⟨g, U, hg⟩ : ∃ g U, 0 < n → ao = some ⟨g, 0, none⟩ ∧ lo ≤ g ∧ g < hi ∧ Own w g 2 (L ++ U) := by
    by_cases h0 : 0 < n
    · obtain ⟨g, U, h⟩ := hsome h0; exact ⟨g, U, fun _ => h⟩
    · exact ⟨0, [], fun h => absurd h h0⟩
  have HG := Lib.hid hg; clear hg hsome
  have HN := Lib.hid hnil; clear hnil
  go_enter Tryz.func21, Tryz.ntmps21
  go_wp2
  go_loopw [1, 5] (fun q i wr => ∃ (j : Nat), j ≤ n ∧ i = .int .i64 j ∧ q = .int .i64 (k + 1 * (j : Int)) ∧ Turn lo hi w wr ∧ (0 < n → ∃ V, V.length = n * 1 + U.length - j * 1 ∧ Own wr g 2 (marksInt64 k j ++ V))) (fun _ i _ => n - (intOf i).toNat)
  case atStart => exact ⟨0, Nat.zero_le _, rfl, by simp, Turn.refl _ _ _, fun h0 => ⟨L ++ U, by simp [hL], (HG.out h0).2.2.2⟩⟩
  case round =>
    obtain ⟨j, hj, rfl, rfl, ht, hO⟩ := hrel
    by_cases hlt : j < n
    · obtain ⟨rfl, hlo, hhi, _⟩ := HG.out (by omega)
      obtain ⟨V, hV, ho⟩ := hO (by omega)
      obtain ⟨t0, V, rfl, hV2⟩ := mcons1 hV (by omega)
      obtain ⟨es, hA⟩ := marksInt64_succ k j
      obtain ⟨q, hq, hq1, hq2⟩ : ∃ q : Int, k + 1 * (j : Int) = q ∧ 1 ≤ q ∧ q ≤ 1073741000 := ⟨_, rfl, by omega, by omega⟩
      rw [hq] at es ⊢
      have e2 : Hid (k + 1 * ((j + 1 : Nat) : Int) = q + 1) := (by omega : k + 1 * ((j + 1 : Nat) : Int) = q + 1)
      have ES := Lib.hid es; clear es hq hV HG
      have HV2 := Lib.hid hV2; clear hV2
      have HT := Lib.hid ht; clear ht
      have HO := Lib.hid ho
      clear hO

      have d0 : wr.cell? ⟨g, j, none⟩ = some t0 := by rw [ho.cell, List.getElem?_append_right (by omega), hA]; simp
      have f0 := ho.free (j)
      have HA := Lib.hid hA; clear ho hA
      have hOo : Hid (Own _ g 2 _) := Lib.hid ((HO.out.set (j) (.int .i64 (q))))
      have hTt : Hid (Turn lo hi w _) := Lib.hid ((Turn.set HT.out hlo hhi (j) (.int .i64 (q))))
      rw [mset1 _ _ t0 (.int .i64 (q)) _ (HA.out.trans (Nat.mul_one _)), ← ES.out] at hOo
      clear HO HT
      go_wp2_with fail
      go_roundw
      case rel => exact ⟨j + 1, by omega, by go_num, by rw [e2.out] <;> go_num, hTt.out, fun _ => ⟨V, by have := HV2.out; omega, hOo.out⟩⟩
      case measure => simp [intOf]; omega
    · have hjn : j = n := by omega
      subst hjn
      have hlen := (marksInt64_succ k j).2
      have HT := Lib.hid ht; clear ht
      have HO := Lib.hid hO; clear hO
      go_wp2
      go_ret
      refine ⟨rfl, HT.out, hlen, ao, cap, rfl, hcap, hmax, HN.out, fun h0 => ?_⟩
      obtain ⟨e, hlo, hhi, _⟩ := HG.out h0
      obtain ⟨V, _, h⟩ := HO.out h0
      exact ⟨g, V, e, hlo, hhi, h⟩

theorem marksInt64_get (k : Int) (n j : Nat) (h : j < n) (x : Nat) (hx : x < 1) : (marksInt64 k n)[j * 1 + x]? = ([.int .i64 (k + 1 * (j : Nat))] : List Value)[x]? := by
  unfold marksInt64
  rw [flat_get (s := 1) (List.range n) (fun _ _ => rfl) hx j]
  simp [List.getElem?_range h]

set_option maxHeartbeats 2000000 in
theorem heldInt64S (k : Int) (w : World) (v : Value) (n : Nat) (h : Rd w.heap.size w v 1 n (marksInt64 k n)) (hn : n ≤ 1048576) (h1 : 1 ≤ k) (hk : k ≤ 536870912) :
    Calls Tryz.prog 22 #[v, .int .i64 k] w fun e w' => e = .returned (.int .i64 (k + 1 * (n : Int))) ∧ Below w.heap.size w w' := by
  obtain ⟨hL, ao, cap, rfl, hcap, hmax, hnil, hsome⟩ := h
  clear hnil
  go_enter Tryz.func22, Tryz.ntmps22
  go_wp2
  go_loopw [1, 5] (fun q i wr => ∃ (j : Nat), j ≤ n ∧ i = .int .i64 j ∧ q = .int .i64 (k + 1 * (j : Int)) ∧ Below w.heap.size w wr) (fun _ i _ => n - (intOf i).toNat)
  case atStart => exact ⟨0, Nat.zero_le _, rfl, by simp, Below.refl _ _⟩
  case round =>
    obtain ⟨j, hj, rfl, rfl, hb⟩ := hrel
    by_cases hlt : j < n
    · obtain ⟨b, off, rfl, hbB, hc⟩ := hsome (by omega)
      obtain ⟨q, hq, hq1, hq2⟩ : ∃ q : Int, k + 1 * (j : Int) = q ∧ 1 ≤ q ∧ q ≤ 1073741000 := ⟨_, rfl, by omega, by omega⟩
      have c0 : wr.cell? ⟨b, off + j, none⟩ = some (.int .i64 (q)) := by
        rw [show off + j = off + (j * 1 + 0) from by omega, hb.cell (p := ⟨b, off + (j * 1 + 0), none⟩) hbB, hc (j * 1 + 0) (by omega), marksInt64_get k n j hlt 0 (by omega), hq]; try rfl
      rw [hq]
      have e2 : Hid (k + 1 * ((j + 1 : Nat) : Int) = q + 1) := (by omega : k + 1 * ((j + 1 : Nat) : Int) = q + 1)
      have hbr : b < wr.heap.size := Nat.lt_of_lt_of_le hbB hb.size
      have HB := Lib.hid hb
      clear hc hsome hb hq hL

      go_wp2_with fail
      go_roundw
      case rel => exact ⟨j + 1, by omega, by go_num, by rw [e2.out] <;> go_num, HB.out⟩
      case measure => simp [intOf]; omega
    · have hjn : j = n := by omega
      subst hjn
      have HB := Lib.hid hb; clear hb hsome
      go_wp2
      go_ret
      exact ⟨rfl, HB.out⟩
end Go.Proofs.YtcjekailcljaaaaGreat
