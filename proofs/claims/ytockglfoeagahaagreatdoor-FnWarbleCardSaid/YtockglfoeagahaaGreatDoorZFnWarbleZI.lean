/- Contracts and plain facts, joined: R8, MarkT, Turn. -/
import Derived.Test.YtockglfoeagahaaGreatDoorRows
import Derived.Test.YtockglfoeagahaaGreatDoorZFnWarbleB
import Derived.Test.YtockglfoeagahaaGreatDoorZFnWarbleD
import Derived.Laws.IdiomStrings
namespace Go.Proofs.YtockglfoeagahaaGreatDoor
open Go.ChangeShapes Go.WideShapes Go.ChangeAt Go.RowKit Go.Deep Go.Joins
set_option linter.unusedVariables false
set_option maxRecDepth 100000
set_option linter.unusedSimpArgs false
def putB (n : UInt8) : List Value := [.int .u8 n.toNat]
theorem putB_len (xs : List UInt8) : (xs.flatMap putB).length = xs.length * 1 := flat_len xs (fun _ _ => rfl)
theorem putB_get (xs : List UInt8) (k : Nat) (h : k < xs.length) : (xs.flatMap putB)[k]? = some (.int .u8 xs[k].toNat) := by
  have := flat_get (f := putB) (s := 1) xs (fun _ _ => rfl) (j := 0) (by omega) k
  simp only [Nat.mul_one, Nat.add_zero] at this
  rw [this, List.getElem?_eq_getElem h]
  rfl
def r8at (xs : List UInt8) (k n : Int) : Int := ((xs[k.toNat]?.getD 0).toNat : Int) % n
theorem r8at_bd (xs : List UInt8) (k n : Int) (hn : 0 < n) : 0 ≤ r8at xs k n ∧ r8at xs k n < n := ⟨Int.emod_nonneg _ (by omega), Int.emod_lt_of_pos _ hn⟩

def r8wide (xs : List UInt8) (k n : Int) : Int := (256 * r8at xs k 256 + r8at xs (k + 1) 256) % n
theorem r8wide_bd (xs : List UInt8) (k n : Int) (hn : 0 < n) : 0 ≤ r8wide xs k n ∧ r8wide xs k n < n := ⟨Int.emod_nonneg _ (by omega), Int.emod_lt_of_pos _ hn⟩
end Go.Proofs.YtockglfoeagahaaGreatDoor
namespace Go.Proofs.YtockglfoeagahaaGreatDoor
open Go.ChangeShapes Go.WideShapes Go.ChangeAt Go.RowKit Go.Deep Go.Joins
set_option linter.unusedVariables false
set_option maxRecDepth 100000
set_option linter.unusedSimpArgs false
def digB (k : Nat) : ByteArray := ⟨#[UInt8.ofNat (48 + k % 10)]⟩
theorem digB_size (k : Nat) : (digB k).size = 1 := rfl
/-- the digits of k ahead of out -/
def mkT : Nat → Nat → ByteArray → ByteArray
  | 0, _, out => out
  | f + 1, k, out => if k = 0 then out else mkT f (k / 10) (digB k ++ out)
def markT (k : Nat) : ByteArray := ⟨#[109]⟩ ++ mkT k k ⟨#[]⟩
theorem byte_str (W : World) (x : Nat) (hx : x < 256) : (convert 22 9 (.slice (some ⟨W.heap.size, 0, none⟩) 1 1)).run Tryz.prog (W.alloc (.cells #[.int .u8 (x : Int)] 5)) = .ok (.string ⟨#[UInt8.ofNat x]⟩) (W.alloc (.cells #[.int .u8 (x : Int)] 5)) := by
  have h := run_convert_bytes_back (P := Tryz.prog) (W.alloc (.cells #[.int .u8 (x : Int)] 5)) 22 9 5 ⟨W.heap.size, 0, none⟩ 1 [UInt8.ofNat x] Tryz.underlying22 Tryz.underlying5 Tryz.underlying9 (fun j hj => by
    have : j = 0 := by simpa using hj
    subst this
    rw [show (Addr.add ⟨W.heap.size, 0, none⟩ 0) = (⟨W.heap.size, 0, none⟩ : Addr) from rfl]
    have hc := (Own.new W 5 [.int .u8 (x : Int)]).cell 0
    rw [show ([Value.int .u8 (x : Int)] : List Value).toArray = #[.int .u8 (x : Int)] from rfl] at hc
    rw [hc]
    have : (UInt8.ofNat x).toNat = x := by rw [UInt8.toNat_ofNat']; omega
    simp [this])
  simpa using h

theorem byte_str' (W : World) (x : Int) (j : Nat) (h : x = ((48 + j % 10 : Nat) : Int)) : (convert 22 9 (.slice (some ⟨W.heap.size, 0, none⟩) 1 1)).run Tryz.prog (W.alloc (.cells #[.int .u8 x] 5)) = .ok (.string (digB j)) (W.alloc (.cells #[.int .u8 x] 5)) := by
  subst h; exact byte_str W _ (by omega)
end Go.Proofs.YtockglfoeagahaaGreatDoor
namespace Go.Proofs.YtockglfoeagahaaGreatDoor
open Go.ChangeShapes Go.WideShapes Go.ChangeAt Go.RowKit Go.Deep Go.Joins
set_option linter.unusedVariables false
set_option maxRecDepth 100000
set_option linter.unusedSimpArgs false
/-- blocks of lo .. hi may have been written; all others are as they were -/
def Turn (lo hi : Nat) (w w' : World) : Prop := w'.os = w.os ∧ w'.tape = w.tape ∧ w'.output = w.output ∧ w.heap.size ≤ w'.heap.size ∧ (∀ b, b < w.heap.size → (b < lo ∨ hi ≤ b) → w'.heap[b]? = w.heap[b]?) ∧ ∀ b E L, Own w b E L → ∃ L', L'.length = L.length ∧ Own w' b E L'
section
variable {lo hi : Nat} {w w' a b c : World}
theorem Turn.size (h : Turn lo hi w w') : w.heap.size ≤ w'.heap.size := h.2.2.2.1
theorem Turn.kept (h : Turn lo hi w w') {g : Nat} (hg : g < w.heap.size) (ho : g < lo ∨ hi ≤ g) : w'.heap[g]? = w.heap[g]? := h.2.2.2.2.1 g hg ho
theorem Turn.shape (h : Turn lo hi w w') {g : Nat} {E : TypeId} {L : List Value} (ho : Own w g E L) : ∃ L', L'.length = L.length ∧ Own w' g E L' := h.2.2.2.2.2 g E L ho
theorem Turn.refl (lo hi : Nat) (w : World) : Turn lo hi w w := ⟨rfl, rfl, rfl, Nat.le_refl _, fun _ _ _ => rfl, fun _ _ L h => ⟨L, rfl, h⟩⟩
theorem Turn.of_below (h : Below w.heap.size w w') : Turn lo hi w w' := ⟨h.os, h.tape, h.output, h.size, fun b hb _ => h.block b hb, fun _ _ L ho => ⟨L, rfl, ho.below h ho.lt⟩⟩
theorem Turn.trans (h : Turn lo hi a b) (k : Turn lo hi b c) : Turn lo hi a c :=
  ⟨k.1.trans h.1, k.2.1.trans h.2.1, k.2.2.1.trans h.2.2.1, Nat.le_trans h.size k.size, fun i hi' ho => (k.kept (Nat.lt_of_lt_of_le hi' h.size) ho).trans (h.kept hi' ho), fun _ _ _ ho => by
    obtain ⟨L1, e1, o1⟩ := h.shape ho
    obtain ⟨L2, e2, o2⟩ := k.shape o1
    exact ⟨L2, e2.trans e1, o2⟩⟩
theorem Turn.set (h : Turn lo hi a w) {g : Nat} (h1 : lo ≤ g) (h2 : g < hi) (o : Nat) (v : Value) : Turn lo hi a (w.setCell ⟨g, o, none⟩ v) :=
  h.trans ⟨rfl, rfl, rfl, by simp [World.setCell], fun k _ ho => Below.heap_setCell _ _ _ _ (by intro e; have e2 : k = g := e; omega), fun b E L ho => by
    by_cases hb : b = g
    · subst hb; exact ⟨L.set o v, by simp, ho.set o v⟩
    · exact ⟨L, rfl, ho.other (by show g ≠ b; omega) v⟩⟩
theorem Turn.wide (h : Turn lo hi w w') {lo' hi' : Nat} (h1 : lo' ≤ lo) (h2 : hi ≤ hi') : Turn lo' hi' w w' :=
  ⟨h.1, h.2.1, h.2.2.1, h.size, fun b hb ho => h.kept hb (by omega), h.2.2.2.2.2⟩
theorem Turn.below {B : Nat} (h : Turn lo hi w w') (hB : B ≤ lo) (hs : B ≤ w.heap.size) : Below B w w' :=
  ⟨h.1, h.2.1, h.2.2.1, h.size, fun b hb => h.kept (by omega) (by omega)⟩
theorem Own.turn {g : Nat} {E : TypeId} {L : List Value} (h : Own w g E L) (t : Turn lo hi w w') (hg : g < lo ∨ hi ≤ g) : Own w' g E L := (t.kept h.lt hg).trans h
end

/-- a slice, or nil, whose block lies in lo .. hi, known whole up to its length -/
def Held (lo hi : Nat) (w : World) (E : TypeId) (s : Nat) (v : Value) (n : Nat) (L : List Value) : Prop :=
  L.length = n * s ∧ ∃ ao cap, v = .slice ao n cap ∧ n ≤ cap ∧ cap ≤ maxLen ∧ (ao = none → n = 0 ∧ cap = 0) ∧ (0 < n → ∃ g U, ao = some ⟨g, 0, none⟩ ∧ lo ≤ g ∧ g < hi ∧ Own w g E (L ++ U))
section
variable {lo hi s n : Nat} {w w' : World} {E : TypeId} {v : Value} {L : List Value}
theorem Held.turn {lo' hi' : Nat} (h : Held lo hi w E s v n L) (t : Turn lo' hi' w w') (hd : hi ≤ lo' ∨ hi' ≤ lo) : Held lo hi w' E s v n L := by
  obtain ⟨h1, ao, cap, e, h2, h3, h4, h5⟩ := h
  refine ⟨h1, ao, cap, e, h2, h3, h4, fun hn => ?_⟩
  obtain ⟨g, U, e1, h6, h7, h8⟩ := h5 hn
  exact ⟨g, U, e1, h6, h7, h8.turn t (by omega)⟩
theorem Held.below (h : Held lo hi w E s v n L) (b : Below w.heap.size w w') : Held lo hi w' E s v n L := h.turn (Turn.of_below (lo := hi) (hi := hi) b) (.inl (Nat.le_refl _))
theorem Held.rd (h : Held lo hi w E s v n L) : Rd w.heap.size w v s n L := by
  obtain ⟨h1, ao, cap, e, h2, h3, h4, h5⟩ := h
  refine ⟨h1, ao, cap, e, h2, h3, h4, fun hn => ?_⟩
  obtain ⟨g, U, e1, h6, h7, h8⟩ := h5 hn
  refine ⟨g, 0, e1, h8.lt, fun i hi => ?_⟩
  rw [Nat.zero_add, h8.cell, List.getElem?_append_left (by omega)]
theorem Held.form (h : Held lo hi w E s v n L) : ∃ ao cap, v = .slice ao n cap := h.rd.form
theorem Held.wide (h : Held lo hi w E s v n L) {lo' hi' : Nat} (h1 : lo' ≤ lo) (h2 : hi ≤ hi') : Held lo' hi' w E s v n L := by
  obtain ⟨q1, ao, cap, e, q2, q3, q4, q5⟩ := h
  refine ⟨q1, ao, cap, e, q2, q3, q4, fun hn => ?_⟩
  obtain ⟨g, U, e1, h6, h7, h8⟩ := q5 hn
  exact ⟨g, U, e1, by omega, by omega, h8⟩
theorem Held.of_own {g : Nat} (h : Own w g E L) (hl : L.length = n * s) (hn : n ≤ maxLen) : Held g (g + 1) w E s (.slice (some ⟨g, 0, none⟩) n n) n L :=
  ⟨hl, _, _, rfl, Nat.le_refl _, hn, (fun h => by cases h), fun _ => ⟨g, [], rfl, Nat.le_refl _, Nat.lt_succ_self _, by simpa using h⟩⟩
theorem Held.of_row {B : Nat} (h : w.ownsRow B E s v n L) : Held B w.heap.size w E s v n L := by
  obtain ⟨h1, h2⟩ := h
  rcases h2 with ⟨rfl, rfl⟩ | ⟨g, cap, cur, rfl, hb, hg, hn, hm, hs, ht⟩
  · exact ⟨h1, none, 0, rfl, Nat.le_refl _, Nat.zero_le _, fun _ => ⟨rfl, rfl⟩, fun h => by omega⟩
  · refine ⟨h1, _, cap, rfl, hn, hm, (fun h => by cases h), fun _ => ⟨g, cur.toList.drop (n * s), rfl, hb, (Array.getElem?_eq_some_iff.1 hg).1, ?_⟩⟩
    rw [← ht, List.take_append_drop]
    simpa [Own] using hg
end
theorem marks_succ {s : Nat} (f : Nat → List Value) (hf : ∀ i, (f i).length = s) (j : Nat) : (List.range (j + 1)).flatMap f = (List.range j).flatMap f ++ f j ∧ ((List.range j).flatMap f).length = j * s := by
  refine ⟨by rw [List.range_succ, List.flatMap_append]; simp, ?_⟩
  have := flat_len (f := f) (s := s) (List.range j) (fun x _ => hf x)
  rwa [List.length_range] at this
theorem mset1 (A U : List Value) (t0 v0 : Value) (i : Nat) (hA : A.length = i) : ((A ++ t0 :: U).set (i) v0) = (A ++ [v0]) ++ U := by
  subst hA
  simp [List.set_append]
theorem mcons1 {U : List Value} {n : Nat} (h : U.length = n) (hn : 1 ≤ n) : ∃ t0 U', U = t0 :: U' ∧ U'.length = n - 1 := by
  match U, h with
  | t0 :: U', h => exact ⟨t0, U', rfl, by simp at h; omega⟩
  | [], h => simp at h; omega
theorem mA {P : Program} {f : FuncId} {args : Array Value} {w : World} {lo hi : Nat} {q c : Int} (h : Calls P f args w fun e w' => e = .returned (.int .i64 q) ∧ Turn lo hi w w') (h1 : 1 ≤ q) (h2 : q ≤ c) :
    Calls P f args w fun e w' => ∃ q' : Int, e = .returned (.int .i64 q') ∧ 1 ≤ q' ∧ q' ≤ c ∧ Turn lo hi w w' := h.mono fun _ _ ⟨a, b⟩ => ⟨q, a, h1, h2, b⟩
theorem mA3 {P : Program} {f : FuncId} {args : Array Value} {w : World} {lo hi : Nat} {q c : Int} {R : World → Prop} (h : Calls P f args w fun e w' => e = .returned (.int .i64 q) ∧ Turn lo hi w w' ∧ R w') (h1 : 1 ≤ q) (h2 : q ≤ c) :
    Calls P f args w fun e w' => ∃ q' : Int, e = .returned (.int .i64 q') ∧ 1 ≤ q' ∧ q' ≤ c ∧ Turn lo hi w w' := h.mono fun _ _ ⟨a, b, _⟩ => ⟨q, a, h1, h2, b⟩
theorem toM {P : Program} {f : FuncId} {args : Array Value} {w : World} {q m : Int} {T : World → Prop} (h : Calls P f args w fun e w' => e = .returned (.int .i64 q) ∧ T w') (hq : q = m) :
    Calls P f args w fun e w' => e = .returned (.int .i64 m) ∧ T w' := by subst hq; exact h
end Go.Proofs.YtockglfoeagahaaGreatDoor
