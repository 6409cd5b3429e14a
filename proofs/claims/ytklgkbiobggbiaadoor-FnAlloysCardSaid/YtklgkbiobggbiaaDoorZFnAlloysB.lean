/- Contracts and plain facts, joined: Turn, CopyInts, HString, Src, R8, Draw, In, Name, AppSl. -/
import Derived.Test.YtklgkbiobggbiaaDoorRows
import Derived.Test.YtklgkbiobggbiaaDoorZFnAlloysA
import Derived.Laws.Bits64b
import Derived.WalkLawsBesides
import Derived.Laws.AppendOwnNone
namespace Go.Proofs.YtklgkbiobggbiaaDoor
open Go.ChangeShapes Go.WideShapes Go.ChangeAt Go.RowKit Go.Deep Go.Joins
set_option linter.unusedVariables false
set_option maxRecDepth 100000
set_option linter.unusedSimpArgs false
/-- blocks of lo .. hi may have been written; all others are as they were -/
def Turn (lo hi : Nat) (w w' : World) : Prop := w'.os = w.os ∧ w'.tape = w.tape ∧ w'.output = w.output ∧ w.heap.size ≤ w'.heap.size ∧ (∀ b, b < w.heap.size → (b < lo ∨ hi ≤ b) → w'.heap[b]? = w.heap[b]?) ∧ ∀ b E L, Own w b E L → ∃ L', L'.length = L.length ∧ Own w' b E L'
section
variable {lo hi : Nat} {w w' a b c : World}
theorem Turn.size (h : Turn lo hi w w') : w.heap.size ≤ w'.heap.size := h.2.2.2.1
theorem Turn.kept (h : Turn lo hi w w') {g : Nat} (hg : g < w.heap.size) (ho : g < lo ∨ hi ≤ g) : w'.heap[g]? = w.heap[g]? := h.2.2.2.2.1 g hg ho
theorem Turn.shape (h : Turn lo hi w w') {g : Nat} {E : TypeId} {L : List Value} (ho : Own w g E L) : ∃ L', L'.length = L.length ∧ Own w' g E L' := h.2.2.2.2.2 g E L ho
theorem Turn.refl (lo hi : Nat) (w : World) : Turn lo hi w w := ⟨rfl, rfl, rfl, Nat.le_refl _, fun _ _ _ => rfl, fun _ _ L h => ⟨L, rfl, h⟩⟩
theorem Turn.of_below (h : Below w.heap.size w w') : Turn lo hi w w' := ⟨h.os, h.tape, h.output, h.size, fun b hb _ => h.block b hb, fun _ _ L ho => ⟨L, rfl, ho.below h ho.lt⟩⟩
theorem Turn.trans (h : Turn lo hi a b) (k : Turn lo hi b c) : Turn lo hi a c :=
  ⟨k.1.trans h.1, k.2.1.trans h.2.1, k.2.2.1.trans h.2.2.1, Nat.le_trans h.size k.size, fun i hi' ho => (k.kept (Nat.lt_of_lt_of_le hi' h.size) ho).trans (h.kept hi' ho), fun _ _ _ ho => by
    obtain ⟨L1, e1, o1⟩ := h.shape ho
    obtain ⟨L2, e2, o2⟩ := k.shape o1
    exact ⟨L2, e2.trans e1, o2⟩⟩
theorem Turn.set (h : Turn lo hi a w) {g : Nat} (h1 : lo ≤ g) (h2 : g < hi) (o : Nat) (v : Value) : Turn lo hi a (w.setCell ⟨g, o, none⟩ v) :=
  h.trans ⟨rfl, rfl, rfl, by simp [World.setCell], fun k _ ho => Below.heap_setCell _ _ _ _ (by intro e; have e2 : k = g := e; omega), fun b E L ho => by
    by_cases hb : b = g
    · subst hb; exact ⟨L.set o v, by simp, ho.set o v⟩
    · exact ⟨L, rfl, ho.other (by show g ≠ b; omega) v⟩⟩
theorem Turn.wide (h : Turn lo hi w w') {lo' hi' : Nat} (h1 : lo' ≤ lo) (h2 : hi ≤ hi') : Turn lo' hi' w w' :=
  ⟨h.1, h.2.1, h.2.2.1, h.size, fun b hb ho => h.kept hb (by omega), h.2.2.2.2.2⟩
theorem Turn.below {B : Nat} (h : Turn lo hi w w') (hB : B ≤ lo) (hs : B ≤ w.heap.size) : Below B w w' :=
  ⟨h.1, h.2.1, h.2.2.1, h.size, fun b hb => h.kept (by omega) (by omega)⟩
theorem Own.turn {g : Nat} {E : TypeId} {L : List Value} (h : Own w g E L) (t : Turn lo hi w w') (hg : g < lo ∨ hi ≤ g) : Own w' g E L := (t.kept h.lt hg).trans h
end

/-- a slice, or nil, whose block lies in lo .. hi, known whole up to its length -/
def Held (lo hi : Nat) (w : World) (E : TypeId) (s : Nat) (v : Value) (n : Nat) (L : List Value) : Prop :=
  L.length = n * s ∧ ∃ ao cap, v = .slice ao n cap ∧ n ≤ cap ∧ cap ≤ maxLen ∧ (ao = none → n = 0 ∧ cap = 0) ∧ (0 < n → ∃ g U, ao = some ⟨g, 0, none⟩ ∧ lo ≤ g ∧ g < hi ∧ Own w g E (L ++ U))
section
variable {lo hi s n : Nat} {w w' : World} {E : TypeId} {v : Value} {L : List Value}
theorem Held.turn {lo' hi' : Nat} (h : Held lo hi w E s v n L) (t : Turn lo' hi' w w') (hd : hi ≤ lo' ∨ hi' ≤ lo) : Held lo hi w' E s v n L := by
  obtain ⟨h1, ao, cap, e, h2, h3, h4, h5⟩ := h
  refine ⟨h1, ao, cap, e, h2, h3, h4, fun hn => ?_⟩
  obtain ⟨g, U, e1, h6, h7, h8⟩ := h5 hn
  exact ⟨g, U, e1, h6, h7, h8.turn t (by omega)⟩
theorem Held.below (h : Held lo hi w E s v n L) (b : Below w.heap.size w w') : Held lo hi w' E s v n L := h.turn (Turn.of_below (lo := hi) (hi := hi) b) (.inl (Nat.le_refl _))
theorem Held.rd (h : Held lo hi w E s v n L) : Rd w.heap.size w v s n L := by
  obtain ⟨h1, ao, cap, e, h2, h3, h4, h5⟩ := h
  refine ⟨h1, ao, cap, e, h2, h3, h4, fun hn => ?_⟩
  obtain ⟨g, U, e1, h6, h7, h8⟩ := h5 hn
  refine ⟨g, 0, e1, h8.lt, fun i hi => ?_⟩
  rw [Nat.zero_add, h8.cell, List.getElem?_append_left (by omega)]
theorem Held.form (h : Held lo hi w E s v n L) : ∃ ao cap, v = .slice ao n cap := h.rd.form
theorem Held.wide (h : Held lo hi w E s v n L) {lo' hi' : Nat} (h1 : lo' ≤ lo) (h2 : hi ≤ hi') : Held lo' hi' w E s v n L := by
  obtain ⟨q1, ao, cap, e, q2, q3, q4, q5⟩ := h
  refine ⟨q1, ao, cap, e, q2, q3, q4, fun hn => ?_⟩
  obtain ⟨g, U, e1, h6, h7, h8⟩ := q5 hn
  exact ⟨g, U, e1, by omega, by omega, h8⟩
theorem Held.of_own {g : Nat} (h : Own w g E L) (hl : L.length = n * s) (hn : n ≤ maxLen) : Held g (g + 1) w E s (.slice (some ⟨g, 0, none⟩) n n) n L :=
  ⟨hl, _, _, rfl, Nat.le_refl _, hn, (fun h => by cases h), fun _ => ⟨g, [], rfl, Nat.le_refl _, Nat.lt_succ_self _, by simpa using h⟩⟩
theorem Held.of_row {B : Nat} (h : w.ownsRow B E s v n L) : Held B w.heap.size w E s v n L := by
  obtain ⟨h1, h2⟩ := h
  rcases h2 with ⟨rfl, rfl⟩ | ⟨g, cap, cur, rfl, hb, hg, hn, hm, hs, ht⟩
  · exact ⟨h1, none, 0, rfl, Nat.le_refl _, Nat.zero_le _, fun _ => ⟨rfl, rfl⟩, fun h => by omega⟩
  · refine ⟨h1, _, cap, rfl, hn, hm, (fun h => by cases h), fun _ => ⟨g, cur.toList.drop (n * s), rfl, hb, (Array.getElem?_eq_some_iff.1 hg).1, ?_⟩⟩
    rw [← ht, List.take_append_drop]
    simpa [Own] using hg
end
theorem markTextI (q : Int) (w : World) (h1 : 1 ≤ q) (hk : q ≤ 1073741824) :
    Calls Tryd.prog 83 #[.int .i64 q] w fun e w' => e = .returned (.string (markT q.toNat)) ∧ Below w.heap.size w w' := by
  have h := markText q.toNat w (by omega) (by omega)
  rwa [Int.toNat_of_nonneg (by omega)] at h
theorem marks_succ {s : Nat} (f : Nat → List Value) (hf : ∀ i, (f i).length = s) (j : Nat) : (List.range (j + 1)).flatMap f = (List.range j).flatMap f ++ f j ∧ ((List.range j).flatMap f).length = j * s := by
  refine ⟨by rw [List.range_succ, List.flatMap_append]; simp, ?_⟩
  have := flat_len (f := f) (s := s) (List.range j) (fun x _ => hf x)
  rwa [List.length_range] at this
theorem mset1 (A U : List Value) (t0 v0 : Value) (i : Nat) (hA : A.length = i) : ((A ++ t0 :: U).set (i) v0) = (A ++ [v0]) ++ U := by
  subst hA
  simp [List.set_append]
theorem mcons1 {U : List Value} {n : Nat} (h : U.length = n) (hn : 1 ≤ n) : ∃ t0 U', U = t0 :: U' ∧ U'.length = n - 1 := by
  match U, h with
  | t0 :: U', h => exact ⟨t0, U', rfl, by simp at h; omega⟩
  | [], h => simp at h; omega
theorem mA {P : Program} {f : FuncId} {args : Array Value} {w : World} {lo hi : Nat} {q c : Int} (h : Calls P f args w fun e w' => e = .returned (.int .i64 q) ∧ Turn lo hi w w') (h1 : 1 ≤ q) (h2 : q ≤ c) :
    Calls P f args w fun e w' => ∃ q' : Int, e = .returned (.int .i64 q') ∧ 1 ≤ q' ∧ q' ≤ c ∧ Turn lo hi w w' := h.mono fun _ _ ⟨a, b⟩ => ⟨q, a, h1, h2, b⟩
theorem mA3 {P : Program} {f : FuncId} {args : Array Value} {w : World} {lo hi : Nat} {q c : Int} {R : World → Prop} (h : Calls P f args w fun e w' => e = .returned (.int .i64 q) ∧ Turn lo hi w w' ∧ R w') (h1 : 1 ≤ q) (h2 : q ≤ c) :
    Calls P f args w fun e w' => ∃ q' : Int, e = .returned (.int .i64 q') ∧ 1 ≤ q' ∧ q' ≤ c ∧ Turn lo hi w w' := h.mono fun _ _ ⟨a, b, _⟩ => ⟨q, a, h1, h2, b⟩
theorem toM {P : Program} {f : FuncId} {args : Array Value} {w : World} {q m : Int} {T : World → Prop} (h : Calls P f args w fun e w' => e = .returned (.int .i64 q) ∧ T w') (hq : q = m) :
    Calls P f args w fun e w' => e = .returned (.int .i64 m) ∧ T w' := by subst hq; exact h
end Go.Proofs.YtklgkbiobggbiaaDoor
namespace Go.Proofs.YtklgkbiobggbiaaDoor
open Go.ChangeShapes Go.WideShapes Go.ChangeAt Go.RowKit Go.Deep Go.Joins
set_option linter.unusedVariables false
set_option maxRecDepth 100000
set_option linter.unusedSimpArgs false
def putI (n : Int) : List Value := [.int .i64 n]
theorem putI_len (xs : List Int) : (xs.flatMap putI).length = xs.length * 1 := flat_len xs (fun _ _ => rfl)
theorem putI_get (xs : List Int) (k : Nat) (h : k < xs.length) : (xs.flatMap putI)[k]? = some (.int .i64 xs[k]) := by
  have := flat_get (f := putI) (s := 1) xs (fun _ _ => rfl) (j := 0) (by omega) k
  simp only [Nat.mul_one, Nat.add_zero] at this
  rw [this, List.getElem?_eq_getElem h]
  rfl
theorem info_i64 : (Tryd.prog.info? 2).map (fun i => (i.zero, i.size, i.bytes)) = some (some (.int .i64 0), 1, 8) := by kernel_rfl

/-- one element more -/
theorem set_snoc {α : Type} (f : α → List Value) (xs : List α) (k : Nat) (h : k < xs.length) : (xs.take (k + 1)).flatMap f = (xs.take k).flatMap f ++ f xs[k] := by
  rw [List.take_succ_eq_append_getElem h, List.flatMap_append]; simp
theorem set1 (A T : List Value) (t0 : Value) (i : Nat) (hA : A.length = i) (v : Value) : (A ++ t0 :: T).set i v = (A ++ [v]) ++ T := by
  subst hA
  simp
theorem cons_of {T : List Value} {n : Nat} (h : T.length = n) (hn : 1 ≤ n) : ∃ t0 T', T = t0 :: T' ∧ T'.length = n - 1 := by
  match T, h with
  | [], h => simp at h; omega
  | t0 :: T', h => exact ⟨t0, T', rfl, by simp at h; omega⟩
end Go.Proofs.YtklgkbiobggbiaaDoor
namespace Go.Proofs.YtklgkbiobggbiaaDoor
open Go.ChangeShapes Go.WideShapes Go.ChangeAt Go.RowKit Go.Deep Go.Joins
set_option linter.unusedVariables false
set_option maxRecDepth 100000
set_option linter.unusedSimpArgs false
theorem putStr_len (xs : List ByteArray) : (xs.flatMap putStr).length = xs.length * 1 := flat_len xs (fun _ _ => rfl)
theorem putStr_get (xs : List ByteArray) (k : Nat) (h : k < xs.length) : (xs.flatMap putStr)[k]? = some (.string xs[k]) := by
  have := flat_get (f := putStr) (s := 1) xs (fun _ _ => rfl) (j := 0) (by omega) k
  simp only [Nat.mul_one, Nat.add_zero] at this
  rw [this, List.getElem?_eq_getElem h]
  rfl
theorem info_str : (Tryd.prog.info? 9).map (fun i => (i.zero, i.size, i.bytes)) = some (some (.string ByteArray.empty), 1, 16) := by kernel_rfl

theorem eqStringS (B1 B2 : Nat) (w : World) (v1 v2 : Value) (xs : List ByteArray) (h1 : Rd B1 w v1 1 xs.length (xs.flatMap putStr)) (h2 : Rd B2 w v2 1 xs.length (xs.flatMap putStr)) (hn : xs.length ≤ 1048576) :
    Calls Tryd.prog 45 #[v1, v2] w fun e w' => e = .returned (.bool true) ∧ Drew w w' := by
  obtain ⟨hL, ao, cap, rfl, hcap, hmax, hnil, hsome⟩ := h1
  obtain ⟨hL2, ao2, cap2, rfl, hcap2, hmax2, hnil2, hsome2⟩ := h2
  go_enter Tryd.func45, Tryd.ntmps45
  go_wp2
  go_loopw [5] (fun i wr => ∃ (k : Nat), k ≤ xs.length ∧ i = .int .i64 k ∧ Drew w wr) (fun i _ => xs.length - (intOf i).toNat)
  case atStart => exact ⟨0, Nat.zero_le _, rfl, Drew.refl _⟩
  case round =>
    obtain ⟨k, hk, rfl, hd⟩ := hrel
    obtain ⟨m, rfl⟩ := hd
    by_cases hlt : k < xs.length
    · obtain ⟨b, off, rfl, hbB, hc⟩ := hsome (by omega)
      obtain ⟨b2, off2, rfl, hbB2, hc2⟩ := hsome2 (by omega)
      have c1 : w.cell? ⟨b, off + k, none⟩ = some (.string xs[k]) := by rw [hc k (by omega), putStr_get xs k hlt]
      have c2 : w.cell? ⟨b2, off2 + k, none⟩ = some (.string xs[k]) := by rw [hc2 k (by omega), putStr_get xs k hlt]
      clear hc hc2 hsome hsome2 hnil hnil2
      go_wp2
      go_quiet (fail)
      go_wp2
      go_roundw
      case rel => exact ⟨k + 1, by omega, by go_num, _, rfl⟩
      case measure => simp [intOf]; omega
    · go_wp2
      go_ret
      exact ⟨rfl, _, rfl⟩

def wtStr (xs : List ByteArray) : Nat := (xs.map fun x => x.size).sum
theorem wtStr_succ (xs : List ByteArray) (k : Nat) (h : k < xs.length) : wtStr (xs.take (k + 1)) = wtStr (xs.take k) + xs[k].size := by
  unfold wtStr
  rw [List.take_succ_eq_append_getElem h, List.map_append, List.sum_append]
  simp only [List.map_cons, List.map_nil, List.sum_cons, List.sum_nil, Nat.add_zero]
theorem wtStr_le (xs : List ByteArray) (k : Nat) : wtStr (xs.take k) ≤ wtStr xs := by
  have h : wtStr xs = wtStr (xs.take k) + wtStr (xs.drop k) := by
    unfold wtStr
    rw [← List.sum_append, ← List.map_append, List.take_append_drop]
  omega
end Go.Proofs.YtklgkbiobggbiaaDoor
namespace Go.Proofs.YtklgkbiobggbiaaDoor
open Go.ChangeShapes Go.WideShapes Go.ChangeAt Go.RowKit Go.Deep Go.Joins
set_option linter.unusedVariables false
set_option maxRecDepth 100000
set_option linter.unusedSimpArgs false
/-- block g is a source of draws, of which at most n bytes have been taken -/
def Src (w : World) (g n : Nat) : Prop := ∃ (v : Value) (cs : List UInt8) (k : Nat) (sd : Int), Own w g 129 [v, .int .i64 k, .int .u64 sd] ∧ k ≤ n ∧ 0 ≤ sd ∧ sd < 18446744073709551616 ∧ Rd g w v 1 cs.length (cs.map fun b => Value.int .u8 b.toNat) ∧ cs.length ≤ maxLen
theorem Src.lt {w : World} {g n : Nat} (h : Src w g n) : g < w.heap.size := by obtain ⟨v, cs, k, sd, o, _⟩ := h; exact o.lt
theorem Src.mono {w : World} {g n m : Nat} (h : Src w g n) (hm : n ≤ m) : Src w g m := by
  obtain ⟨v, cs, k, sd, o, h1, h2⟩ := h
  exact ⟨v, cs, k, sd, o, by omega, h2⟩
theorem Src.below {w w' : World} {g n : Nat} (h : Src w g n) (b : Below w.heap.size w w') : Src w' g n := by
  obtain ⟨v, cs, k, sd, o, h1, h2, h3, h4, h5⟩ := h
  exact ⟨v, cs, k, sd, o.below b o.lt, h1, h2, h3, h4.below (Below.mono b (Nat.le_of_lt o.lt)), h5⟩
theorem Src.set {w : World} {g n : Nat} (h : Src w g n) {b : Nat} (hb : g < b) (o : Nat) (v : Value) : Src (w.setCell ⟨b, o, none⟩ v) g n := by
  obtain ⟨u, cs, k, sd, q, h1, h2, h3, h4, h5⟩ := h
  exact ⟨u, cs, k, sd, q.other (by show b ≠ g; omega) v, h1, h2, h3, h4.below (Below.setCell (Below.refl _ _) (by show g ≤ b; omega) v), h5⟩
/-- the source's own block may be written, all else is as it was -/
theorem own_turn {lo hi : Nat} {w w' : World} {base : Nat} {E : TypeId} {s n : Nat} {v : Value} {L : List Value} (h : w.ownsRow base E s v n L) (t : Turn lo hi w w') (hh : hi ≤ base) : w'.ownsRow base E s v n L := by
  obtain ⟨h1, h2⟩ := h
  refine ⟨h1, ?_⟩
  rcases h2 with h2 | ⟨g, cap, cur, rfl, hg0, hg, rest⟩
  · exact .inl h2
  · exact .inr ⟨g, cap, cur, rfl, hg0, (t.kept (Array.getElem?_eq_some_iff.1 hg).1 (.inr (by omega))).trans hg, rest⟩
theorem Rd.turnA {lo hi B : Nat} {w w' : World} {v : Value} {s n : Nat} {L : List Value} (h : Rd B w v s n L) (t : Turn lo hi w w') (hl : B ≤ lo) (hw : B ≤ w.heap.size) : Rd B w' v s n L := h.below (t.below hl hw)
theorem byte_get (cs : List UInt8) (k : Nat) (h : k < cs.length) : (cs.map fun b => Value.int .u8 b.toNat)[k]? = some (.int .u8 cs[k].toNat) := by
  rw [List.getElem?_map, List.getElem?_eq_getElem h]; rfl

theorem u64_bd (z : Int) : 0 ≤ IntKind.u64.wrap z ∧ IntKind.u64.wrap z < 18446744073709551616 := by
  simp [IntKind.wrap, IntKind.bits, IntKind.signed]
  omega
theorem and_byte (z : Int) (h : 0 ≤ z ∧ z < 18446744073709551616) : ∃ u : Nat, bits .and .u64 (z / 1099511627776) 255 = (u : Int) ∧ u ≤ 255 := by
  obtain ⟨m, hm⟩ : ∃ m : Nat, z / 1099511627776 = (m : Int) := ⟨(z / 1099511627776).toNat, by omega⟩
  refine ⟨m &&& 255, ?_, Nat.and_le_right⟩
  rw [hm]
  exact bits_and_u64_nat m 255 (by omega) (by decide)
theorem src_step {w : World} {g n k a b : Nat} {v : Value} {cs : List UInt8} {sd sd2 : Int} (ho : Own w g 129 [v, .int .i64 k, .int .u64 sd]) (hk : k ≤ n) (h0 : 0 ≤ sd2 ∧ sd2 < 18446744073709551616) (hr : Rd g w v 1 cs.length (cs.map fun b => Value.int .u8 b.toNat)) (hl : cs.length ≤ maxLen) :
    Src ((((w.drewN a).setCell ⟨g, 1, none⟩ (.int .i64 ((k : Int) + 1))).setCell ⟨g, 2, none⟩ (.int .u64 sd2)).drewN b) g (n + 1) ∧ Turn g (g + 1) w ((((w.drewN a).setCell ⟨g, 1, none⟩ (.int .i64 ((k : Int) + 1))).setCell ⟨g, 2, none⟩ (.int .u64 sd2)).drewN b) := by
  have q1 : Below g w (w.drewN a) := below_dn (Below.refl g w) a
  have q2 : Below g w ((w.drewN a).setCell ⟨g, 1, none⟩ (.int .i64 ((k : Int) + 1))) := Below.setCell q1 (Nat.le_refl g) _
  have q3 : Below g w (((w.drewN a).setCell ⟨g, 1, none⟩ (.int .i64 ((k : Int) + 1))).setCell ⟨g, 2, none⟩ (.int .u64 sd2)) := Below.setCell q2 (Nat.le_refl g) _
  have B := q3.trans (below_dn (Below.refl g (((w.drewN a).setCell ⟨g, 1, none⟩ (.int .i64 ((k : Int) + 1))).setCell ⟨g, 2, none⟩ (.int .u64 sd2))) b)
  refine ⟨⟨v, cs, k + 1, sd2, ?_, by omega, h0.1, h0.2, hr.below B, hl⟩, ?_⟩
  · have := (((ho.dn a).set 1 (.int .i64 ((k : Int) + 1))).set 2 (.int .u64 sd2)).dn b
    simpa using this
  · exact ((Turn.set (Turn.set (Turn.of_below (below_dn (Below.refl _ _) a)) (Nat.le_refl _) (Nat.lt_succ_self _) 1 _) (Nat.le_refl _) (Nat.lt_succ_self _) 2 _)).trans (Turn.of_below (below_dn (Below.refl _ _) b))
set_option maxHeartbeats 2000000 in
theorem src_next (w : World) (g n : Nat) (h : Src w g n) (hn : n ≤ 4000000000) :
    Calls Tryd.prog 122 #[.pointer (some ⟨g, 0, none⟩)] w fun e w' => ∃ x : Int, e = .returned (.int .i64 x) ∧ 0 ≤ x ∧ x ≤ 255 ∧ Src w' g (n + 1) ∧ Turn g (g + 1) w w' := by
  obtain ⟨v, cs, k, sd, ho, hk, h0, h1, hr, hl⟩ := h
  obtain ⟨lo, lc, rfl⟩ := hr.form
  have c0 : w.cell? ⟨g, 0, none⟩ = some (.slice lo cs.length lc) := ho.cell 0
  have c1 : w.cell? ⟨g, 1, none⟩ = some (.int .i64 k) := ho.cell 1
  have c2 : w.cell? ⟨g, 2, none⟩ = some (.int .u64 sd) := ho.cell 2
  have f1 := ho.free 1
  have f2 := ho.free 2
  have hg := ho.lt
  have HO := Lib.hid ho
  have HR := Lib.hid hr
  obtain ⟨_, ao, cap, e1, _, _, hnil, hsome⟩ := hr
  cases e1
  clear ho
  by_cases hlt : k < cs.length
  · obtain ⟨b, off, rfl, hb, hc⟩ := hsome (by omega)
    have d0 : w.cell? ⟨b, off + k, none⟩ = some (.int .u8 cs[k].toNat) := by rw [hc k (by omega), byte_get cs k hlt]
    have hbl : cs[k].toNat < 256 := cs[k].toNat_lt
    clear hc hsome hnil
    go_enter Tryd.func122, Tryd.ntmps122
    have tk : decide ((k : Int) < (cs.length : Int)) = true := decide_eq_true (by omega)
    go_wp2_with fail
    go_quiet (fail)
    go_wp2_with fail
    go_quiet (fail)
    go_wp2_with fail
    have hle : decide ((k : Int) + 1 ≤ (cs.length : Int)) = true := decide_eq_true (by omega)
    have hs2 := u64_bd (IntKind.u64.wrap (IntKind.u64.wrap (sd * 6364136223846793005) + (cs[k].toNat : Int)) + 1442695040888963407)
    generalize IntKind.u64.wrap (IntKind.u64.wrap (IntKind.u64.wrap (sd * 6364136223846793005) + (cs[k].toNat : Int)) + 1442695040888963407) = sd2 at hs2 ⊢
    go_quiet (fail)
    go_wp2_with fail
    go_ret
    exact ⟨_, rfl, by omega, by omega, (src_step HO.out hk hs2 HR.out hl).1, (src_step HO.out hk hs2 HR.out hl).2⟩
  · have tk : decide ((k : Int) < (cs.length : Int)) = false := decide_eq_false (by omega)
    have hle : decide ((k : Int) + 1 ≤ (cs.length : Int)) = false := decide_eq_false (by omega)
    clear hsome hnil
    go_enter Tryd.func122, Tryd.ntmps122
    go_wp2_with fail
    go_quiet (fail)
    go_wp2_with fail
    have hs2 := u64_bd (IntKind.u64.wrap (IntKind.u64.wrap (sd * 6364136223846793005)) + 1442695040888963407)
    generalize IntKind.u64.wrap (IntKind.u64.wrap (IntKind.u64.wrap (sd * 6364136223846793005)) + 1442695040888963407) = sd2 at hs2 ⊢
    go_quiet (fail)
    go_wp2_with fail
    go_ret
    refine ⟨_, rfl, ?_, ?_, (src_step HO.out hk hs2 HR.out hl).1, (src_step HO.out hk hs2 HR.out hl).2⟩
    all_goals obtain ⟨u, hu, hu2⟩ := and_byte sd2 hs2
    all_goals rw [hu]
    all_goals unfold wrap64
    all_goals omega

set_option maxHeartbeats 2000000 in
theorem src_pick (w : World) (g n : Nat) (m : Int) (h : Src w g n) (hn : n ≤ 3000000000) (hm : m ≤ 1000000000000) :
    Calls Tryd.prog 94 #[.pointer (some ⟨g, 0, none⟩), .int .i64 m] w fun e w' => ∃ x : Int, e = .returned (.int .i64 x) ∧ 0 ≤ x ∧ (m ≤ 1 → x = 0) ∧ (1 < m → x < m) ∧ Src w' g (n + 2) ∧ Turn g (g + 1) w w' := by
  by_cases h1 : m ≤ 1
  · have t1 : decide (m ≤ 1) = true := decide_eq_true h1
    go_enter Tryd.func94, Tryd.ntmps94
    go_wp2_with fail
    go_ret
    exact ⟨0, rfl, Int.le_refl _, fun _ => rfl, fun q => by omega, h.mono (by omega), Turn.refl _ _ _⟩
  have t1 : decide (m ≤ 1) = false := decide_eq_false h1
  have hm1 : 1 < m := by omega
  have H := Lib.hid (src_next w g n h (by omega))
  by_cases h2 : 200 < m
  · have t2 : decide (200 < m) = true := decide_eq_true h2
    clear h h1
    go_enter Tryd.func94, Tryd.ntmps94
    go_wp2_with fail
    refine H.out.mono ?_; rintro e w1 ⟨x, rfl, x0, x1, hs1, tn1⟩
    have H2 := Lib.hid (src_next w1 g (n + 1) hs1 (by omega))
    have T1 := Lib.hid tn1
    clear hs1 tn1
    go_wp2_with fail
    refine H2.out.mono ?_; rintro e w2 ⟨y, rfl, y0, y1, hs2, tn2⟩
    have S2 := Lib.hid hs2
    have T2 := Lib.hid (T1.out.trans tn2)
    clear hs2 tn2
    have hz0 : 0 ≤ x * 256 + y := by omega
    have hz1 : (x * 256 + y) % m < m := Int.emod_lt_of_pos _ (by omega)
    have hz2 : 0 ≤ (x * 256 + y) % m := Int.emod_nonneg _ (by omega)
    have hz3 : Int.tmod (x * 256 + y) m = (x * 256 + y) % m := Int.tmod_eq_emod_of_nonneg hz0
    go_wp2_with fail
    go_ret
    exact ⟨_, by first | rfl | (rw [hz3]; rfl), hz2, fun q => by omega, fun _ => hz1, S2.out, T2.out⟩
  · have t2 : decide (200 < m) = false := decide_eq_false h2
    clear h h1
    go_enter Tryd.func94, Tryd.ntmps94
    go_wp2_with fail
    refine H.out.mono ?_; rintro e w1 ⟨x, rfl, x0, x1, hs1, tn1⟩
    have S1 := Lib.hid (hs1.mono (show n + 1 ≤ n + 2 by omega))
    have T1 := Lib.hid tn1
    clear hs1 tn1
    have hz1 : x % m < m := Int.emod_lt_of_pos _ (by omega)
    have hz2 : 0 ≤ x % m := Int.emod_nonneg _ (by omega)
    have hz3 : Int.tmod x m = x % m := Int.tmod_eq_emod_of_nonneg x0
    go_wp2_with fail
    go_ret
    exact ⟨_, by first | rfl | (rw [hz3]; rfl), hz2, fun q => by omega, fun _ => hz1, S1.out, T1.out⟩

theorem src_among (w : World) (g n : Nat) (v : Value) (zs : List Int) (h : Src w g n) (hn : n ≤ 3000000000) (hv : Rd w.heap.size w v 1 zs.length (zs.flatMap putI)) (h0 : 1 ≤ zs.length) (hz : zs.length ≤ 1048576) (ha : ∀ b off l c, v = .slice (some ⟨b, off, none⟩) l c → b ≠ g) :
    Calls Tryd.prog 123 #[.pointer (some ⟨g, 0, none⟩), v] w fun e w' => ∃ x : Int, e = .returned (.int .i64 x) ∧ x ∈ zs ∧ Src w' g (n + 2) ∧ Turn g (g + 1) w w' := by
  have H := Lib.hid (src_pick w g n (zs.length : Int) h hn (by omega))
  obtain ⟨_, ao, cap, rfl, hc1, hc2, _, hsome⟩ := hv
  obtain ⟨b, off, rfl, hb, hc⟩ := hsome (by omega)
  have hne := ha b off _ _ rfl
  clear h hsome ha
  go_enter Tryd.func123, Tryd.ntmps123
  go_wp2_with fail
  refine H.out.mono ?_; rintro e w1 ⟨x, rfl, x0, x1, x2, hs1, tn1⟩
  obtain ⟨k, rfl⟩ : ∃ k : Nat, x = (k : Int) := ⟨x.toNat, by omega⟩
  have hk : k < zs.length := by
    by_cases q : (zs.length : Int) ≤ 1
    · have := x1 q; omega
    · have := x2 (by omega); omega
  have hkp : w1.heap[b]? = w.heap[b]? := tn1.kept hb (by omega)
  have d0 : w1.cell? ⟨b, off + k, none⟩ = some (.int .i64 zs[k]) := by
    have e1 : w1.cell? ⟨b, off + k, none⟩ = w.cell? ⟨b, off + k, none⟩ := by simp [World.cell?, hkp]
    rw [e1, hc k (by omega), putI_get zs k hk]
  have S1 := Lib.hid hs1
  have T1 := Lib.hid tn1
  clear hs1 tn1 x1 x2 hkp hc
  go_wp2_with fail
  go_ret
  exact ⟨zs[k], rfl, List.getElem_mem hk, S1.out, T1.out⟩
end Go.Proofs.YtklgkbiobggbiaaDoor
namespace Go.Proofs.YtklgkbiobggbiaaDoor
open Go.ChangeShapes Go.WideShapes Go.ChangeAt Go.RowKit Go.Deep Go.Joins
set_option linter.unusedVariables false
set_option maxRecDepth 100000
set_option linter.unusedSimpArgs false
def putB (n : UInt8) : List Value := [.int .u8 n.toNat]
theorem putB_len (xs : List UInt8) : (xs.flatMap putB).length = xs.length * 1 := flat_len xs (fun _ _ => rfl)
theorem putB_get (xs : List UInt8) (k : Nat) (h : k < xs.length) : (xs.flatMap putB)[k]? = some (.int .u8 xs[k].toNat) := by
  have := flat_get (f := putB) (s := 1) xs (fun _ _ => rfl) (j := 0) (by omega) k
  simp only [Nat.mul_one, Nat.add_zero] at this
  rw [this, List.getElem?_eq_getElem h]
  rfl
def r8at (xs : List UInt8) (k n : Int) : Int := ((xs[k.toNat]?.getD 0).toNat : Int) % n
theorem r8at_bd (xs : List UInt8) (k n : Int) (hn : 0 < n) : 0 ≤ r8at xs k n ∧ r8at xs k n < n := ⟨Int.emod_nonneg _ (by omega), Int.emod_lt_of_pos _ hn⟩

theorem laws_r8At (w : World) (v : Value) (xs : List UInt8) (B : Nat) (h : Rd B w v 1 xs.length (xs.flatMap putB)) (hx : xs.length ≤ 1048576) (k n : Int) (hk : 0 ≤ k) (hk2 : k ≤ 1000000000) (hn : 2 ≤ n) (hn2 : n ≤ 1000000000000) :
    Calls Tryd.prog 24 #[v, .int .i64 k, .int .i64 n] w fun e w' => e = .returned (.int .i64 (r8at xs k n)) ∧ w = w' := by
  obtain ⟨hL, ao, cap, rfl, hcap, hmax, hnil, hsome⟩ := h
  obtain ⟨k, rfl⟩ := Int.eq_ofNat_of_zero_le hk
  by_cases hlt : k < xs.length
  · obtain ⟨b, off, rfl, hbB, hc⟩ := hsome (by omega)
    have c1 : w.cell? ⟨b, off + k, none⟩ = some (.int .u8 xs[k].toNat) := by rw [hc k (by omega), putB_get xs k hlt]
    have hb := xs[k].toNat_lt
    have e : Hid (r8at xs k n = (xs[k].toNat : Int) % n) := (by simp [r8at, hlt] : r8at xs k n = (xs[k].toNat : Int) % n)
    clear hc hsome hnil
    go_enter Tryd.func24, Tryd.ntmps24
    go_wp2
    go_ret
    exact ⟨by rw [e.out]; rfl, rfl⟩
  · have e : Hid (r8at xs k n = 0) := (by
      unfold r8at
      rw [Int.toNat_natCast, List.getElem?_eq_none (by omega)]
      simp : r8at xs k n = 0)
    clear hsome hnil
    go_enter Tryd.func24, Tryd.ntmps24
    go_wp2
    go_ret
    exact ⟨by rw [e.out]; rfl, rfl⟩

def r8wide (xs : List UInt8) (k n : Int) : Int := (256 * r8at xs k 256 + r8at xs (k + 1) 256) % n
theorem r8wide_bd (xs : List UInt8) (k n : Int) (hn : 0 < n) : 0 ≤ r8wide xs k n ∧ r8wide xs k n < n := ⟨Int.emod_nonneg _ (by omega), Int.emod_lt_of_pos _ hn⟩
end Go.Proofs.YtklgkbiobggbiaaDoor
namespace Go.Proofs.YtklgkbiobggbiaaDoor
open Go.ChangeShapes Go.WideShapes Go.ChangeAt Go.RowKit Go.Deep Go.Joins
set_option linter.unusedVariables false
set_option maxRecDepth 100000
set_option linter.unusedSimpArgs false
theorem Turn.setNew {lo hi : Nat} {a w : World} (h : Turn lo hi a w) {g : Nat} (hg : a.heap.size ≤ g) (o : Nat) (v : Value) : Turn lo hi a (w.setCell ⟨g, o, none⟩ v) := by
  obtain ⟨h1, h2, h3, h4, h5, h6⟩ := h
  have b : Below g w (w.setCell ⟨g, o, none⟩ v) := Below.setCell (Below.refl g w) (Nat.le_refl g) v
  refine ⟨b.os.trans h1, b.tape.trans h2, b.output.trans h3, Nat.le_trans h4 b.size, fun i hi' hd => ?_, fun i E L ho => ?_⟩
  · exact (b.block i (by omega)).trans (h5 i hi' hd)
  · obtain ⟨L', e, o'⟩ := h6 i E L ho
    exact ⟨L', e, o'.other (by have := ho.lt; show g ≠ i; omega) v⟩
theorem Turn.allocR {lo hi : Nat} {a w : World} (h : Turn lo hi a w) (ob : Obj) : Turn lo hi a (w.alloc ob) := h.trans (Turn.of_below ((Below.refl _ _).alloc (Nat.le_refl _) _))
theorem Turn.drewR {lo hi : Nat} {a w : World} (h : Turn lo hi a w) : Turn lo hi a w.drew := h.trans (Turn.of_below ((Below.refl _ _).drew))
theorem putB_map (cs : List UInt8) : cs.flatMap putB = cs.map fun b => Value.int .u8 b.toNat := by
  induction cs with
  | nil => rfl
  | cons c cs ih => rw [List.flatMap_cons, List.map_cons, ih]; rfl
theorem src_from (w : World) (v : Value) (cs : List UInt8) (h : Rd w.heap.size w v 1 cs.length (cs.flatMap putB)) (hl : cs.length ≤ maxLen) :
    Calls Tryd.prog 57 #[v] w fun e w' => e = .returned (.pointer (some ⟨w.heap.size, 0, none⟩)) ∧ Src w' w.heap.size 0 ∧ Below w.heap.size w w' := by
  obtain ⟨ao, cap, rfl⟩ := h.form
  have HS : Hid (Src (w.alloc (.cells #[.slice ao cs.length cap, .int .i64 0, .int .u64 0] 129)) w.heap.size 0) := Lib.hid ⟨_, cs, 0, 0, Own.new w _ _, Nat.le_refl _, by decide, by decide, by
    have hb : Below w.heap.size w (w.alloc (.cells #[.slice ao cs.length cap, .int .i64 0, .int .u64 0] 129)) := (Below.refl _ _).alloc (Nat.le_refl _) _
    rw [← putB_map]; exact h.below hb, hl⟩
  have HB : Hid (Below w.heap.size w (w.alloc (.cells #[.slice ao cs.length cap, .int .i64 0, .int .u64 0] 129))) := Lib.hid ((Below.refl _ _).alloc (Nat.le_refl _) _)
  clear h
  go_enter Tryd.func57, Tryd.ntmps57
  go_wp2_with fail
  go_ret
  exact ⟨rfl, HS.out, HB.out⟩
theorem laws_r8Long (w : World) (v u : Value) (n m : Nat) (vo uo : Option Addr) (vc uc : Nat) (hv : v = .slice vo n vc) (hu : u = .slice uo m uc) :
    Calls Tryd.prog 22 #[v, u] w fun e w' => e = .returned (.bool (decide ((1048576 : Int) < n) || decide ((1048576 : Int) < m))) ∧ w = w' := by
  subst hv hu
  by_cases h : (1048576 : Int) < n
  · have t1 : decide ((1048576 : Int) < n) = true := decide_eq_true h
    go_enter Tryd.func22, Tryd.ntmps22
    go_wp2_with fail
    go_ret
    exact ⟨by simp [t1], rfl⟩
  · have t1 : decide ((1048576 : Int) < n) = false := decide_eq_false h
    go_enter Tryd.func22, Tryd.ntmps22
    go_wp2_with fail
    go_ret
    exact ⟨by simp [t1], rfl⟩
theorem own_base {w : World} {base base' n s : Nat} {E : TypeId} {v : Value} {L : List Value} (h : w.ownsRow base E s v n L) (hb : base' ≤ base) : w.ownsRow base' E s v n L := by
  obtain ⟨h1, h2⟩ := h
  refine ⟨h1, ?_⟩
  rcases h2 with h2 | ⟨g, cap, cur, rfl, hg0, rest⟩
  · exact .inl h2
  · exact .inr ⟨g, cap, cur, rfl, Nat.le_trans hb hg0, rest⟩
theorem Src.belowB {B : Nat} {w w' : World} {g n : Nat} (h : Src w g n) (b : Below B w w') (hg : g < B) : Src w' g n := by
  obtain ⟨v, cs, k, sd, o, h1, h2, h3, h4, h5⟩ := h
  exact ⟨v, cs, k, sd, o.below b hg, h1, h2, h3, h4.below (Below.mono b (Nat.le_of_lt hg)), h5⟩
theorem laws_r8AtB (w : World) (v : Value) (xs : List UInt8) (B : Nat) (h : Rd B w v 1 xs.length (xs.flatMap putB)) (hx : xs.length ≤ 1048576) (k : Int) (n : Nat) (hk : 0 ≤ k) (hk2 : k ≤ 1000000000) (hn : 1 ≤ n) (hn2 : n ≤ 1000000000) :
    Calls Tryd.prog 24 #[v, .int .i64 k, .int .i64 n] w fun e w' => ∃ x : Nat, e = .returned (.int .i64 x) ∧ x < n ∧ w = w' := by
  by_cases h2 : 2 ≤ n
  · have hb := r8at_bd xs k n (by omega)
    refine (laws_r8At w v xs B h hx k n hk hk2 (by omega) (by omega)).mono ?_
    rintro e w' ⟨rfl, rfl⟩
    obtain ⟨x, hx⟩ : ∃ x : Nat, r8at xs k n = (x : Int) := ⟨(r8at xs k n).toNat, by omega⟩
    exact ⟨x, by rw [hx], by omega, rfl⟩
  · obtain rfl : n = 1 := by omega
    obtain ⟨ao, cap, rfl⟩ := h.form
    clear h
    go_enter Tryd.func24, Tryd.ntmps24
    go_wp2_with fail
    go_ret
    exact ⟨0, rfl, by omega, rfl⟩
theorem Turn.thenB {lo hi B : Nat} {a w w' : World} (h : Turn lo hi a w) (b : Below B w w') (hB : a.heap.size ≤ B) : Turn lo hi a w' := by
  obtain ⟨h1, h2, h3, h4, h5, h6⟩ := h
  refine ⟨b.os.trans h1, b.tape.trans h2, b.output.trans h3, Nat.le_trans h4 b.size, fun i hi' hd => ?_, fun i E L ho => ?_⟩
  · exact (b.block i (by omega)).trans (h5 i hi' hd)
  · obtain ⟨L', e, o'⟩ := h6 i E L ho
    exact ⟨L', e, o'.below b (by have := ho.lt; omega)⟩
theorem Turn.cell {lo hi : Nat} {w w' : World} (t : Turn lo hi w w') {b : Nat} (hb : b < w.heap.size) (hd : b < lo ∨ hi ≤ b) (o : Nat) : w'.cell? ⟨b, o, none⟩ = w.cell? ⟨b, o, none⟩ := by
  have := t.kept hb hd
  simp [World.cell?, this]
end Go.Proofs.YtklgkbiobggbiaaDoor
namespace Go.Proofs.YtklgkbiobggbiaaDoor
open Go.ChangeShapes Go.WideShapes Go.ChangeAt Go.RowKit Go.Deep Go.Joins
set_option linter.unusedVariables false
set_option maxRecDepth 100000
set_option linter.unusedSimpArgs false
/-- low to high -/
def inB (n lo hi : Int) : Bool := decide (lo ≤ n) && decide (n ≤ hi)
theorem inB_true {n lo hi : Int} (h : inB n lo hi = true) : lo ≤ n ∧ n ≤ hi := by simpa [inB] using h
theorem inB_false {n lo hi : Int} (h : inB n lo hi = false) : ¬ (lo ≤ n ∧ n ≤ hi) := by
  intro hc
  have : inB n lo hi = true := by simpa [inB] using hc
  rw [this] at h; cases h
theorem inB_mk {n lo hi : Int} (h : lo ≤ n ∧ n ≤ hi) : inB n lo hi = true := by simpa [inB] using h

theorem l00In (n lo hi : Int) (w : World) : Calls Tryd.prog 87 #[.int .i64 n, .int .i64 lo, .int .i64 hi] w fun e w' => e = .returned (.bool (inB n lo hi)) ∧ w = w' := by
  unfold inB
  go_enter Tryd.func87, Tryd.ntmps87
  go_wp2
  all_goals go_ret
  all_goals exact ⟨by first | (simp [*]; done) | (simp [*]; omega), rfl⟩

theorem within (n lo hi : Int) (w : World) : Calls Tryd.prog 70 #[.int .i64 n, .int .i64 lo, .int .i64 hi] w fun e w' => e = .returned (.bool (inB n lo hi)) ∧ w = w' := by
  unfold inB
  go_enter Tryd.func70, Tryd.ntmps70
  go_wp2
  all_goals go_ret
  all_goals exact ⟨by first | (simp [*]; done) | (simp [*]; omega), rfl⟩

theorem l00In_is {b : Bool} (n lo hi : Int) (w : World) (h : inB n lo hi = b) : Calls Tryd.prog 87 #[.int .i64 n, .int .i64 lo, .int .i64 hi] w fun e w' => e = .returned (.bool b) ∧ w = w' := by
  rw [← h]; exact l00In n lo hi w
theorem within_is {b : Bool} (n lo hi : Int) (w : World) (h : inB n lo hi = b) : Calls Tryd.prog 70 #[.int .i64 n, .int .i64 lo, .int .i64 hi] w fun e w' => e = .returned (.bool b) ∧ w = w' := by
  rw [← h]; exact within n lo hi w
end Go.Proofs.YtklgkbiobggbiaaDoor
namespace Go.Proofs.YtklgkbiobggbiaaDoor
open Go.ChangeShapes Go.WideShapes Go.ChangeAt Go.RowKit Go.Deep Go.Joins
set_option linter.unusedVariables false
set_option maxRecDepth 100000
set_option linter.unusedSimpArgs false
def smallC (c : UInt8) : Bool := inB c.toNat 97 122
def digitC (c : UInt8) : Bool := inB c.toNat 48 57
def restC (c : UInt8) : Bool := smallC c || digitC c
def nameL (l : List UInt8) : Bool := decide (1 ≤ l.length) && (decide (l.length ≤ 10) && (l.head?.any smallC && l.all restC))
def nameB (s : ByteArray) : Bool := nameL s.data.toList

theorem take_snocB (s : ByteArray) (k : Nat) (h : k < s.size) : s.data.toList.take (k + 1) = s.data.toList.take k ++ [s[k]] := by
  rw [List.take_succ_eq_append_getElem (by simpa using h)]; rfl
theorem all_snocB (s : ByteArray) (k : Nat) (h : k < s.size) : (s.data.toList.take (k + 1)).all restC = ((s.data.toList.take k).all restC && restC s[k]) := by
  rw [take_snocB s k h, List.all_append]; simp
theorem all_falseB (s : ByteArray) (k : Nat) (h : k < s.size) (hc : restC s[k] = false) : s.data.toList.all restC = false := by
  rw [List.all_eq_false]
  exact ⟨s[k], by simp [ByteArray.getElem_eq_getElem_data], by simp [hc]⟩
theorem headB (s : ByteArray) (h : 0 < s.size) : s.data.toList.head? = some s[0] := by
  rw [List.head?_eq_getElem?, List.getElem?_eq_getElem (by simpa using h)]; rfl

theorem spec_l01Small (n : Int) (w : World) : Calls Tryd.prog 125 #[.int .u8 n] w fun e w' => e = .returned (.bool (inB n 97 122)) ∧ w = w' := by
  unfold inB
  go_enter Tryd.func125, Tryd.ntmps125
  go_wp2
  all_goals go_ret
  all_goals exact ⟨by first | (simp [*]; done) | (simp [*]; omega), rfl⟩
theorem spec_l01Digit (n : Int) (w : World) : Calls Tryd.prog 86 #[.int .u8 n] w fun e w' => e = .returned (.bool (inB n 48 57)) ∧ w = w' := by
  unfold inB
  go_enter Tryd.func86, Tryd.ntmps86
  go_wp2
  all_goals go_ret
  all_goals exact ⟨by first | (simp [*]; done) | (simp [*]; omega), rfl⟩
theorem spec_l01Small_is {b : Bool} (n : Int) (w : World) (h : inB n 97 122 = b) : Calls Tryd.prog 125 #[.int .u8 n] w fun e w' => e = .returned (.bool b) ∧ w = w' := by
  rw [← h]; exact spec_l01Small n w
theorem spec_l01Digit_is {b : Bool} (n : Int) (w : World) (h : inB n 48 57 = b) : Calls Tryd.prog 86 #[.int .u8 n] w fun e w' => e = .returned (.bool b) ∧ w = w' := by
  rw [← h]; exact spec_l01Digit n w

/-- the world behind '[]byte(s)' -/
def convW (w : World) (e : TypeId) (s : ByteArray) : World := w.drew.alloc (.cells (bytesRow s (grownCap w s.size 0 e)) e ((bytesRow s (grownCap w s.size 0 e)).size, (bytesRow s (grownCap w s.size 0 e)).size + 1))
theorem convW_run {P : Program} (w : World) (src dst e : TypeId) (s : ByteArray) (hs : P.underlying src = some .string) (hd : P.underlying dst = some (.slice e)) (he : P.underlying e = some (.int .u8)) :
    (Go.convert src dst (.string s)).run P w = .ok (.slice (some ⟨w.heap.size, 0, none⟩) s.size (grownCap w s.size 0 e)) (convW w e s) := run_bytes_of_string w src dst e s hs hd he
theorem convW_below (w : World) (e : TypeId) (s : ByteArray) : Below w.heap.size w (convW w e s) := ((Below.refl _ _).drew).alloc (Nat.le_refl _) _
theorem convW_size (w : World) (e : TypeId) (s : ByteArray) : (convW w e s).heap.size = w.heap.size + 1 := by
  unfold convW
  simp
theorem convW_cell (w : World) (e : TypeId) (s : ByteArray) (k : Nat) (h : k < s.size) : (convW w e s).cell? ⟨w.heap.size, k, none⟩ = some (.int .u8 s[k].toNat) := by
  have hk : k < s.data.size := h
  have hb := bytesRow_at s (grownCap w s.size 0 e) k hk
  have hh : (convW w e s).heap[w.heap.size]? = some (.cells (bytesRow s (grownCap w s.size 0 e)) e ((bytesRow s (grownCap w s.size 0 e)).size, (bytesRow s (grownCap w s.size 0 e)).size + 1)) := by
    show (w.heap.push _)[w.heap.size]? = _
    simp
  unfold World.cell?
  simp only [hh]
  have e : s[k] = s.data[k] := rfl
  rw [e]
  simpa using hb

theorem spec_l01Name (s : ByteArray) (w : World) (hs : s.size ≤ maxLen) : Calls Tryd.prog 103 #[.string s] w fun e w' => e = .returned (.bool (nameB s)) ∧ w = w' := by
  unfold maxLen at hs
  by_cases h0 : s.size = 0
  · have hz : s.toList.isEmpty = true := by
      rw [← decide_eq_emptyBytes]
      have : s.data = #[] := Array.eq_empty_of_size_eq_zero h0
      simp [ByteArray.ext_iff, this]
    have e : Hid (nameB s = false) := (by simp [nameB, nameL, h0] : nameB s = false)
    go_enter Tryd.func103, Tryd.ntmps103
    go_wp2
    go_ret
    exact ⟨by rw [e.out]; rfl, rfl⟩
  have hz : s.toList.isEmpty = false := by
    rw [← decide_eq_emptyBytes]
    have : s.data ≠ #[] := fun h => h0 (show s.data.size = 0 by rw [h]; rfl)
    simp [ByteArray.ext_iff, this]
  have h0' : 0 < s.size := by omega
  by_cases h1 : s.size ≤ 10
  case neg =>
    have d2 : 10 < (s.size : Int) := by omega
    have e : Hid (nameB s = false) := (by simp [nameB, nameL, h1] : nameB s = false)
    go_enter Tryd.func103, Tryd.ntmps103
    go_wp2
    go_ret
    exact ⟨by rw [e.out]; rfl, rfl⟩
  have d2 : ¬ 10 < (s.size : Int) := by omega
  cases hA : inB s[0].toNat 97 122
  · have e : Hid (nameB s = false) := (by
      unfold nameB nameL
      rw [headB s h0']
      simp [smallC, hA] : nameB s = false)
    go_enter Tryd.func103, Tryd.ntmps103
    go_wp2_with (go_at_call 125; refine (spec_l01Small_is _ _ (by assumption)).mono ?_; rintro e w' ⟨rfl, rfl⟩)
    go_ret
    exact ⟨by rw [e.out]; rfl, rfl⟩
  have en : Hid (nameB s = s.data.toList.all restC) := (by
    unfold nameB nameL
    rw [headB s h0']
    have e1 : decide (1 ≤ s.data.toList.length) = true := by simpa using (show 1 ≤ s.data.size from h0')
    have e2 : decide (s.data.toList.length ≤ 10) = true := by simpa using (show s.data.size ≤ 10 from h1)
    rw [e1, e2]
    simp [smallC, hA] : nameB s = s.data.toList.all restC)
  go_enter Tryd.func103, Tryd.ntmps103
  go_wp2_with (go_at_call 125; refine (spec_l01Small_is _ _ (by assumption)).mono ?_; rintro e w' ⟨rfl, rfl⟩)
  clear hA
  go_loop [3] (fun i => ∃ k : Nat, k ≤ s.size ∧ i = .int .i64 k ∧ (s.data.toList.take k).all restC = true) (fun i => s.size - (intOf i).toNat)
  case atStart => exact ⟨0, Nat.zero_le _, rfl, rfl⟩
  case round =>
    obtain ⟨k, hk, rfl, hall⟩ := hrel
    have Hall := Lib.hid hall; clear hall
    by_cases hlt : k < s.size
    · have hn := Lib.hid (all_snocB s k hlt)
      have hf := Lib.hid (all_falseB s k hlt)
      cases hS : inB s[k].toNat 97 122
      · cases hD : inB s[k].toNat 48 57
        · have e : Hid (nameB s = false) := (by rw [en.out]; exact hf.out (by simp [restC, smallC, digitC, hS, hD]) : nameB s = false)
          go_wp2_with (first | (go_at_call 125; refine (spec_l01Small_is _ _ (by assumption)).mono ?_; rintro e w' ⟨rfl, rfl⟩) | (go_at_call 86; refine (spec_l01Digit_is _ _ (by assumption)).mono ?_; rintro e w' ⟨rfl, rfl⟩))
          go_ret
          exact ⟨by rw [e.out]; rfl, rfl⟩
        · have e : Hid ((s.data.toList.take (k + 1)).all restC = true) := (by rw [hn.out, Hall.out]; simp [restC, smallC, digitC, hS, hD] : (s.data.toList.take (k + 1)).all restC = true)
          go_wp2_with (first | (go_at_call 125; refine (spec_l01Small_is _ _ (by assumption)).mono ?_; rintro e w' ⟨rfl, rfl⟩) | (go_at_call 86; refine (spec_l01Digit_is _ _ (by assumption)).mono ?_; rintro e w' ⟨rfl, rfl⟩))
          go_round
          case rel => exact ⟨k + 1, by omega, by go_num, e.out⟩
          case measure => simp [intOf]; omega
      · have e : Hid ((s.data.toList.take (k + 1)).all restC = true) := (by rw [hn.out, Hall.out]; simp [restC, smallC, digitC, hS] : (s.data.toList.take (k + 1)).all restC = true)
        go_wp2_with (first | (go_at_call 125; refine (spec_l01Small_is _ _ (by assumption)).mono ?_; rintro e w' ⟨rfl, rfl⟩) | (go_at_call 86; refine (spec_l01Digit_is _ _ (by assumption)).mono ?_; rintro e w' ⟨rfl, rfl⟩))
        go_round
        case rel => exact ⟨k + 1, by omega, by go_num, e.out⟩
        case measure => simp [intOf]; omega
    · have e : Hid (nameB s = true) := (by
        rw [en.out]
        have := Hall.out
        rwa [List.take_of_length_le (by simp; omega)] at this : nameB s = true)
      go_wp2
      go_ret
      exact ⟨by rw [e.out]; rfl, rfl⟩

set_option maxHeartbeats 1000000 in
theorem impl_IsName (s : ByteArray) (w : World) (hs : s.size ≤ maxLen) : Calls Tryd.prog 69 #[.string s] w fun e w' => e = .returned (.bool (nameB s)) ∧ Below w.heap.size w w' := by
  unfold maxLen at hs
  by_cases h0 : s.size = 0
  · have d1 : (s.size : Int) < 1 := by omega
    have e : Hid (nameB s = false) := (by simp [nameB, nameL, h0] : nameB s = false)
    clear h0
    go_enter Tryd.func69, Tryd.ntmps69
    go_wp2
    go_ret
    exact ⟨by rw [e.out]; rfl, by (repeat' (first | (with_reducible exact Below.refl _ _) | (with_reducible assumption) | (with_reducible refine below_dn ?_ _) | (with_reducible refine Below.drew ?_) | (with_reducible refine Below.alloc ?_ ?_ _) | (with_reducible refine Below.setCell ?_ ?_ _) | go_size))⟩
  have d1 : ¬ (s.size : Int) < 1 := by omega
  have h0' : 0 < s.size := by omega
  by_cases h1 : s.size ≤ 10
  case neg =>
    have d2 : 10 < (s.size : Int) := by omega
    have e : Hid (nameB s = false) := (by simp [nameB, nameL, h1] : nameB s = false)
    go_enter Tryd.func69, Tryd.ntmps69
    go_wp2
    go_ret
    exact ⟨by rw [e.out]; rfl, by (repeat' (first | (with_reducible exact Below.refl _ _) | (with_reducible assumption) | (with_reducible refine below_dn ?_ _) | (with_reducible refine Below.drew ?_) | (with_reducible refine Below.alloc ?_ ?_ _) | (with_reducible refine Below.setCell ?_ ?_ _) | go_size))⟩
  have d2 : ¬ 10 < (s.size : Int) := by omega
  have hcv := fun w s => convW_run (P := Tryd.prog) w 9 49 5 s Tryd.underlying9 Tryd.underlying49 Tryd.underlying5
  have en : Hid (nameB s = (smallC s[0] && s.data.toList.all restC)) := (by
    unfold nameB nameL
    rw [headB s h0']
    have e1 : decide (1 ≤ s.data.toList.length) = true := by simpa using (show 1 ≤ s.data.size from h0')
    have e2 : decide (s.data.toList.length ≤ 10) = true := by simpa using (show s.data.size ≤ 10 from h1)
    rw [e1, e2]
    simp : nameB s = (smallC s[0] && s.data.toList.all restC))
  go_enter Tryd.func69, Tryd.ntmps69
  go_wp2
  clear hcv
  have hwb := convW_below w 5 s
  have hcell := Lib.hid (convW_cell w 5 s)
  generalize convW w 5 s = w1 at *
  go_loop [18] (fun i => ∃ k : Nat, k ≤ s.size ∧ i = .int .i64 k ∧ (s.data.toList.take k).all restC = true ∧ (0 < k → smallC s[0] = true)) (fun i => s.size - (intOf i).toNat)
  case atStart => exact ⟨0, Nat.zero_le _, rfl, rfl, fun h => by omega⟩
  case round =>
    obtain ⟨k, hk, rfl, hall, hfst⟩ := hrel
    have Hall := Lib.hid hall; clear hall
    have Hfst := Lib.hid hfst; clear hfst
    by_cases hlt : k < s.size
    · have hn := Lib.hid (all_snocB s k hlt)
      have hf := Lib.hid (all_falseB s k hlt)
      have c1 := hcell.out k hlt
      have hb := s[k].toNat_lt
      by_cases a1 : 97 ≤ s[k].toNat ∧ s[k].toNat ≤ 122
      · have hS : smallC s[k] = true := by simp [smallC, inB]; omega
        have e : Hid ((s.data.toList.take (k + 1)).all restC = true) := (by rw [hn.out, Hall.out]; simp [restC, hS] : (s.data.toList.take (k + 1)).all restC = true)
        have e2 : Hid (smallC s[0] = true) := (by
          by_cases hk0 : k = 0
          · subst hk0; exact hS
          · exact Hfst.out (by omega) : smallC s[0] = true)
        obtain ⟨a1, a2⟩ := a1
        clear hS
        go_wp2
        go_round
        case rel => exact ⟨k + 1, by omega, by go_num, e.out, fun _ => e2.out⟩
        case measure => simp [intOf]; omega
      have hS : smallC s[k] = false := by
        cases h : smallC s[k] with
        | false => rfl
        | true => have := inB_true h; omega
      by_cases hk0 : k = 0
      · subst hk0
        have e : Hid (nameB s = false) := (by rw [en.out, hS]; rfl : nameB s = false)
        clear hS
        have t1 : (s[0].toNat : Int) < 48 ∨ (48 ≤ (s[0].toNat : Int) ∧ (s[0].toNat : Int) ≤ 57) ∨ (57 < (s[0].toNat : Int) ∧ (s[0].toNat : Int) < 97) ∨ (122 < (s[0].toNat : Int) ∧ (!decide ((s[0].toNat : Int) ≤ 122)) = true) := by
          simp only [Bool.not_eq_true', decide_eq_false_iff_not]
          omega
        clear a1
        rcases t1 with t1 | ⟨t1, t2⟩ | ⟨t1, t2⟩ | ⟨t1, t2⟩
        all_goals
          go_wp2
          all_goals go_ret
          all_goals exact ⟨by rw [e.out]; rfl, hwb⟩
      · have hz : ((k : Int) == 0) = false := beq_eq_false_iff_ne.2 (by omega)
        have e2 : Hid (smallC s[0] = true) := (Hfst.out (by omega) : smallC s[0] = true)
        by_cases a4 : 48 ≤ s[k].toNat ∧ s[k].toNat ≤ 57
        · have hD : digitC s[k] = true := by simp [digitC, inB]; omega
          have e : Hid ((s.data.toList.take (k + 1)).all restC = true) := (by rw [hn.out, Hall.out]; simp [restC, hD] : (s.data.toList.take (k + 1)).all restC = true)
          have t1 : 48 ≤ (s[k].toNat : Int) := by omega
          have t2 : (s[k].toNat : Int) ≤ 57 := by omega
          clear hS hD a1 a4
          go_wp2
          go_round
          case rel => exact ⟨k + 1, by omega, by go_num, e.out, fun _ => e2.out⟩
          case measure => simp [intOf]; omega
        · have hD : digitC s[k] = false := by
            cases h : digitC s[k] with
            | false => rfl
            | true => have := inB_true h; omega
          have e : Hid (nameB s = false) := (by rw [en.out, hf.out (by simp [restC, hS, hD])]; simp : nameB s = false)
          clear hS hD
          have t1 : (s[k].toNat : Int) < 48 ∨ (57 < (s[k].toNat : Int) ∧ (s[k].toNat : Int) < 97 ∧ (!decide ((s[k].toNat : Int) ≤ 57)) = true) ∨ (122 < (s[k].toNat : Int) ∧ (!decide ((s[k].toNat : Int) ≤ 122)) = true ∧ (!decide ((s[k].toNat : Int) ≤ 57)) = true) := by
            simp only [Bool.not_eq_true', decide_eq_false_iff_not]
            omega
          clear a1 a4
          rcases t1 with t1 | ⟨t1, t2, t3⟩ | ⟨t1, t2, t3⟩
          all_goals
            go_wp2
            all_goals go_ret
            all_goals exact ⟨by rw [e.out]; rfl, hwb⟩
    · have e : Hid (nameB s = true) := (by
        rw [en.out, Hfst.out (by omega)]
        have := Hall.out
        rw [List.take_of_length_le (by simp; omega)] at this
        simpa using this : nameB s = true)
      go_wp2
      go_ret
      exact ⟨by rw [e.out]; rfl, hwb⟩
end Go.Proofs.YtklgkbiobggbiaaDoor
namespace Go.Proofs.YtklgkbiobggbiaaDoor
open Go.ChangeShapes Go.WideShapes Go.ChangeAt Go.RowKit Go.Deep Go.Joins
set_option linter.unusedVariables false
set_option maxRecDepth 100000
set_option linter.unusedSimpArgs false
/-- 'append(s, x...)' of a slice that can be read -/
theorem app_sl {P : Program} {ops : Array Oper} {rest : List Oper} {o : Oper} {a : Act} {Q : Exit → Act → World → Prop} (hgd : o.guard = none) (s x : Operand) (T E : TypeId) (i : TypeInfo) (z : Value) (sz bytes : Nat)
    (hT : P.underlying T = some (.slice E)) (hi : P.info? E = some i) (hz : i.zero = some z) (h1 : i.size = sz) (h2 : i.bytes = bytes) (hzs : z.cells.size = sz) (hsz : 0 < sz)
    (ho : o.op = .call { callee := .builtin .append, args := #[s, x], argTypes := #[T, T] }) (w : World) (base : Nat) (v : Value) (n : Nat) (L : List Value) (hs : a.eval s = v) (hown : w.ownsRow base E sz v n L)
    (xv : Value) (m : Nat) (cs : List Value) (hx : a.eval x = xv) (hr : Rd w.heap.size w xv sz m cs) (hone : ∀ u ∈ cs, u.oneCell' = true) (hn : n + m ≤ 2097152) (hby : bytes ≤ 64) (hbase : base ≤ w.heap.size)
    (h : ∀ ao cap w', w'.ownsRow base E sz (.slice ao (n + m) cap) (n + m) (L ++ cs) → w.grownBy w' v.ownBlock → (∀ W, Below base W w → Below base W w') → wpList P ops Q rest (a.put o.dst (.slice ao (n + m) cap)) w') :
    wpList P ops Q (o :: rest) a w := by
  have hb : (n + m) * bytes ≤ 140737488355328 := by
    have := Nat.mul_le_mul hn hby
    omega
  have fin : ∀ v' w', w'.ownsRow base E sz v' (n + m) (L ++ cs) → w.grownBy w' v.ownBlock → wpList P ops Q rest (a.put o.dst v') w' := fun v' w' hown' hg => by
    obtain ⟨ao, cap, rfl⟩ := (own_rd hown').form
    exact h ao cap w' hown' hg fun W hW => grown_below hW hown hbase hg
  obtain ⟨hl, ao, cap, rfl, hc, hmx, hnil, hsome⟩ := hr
  cases ao with
  | none =>
    obtain ⟨rfl, rfl⟩ := hnil rfl
    have e : cs = [] := List.eq_nil_of_length_eq_zero (by simpa using hl)
    subst e
    refine wpList_append_own_none hgd s x T ho base E i sz hT hi v n L hs hown hx ?_
    exact fin v w (by simpa using hown) (World.grownBy.refl w _)
  | some p =>
    refine wpList_append_own w hgd s x T ho base E i z sz bytes hT hi hz h1 h2 hzs hsz v n L hs hown p m cap cs hx hl ?_ hone (by unfold maxLen; omega) hb hbase (fun v' w' a b _ => fin v' w' a b)
    intro j u hj
    have hj' := (List.getElem?_eq_some_iff.1 hj).1
    have hm : 0 < m := by
      rcases Nat.eq_zero_or_pos m with h0 | h0
      · have h00 : cs.length = 0 := by rw [hl, h0, Nat.zero_mul]
        omega
      · exact h0
    obtain ⟨b, off, e, _, hcell⟩ := hsome hm
    cases e
    have hadd : (⟨b, off, none⟩ : Addr).add j = ⟨b, off + j, none⟩ := by unfold Addr.add; split <;> simp_all
    rw [hadd, hcell j (by rw [← hl]; exact hj'), hj]
/-- what is owned and lies apart from the slice that an append may have written -/
theorem own_apart {w w' : World} {base base' : Nat} {E E' : TypeId} {s s' n n' : Nat} {v v' : Value} {L L' : List Value} (h : w.ownsRow base E s v n L) (k : w.ownsRow base' E' s' v' n' L') (hlt : ∀ g, v.ownBlock = some g → g < base') (hg : w.grownBy w' v'.ownBlock) : w'.ownsRow base E s v n L := by
  refine h.kept hg ?_
  cases e : v.ownBlock with
  | none => exact .inl rfl
  | some g =>
    right
    intro e2
    have h1 := hlt g e
    have h2 := (k.lt g e2.symm).1
    omega
/-- a slice's first j elements -/
theorem Rd.takeS {B : Nat} {w : World} {ao : Option Addr} {n cap s j : Nat} {L : List Value} (h : Rd B w (.slice ao n cap) s n L) (hj : j ≤ n) : Rd B w (.slice ao j cap) s j (L.take (j * s)) := by
  obtain ⟨hL, ao', cap', e, hcap, hmax, hnil, hsome⟩ := h
  obtain ⟨rfl, rfl⟩ : ao = ao' ∧ cap = cap' := by cases e; exact ⟨rfl, rfl⟩
  have hm : j * s ≤ n * s := Nat.mul_le_mul_right s hj
  refine ⟨by rw [List.length_take]; omega, ao, cap, rfl, by omega, hmax, fun h0 => ⟨by have := (hnil h0).1; omega, (hnil h0).2⟩, fun h0 => ?_⟩
  obtain ⟨b, off, e1, hb, hc⟩ := hsome (by omega)
  exact ⟨b, off, e1, hb, fun i hi => by rw [hc i (by omega), List.getElem?_take_of_lt hi]⟩
/-- a slice's elements from the jth on -/
theorem Rd.dropS {B : Nat} {w : World} {b off n cap s j : Nat} {L : List Value} (h : Rd B w (.slice (some ⟨b, off, none⟩) n cap) s n L) (hj : j ≤ n) : Rd B w (.slice (some ⟨b, off + j * s, none⟩) (n - j) (cap - j)) s (n - j) (L.drop (j * s)) := by
  obtain ⟨hL, ao', cap', e, hcap, hmax, hnil, hsome⟩ := h
  obtain ⟨rfl, rfl⟩ : some ⟨b, off, none⟩ = ao' ∧ cap = cap' := by cases e; exact ⟨rfl, rfl⟩
  have hm : j * s ≤ n * s := Nat.mul_le_mul_right s hj
  refine ⟨by rw [List.length_drop, hL, Nat.sub_mul], _, _, rfl, by omega, by omega, (fun h0 => by cases h0), fun h0 => ?_⟩
  obtain ⟨b', off', e1, hb, hc⟩ := hsome (by omega)
  cases e1
  refine ⟨b, off + j * s, rfl, hb, fun i hi => ?_⟩
  rw [Nat.sub_mul] at hi
  rw [Nat.add_assoc, hc (j * s + i) (by omega), List.getElem?_drop]
theorem own_form {w : World} {base : Nat} {E : TypeId} {s n : Nat} {v : Value} {L : List Value} (h : w.ownsRow base E s v n L) : (v = .slice none 0 0 ∧ n = 0) ∨ ∃ g cap, v = .slice (some ⟨g, 0, none⟩) n cap := by
  obtain ⟨h1, h2⟩ := h
  rcases h2 with ⟨rfl, rfl⟩ | ⟨g, cap, cur, rfl, rest⟩
  · exact .inl ⟨rfl, rfl⟩
  · exact .inr ⟨g, cap, rfl⟩
/-- 'append([]T{}, x...)' -/
theorem app_slE {P : Program} {ops : Array Oper} {rest : List Oper} {o : Oper} {a : Act} {Q : Exit → Act → World → Prop} (hgd : o.guard = none) (s x : Operand) (T E : TypeId) (i : TypeInfo) (z : Value) (sz bytes : Nat)
    (hT : P.underlying T = some (.slice E)) (hi : P.info? E = some i) (hz : i.zero = some z) (h1 : i.size = sz) (h2 : i.bytes = bytes) (hzs : z.cells.size = sz) (hsz : 0 < sz)
    (ho : o.op = .call { callee := .builtin .append, args := #[s, x], argTypes := #[T, T] }) (w : World) (hs : a.eval s = .slice (some ⟨w.heap.size, 0, none⟩) 0 0)
    (xv : Value) (m : Nat) (cs : List Value) (hx : a.eval x = xv) (hr : Rd w.heap.size w xv sz m cs) (hone : ∀ u ∈ cs, u.oneCell' = true) (hn : m ≤ 2097152) (hby : bytes ≤ 64)
    (h : ∀ ao cap w', w'.ownsRow w.heap.size E sz (.slice ao m cap) m cs → Below w.heap.size w w' → wpList P ops Q rest (a.put o.dst (.slice ao m cap)) w') :
    wpList P ops Q (o :: rest) a (w.alloc (.cells #[] E)) := by
  have b0 : Below w.heap.size w (w.alloc (.cells #[] E)) := (Below.refl _ w).alloc (Nat.le_refl _) _
  refine app_sl hgd s x T E i z sz bytes hT hi hz h1 h2 hzs hsz ho _ w.heap.size _ 0 [] hs (own_empty w w.heap.size E sz (Nat.le_refl _)) xv m cs hx (hr.up b0) hone (by omega) hby b0.size ?_
  intro ao cap w' hown _ hB
  rw [Nat.zero_add, List.nil_append] at hown
  rw [Nat.zero_add]
  exact h ao cap w' hown (hB w b0)
theorem Rd.takeX {B : Nat} {w : World} {ao : Option Addr} {n cap s j n' : Nat} {L : List Value} (h : Rd B w (.slice ao n cap) s n L) (hj : j ≤ n) (e : n' = j) : Rd B w (.slice ao n' cap) s j (L.take (j * s)) := by
  subst e; exact h.takeS hj
theorem Rd.dropX {B : Nat} {w : World} {b off o' n' c' n cap s j : Nat} {L : List Value} (h : Rd B w (.slice (some ⟨b, off, none⟩) n cap) s n L) (hj : j ≤ n) (e1 : o' = off + j * s) (e2 : n' = n - j) (e3 : c' = cap - j) :
    Rd B w (.slice (some ⟨b, o', none⟩) n' c') s (n - j) (L.drop (j * s)) := by
  subst e1; subst e2; subst e3; exact h.dropS hj
/-- .. if none are left -/
theorem Rd.dropZ {B : Nat} {w : World} {v : Value} {b o' n' c' n s j : Nat} {L : List Value} (h : Rd B w v s n L) (hj : j = n) (e2 : n' = 0) (e3 : c' ≤ maxLen) :
    Rd B w (.slice (some ⟨b, o', none⟩) n' c') s (n - j) (L.drop (j * s)) := by
  subst hj; subst e2
  have e : L.drop (j * s) = [] := List.drop_eq_nil_of_le (by rw [h.1]; exact Nat.le_refl _)
  rw [e, Nat.sub_self]
  exact ⟨by simp, _, _, rfl, Nat.zero_le _, e3, (fun h0 => by cases h0), fun h0 => by omega⟩
theorem Rd.dropN {B : Nat} {w : World} {v : Value} {n' c' n s j : Nat} {L : List Value} (h : Rd B w v s n L) (hn : n = 0) (e2 : n' = 0) (e3 : c' = 0) :
    Rd B w (.slice none n' c') s (n - j) (L.drop (j * s)) := by
  subst hn; subst e2; subst e3
  have e : L = [] := List.eq_nil_of_length_eq_zero (by rw [h.1]; simp)
  rw [e, Nat.zero_sub, List.drop_nil]
  exact ⟨by simp, none, 0, rfl, Nat.le_refl _, Nat.zero_le _, fun _ => ⟨rfl, rfl⟩, fun h0 => by omega⟩
/-- .. as the walk spells it -/
theorem Rd.dropI {B : Nat} {w : World} {b off o' o'' n' c' n cap s j : Nat} {L : List Value} [Decidable (cap = j)] (h : Rd B w (.slice (some ⟨b, off, none⟩) n cap) s n L) (hj : j ≤ n) (e1 : o' = off + j * s) (e2 : n' = n - j) (e3 : c' = cap - j) :
    Rd B w (.slice (if cap = j then some ⟨b, o'', none⟩ else some ⟨b, o', none⟩) n' c') s (n - j) (L.drop (j * s)) := by
  split
  · rename_i hc
    have h4 : n ≤ cap ∧ cap ≤ maxLen := by
      obtain ⟨_, ao', cap', e, h1, h2, _⟩ := h
      injection e with q1 q2 q3
      subst q3
      exact ⟨h1, h2⟩
    exact h.dropZ (by omega) (by omega) (by omega)
  · exact h.dropX hj e1 e2 e3
end Go.Proofs.YtklgkbiobggbiaaDoor
