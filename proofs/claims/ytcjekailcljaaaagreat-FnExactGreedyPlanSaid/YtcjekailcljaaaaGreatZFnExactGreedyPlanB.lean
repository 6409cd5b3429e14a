/- Contracts and plain facts, joined: Opn, Mem, CopyInts, OpnZ. -/
import Derived.Test.YtcjekailcljaaaaGreatRows
import Derived.Test.YtcjekailcljaaaaGreatZFnExactGreedyPlanA
namespace Go.Proofs.YtcjekailcljaaaaGreat
open Go.ChangeShapes Go.WideShapes Go.ChangeAt Go.RowKit Go.Deep Go.Joins
set_option linter.unusedVariables false
set_option maxRecDepth 100000
set_option linter.unusedSimpArgs false
theorem cells_i64 : Tryz.prog.cellsOf 2 = 1 := by kernel_rfl
theorem one_i64 {f : Field} (k : Nat) (h : f.type = 2) (ho : f.offset = k) : One Tryz.prog f k (.int .i64) := ⟨by rw [h]; exact Tryz.underlying2, by rw [h]; exact cells_i64, ho⟩
theorem cells_str : Tryz.prog.cellsOf 9 = 1 := by kernel_rfl
theorem one_str {f : Field} (k : Nat) (h : f.type = 9) (ho : f.offset = k) : One Tryz.prog f k .string := ⟨by rw [h]; exact Tryz.underlying9, by rw [h]; exact cells_str, ho⟩

theorem open_Bytes : Opens Tryz.prog 169 (Value × List UInt8) (fun y => [y.1]) (fun W y => Rd W.heap.size W y.1 1 y.2.length (y.2.flatMap fun n => [.int .u8 n.toNat]) ∧ y.2.length ≤ maxLen ∧ ∀ x ∈ y.2, True) :=
  opens_slice Tryz.underlying169 (by kernel_rfl) (by decide) (opens_u8 Tryz.underlying5) (fun _ => rfl)
theorem open_Ints : Opens Tryz.prog 22 (Value × List Int) (fun y => [y.1]) (fun W y => Rd W.heap.size W y.1 1 y.2.length (y.2.flatMap fun n => [.int .i64 n]) ∧ y.2.length ≤ maxLen ∧ ∀ x ∈ y.2, I64 x) :=
  opens_slice Tryz.underlying22 (by kernel_rfl) (by decide) (opens_i64 Tryz.underlying2) (fun _ => rfl)














theorem open_Ring : Opens Tryz.prog 125 Ring Ring.put (fun _ x => x.ok) := opens_ring Tryz.underlying125 (by kernel_rfl) (one_i64 0 rfl rfl) (one_i64 1 rfl rfl) (one_i64 2 rfl rfl)
theorem open_Profile : Opens Tryz.prog 28 Profile Profile.put Profile.ok := opens_profile (e := 125) Tryz.underlying28 (by kernel_rfl) (one_str 0 rfl rfl) ⟨Tryz.underlying26, by kernel_rfl, rfl⟩ (by kernel_rfl) open_Ring
end Go.Proofs.YtcjekailcljaaaaGreat
namespace Go.Proofs.YtcjekailcljaaaaGreat
open Go.ChangeShapes Go.WideShapes Go.ChangeAt Go.RowKit Go.Deep Go.Joins
set_option linter.unusedVariables false
set_option maxRecDepth 100000
set_option linter.unusedSimpArgs false
theorem le_sum_of {l : List Nat} {n : Nat} (h : n ∈ l) : n ≤ l.sum := by
  induction l with
  | nil => cases h
  | cons a l ih =>
    simp only [List.sum_cons]
    cases h with
    | head => omega
    | tail _ h => have := ih h; omega

/-- what is left of a bound behind n values, or -1 -/
def szR (left : Int) (n : Nat) : Int := if (n : Int) ≤ left then left - n else -1

/-- block g holds just the cells L, none of them frozen -/
def Own (w : World) (g : Nat) (E : TypeId) (L : List Value) : Prop := w.heap[g]? = some (.cells L.toArray E (0, 0))

section
variable {w w' : World} {g : Nat} {E : TypeId} {L : List Value}
theorem Own.lt (h : Own w g E L) : g < w.heap.size := (Array.getElem?_eq_some_iff.1 h).1
theorem Own.cell (h : Own w g E L) (i : Nat) : w.cell? ⟨g, i, none⟩ = L[i]? := by
  unfold Own at h
  simp [World.cell?, h]
theorem Own.free (h : Own w g E L) (i : Nat) : w.frozen? ⟨g, i, none⟩ = false := by
  unfold Own at h
  simp [World.frozen?, h]
theorem Own.below {B : Nat} (h : Own w g E L) (hb : Below B w w') (hg : g < B) : Own w' g E L := (hb.block g hg).trans h
theorem Own.dn (h : Own w g E L) (n : Nat) : Own (w.drewN n) g E L := h
theorem Own.drew (h : Own w g E L) (hd : Drew w w') : Own w' g E L := by
  obtain ⟨n, rfl⟩ := hd
  exact h
theorem Own.alloc (h : Own w g E L) (o : Obj) : Own (w.alloc o) g E L := (Below.heap_alloc w o g h.lt).trans h
theorem Own.new (w : World) (E : TypeId) (L : List Value) : Own (w.alloc (.cells L.toArray E)) w.heap.size E L := by
  show (w.heap.push _)[w.heap.size]? = _
  simp
theorem Own.newAt {w : World} {n : Nat} (E : TypeId) (L : List Value) (h : w.heap.size = n) : Own (w.alloc (.cells L.toArray E)) n E L := by
  subst h; exact Own.new w E L
theorem Own.set (h : Own w g E L) (i : Nat) (v : Value) : Own (w.setCell ⟨g, i, none⟩ v) g E (L.set i v) := by
  unfold Own at *
  simp [World.setCell, Array.getElem?_modify, h]
theorem Own.other (h : Own w g E L) {a : Addr} (ha : a.block ≠ g) (v : Value) : Own (w.setCell a v) g E L := (Below.heap_setCell w a v g (Ne.symm ha)).trans h
theorem Own.rd {B s n : Nat} (h : Own w g E L) (hg : g < B) (hL : L.length = n * s) (hn : n ≤ maxLen) (cap : Nat) (hc : n ≤ cap) (hc2 : cap ≤ maxLen) : Rd B w (.slice (some ⟨g, 0, none⟩) n cap) s n L := by
  refine ⟨hL, some ⟨g, 0, none⟩, cap, rfl, hc, hc2, (fun h => by cases h), fun _ => ⟨g, 0, rfl, hg, fun i _ => ?_⟩⟩
  rw [Nat.zero_add]; exact h.cell i
end

theorem made_len (z : Array Value) (n : Nat) : (madeCells z n).toList.length = n := by simp [size_madeCells]

/-- 'make([]T, n)': the new block known whole -/
theorem wpList_make_blk {P : Program} (w : World) {ops : Array Oper} {rest : List Oper} {o : Oper} {a : Act} {Q : Exit → Act → World → Prop}
    (hg : o.guard = none) (l c : Operand) (t : TypeId) (hop : o.op = Op.makeSlice t l c)
    (e : TypeId) (i : TypeInfo) (z : Value) (size bytes : Nat) (h1 : P.underlying t = some (.slice e)) (h2 : P.info? e = some i) (h3 : i.zero = some z) (h4 : i.size = size) (h5 : i.bytes = bytes)
    (kl kc : IntKind) (L C : Int) (n : Nat) (hl : a.eval l = .int kl L) (hc : a.eval c = .int kc C) (hL : L = (n : Int)) (hC : C = (n : Int)) (b2 : bytes * n ≤ 281474976710656) (b3 : n ≤ maxLen)
    (hK : ∀ w', Own w' w.heap.size e (madeCells z.cells (n * size)).toList → Below w.heap.size w w' → w.heap.size < w'.heap.size → wpList P ops Q rest (a.put o.dst (.slice (some ⟨w.heap.size, 0, none⟩) n n)) w') :
    wpList P ops Q (o :: rest) a w := by
  subst hL; subst hC; subst h4; subst h5
  refine wpList_plain hg fun K hK' => ?_
  have h63 : (n : Int) ≤ 9223372036854775807 := by
    unfold maxLen at b3
    omega
  have hb' : (i.bytes : Int) * (n : Int) ≤ 281474976710656 := by
    have : ((i.bytes * n : Nat) : Int) ≤ 281474976710656 := by omega
    simpa using this
  have hrun := run_make (P := P) w t e i z h1 h2 h3 kl kc n n (by omega) (by omega) hb' h63
  simp only [Int.toNat_natCast] at hrun
  have hx : (execOp a.eval o).run P w = .ok (.value (.slice (some ⟨w.heap.size, 0, none⟩) n n)) (w.alloc (.cells (madeCells z.cells (n * i.size)) e)) := by
    simp [execOp, hop, hl, hc, hrun]
  unfold Oper.wp
  rw [hx]
  refine hK' _ _ (hK _ ?_ ?_ ?_)
  · have := Own.new w e (madeCells z.cells (n * i.size)).toList
    simpa using this
  · exact (Below.refl _ _).alloc (Nat.le_refl _) _
  · simp

theorem set2 (A U : List Value) (t0 t1 v0 v1 : Value) (i : Nat) (hA : A.length = i) : (((A ++ t0 :: t1 :: U).set (i) v0).set (i + 1) v1) = (A ++ [v0, v1]) ++ U := by
  subst hA
  simp [List.set_append]
theorem cons2 {U : List Value} {n : Nat} (h : U.length = n) (hn : 2 ≤ n) : ∃ t0 t1 U', U = t0 :: t1 :: U' ∧ U'.length = n - 2 := by
  match U, h with
  | t0 :: t1 :: U', h => exact ⟨t0, t1, U', rfl, by simp at h; omega⟩
  | [], h => simp at h; omega
  | [_], h => simp at h; omega

theorem set3 (A U : List Value) (t0 t1 t2 v0 v1 v2 : Value) (i : Nat) (hA : A.length = i) : ((((A ++ t0 :: t1 :: t2 :: U).set (i) v0).set (i + 1) v1).set (i + 2) v2) = (A ++ [v0, v1, v2]) ++ U := by
  subst hA
  simp [List.set_append]
theorem cons3 {U : List Value} {n : Nat} (h : U.length = n) (hn : 3 ≤ n) : ∃ t0 t1 t2 U', U = t0 :: t1 :: t2 :: U' ∧ U'.length = n - 3 := by
  match U, h with
  | t0 :: t1 :: t2 :: U', h => exact ⟨t0, t1, t2, U', rfl, by simp at h; omega⟩
  | [], h => simp at h; omega
  | [_], h => simp at h; omega
  | [_, _], h => simp at h; omega

theorem set5 (A U : List Value) (t0 t1 t2 t3 t4 v0 v1 v2 v3 v4 : Value) (i : Nat) (hA : A.length = i) : ((((((A ++ t0 :: t1 :: t2 :: t3 :: t4 :: U).set (i) v0).set (i + 1) v1).set (i + 2) v2).set (i + 3) v3).set (i + 4) v4) = (A ++ [v0, v1, v2, v3, v4]) ++ U := by
  subst hA
  simp [List.set_append]
theorem cons5 {U : List Value} {n : Nat} (h : U.length = n) (hn : 5 ≤ n) : ∃ t0 t1 t2 t3 t4 U', U = t0 :: t1 :: t2 :: t3 :: t4 :: U' ∧ U'.length = n - 5 := by
  match U, h with
  | t0 :: t1 :: t2 :: t3 :: t4 :: U', h => exact ⟨t0, t1, t2, t3, t4, U', rfl, by simp at h; omega⟩
  | [], h => simp at h; omega
  | [_], h => simp at h; omega
  | [_, _], h => simp at h; omega
  | [_, _, _], h => simp at h; omega
  | [_, _, _, _], h => simp at h; omega
end Go.Proofs.YtcjekailcljaaaaGreat
namespace Go.Proofs.YtcjekailcljaaaaGreat
open Go.ChangeShapes Go.WideShapes Go.ChangeAt Go.RowKit Go.Deep Go.Joins
set_option linter.unusedVariables false
set_option maxRecDepth 100000
set_option linter.unusedSimpArgs false
def putI (n : Int) : List Value := [.int .i64 n]
theorem putI_len (xs : List Int) : (xs.flatMap putI).length = xs.length * 1 := flat_len xs (fun _ _ => rfl)
theorem putI_get (xs : List Int) (k : Nat) (h : k < xs.length) : (xs.flatMap putI)[k]? = some (.int .i64 xs[k]) := by
  have := flat_get (f := putI) (s := 1) xs (fun _ _ => rfl) (j := 0) (by omega) k
  simp only [Nat.mul_one, Nat.add_zero] at this
  rw [this, List.getElem?_eq_getElem h]
  rfl
theorem info_i64 : (Tryz.prog.info? 2).map (fun i => (i.zero, i.size, i.bytes)) = some (some (.int .i64 0), 1, 8) := by kernel_rfl

/-- one element more -/
theorem set_snoc {α : Type} (f : α → List Value) (xs : List α) (k : Nat) (h : k < xs.length) : (xs.take (k + 1)).flatMap f = (xs.take k).flatMap f ++ f xs[k] := by
  rw [List.take_succ_eq_append_getElem h, List.flatMap_append]; simp
theorem set1 (A T : List Value) (t0 : Value) (i : Nat) (hA : A.length = i) (v : Value) : (A ++ t0 :: T).set i v = (A ++ [v]) ++ T := by
  subst hA
  simp
theorem cons_of {T : List Value} {n : Nat} (h : T.length = n) (hn : 1 ≤ n) : ∃ t0 T', T = t0 :: T' ∧ T'.length = n - 1 := by
  match T, h with
  | [], h => simp at h; omega
  | t0 :: T', h => exact ⟨t0, T', rfl, by simp at h; omega⟩

theorem toInt64S (w : World) (v : Value) (xs : List Int) (h : Rd w.heap.size w v 1 xs.length (xs.flatMap putI)) (hn : xs.length ≤ 1048576) :
    Calls Tryz.prog 34 #[v] w fun e w' => ∃ g, e = .returned (.slice (some ⟨g, 0, none⟩) xs.length xs.length) ∧ w.heap.size ≤ g ∧ Own w' g 2 (xs.flatMap putI) ∧ Below w.heap.size w w' := by
  obtain ⟨hL, ao, cap, rfl, hcap, hmax, hnil, hsome⟩ := h
  obtain ⟨i0, hi, hz0, hz1, hz2⟩ := info_parts info_i64
  go_enter Tryz.func34, Tryz.ntmps34
  go_wp2_with (at_make; refine wpList_make_blk _ rfl _ _ 22 rfl 2 i0 (.int .i64 0) 1 8 Tryz.underlying22 hi hz0 hz1 hz2 _ _ _ _ xs.length rfl rfl rfl rfl (by omega) (by unfold maxLen; omega) ?_; intro w1 ho hb hs)
  have hml := made_len (Value.int .i64 0).cells (xs.length * 1)
  go_loopw [4] (fun i wr => ∃ (k : Nat) (T : List Value), k ≤ xs.length ∧ i = .int .i64 k ∧ T.length = (xs.length - k) * 1 ∧ Own wr w.heap.size 2 ((xs.take k).flatMap putI ++ T) ∧ Below w.heap.size w wr) (fun i _ => xs.length - (intOf i).toNat)
  case atStart => exact ⟨0, _, Nat.zero_le _, rfl, by rw [Nat.sub_zero]; exact hml, by simpa using ho, hb⟩
  case round =>
    clear ho hb hs hml hi hz0 hz1 hz2
    obtain ⟨k, T, hk, rfl, hT, ho, hb⟩ := hrel
    by_cases hlt : k < xs.length
    · obtain ⟨b, off, rfl, hbB, hc⟩ := hsome (by omega)
      obtain ⟨t0, T, rfl, hT2⟩ := cons_of hT (by omega)
      have hA : ((xs.take k).flatMap putI).length = k := by rw [putI_len, List.length_take]; omega
      have c1 : wr.cell? ⟨b, off + k, none⟩ = some (.int .i64 xs[k]) := by
        rw [hb.cell (p := ⟨b, off + k, none⟩) hbB, hc k (by omega), putI_get xs k hlt]
      have c2 : wr.cell? ⟨w.heap.size, k, none⟩ = some t0 := by
        rw [ho.cell, List.getElem?_append_right (by omega), hA, Nat.sub_self]; rfl
      have c3 := ho.free k
      have o1 := ho.set k (.int .i64 xs[k])
      rw [set1 _ _ _ _ hA] at o1
      have O1 := Lib.hid o1
      have HB := Lib.hid (hb.setCell (p := ⟨w.heap.size, k, none⟩) (Nat.le_refl _) (.int .i64 xs[k]))
      have HT := Lib.hid hT2
      clear hc ho o1 hb hA hsome hnil hT hT2
      go_wp2
      go_roundw
      case rel => exact ⟨k + 1, T, by omega, by go_num, by have := HT.out; omega, by rw [set_snoc putI xs k hlt]; exact O1.out, HB.out⟩
      case measure => simp [intOf]; omega
    · have e : Hid (k = xs.length) := (by omega : k = xs.length)
      have HO := Lib.hid ho
      clear ho
      go_wp2
      go_ret
      refine ⟨w.heap.size, rfl, Nat.le_refl _, ?_, hb⟩
      have ho := HO.out
      obtain rfl := e.out
      have : T = [] := List.eq_nil_of_length_eq_zero (by rw [hT]; omega)
      subst this
      simpa using ho

theorem eqInt64S (B1 B2 : Nat) (w : World) (v1 v2 : Value) (xs ys : List Int) (h1 : Rd B1 w v1 1 xs.length (xs.flatMap putI)) (h2 : Rd B2 w v2 1 ys.length (ys.flatMap putI)) (hn : xs.length ≤ 1048576) (hn2 : ys.length ≤ 1048576) (he : xs = ys) :
    Calls Tryz.prog 14 #[v1, v2] w fun e w' => e = .returned (.bool true) ∧ Drew w w' := by
  subst he
  obtain ⟨hL, ao, cap, rfl, hcap, hmax, hnil, hsome⟩ := h1
  obtain ⟨hL2, ao2, cap2, rfl, hcap2, hmax2, hnil2, hsome2⟩ := h2
  go_enter Tryz.func14, Tryz.ntmps14
  go_wp2
  go_loopw [5] (fun i wr => ∃ (k : Nat), k ≤ xs.length ∧ i = .int .i64 k ∧ Drew w wr) (fun i _ => xs.length - (intOf i).toNat)
  case atStart => exact ⟨0, Nat.zero_le _, rfl, Drew.refl _⟩
  case round =>
    obtain ⟨k, hk, rfl, hd⟩ := hrel
    obtain ⟨m, rfl⟩ := hd
    by_cases hlt : k < xs.length
    · obtain ⟨b, off, rfl, hbB, hc⟩ := hsome (by omega)
      obtain ⟨b2, off2, rfl, hbB2, hc2⟩ := hsome2 (by omega)
      have c1 : w.cell? ⟨b, off + k, none⟩ = some (.int .i64 xs[k]) := by rw [hc k (by omega), putI_get xs k hlt]
      have c2 : w.cell? ⟨b2, off2 + k, none⟩ = some (.int .i64 xs[k]) := by rw [hc2 k (by omega), putI_get xs k hlt]
      clear hc hc2 hsome hsome2 hnil hnil2
      go_wp2
      go_quiet (fail)
      go_wp2
      go_roundw
      case rel => exact ⟨k + 1, by omega, by go_num, _, rfl⟩
      case measure => simp [intOf]; omega
    · go_wp2
      go_ret
      exact ⟨rfl, _, rfl⟩
end Go.Proofs.YtcjekailcljaaaaGreat
namespace Go.Proofs.YtcjekailcljaaaaGreat
open Go.ChangeShapes Go.WideShapes Go.ChangeAt Go.RowKit Go.Deep Go.Joins
set_option linter.unusedVariables false
set_option maxRecDepth 100000
set_option linter.unusedSimpArgs false
structure Cut where
  zone : Int
  steps : Int
def Cut.put (x : Cut) : List Value := [.int .i64 x.zone, .int .i64 x.steps]
def Cut.ok (x : Cut) : Prop := I64 x.zone ∧ I64 x.steps
structure GoalX where
  a : Int
  b : Int
  c : Int
  d : Int
  e : Int
  tol : Int
  most : Int
def GoalX.put (x : GoalX) : List Value := [.int .i64 x.a, .int .i64 x.b, .int .i64 x.c, .int .i64 x.d, .int .i64 x.e, .int .i64 x.tol, .int .i64 x.most]
def GoalX.ok (x : GoalX) : Prop := (I64 x.a ∧ I64 x.b ∧ I64 x.c ∧ I64 x.d ∧ I64 x.e) ∧ I64 x.tol ∧ I64 x.most
/-- a list of numbers as an argument -/
def IntsOk (W : World) (v : Value) (xs : List Int) : Prop := Rd W.heap.size W v 1 xs.length (xs.flatMap putI) ∧ xs.length ≤ maxLen ∧ ∀ x ∈ xs, I64 x
structure MdlX where
  zv : Value
  zones : List Int
  wv : Value
  rows : List (Value × List Int)
  bv : Value
  base : List Int
def MdlX.put (x : MdlX) : List Value := [x.zv, x.wv, x.bv]
def putV (y : Value × List Int) : List Value := [y.1]
def MdlX.ok (W : World) (x : MdlX) : Prop := IntsOk W x.zv x.zones ∧ (Rd W.heap.size W x.wv 1 x.rows.length (x.rows.flatMap putV) ∧ x.rows.length ≤ maxLen ∧ ∀ y ∈ x.rows, IntsOk W y.1 y.2) ∧ IntsOk W x.bv x.base

theorem open_Cut : Opens Tryz.prog 82 Cut Cut.put (fun _ x => x.ok) :=
  (opens_struct2 (k0 := 1) (k1 := 1) Tryz.underlying82 (by kernel_rfl) (one_i64 0 rfl rfl).2 (one_i64 1 rfl rfl).2 (opens_i64 (one_i64 0 rfl rfl).1) (opens_i64 (one_i64 1 rfl rfl).1) (fun _ => rfl) (fun _ => rfl)).map (fun y => (⟨y.1, y.2⟩ : Cut)) (fun _ => rfl) (by intro W x h; exact h)
theorem open_Cuts : Opens Tryz.prog 33 (Value × List Cut) (fun y => [y.1]) (fun W y => Rd W.heap.size W y.1 2 y.2.length (y.2.flatMap Cut.put) ∧ y.2.length ≤ maxLen ∧ ∀ x ∈ y.2, x.ok) :=
  opens_slice Tryz.underlying33 (by kernel_rfl) (by decide) open_Cut (fun _ => rfl)
def putS5 (y : Int × Int × Int × Int × Int) : List Value := [.int .i64 y.1, .int .i64 y.2.1, .int .i64 y.2.2.1, .int .i64 y.2.2.2.1, .int .i64 y.2.2.2.2]
theorem open_Sound5 : Opens Tryz.prog 30 (Int × Int × Int × Int × Int) putS5 (fun _ y => I64 y.1 ∧ I64 y.2.1 ∧ I64 y.2.2.1 ∧ I64 y.2.2.2.1 ∧ I64 y.2.2.2.2) :=
  opens_struct5 (k0 := 1) (k1 := 1) (k2 := 1) (k3 := 1) (k4 := 1) Tryz.underlying30 (by kernel_rfl) (one_i64 0 rfl rfl).2 (one_i64 1 rfl rfl).2 (one_i64 2 rfl rfl).2 (one_i64 3 rfl rfl).2 (one_i64 4 rfl rfl).2
    (opens_i64 (one_i64 0 rfl rfl).1) (opens_i64 (one_i64 1 rfl rfl).1) (opens_i64 (one_i64 2 rfl rfl).1) (opens_i64 (one_i64 3 rfl rfl).1) (opens_i64 (one_i64 4 rfl rfl).1) (fun _ => rfl) (fun _ => rfl) (fun _ => rfl) (fun _ => rfl) (fun _ => rfl)
theorem open_Goal : Opens Tryz.prog 32 GoalX GoalX.put (fun _ x => x.ok) :=
  (opens_struct3 (k0 := 5) (k1 := 1) (k2 := 1) Tryz.underlying32 (by kernel_rfl) ⟨by kernel_rfl, rfl⟩ (one_i64 5 rfl rfl).2 (one_i64 6 rfl rfl).2 open_Sound5 (opens_i64 (one_i64 5 rfl rfl).1) (opens_i64 (one_i64 6 rfl rfl).1) (fun _ => rfl) (fun _ => rfl) (fun _ => rfl)).map
    (fun y => (⟨y.1.1, y.1.2.1, y.1.2.2.1, y.1.2.2.2.1, y.1.2.2.2.2, y.2.1, y.2.2⟩ : GoalX)) (fun _ => rfl) (by intro W x h; exact h)
theorem open_IntsS : Opens Tryz.prog 23 (Value × List (Value × List Int)) (fun y => [y.1]) (fun W y => Rd W.heap.size W y.1 1 y.2.length (y.2.flatMap putV) ∧ y.2.length ≤ maxLen ∧ ∀ x ∈ y.2, IntsOk W x.1 x.2) :=
  opens_slice Tryz.underlying23 (by kernel_rfl) (by decide) open_Ints (fun _ => rfl)
theorem open_Model : Opens Tryz.prog 25 MdlX MdlX.put MdlX.ok :=
  (opens_struct3 (k0 := 1) (k1 := 1) (k2 := 1) Tryz.underlying25 (by kernel_rfl) ⟨by kernel_rfl, rfl⟩ ⟨by kernel_rfl, rfl⟩ ⟨by kernel_rfl, rfl⟩ open_Ints open_IntsS open_Ints (fun _ => rfl) (fun _ => rfl) (fun _ => rfl)).map
    (fun y => (⟨y.1.1, y.1.2, y.2.1.1, y.2.1.2, y.2.2.1, y.2.2.2⟩ : MdlX)) (fun _ => rfl) (by intro W x h; exact h)
end Go.Proofs.YtcjekailcljaaaaGreat
