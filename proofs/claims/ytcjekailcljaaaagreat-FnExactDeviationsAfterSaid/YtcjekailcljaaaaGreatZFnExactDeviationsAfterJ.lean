/- Contracts and plain facts, joined: HModel4, MarkT, Acc. -/
import Derived.Test.YtcjekailcljaaaaGreatRows
import Derived.Test.YtcjekailcljaaaaGreatZFnExactDeviationsAfterD
import Derived.Test.YtcjekailcljaaaaGreatZFnExactDeviationsAfterI
import Derived.Laws.IdiomStrings
import Derived.Deep.AppendLies
import Derived.Deep.LoopGhost
namespace Go.Proofs.YtcjekailcljaaaaGreat
open Go.ChangeShapes Go.WideShapes Go.ChangeAt Go.RowKit Go.Deep Go.Joins
set_option linter.unusedVariables false
set_option maxRecDepth 100000
set_option linter.unusedSimpArgs false
theorem RowsAt.bd {w : World} {g : Nat} {ys xs : List Row} (h : RowsAt w g ys xs) (hi : ∀ x ∈ xs, x.2.length ≤ 1048576) : ∀ y ∈ ys, y.2.length ≤ 1048576 := fun y hy => by
  have : y.2 ∈ xs.map Prod.snd := by rw [← h.2.1]; exact List.mem_map.2 ⟨y, hy, rfl⟩
  obtain ⟨x, hx, e⟩ := List.mem_map.1 this
  rw [← e]; exact hi x hx
theorem RowsAt.rd {w : World} {g : Nat} {ys xs : List Row} (h : RowsAt w g ys xs) (hn : xs.length ≤ 1048576) : Rd w.heap.size w (.slice (some ⟨g, 0, none⟩) xs.length xs.length) 1 ys.length (ys.flatMap putV) := by
  rw [← rowLen h.2.1]
  exact h.1.rd h.lt (putV_len ys) (by have := rowLen h.2.1; unfold maxLen; omega) _ (Nat.le_refl _) (by have := rowLen h.2.1; unfold maxLen; omega)
theorem RowsAt.rdl {w : World} {g : Nat} {ys xs : List Row} (h : RowsAt w g ys xs) (hn : xs.length ≤ 1048576) (hi : ∀ x ∈ xs, x.2.length ≤ 1048576) : RdL w.heap.size w (.slice (some ⟨g, 0, none⟩) xs.length xs.length) (xs.map Prod.snd) := by
  have hl := rowLen h.2.1
  refine ⟨some ⟨g, 0, none⟩, xs.length, by rw [List.length_map], by rw [List.length_map]; exact Nat.le_refl _, by unfold maxLen; omega, (by intro q; cases q), fun hp => ⟨g, 0, rfl, h.lt, fun k hk => ?_⟩⟩
  have hk2 : k < xs.length := by rw [List.length_map] at hk; exact hk
  have hky : k < ys.length := by omega
  have e := rowAt h.2.1 k hky hk2
  refine ⟨ys[k].1, ?_, ?_⟩
  · rw [Nat.zero_add, h.1.cell]; exact putV_get ys k hky
  · have hm := (h.2.2 ys[k] (List.getElem_mem hky)).rd (h.bd hi ys[k] (List.getElem_mem hky))
    rw [List.getElem_map, ← e]
    exact hm
set_option maxHeartbeats 1000000 in
theorem eqModel (w : World) (g1 h1 k1 g2 h2 k2 : Nat) (Z B : List Int) (ys zs xs : List Row) (a1 : Own w g1 2 (Z.flatMap putI)) (a2 : Own w g2 2 (Z.flatMap putI)) (b1 : RowsAt w h1 ys xs) (b2 : RowsAt w h2 zs xs) (c1 : Own w k1 2 (B.flatMap putI)) (c2 : Own w k2 2 (B.flatMap putI))
    (hZ : Z.length ≤ 1048576) (hn : xs.length ≤ 1048576) (hi : ∀ x ∈ xs, x.2.length ≤ 1048576) (hB : B.length ≤ 1048576) :
    Calls Tryz.prog 15 #[.agg #[.slice (some ⟨g1, 0, none⟩) Z.length Z.length, .slice (some ⟨h1, 0, none⟩) xs.length xs.length, .slice (some ⟨k1, 0, none⟩) B.length B.length], .agg #[.slice (some ⟨g2, 0, none⟩) Z.length Z.length, .slice (some ⟨h2, 0, none⟩) xs.length xs.length, .slice (some ⟨k2, 0, none⟩) B.length B.length]] w fun e w' => e = .returned (.bool true) ∧ Below w.heap.size w w' := by
  have RZ1 : Hid (Rd w.heap.size w (.slice (some ⟨g1, 0, none⟩) Z.length Z.length) 1 Z.length (Z.flatMap putI)) := Lib.hid (a1.rd a1.lt (putI_len _) (by unfold maxLen; omega) _ (Nat.le_refl _) (by unfold maxLen; omega))
  have RZ2 : Hid (Rd w.heap.size w (.slice (some ⟨g2, 0, none⟩) Z.length Z.length) 1 Z.length (Z.flatMap putI)) := Lib.hid (a2.rd a2.lt (putI_len _) (by unfold maxLen; omega) _ (Nat.le_refl _) (by unfold maxLen; omega))
  have RB1 : Hid (Rd w.heap.size w (.slice (some ⟨k1, 0, none⟩) B.length B.length) 1 B.length (B.flatMap putI)) := Lib.hid (c1.rd c1.lt (putI_len _) (by unfold maxLen; omega) _ (Nat.le_refl _) (by unfold maxLen; omega))
  have RB2 : Hid (Rd w.heap.size w (.slice (some ⟨k2, 0, none⟩) B.length B.length) 1 B.length (B.flatMap putI)) := Lib.hid (c2.rd c2.lt (putI_len _) (by unfold maxLen; omega) _ (Nat.le_refl _) (by unfold maxLen; omega))
  have Y1 := Lib.hid (b1.rd hn)
  have Y2 := Lib.hid (b2.rd hn)
  have ly := rowLen b1.2.1
  have P1 : Hid (∀ y ∈ ys, Rd w.heap.size w y.1 1 y.2.length (y.2.flatMap putI) ∧ y.2.length ≤ 1048576) := Lib.hid (fun y hy => ⟨(b1.2.2 y hy).rd (b1.bd hi y hy), b1.bd hi y hy⟩)
  have P2 : Hid (∀ y ∈ zs, Rd w.heap.size w y.1 1 y.2.length (y.2.flatMap putI)) := Lib.hid (fun y hy => (b2.2.2 y hy).rd (b2.bd hi y hy))
  have SD : Hid (zs.map Prod.snd = ys.map Prod.snd) := Lib.hid (by rw [b1.2.1, b2.2.1])
  have hny : ys.length ≤ 1048576 := by omega
  have HR := Lib.hid (fun (w' : World) (hb : Below w.heap.size w w') => eqRows w' _ _ ys zs (Y1.out.up hb) (Y2.out.up hb) hny SD.out (fun y hy => ⟨(P1.out y hy).1.up hb, (P1.out y hy).2⟩) (fun y hy => (P2.out y hy).up hb))
  have HQ1 := Lib.hid (fun (w' : World) (hb : Below w.heap.size w w') => (eqInt64S w.heap.size w.heap.size w' _ _ Z Z (RZ1.out.below hb) (RZ2.out.below hb) hZ hZ rfl).mono fun e w'' h => (⟨h.1, h.2.below⟩ : e = .returned (.bool true) ∧ Below w'.heap.size w' w''))
  have HQ2 := Lib.hid (fun (w' : World) (hb : Below w.heap.size w w') => (eqInt64S w.heap.size w.heap.size w' _ _ B B (RB1.out.below hb) (RB2.out.below hb) hB hB rfl).mono fun e w'' h => (⟨h.1, h.2.below⟩ : e = .returned (.bool true) ∧ Below w'.heap.size w' w''))
  clear a1 a2 b1 b2 c1 c2 ly
  obtain ⟨W1, hW1⟩ : ∃ W1, w.alloc (.cells #[.slice (some ⟨g1, 0, none⟩) Z.length Z.length, .slice (some ⟨h1, 0, none⟩) xs.length xs.length, .slice (some ⟨k1, 0, none⟩) B.length B.length] 39) = W1 := ⟨_, rfl⟩
  obtain ⟨W2, hW2⟩ : ∃ W2, W1.alloc (.cells #[.slice (some ⟨g2, 0, none⟩) Z.length Z.length, .slice (some ⟨h2, 0, none⟩) xs.length xs.length, .slice (some ⟨k2, 0, none⟩) B.length B.length] 39) = W2 := ⟨_, rfl⟩
  have b1 : Below w.heap.size w W1 := hW1 ▸ (Below.refl _ _).alloc (Nat.le_refl _) _
  have b2 : Below W1.heap.size W1 W2 := hW2 ▸ (Below.refl _ _).alloc (Nat.le_refl _) _
  have M1 : Own W1 w.heap.size 39 [.slice (some ⟨g1, 0, none⟩) Z.length Z.length, .slice (some ⟨h1, 0, none⟩) xs.length xs.length, .slice (some ⟨k1, 0, none⟩) B.length B.length] := hW1 ▸ Own.new w _ _
  have M2 := Lib.hid (M1.below b2 M1.lt)
  have N2 : Hid (Own W2 W1.heap.size 39 [.slice (some ⟨g2, 0, none⟩) Z.length Z.length, .slice (some ⟨h2, 0, none⟩) xs.length xs.length, .slice (some ⟨k2, 0, none⟩) B.length B.length]) := Lib.hid (hW2 ▸ Own.new W1 _ _)
  have B2 := Lib.hid (bnext b1 b2)
  have m0 : W2.cell? ⟨w.heap.size, 0, none⟩ = some (.slice (some ⟨g1, 0, none⟩) Z.length Z.length) := M2.out.cell 0
  have n0 : W2.cell? ⟨W1.heap.size, 0, none⟩ = some (.slice (some ⟨g2, 0, none⟩) Z.length Z.length) := N2.out.cell 0
  have ml := M2.out.lt
  have nl := N2.out.lt
  clear b1 b2 M1
  go_enter Tryz.func15, Tryz.ntmps15
  go_wp2_with fail
  refine (HQ1.out W2 B2.out).mono ?_; rintro e w3 ⟨rfl, b3⟩
  have M3 := Lib.hid (M2.out.below b3 M2.out.lt)
  have N3 := Lib.hid (N2.out.below b3 N2.out.lt)
  have B3 := Lib.hid (bnext B2.out b3)
  have m1 : w3.cell? ⟨w.heap.size, 1, none⟩ = some (.slice (some ⟨h1, 0, none⟩) xs.length xs.length) := M3.out.cell 1
  have n1 : w3.cell? ⟨W1.heap.size, 1, none⟩ = some (.slice (some ⟨h2, 0, none⟩) xs.length xs.length) := N3.out.cell 1
  have ml3 := M3.out.lt
  have nl3 := N3.out.lt
  clear b3 m0 n0 ml nl M2 N2 B2 hW1 hW2
  go_wp2_with fail
  refine (HR.out w3 B3.out).mono ?_; rintro e w4 ⟨rfl, b4⟩
  have M4 := Lib.hid (M3.out.below b4 M3.out.lt)
  have N4 := Lib.hid (N3.out.below b4 N3.out.lt)
  have B4 := Lib.hid (bnext B3.out b4)
  have m2 : w4.cell? ⟨w.heap.size, 2, none⟩ = some (.slice (some ⟨k1, 0, none⟩) B.length B.length) := M4.out.cell 2
  have n2 : w4.cell? ⟨W1.heap.size, 2, none⟩ = some (.slice (some ⟨k2, 0, none⟩) B.length B.length) := N4.out.cell 2
  have ml4 := M4.out.lt
  have nl4 := N4.out.lt
  clear b4 m1 n1 ml3 nl3 M3 N3 B3
  go_wp2_with fail
  refine (HQ2.out w4 B4.out).mono ?_; rintro e w5 ⟨rfl, b5⟩
  have B5 := Lib.hid (bnext B4.out b5)
  clear b5
  go_wp2_with fail
  go_ret
  exact ⟨rfl, B5.out⟩
end Go.Proofs.YtcjekailcljaaaaGreat
namespace Go.Proofs.YtcjekailcljaaaaGreat
open Go.ChangeShapes Go.WideShapes Go.ChangeAt Go.RowKit Go.Deep Go.Joins
set_option linter.unusedVariables false
set_option maxRecDepth 100000
set_option linter.unusedSimpArgs false
def digB (k : Nat) : ByteArray := ⟨#[UInt8.ofNat (48 + k % 10)]⟩
theorem digB_size (k : Nat) : (digB k).size = 1 := rfl
/-- the digits of k ahead of out -/
def mkT : Nat → Nat → ByteArray → ByteArray
  | 0, _, out => out
  | f + 1, k, out => if k = 0 then out else mkT f (k / 10) (digB k ++ out)
def markT (k : Nat) : ByteArray := ⟨#[109]⟩ ++ mkT k k ⟨#[]⟩
theorem byte_str (W : World) (x : Nat) (hx : x < 256) : (convert 169 9 (.slice (some ⟨W.heap.size, 0, none⟩) 1 1)).run Tryz.prog (W.alloc (.cells #[.int .u8 (x : Int)] 5)) = .ok (.string ⟨#[UInt8.ofNat x]⟩) (W.alloc (.cells #[.int .u8 (x : Int)] 5)) := by
  have h := run_convert_bytes_back (P := Tryz.prog) (W.alloc (.cells #[.int .u8 (x : Int)] 5)) 169 9 5 ⟨W.heap.size, 0, none⟩ 1 [UInt8.ofNat x] Tryz.underlying169 Tryz.underlying5 Tryz.underlying9 (fun j hj => by
    have : j = 0 := by simpa using hj
    subst this
    rw [show (Addr.add ⟨W.heap.size, 0, none⟩ 0) = (⟨W.heap.size, 0, none⟩ : Addr) from rfl]
    have hc := (Own.new W 5 [.int .u8 (x : Int)]).cell 0
    rw [show ([Value.int .u8 (x : Int)] : List Value).toArray = #[.int .u8 (x : Int)] from rfl] at hc
    rw [hc]
    have : (UInt8.ofNat x).toNat = x := by rw [UInt8.toNat_ofNat']; omega
    simp [this])
  simpa using h

theorem byte_str' (W : World) (x : Int) (j : Nat) (h : x = ((48 + j % 10 : Nat) : Int)) : (convert 169 9 (.slice (some ⟨W.heap.size, 0, none⟩) 1 1)).run Tryz.prog (W.alloc (.cells #[.int .u8 x] 5)) = .ok (.string (digB j)) (W.alloc (.cells #[.int .u8 x] 5)) := by
  subst h; exact byte_str W _ (by omega)
end Go.Proofs.YtcjekailcljaaaaGreat
namespace Go.Proofs.YtcjekailcljaaaaGreat
open Go.ChangeShapes Go.WideShapes Go.ChangeAt Go.RowKit Go.Deep Go.Joins
set_option linter.unusedVariables false
set_option maxRecDepth 100000
set_option linter.unusedSimpArgs false
/-- block g of the call's own, or nil: reads as the cells L -/
theorem own_rd {w : World} {base : Nat} {E : TypeId} {s n : Nat} {v : Value} {L : List Value} (h : w.ownsRow base E s v n L) : Rd w.heap.size w v s n L := by
  obtain ⟨h1, h2⟩ := h
  rcases h2 with ⟨rfl, rfl⟩ | ⟨g, cap, cur, rfl, hb, hg, hn, hm, hs, ht⟩
  · have : L = [] := List.eq_nil_of_length_eq_zero (by simpa using h1)
    subst this
    exact ⟨by simp, none, 0, rfl, Nat.le_refl _, Nat.zero_le _, fun _ => ⟨rfl, rfl⟩, fun h => by omega⟩
  · refine ⟨h1, _, cap, rfl, hn, hm, (fun h => by cases h), fun _ => ⟨g, 0, rfl, (Array.getElem?_eq_some_iff.1 hg).1, fun i hi => ?_⟩⟩
    rw [← ht, List.getElem?_take_of_lt hi, Nat.zero_add]
    simp [World.cell?, hg]
theorem own_below {w w' : World} {B base : Nat} {E : TypeId} {s n : Nat} {v : Value} {L : List Value} (h : w.ownsRow base E s v n L) (hb : Below B w w') (hB : w.heap.size ≤ B) : w'.ownsRow base E s v n L := by
  obtain ⟨h1, h2⟩ := h
  refine ⟨h1, ?_⟩
  rcases h2 with h2 | ⟨g, cap, cur, rfl, hg0, hg, rest⟩
  · exact .inl h2
  · exact .inr ⟨g, cap, cur, rfl, hg0, (hb.block g (Nat.lt_of_lt_of_le (Array.getElem?_eq_some_iff.1 hg).1 hB)).trans hg, rest⟩
/-- behind an append: what lay below the call's own blocks is as it was -/
theorem grown_below {W w w' : World} {base : Nat} {E : TypeId} {s n : Nat} {v : Value} {L : List Value} (hb : Below base W w) (h : w.ownsRow base E s v n L) (hW : base ≤ w.heap.size) (hg : w.grownBy w' v.ownBlock) : Below base W w' := by
  refine hb.trans ⟨hg.os, hg.tape, hg.output, hg.size, fun b hlt => hg.block b (by omega) ?_⟩
  intro e
  have := (h.lt b e.symm).1
  omega
/-- a slice of the call's own as one fact: its value, its block from B on -/
def Acc (B : Nat) (w : World) (E : TypeId) (s : Nat) (v : Value) (n : Nat) (L : List Value) : Prop := w.ownsRow B E s v n L
theorem own_empty (w : World) (base : Nat) (E : TypeId) (s : Nat) (h : base ≤ w.heap.size) : (w.alloc (.cells #[] E)).ownsRow base E s (.slice (some ⟨w.heap.size, 0, none⟩) 0 0) 0 [] := by
  refine ⟨by simp, .inr ⟨w.heap.size, 0, #[], rfl, h, ?_, Nat.le_refl _, Nat.zero_le _, by simp, by simp⟩⟩
  exact Own.new w E []
theorem own_nil (w : World) (base : Nat) (E : TypeId) (s : Nat) : w.ownsRow base E s (.slice none 0 0) 0 [] := ⟨by simp, .inl ⟨rfl, rfl⟩⟩
theorem own_drew {w : World} {base : Nat} {E : TypeId} {s n : Nat} {v : Value} {L : List Value} (h : w.ownsRow base E s v n L) (m : Nat) : (w.drewN m).ownsRow base E s v n L := h

/-- 'append(out, x)' of one element: the element lies in a block of its own, the last one -/
theorem app_el {P : Program} {ops : Array Oper} {rest : List Oper} {o : Oper} {a : Act} {Q : Exit → Act → World → Prop} (hgd : o.guard = none) (s x : Operand) (T E : TypeId) (i : TypeInfo) (z : Value) (sz bytes : Nat)
    (hT : P.underlying T = some (.slice E)) (hi : P.info? E = some i) (hz : i.zero = some z) (h1 : i.size = sz) (h2 : i.bytes = bytes) (hzs : z.cells.size = sz) (hsz : 0 < sz)
    (ho : o.op = .call { callee := .builtin .append, args := #[s, x], argTypes := #[T, T] }) (w0 : World) (base : Nat) (v : Value) (n : Nat) (L : List Value) (hs : a.eval s = v) (hown : w0.ownsRow base E sz v n L)
    (cs : List Value) (hcs : cs.length = sz) (hone : ∀ u ∈ cs, u.oneCell' = true) (hx : a.eval x = .slice (some ⟨w0.heap.size, 0, none⟩) 1 1) (hn : n + 1 ≤ 2097152) (hby : bytes ≤ 64) (hbase : base ≤ w0.heap.size)
    (h : ∀ g cap w', w'.ownsRow base E sz (.slice (some ⟨g, 0, none⟩) (n + 1) cap) (n + 1) (L ++ cs) → (∀ W, Below base W w0 → Below base W w') → w0.heap.size < w'.heap.size → wpList P ops Q rest (a.put o.dst (.slice (some ⟨g, 0, none⟩) (n + 1) cap)) w') :
    wpList P ops Q (o :: rest) a (w0.alloc (.cells cs.toArray E)) := by
  have hb : (n + 1) * bytes ≤ 140737488355328 := by
    have := Nat.mul_le_mul hn hby
    omega
  refine wpList_append_lies _ hgd s x T ho base E i z sz bytes hT hi hz h1 h2 hzs hsz v n L hs (hown.alloc _) ⟨w0.heap.size, 0, none⟩ 1 1 cs hx (by omega) (World.news_of_block (Own.new w0 E cs)) hone (by omega) (by unfold maxLen; omega) hb (by simp; omega) _ rfl ?_
  intro g cap w' hown' hgrow _ _
  refine h g cap w' hown' (fun W hW => ?_) ?_
  · exact grown_below (hW.alloc hbase _) (hown.alloc _) (by simp; omega) hgrow
  · have := hgrow.size
    simp at this; omega
end Go.Proofs.YtcjekailcljaaaaGreat
