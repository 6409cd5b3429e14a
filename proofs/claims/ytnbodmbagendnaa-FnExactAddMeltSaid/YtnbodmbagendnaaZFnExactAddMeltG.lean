/- Contracts and plain facts, joined: InsK, CmpInt, SearchSpot, Root, Sine, SplitS, AddI, ClonS, Nest. -/
import Derived.Test.YtnbodmbagendnaaRows
import Derived.Test.YtnbodmbagendnaaZFnExactAddMeltF
import Derived.Laws.CopyOwn
import Derived.Lib.AppendZerosOnto
import Derived.Lib.AppendZeros
import Derived.Lib.Overlaps
import Derived.Laws.Externs
import Derived.Shelf.Spec.SlicesInsertGrow
import Derived.Lib.SliceRun
namespace Go.Proofs.Ytnbodmbagendnaa
open Go.ChangeShapes Go.WideShapes Go.ChangeAt Go.RowKit Go.Deep Go.Joins
set_option linter.unusedVariables false
set_option maxRecDepth 100000
set_option linter.unusedSimpArgs false
/-- all blocks but a slice's own are as they were -/
def KeptO (w : World) (r : Value) (w' : World) : Prop := ∀ b, b < w.heap.size → (∀ g', r.ownBlock = some g' → g' ≠ b) → w'.heap[b]? = w.heap[b]?
theorem KeptO.grown {w w' : World} {r : Value} (hg : w.grownBy w' r.ownBlock) : KeptO w r w' := fun b hb hne => hg.block b hb (fun e => hne b e.symm rfl)
theorem KeptO.own {w w' : World} {r : Value} (h : KeptO w r w') {b : Nat} {E : TypeId} {L : List Value} (ho : Own w b E L) (hne : ∀ g', r.ownBlock = some g' → g' ≠ b) : Own w' b E L := (h b ho.lt hne).trans ho
theorem run_copyN {P : Program} (w : World) (dT sT ty elem : TypeId) (g o dLen dCap : Nat) (a : Addr) (sLen sCap : Nat) (cur : Array Value) (t : TypeId) (cs : List Value) (sz k : Nat)
    (hu : P.underlying dT = some (.slice elem)) (hs : (P.info? elem).map (·.size) = some sz)
    (hg : w.heap[g]? = some (.cells cur t (0, 0))) (hk : k = Nat.min sLen dLen) (hn : cs.length = k * sz)
    (hsrc : ∀ j v, cs[j]? = some v → w.cell? (a.add j) = some v) (hfit : o + cs.length ≤ cur.size) (h1 : ∀ v ∈ cs, v.oneCell' = true) :
    (Builtin.copy_ #[dT, sT] ty #[.slice (some ⟨g, o, none⟩) dLen dCap, .slice (some a) sLen sCap]).run P w =
      .ok (goInt k) (w.setRow g (cur.toList.take o ++ cs ++ cur.toList.drop (o + cs.length)).toArray) := by
  have hl := run_loadCells_list (P := P) w a cs hsrc
  have hst := run_storeCells_at P g o t cs 0 cur w hg (by simpa using hfit) h1
  cases hq : P.info? elem with
  | none => simp [hq] at hs
  | some i =>
    have hi : i.size = sz := by simpa [hq] using hs
    rw [hn] at hl
    simp [Builtin.copy_, run_underlying hu, Builtin.lenOf, Builtin.firstCells, sizeOf, typeInfo, hq, hi, ← hk, hl, hst]
theorem wp_copyN {P : Program} {w : World} {o : Oper} {a : Act} {K : Act → World → Prop} {Q : Exit → Act → World → Prop} (d s : Operand) (T E : TypeId)
    (ho : o.op = .call { callee := .builtin .copy, args := #[d, s], argTypes := #[T, T] }) (sz : Nat) (hu : P.underlying T = some (.slice E)) (hsz : (P.info? E).map (·.size) = some sz)
    (g off dLen dCap : Nat) (b so sLen sCap : Nat) (hd : a.eval d = .slice (some ⟨g, off, none⟩) dLen dCap) (hs : a.eval s = .slice (some ⟨b, so, none⟩) sLen sCap)
    (cur : List Value) (hg : Own w g E cur) (k : Nat) (hk : k = Nat.min sLen dLen) (cs : List Value) (hn : cs.length = k * sz)
    (hsrc : ∀ j v, cs[j]? = some v → w.cell? ⟨b, so + j, none⟩ = some v) (hfit : off + cs.length ≤ cur.length) (h1 : ∀ v ∈ cs, v.oneCell' = true) (B : Nat) (w0 : World) (hb : Below B w0 w) (hBg : B ≤ g)
    (h : ∀ w', Hid (Own w' g E (splice cur off cs)) → Hid (Below B w0 w') → Hid (∀ b, b ≠ g → w'.heap[b]? = w.heap[b]?) → K (a.put o.dst (goInt k)) w') :
    Oper.wp P o a w K Q := by
  have hrun := run_copyN (P := P) w T T o.type E g off dLen dCap ⟨b, so, none⟩ sLen sCap cur.toArray E cs sz k hu hsz hg hk hn (fun j v hj => by rw [Addr.add_lit]; exact hsrc j v hj) (by simpa using hfit) h1
  unfold Oper.wp
  simp [execOp, ho, resolve, invoke, builtin, hd, hs, hrun, Result.andThen]
  refine h _ (Lib.hid ?_) (Lib.hid (below_setRow hb hBg _)) (Lib.hid (fun b hne => setRow_other w g b _ hne))
  have := setRow_heap w g cur.toArray (cur.toArray.toList.take off ++ cs ++ cur.toArray.toList.drop (off + cs.length)).toArray E (0, 0) hg
  unfold Own splice
  simpa using this
theorem copyN {P : Program} {w : World} {ops : Array Oper} {rest : List Oper} {o : Oper} {a : Act} {Q : Exit → Act → World → Prop} (hgd : o.guard = none) (d s : Operand) (T E : TypeId)
    (ho : o.op = .call { callee := .builtin .copy, args := #[d, s], argTypes := #[T, T] }) (sz : Nat) (hu : P.underlying T = some (.slice E)) (hsz : (P.info? E).map (·.size) = some sz)
    (g off dLen dCap : Nat) (b so sLen sCap : Nat) (hd : a.eval d = .slice (some ⟨g, off, none⟩) dLen dCap) (hs : a.eval s = .slice (some ⟨b, so, none⟩) sLen sCap)
    (cur : List Value) (hg : Own w g E cur) (k : Nat) (hk : k = Nat.min sLen dLen) (cs : List Value) (hn : cs.length = k * sz)
    (hsrc : ∀ j v, cs[j]? = some v → w.cell? ⟨b, so + j, none⟩ = some v) (hfit : off + cs.length ≤ cur.length) (h1 : ∀ v ∈ cs, v.oneCell' = true) (B : Nat) (w0 : World) (hb : Below B w0 w) (hBg : B ≤ g)
    (h : ∀ w', Hid (Own w' g E (splice cur off cs)) → Hid (Below B w0 w') → Hid (∀ b, b ≠ g → w'.heap[b]? = w.heap[b]?) → wpList P ops Q rest (a.put o.dst (goInt k)) w') :
    wpList P ops Q (o :: rest) a w :=
  wpList_plain hgd fun _ hK => wp_copyN d s T E ho sz hu hsz g off dLen dCap b so sLen sCap hd hs cur hg k hk cs hn hsrc hfit h1 B w0 hb hBg fun w' h2 h3 h4 => hK _ _ (h w' h2 h3 h4)
theorem scopyN {P : Program} {w : World} {ops : Array Oper} {o : Oper} {a : Act} {K : Act → World → Prop} {Q : Exit → Act → World → Prop} {X : Prop} (hgd : o.guard = none) (d s : Operand) (T E : TypeId)
    (ho : o.op = .call { callee := .builtin .copy, args := #[d, s], argTypes := #[T, T] }) (sz : Nat) (hu : P.underlying T = some (.slice E)) (hsz : (P.info? E).map (·.size) = some sz)
    (g off dLen dCap : Nat) (b so sLen sCap : Nat) (hd : a.eval d = .slice (some ⟨g, off, none⟩) dLen dCap) (hs : a.eval s = .slice (some ⟨b, so, none⟩) sLen sCap)
    (cur : List Value) (hg : Own w g E cur) (k : Nat) (hk : k = Nat.min sLen dLen) (cs : List Value) (hn : cs.length = k * sz)
    (hsrc : ∀ j v, cs[j]? = some v → w.cell? ⟨b, so + j, none⟩ = some v) (hfit : off + cs.length ≤ cur.length) (h1 : ∀ v ∈ cs, v.oneCell' = true) (B : Nat) (w0 : World) (hb : Below B w0 w) (hBg : B ≤ g)
    (h : ∀ w', Hid (Own w' g E (splice cur off cs)) → Hid (Below B w0 w') → Hid (∀ b, b ≠ g → w'.heap[b]? = w.heap[b]?) → K (a.put o.dst (goInt k)) w') :
    if Region.wanted o (yielded ops a.tmps) = true then Oper.wp P o a w K Q else X := by
  have hw : Region.wanted o (yielded ops a.tmps) = true := by simp [Region.wanted, hgd]
  rw [if_pos hw]
  exact wp_copyN d s T E ho sz hu hsz g off dLen dCap b so sLen sCap hd hs cur hg k hk cs hn hsrc hfit h1 B w0 hb hBg h

theorem appzN {P : Program} {w : World} {ops : Array Oper} {rest : List Oper} {o : Oper} {a : Act} {Q : Exit → Act → World → Prop} (hgd : o.guard = none) (s x : Operand) (T tn E : TypeId)
    (ho : o.op = .call { callee := .builtin .append, args := #[s, x], argTypes := #[T, tn] }) (i0 : TypeInfo) (z : Value) (sz bytes : Nat) (hT : P.underlying T = some (.slice E)) (htn : P.underlying tn = some (.int .i64)) (hi : P.info? E = some i0) (hz : i0.zero = some z)
    (h1 : i0.size = sz) (h2 : i0.bytes = bytes) (hzs : z.cells.size = sz) (hsz : 0 < sz) (hby : bytes ≤ 64) (b i c k : Nat) (q : Int) (hs : a.eval s = .slice (some ⟨b, 0, none⟩) i c) (hx : a.eval x = .int .i64 q) (hq : q = (k : Int)) (hk : 0 < k) (hg : c < i + k) (hlim : i + k ≤ 2097152)
    (olds : List Value) (hol : olds.length = i * sz) (hcells : ∀ j v, olds[j]? = some v → w.cell? ⟨b, j, none⟩ = some v)
    (h : ∀ cap Z w', Own w' w.heap.size E (olds ++ Z) → (olds ++ Z).length = cap * sz → i + k ≤ cap → cap ≤ maxLen → Below w.heap.size w w' → w'.heap.size = w.heap.size + 1 → wpList P ops Q rest (a.put o.dst (.slice (some ⟨w.heap.size, 0, none⟩) (i + k) cap)) w') :
    wpList P ops Q (o :: rest) a w := by
  subst hq
  have hb : (i + k) * bytes ≤ 140737488355328 := by
    have := Nat.mul_le_mul hlim hby
    omega
  have hkb : k * bytes ≤ 281474976710656 := by
    have := Nat.mul_le_mul (show k ≤ 2097152 by omega) hby
    omega
  have hold : (Builtin.firstCells i0.size i (.slice (some ⟨b, 0, none⟩) i c)).run P w.drew = .ok olds.toArray w.drew := by
    rw [h1]
    exact run_firstCells_some w.drew sz i ⟨b, 0, none⟩ i c olds hol (fun j v hj => by
      rw [Addr.add_lit, Nat.zero_add]
      exact hcells j v hj)
  have hrun := fun ty => Lib.run_append_grow_zeros w T tn ty E i0 z .i64 .i64 hT htn hi hz (some ⟨b, 0, none⟩) i c olds hold k hk (by omega) hg (by omega) (by rw [h2]; exact hkb) (by rw [h2]; exact growslice_fits hg hb)
  have hge := grownCap_ge w (i + k) c E
  have hle := grownCap_le_maxLen w (i + k) c E (by unfold maxLen; omega)
  refine Lib.wpList_append_run w hgd s x T tn ho _ _ hs hx _ _ (hrun _) ?_
  generalize hG : grownCap w (i + k) c E = G at *
  refine h G ((Builtin.zeroCells z.cells k).toList ++ (Builtin.zeroCells z.cells (G - (i + k))).toList) _ ?_ ?_ hge hle ?_ ?_
  · have := Own.new w.drew E (olds ++ ((Builtin.zeroCells z.cells k).toList ++ (Builtin.zeroCells z.cells (G - (i + k))).toList))
    have e : (olds ++ ((Builtin.zeroCells z.cells k).toList ++ (Builtin.zeroCells z.cells (G - (i + k))).toList)).toArray = olds.toArray ++ Builtin.zeroCells z.cells k ++ Builtin.zeroCells z.cells (G - (i + k)) := by
      apply Array.toList_inj.1
      simp
    unfold Own at this ⊢
    rw [e] at this ⊢
    exact this
  · simp [Builtin.zeroCells, hol, hzs]
    rw [← Nat.add_mul, ← Nat.add_mul]
    congr 1; omega
  · exact ((Below.refl _ w).drew).alloc (Nat.le_refl _) _
  · simp
theorem splice_in (A B S vs : List Value) (h : vs.length ≤ S.length) : splice (splice (A ++ (B ++ S)) (A.length + vs.length) B) A.length vs = A ++ (vs ++ (B ++ S.drop vs.length)) := by
  unfold splice
  have e1 : (A ++ (B ++ S)).take (A.length + vs.length) = A ++ (B ++ S).take vs.length := by rw [List.take_length_add_append]
  have e2 : (A ++ (B ++ S)).drop (A.length + vs.length + B.length) = S.drop vs.length := by
    rw [show A.length + vs.length + B.length = A.length + (B.length + vs.length) from by omega, List.drop_length_add_append, List.drop_length_add_append]
  rw [e1, e2, List.append_assoc, List.take_left, List.drop_length_add_append]
  have e3 : ((B ++ S).take vs.length).length = vs.length := by simp; omega
  congr 2
  exact List.drop_left' e3
theorem splice_new (A B Z vs : List Value) (h : vs.length + B.length ≤ Z.length) : splice (splice (A ++ Z) A.length vs) (A.length + vs.length) B = A ++ (vs ++ (B ++ Z.drop (vs.length + B.length))) := by
  unfold splice
  rw [List.take_left, List.drop_length_add_append, List.take_length_add_append, List.take_left, List.append_assoc]
  congr 3
  rw [show A.length + vs.length + B.length = A.length + (vs.length + B.length) from by omega, List.drop_length_add_append, List.drop_length_add_append, List.drop_drop]
/-- a block known whole is a slice of one's own -/
theorem row_of_own {w : World} {base g cap n sz : Nat} {E : TypeId} {cur L : List Value} (h : Own w g E cur) (hb : base ≤ g) (hn : n ≤ cap) (hm : cap ≤ maxLen) (hs : cur.length = cap * sz) (hl : L.length = n * sz) (ht : cur.take (n * sz) = L) :
    w.ownsRow base E sz (.slice (some ⟨g, 0, none⟩) n cap) n L :=
  ⟨hl, .inr ⟨g, cap, cur.toArray, rfl, hb, h, hn, hm, by simpa using hs, by simpa using ht⟩⟩
theorem run_append_roomN {P : Program} (w : World) (t ty e : TypeId) (i : TypeInfo) (ht : P.underlying t = some (.slice e)) (hi : P.info? e = some i)
    (g sLen sCap : Nat) (a : Addr) (m c : Nat) (cur : List Value) (E : TypeId) (hg : Own w g E cur) (news : List Value) (hl : news.length = m * i.size) (hnews : ∀ j u, news[j]? = some u → w.cell? (a.add j) = some u) (h1 : ∀ u ∈ news, u.oneCell' = true)
    (hroom : sLen + m ≤ sCap) (hfit : sLen * i.size + news.length ≤ cur.length) :
    (Builtin.append_ #[t, t] ty #[.slice (some ⟨g, 0, none⟩) sLen sCap, .slice (some a) m c]).run P w = .ok (.slice (some ⟨g, 0, none⟩) (sLen + m) sCap) (w.setRow g (splice cur (sLen * i.size) news).toArray) := by
  have hfc := run_firstCells_some (P := P) w i.size m a m c news hl hnews
  have hst := run_storeCells_at P g (sLen * i.size) E news 0 cur.toArray w hg (by simpa using hfit) h1
  simp only [Nat.add_zero] at hst
  simp [Builtin.append_, run_underlying ht, sizeOf, typeInfo, hi, Builtin.lenOf, hroom, hfc, Addr.add_lit, hst, splice]
theorem own_setRow {w : World} {g : Nat} {E : TypeId} {cur : List Value} (hg : Own w g E cur) (L : List Value) : Own (w.setRow g L.toArray) g E L := by
  have := setRow_heap w g cur.toArray L.toArray E (0, 0) hg
  unfold Own
  exact this
/-- 'append(s[:n], x...)' in place, as one step of a region that draws -/
theorem sappN {P : Program} {w : World} {ops : Array Oper} {o : Oper} {a : Act} {K : Act → World → Prop} {Q : Exit → Act → World → Prop} {X : Prop} (hgd : o.guard = none) (s x : Operand) (T E : TypeId)
    (ho : o.op = .call { callee := .builtin .append, args := #[s, x], argTypes := #[T, T] }) (i : TypeInfo) (sz : Nat) (hT : P.underlying T = some (.slice E)) (hi : P.info? E = some i) (hsz : i.size = sz)
    (g n cap : Nat) (hs : a.eval s = .slice (some ⟨g, 0, none⟩) n cap) (ad : Addr) (m c : Nat) (hx : a.eval x = .slice (some ad) m c)
    (cur : List Value) (hg : Own w g E cur) (cs : List Value) (hn : cs.length = m * sz) (hsrc : ∀ j u, cs[j]? = some u → w.cell? (ad.add j) = some u) (h1 : ∀ u ∈ cs, u.oneCell' = true)
    (hroom : n + m ≤ cap) (hfit : n * sz + cs.length ≤ cur.length) (B : Nat) (w0 : World) (hb : Below B w0 w) (hBg : B ≤ g)
    (h : ∀ w', Hid (Own w' g E (splice cur (n * sz) cs)) → Hid (Below B w0 w') → Hid (∀ b, b ≠ g → w'.heap[b]? = w.heap[b]?) → K (a.put o.dst (.slice (some ⟨g, 0, none⟩) (n + m) cap)) w') :
    if Region.wanted o (yielded ops a.tmps) = true then Oper.wp P o a w K Q else X := by
  have hw : Region.wanted o (yielded ops a.tmps) = true := by simp [Region.wanted, hgd]
  rw [if_pos hw]
  subst hsz
  have hrun := run_append_roomN (P := P) w T o.type E i hT hi g n cap ad m c cur E hg cs hn hsrc h1 hroom hfit
  unfold Oper.wp
  simp [execOp, ho, resolve, invoke, builtin, hs, hx, hrun, Result.andThen]
  exact h _ (Lib.hid (own_setRow hg _)) (Lib.hid (below_setRow hb hBg _)) (Lib.hid (fun b hne => setRow_other w g b _ hne))
/-- 'clear(s)' of some elements of a block of one's own -/
theorem clrN {P : Program} {w : World} {ops : Array Oper} {rest : List Oper} {o : Oper} {a : Act} {Q : Exit → Act → World → Prop} (hgd : o.guard = none) (s : Operand) (T E : TypeId)
    (ho : o.op = .call { callee := .builtin .clear, args := #[s], argTypes := #[T] }) (hT : P.underlying T = some (.slice E)) (z : Value) (hv : ∀ w, (zeroValue E).run P w = .ok z w) (h1 : ∀ u ∈ z.cells.toList, u.oneCell' = true) (sz : Nat) (hzs : z.cells.size = sz)
    (g off n c : Nat) (hs : a.eval s = .slice (some ⟨g, off, none⟩) n c) (hn : 0 < n) (cur : List Value) (hg : Own w g E cur) (hfit : off + n * sz ≤ cur.length) (B : Nat) (w0 : World) (hb : Below B w0 w) (hBg : B ≤ g)
    (h : ∀ Z w', Hid (Z.length = n * sz) → Hid (Own w' g E (splice cur off Z)) → Hid (Below B w0 w') → Hid (∀ b, b ≠ g → w'.heap[b]? = w.heap[b]?) → wpList P ops Q rest (a.put o.dst (.tuple #[])) w') :
    wpList P ops Q (o :: rest) a w := by
  refine wpList_plain hgd fun K hK => ?_
  have hzl : (Builtin.zeroCells z.cells n).toList.length = n * sz := by simp [Builtin.zeroCells, hzs]
  have h1' : ∀ u ∈ (Builtin.zeroCells z.cells n).toList, u.oneCell' = true := by
    intro u hu
    have hu2 : u ∈ (Array.range (n * z.cells.size)).map fun i => z.cells[i % z.cells.size]! := by simpa [Builtin.zeroCells] using hu
    obtain ⟨i, hi, rfl⟩ := Array.mem_map.1 hu2
    have hi2 : i < n * z.cells.size := by simpa using hi
    have hp : 0 < z.cells.size := by
      rcases Nat.eq_zero_or_pos z.cells.size with q | q
      · rw [q] at hi2; omega
      · exact q
    have hm : i % z.cells.size < z.cells.size := Nat.mod_lt _ hp
    have e : z.cells[i % z.cells.size]! = z.cells[i % z.cells.size] := getElem!_pos z.cells _ hm
    rw [e]
    exact h1 _ (Array.getElem_mem_toList hm)
  have hst := run_storeCells_at P g off E (Builtin.zeroCells z.cells n).toList 0 cur.toArray w hg (by rw [hzl]; simpa using hfit) h1'
  simp only [Nat.add_zero] at hst
  obtain ⟨m, rfl⟩ : ∃ m, n = m + 1 := ⟨n - 1, by omega⟩
  unfold Oper.wp
  simp [execOp, ho, resolve, invoke, builtin, hs, Builtin.clear_, run_underlying hT, hv, hst, Result.andThen]
  refine hK _ _ (h (Builtin.zeroCells z.cells (m + 1)).toList _ (Lib.hid hzl) (Lib.hid ?_) (Lib.hid (below_setRow hb hBg _)) (Lib.hid (fun b hne => setRow_other w g b _ hne)))
  have e := own_setRow hg (splice cur off (Builtin.zeroCells z.cells (m + 1)).toList)
  unfold splice at e ⊢
  simpa using e
theorem splice_del (A X D S Z : List Value) (h : X.length = Z.length) : (splice (splice (A ++ (X ++ (D ++ S))) A.length D) (A.length + D.length) Z).take (A.length + D.length) = A ++ D := by
  have e1 : splice (A ++ (X ++ (D ++ S))) A.length D = A ++ (D ++ (X ++ (D ++ S)).drop D.length) := by
    unfold splice
    rw [List.take_left, List.drop_length_add_append]
  rw [e1]
  unfold splice
  have e2 : (A ++ (D ++ (X ++ (D ++ S)).drop D.length)).take (A.length + D.length) = A ++ D := by
    rw [List.take_length_add_append, List.take_left]
  rw [e2]
  exact List.take_left' (by rw [List.length_append])
end Go.Proofs.Ytnbodmbagendnaa
namespace Go.Proofs.Ytnbodmbagendnaa
open Go.ChangeShapes Go.WideShapes Go.ChangeAt Go.RowKit Go.Deep Go.Joins
set_option linter.unusedVariables false
set_option maxRecDepth 100000
set_option linter.unusedSimpArgs false
def cmpI (x y : Int) : Int := if x < y then -1 else if y < x then 1 else 0
end Go.Proofs.Ytnbodmbagendnaa
namespace Go.Proofs.Ytnbodmbagendnaa
open Go.ChangeShapes Go.WideShapes Go.ChangeAt Go.RowKit Go.Deep Go.Joins
set_option linter.unusedVariables false
set_option maxRecDepth 100000
set_option linter.unusedSimpArgs false
def cmpSpot (xs : List Spot) (t : Spot) (k : Nat) : Int := (xs[k]?).elim 1 fun x => cmpI x.angle t.angle
theorem cmpSpot_at {xs : List Spot} {t : Spot} {k : Nat} (h : k < xs.length) : cmpSpot xs t k = (fun x : Spot => cmpI x.angle t.angle) xs[k] := by
  unfold cmpSpot
  rw [List.getElem?_eq_getElem h]
  rfl
end Go.Proofs.Ytnbodmbagendnaa
namespace Go.Proofs.Ytnbodmbagendnaa
open Go.ChangeShapes Go.WideShapes Go.ChangeAt Go.RowKit Go.Deep Go.Joins
set_option linter.unusedVariables false
set_option maxRecDepth 100000
set_option linter.unusedSimpArgs false
def IsRoot (n r : Int) : Prop := 0 ≤ r ∧ r * r ≤ n ∧ n < (r + 1) * (r + 1)
theorem sq_mono {a b : Int} (ha : 0 ≤ a) (h : a ≤ b) : a * a ≤ b * b := Int.mul_le_mul h h ha (by omega)
theorem isRoot_unique {n r s : Int} (h : IsRoot n r) (k : IsRoot n s) : r = s := by
  obtain ⟨h1, h2, h3⟩ := h
  obtain ⟨k1, k2, k3⟩ := k
  rcases Int.lt_trichotomy r s with hlt | he | hlt
  · have := sq_mono (a := r + 1) (b := s) (by omega) (by omega)
    omega
  · exact he
  · have := sq_mono (a := s + 1) (b := r) (by omega) (by omega)
    omega
open Classical in
noncomputable def rootS (n : Int) : Int := if h : ∃ r, IsRoot n r then h.choose else 0
theorem rootS_eq {n r : Int} (h : IsRoot n r) : rootS n = r := by
  unfold rootS
  have he : ∃ r, IsRoot n r := ⟨r, h⟩
  rw [dif_pos he]
  exact isRoot_unique he.choose_spec h

theorem sq_bd {a : Int} (h0 : 0 ≤ a) (h1 : a ≤ 1600000000) : 0 ≤ a * a ∧ a * a ≤ 2560000000000000000 := by
  have h2 := sq_mono h0 h1
  exact ⟨Int.mul_nonneg h0 h0, by omega⟩
theorem low_bd {n a : Int} (h0 : 0 ≤ a) (h : a * a ≤ n) (hn : n ≤ 1000000000000000) : a ≤ 31622777 := by
  rcases Int.lt_or_le 31622777 a with h1 | h1
  · have := sq_mono (a := 31622778) (b := a) (by omega) (by omega)
    omega
  · exact h1

/-- a bit: a power of two -/
inductive Pow2 : Int → Prop
  | one : Pow2 1
  | twice {b : Int} : Pow2 b → Pow2 (2 * b)
theorem Pow2.pos {b : Int} (h : Pow2 b) : 0 < b := by
  induction h with
  | one => omega
  | twice _ ih => omega
theorem Pow2.half {b : Int} (h : Pow2 b) : (b = 1 ∧ b / 2 = 0) ∨ (Pow2 (b / 2) ∧ 2 * (b / 2) = b) := by
  cases h with
  | one => left; exact ⟨rfl, rfl⟩
  | @twice c hc => right; rw [show 2 * c / 2 = c by omega]; exact ⟨hc, rfl⟩
theorem pow_top : Pow2 2147483648 := by
  have h : ∀ k : Nat, Pow2 (2 ^ k) := fun k => by
    induction k with
    | zero => exact .one
    | succ k ih => rw [Int.pow_succ, Int.mul_comm]; exact .twice ih
  exact h 31
/-- what is known of the root so far -/
def RootAt (n r b : Int) : Prop := 0 ≤ r ∧ r * r ≤ n ∧ ((b = 0 ∧ n < (r + 1) * (r + 1)) ∨ (Pow2 b ∧ n < (r + 2 * b) * (r + 2 * b)))
theorem rootAt_next {n r b s : Int} (h : RootAt n r b) (hp : Pow2 b) (hs : (s = r + b ∧ s * s ≤ n) ∨ (s = r ∧ n < (r + b) * (r + b))) : RootAt n s (b / 2) := by
  obtain ⟨h1, h2, h3⟩ := h
  have hb := hp.pos
  have h4 : n < (r + 2 * b) * (r + 2 * b) := by
    rcases h3 with h3 | h3
    · omega
    · exact h3.2
  have h5 : 0 ≤ s ∧ s * s ≤ n ∧ n < (s + b) * (s + b) := by
    rcases hs with ⟨rfl, hs⟩ | ⟨rfl, hs⟩
    · refine ⟨by omega, hs, ?_⟩
      rw [show r + b + b = r + 2 * b by omega]; exact h4
    · exact ⟨h1, h2, hs⟩
  refine ⟨h5.1, h5.2.1, ?_⟩
  rcases hp.half with ⟨rfl, h0⟩ | ⟨h6, h7⟩
  · left; exact ⟨h0, h5.2.2⟩
  · right; rw [h7]; exact ⟨h6, h5.2.2⟩
theorem le_div {n m : Int} (hm : 0 < m) : m ≤ n / m ↔ m * m ≤ n := Int.le_ediv_iff_mul_le hm
end Go.Proofs.Ytnbodmbagendnaa
namespace Go.Proofs.Ytnbodmbagendnaa
open Go.ChangeShapes Go.WideShapes Go.ChangeAt Go.RowKit Go.Deep Go.Joins
set_option linter.unusedVariables false
set_option maxRecDepth 100000
set_option linter.unusedSimpArgs false
def sinT : List Int := [0, 17452, 34899, 52336, 69756, 87156, 104528, 121869, 139173, 156434, 173648, 190809, 207912, 224951, 241922, 258819, 275637, 292372, 309017, 325568, 342020, 358368, 374607, 390731, 406737, 422618, 438371, 453990, 469472, 484810, 500000, 515038, 529919, 544639, 559193, 573576, 587785, 601815, 615661, 629320, 642788, 656059, 669131, 681998, 694658, 707107, 719340, 731354, 743145, 754710, 766044, 777146, 788011, 798636, 809017, 819152, 829038, 838671, 848048, 857167, 866025, 874620, 882948, 891007, 898794, 906308, 913545, 920505, 927184, 933580, 939693, 945519, 951057, 956305, 961262, 965926, 970296, 974370, 978148, 981627, 984808, 987688, 990268, 992546, 994522, 996195, 997564, 998630, 999391, 999848, 1000000]
theorem sinT_len : sinT.length = 91 := rfl
def tab (i : Nat) : Int := sinT[i]?.getD 0
theorem tab_bd (i : Nat) (h : i < 91) : 0 ≤ tab i ∧ tab i ≤ 1000000 := by
  have key : ∀ j : Fin 91, 0 ≤ tab j.1 ∧ tab j.1 ≤ 1000000 := by decide +kernel
  exact key ⟨i, h⟩
theorem tab_get (i : Nat) (h : i < 91) : (sinT.flatMap putI)[i]? = some (.int .i64 (tab i)) := by
  rw [putI_get sinT i h]
  unfold tab
  rw [List.getElem?_eq_getElem (by rw [sinT_len]; exact h)]
  rfl
/-- the sine at an angle from 0 to 359 -/
def sinN (t : Nat) : Int := if t ≤ 90 then tab t else if t ≤ 180 then tab (180 - t) else if t ≤ 270 then -tab (t - 180) else -tab (360 - t)
theorem sinN_bd (t : Nat) (h : t < 360) : -1000000 ≤ sinN t ∧ sinN t ≤ 1000000 := by
  unfold sinN
  have h1 := tab_bd t
  have h2 := tab_bd (180 - t)
  have h3 := tab_bd (t - 180)
  have h4 := tab_bd (360 - t)
  split
  · omega
  · split
    · omega
    · split <;> omega
def sineS (d : Int) : Int := sinN (d % 360).toNat
theorem sineS_bd (d : Int) : -1000000 ≤ sineS d ∧ sineS d ≤ 1000000 := sinN_bd _ (by omega)


theorem turn_eq (d : Int) : (d.tmod 360 + 360) % 360 = d % 360 := by
  rcases Int.le_total 0 d with h | h
  · rw [Int.tmod_eq_emod_of_nonneg h]; omega
  · obtain ⟨m, rfl⟩ : ∃ m, d = -m := ⟨-d, by omega⟩
    rw [Int.neg_tmod, Int.tmod_eq_emod_of_nonneg (by omega)]; omega
theorem turn_bd (d : Int) : -359 ≤ d.tmod 360 ∧ d.tmod 360 ≤ 359 := by
  have h1 := Int.tmod_lt_of_pos d (b := 360) (by omega)
  have h2 : -360 < d.tmod 360 := Int.lt_tmod_of_pos d (by omega)
  omega
end Go.Proofs.Ytnbodmbagendnaa
namespace Go.Proofs.Ytnbodmbagendnaa
open Go.ChangeShapes Go.WideShapes Go.ChangeAt Go.RowKit Go.Deep Go.Joins
set_option linter.unusedVariables false
set_option maxRecDepth 100000
set_option linter.unusedSimpArgs false
def cosS (d : Int) : Int := sineS (d + 90)
theorem cosS_mod (d : Int) : sineS (d % 360 + 90) = cosS d := by
  unfold cosS sineS
  rw [show (d % 360 + 90) % 360 = (d + 90) % 360 by omega]
theorem cosS_bd (d : Int) : -1000000 ≤ cosS d ∧ cosS d ≤ 1000000 := sineS_bd _
theorem validSpotS_true {xs : List Spot} (h : validSpotS xs = true) : xs.length ≤ 16 ∧ ∀ x ∈ xs, spotB x = true := by
  simp only [validSpotS, Bool.and_eq_true, decide_eq_true_eq] at h
  refine ⟨h.2, fun x hx => ?_⟩
  obtain ⟨i, hi, rfl⟩ := List.mem_iff_getElem.1 hx
  have := allK_true h.1 i hi
  unfold stepB at this
  rw [List.getElem?_eq_getElem hi] at this
  simp only [Bool.and_eq_true] at this
  exact this.1
theorem spotB_nums {x : Spot} (h : spotB x = true) : (0 ≤ x.angle ∧ x.angle ≤ 359) ∧ -1000 ≤ x.weight ∧ x.weight ≤ 1000 := by
  simp only [spotB, weightB, Bool.and_eq_true] at h
  exact ⟨inB_true h.1, inB_true h.2.2⟩
/-- the sum of weights times f of the angles -/
def wsum (f : Int → Int) (n : Int) (xs : List Spot) : Int := (xs.map fun x => x.weight * f (2 * n * x.angle)).sum
theorem wsum_succ (f : Int → Int) (n : Int) (xs : List Spot) (k : Nat) (hk : k < xs.length) : wsum f n (xs.take (k + 1)) = wsum f n (xs.take k) + xs[k].weight * f (2 * n * xs[k].angle) := by
  unfold wsum
  rw [List.take_succ_eq_append_getElem hk, List.map_append, List.sum_append]
  simp
theorem abs_mul {a b m n : Int} (ha : -m ≤ a ∧ a ≤ m) (hb : -n ≤ b ∧ b ≤ n) : -(m * n) ≤ a * b ∧ a * b ≤ m * n := by
  have hm : 0 ≤ m := by omega
  have hn : 0 ≤ n := by omega
  have h1 : (a * b).natAbs ≤ m.natAbs * n.natAbs := by
    rw [Int.natAbs_mul]
    exact Nat.mul_le_mul (by omega) (by omega)
  have h2 : ((m.natAbs * n.natAbs : Nat) : Int) = m * n := by
    push_cast
    rw [Int.natAbs_of_nonneg hm, Int.natAbs_of_nonneg hn]
  omega
theorem term_bd {x : Spot} (h : spotB x = true) {f : Int} (hf : -1000000 ≤ f ∧ f ≤ 1000000) : -1000000000 ≤ x.weight * f ∧ x.weight * f ≤ 1000000000 := by
  have := abs_mul (m := 1000) (n := 1000000) (spotB_nums h).2 hf
  omega
theorem wsum_bd (f : Int → Int) (hf : ∀ d, -1000000 ≤ f d ∧ f d ≤ 1000000) (n : Int) : ∀ (xs : List Spot), (∀ x ∈ xs, spotB x = true) → -(xs.length * 1000000000) ≤ wsum f n xs ∧ wsum f n xs ≤ xs.length * 1000000000
  | [], _ => by simp [wsum]
  | x :: xs, h => by
    have ih := wsum_bd f hf n xs (fun y hy => h y (List.mem_cons_of_mem _ hy))
    have h1 := term_bd (h x (List.mem_cons_self ..)) (hf (2 * n * x.angle))
    have e : wsum f n (x :: xs) = x.weight * f (2 * n * x.angle) + wsum f n xs := by simp [wsum]
    rw [e, List.length_cons]
    push_cast
    omega
theorem wsum_take_bd (f : Int → Int) (hf : ∀ d, -1000000 ≤ f d ∧ f d ≤ 1000000) (n : Int) {xs : List Spot} (h : ∀ x ∈ xs, spotB x = true) (hl : xs.length ≤ 16) (k : Nat) : -16000000000 ≤ wsum f n (xs.take k) ∧ wsum f n (xs.take k) ≤ 16000000000 := by
  have h1 := wsum_bd f hf n (xs.take k) (fun x hx => h x (List.mem_of_mem_take hx))
  have h2 : (xs.take k).length ≤ 16 := by rw [List.length_take]; omega
  omega
theorem divR_thou {a : Int} (h : -16000000000 ≤ a ∧ a ≤ 16000000000) : -16000000 ≤ divR a 1000 ∧ divR a 1000 ≤ 16000000 := by
  unfold divR
  split <;> omega
theorem angle_bd {n a : Int} (hn : 2 ≤ n ∧ n ≤ 6) (ha : 0 ≤ a ∧ a ≤ 359) : 0 ≤ 2 * n * a ∧ 2 * n * a ≤ 4308 := by
  have h1 : 0 ≤ 2 * n * a := Int.mul_nonneg (by omega) ha.1
  have h2 : 2 * n * a ≤ 12 * 359 := Int.mul_le_mul (by omega) ha.2 ha.1 (by omega)
  omega
noncomputable def splitN (n : Int) (xs : List Spot) : Int := rootS (divR (wsum cosS n xs) 1000 * divR (wsum cosS n xs) 1000 + divR (wsum sineS n xs) 1000 * divR (wsum sineS n xs) 1000)
theorem sq_abs {c : Int} (h : -16000000 ≤ c ∧ c ≤ 16000000) : 0 ≤ c * c ∧ c * c ≤ 256000000000000 := by
  have h1 := abs_mul h h
  refine ⟨?_, by omega⟩
  rcases Int.le_total 0 c with h2 | h2
  · exact Int.mul_nonneg h2 h2
  · have := Int.mul_nonneg (a := -c) (b := -c) (by omega) (by omega)
    rw [Int.neg_mul_neg] at this; exact this
def codeW (xs : List Spot) (n : Int) : Int := if validSpotS xs then (if inB n 2 6 then 0 else 2) else 1
theorem codeW_zero {xs : List Spot} {n : Int} (h : codeW xs n = 0) : validSpotS xs = true ∧ inB n 2 6 = true := by
  unfold codeW at h
  cases hV : validSpotS xs <;> cases hB : inB n 2 6 <;> rw [hV, hB] at h <;> simp at h
  exact ⟨rfl, rfl⟩
/-- the first of the angles 0 to k at which v is greatest, and v there -/
def bestN (v : Int → Int) : Nat → Int × Int
  | 0 => (0, v 0)
  | k + 1 => if (bestN v k).2 < v (k + 1 : Nat) then ((k + 1 : Nat), v (k + 1 : Nat)) else bestN v k
theorem bestN_bd {v : Int → Int} {m : Int} (h : ∀ d, -m ≤ v d ∧ v d ≤ m) : ∀ k, (0 ≤ (bestN v k).1 ∧ (bestN v k).1 ≤ k) ∧ (-m ≤ (bestN v k).2 ∧ (bestN v k).2 ≤ m)
  | 0 => ⟨⟨Int.le_refl _, Int.le_refl _⟩, h 0⟩
  | k + 1 => by
    have ih := bestN_bd h k
    unfold bestN
    split
    · exact ⟨by simp; omega, h _⟩
    · exact ⟨by omega, ih.2⟩
def waveV (c s d : Int) : Int := c * cosS d + s * sineS d
theorem waveV_bd {c s : Int} (hc : -16000000 ≤ c ∧ c ≤ 16000000) (hs : -16000000 ≤ s ∧ s ≤ 16000000) (d : Int) : -32000000000000 ≤ waveV c s d ∧ waveV c s d ≤ 32000000000000 := by
  have h1 := abs_mul hc (cosS_bd d)
  have h2 := abs_mul hs (sineS_bd d)
  unfold waveV
  omega
noncomputable def splitOfS (xs : List Spot) (n : Int) : Int × Int := if codeW xs n = 0 then (splitN n xs, 0) else (0, codeW xs n)
def splitAngleS (xs : List Spot) (n : Int) : Int × Int :=
  if codeW xs n = 0 then
    (if divR (wsum cosS n xs) 1000 = 0 ∧ divR (wsum sineS n xs) 1000 = 0 then (0, 6) else ((bestN (waveV (divR (wsum cosS n xs) 1000) (divR (wsum sineS n xs) 1000)) 359).1, 0))
  else (0, codeW xs n)
end Go.Proofs.Ytnbodmbagendnaa
namespace Go.Proofs.Ytnbodmbagendnaa
open Go.ChangeShapes Go.WideShapes Go.ChangeAt Go.RowKit Go.Deep Go.Joins
set_option linter.unusedVariables false
set_option maxRecDepth 100000
set_option linter.unusedSimpArgs false
theorem cmpI_neg {x y : Int} : cmpI x y < 0 ↔ x < y := by
  unfold cmpI
  split
  · simp; omega
  · split
    · simp; omega
    · simp; omega
theorem cmpI_zero {x y : Int} : cmpI x y = 0 ↔ x = y := by
  unfold cmpI
  split
  · simp; omega
  · split
    · simp; omega
    · simp; omega
/-- angles that rise -/
def SortedA (xs : List Spot) : Prop := ∀ i j (hi : i < xs.length) (hj : j < xs.length), i < j → xs[i].angle < xs[j].angle
theorem sorted_step {xs : List Spot} (h : ∀ j (hj : j + 1 < xs.length), xs[j].angle < xs[j + 1].angle) : SortedA xs := by
  intro i j hi hj hij
  obtain ⟨m, rfl⟩ : ∃ m, j = i + 1 + m := ⟨j - (i + 1), by omega⟩
  clear hij
  induction m with
  | zero => exact h i hj
  | succ m ih => exact Int.lt_trans (ih (by omega)) (h (i + 1 + m) hj)
theorem validSpotS_sorted {xs : List Spot} (h : validSpotS xs = true) : SortedA xs := by
  refine sorted_step fun j hj => ?_
  unfold validSpotS at h
  rw [Bool.and_eq_true] at h
  have h1 := allK_true h.1 (j + 1) hj
  unfold stepB at h1
  simp only [List.getElem?_eq_getElem hj, List.getElem?_eq_getElem (show j < xs.length by omega), Bool.and_eq_true] at h1
  simpa [ltKSpot] using h1.2
theorem found_lt {xs : List Spot} {s : Spot} {k : Nat} (hs : SortedA xs) (hf : Found (cmpSpot xs s) xs.length k) : k ≤ xs.length ∧ (∀ i (h : i < xs.length), i < k → xs[i].angle < s.angle) ∧ (∀ i (h : i < xs.length), k ≤ i → s.angle ≤ xs[i].angle) := by
  obtain ⟨h0, hp⟩ := hf
  have hF : Falls (cmpSpot xs s) xs.length := fun a b hab hb hc => by
    rw [cmpSpot_at hb] at hc
    rw [cmpSpot_at (show a < xs.length by omega)]
    simp only [cmpI_neg] at hc ⊢
    rcases Nat.lt_or_eq_of_le hab with h1 | h1
    · exact Int.lt_trans (hs a b (by omega) hb h1) hc
    · subst h1; exact hc
  obtain ⟨h1, h2⟩ := hp hF
  refine ⟨h0, fun i h hi => ?_, fun i h hi => ?_⟩
  · have := h1 i hi
    rw [cmpSpot_at h] at this
    exact cmpI_neg.1 this
  · have := h2 i hi h
    rw [cmpSpot_at h] at this
    have h3 : ¬ (cmpI xs[i].angle s.angle < 0) := by show ¬ _ ; simp only at this; omega
    rw [cmpI_neg] at h3
    omega
theorem run_pre {s : Spot} {xs : List Spot} {k : Nat} (hk : k ≤ xs.length) (h : ∀ i (hi : i < xs.length), i < k → xs[i].angle < s.angle) : ∀ j, j ≤ k → runA s xs j = some (xs.take j, false)
  | 0, _ => rfl
  | j + 1, hj => by
    rw [runA_succ (by omega) (run_pre hk h j (by omega))]
    have h1 := h j (by omega) (by omega)
    unfold stepA
    have e1 : decide (s.angle < xs[j].angle) = false := decide_eq_false (by omega)
    have e2 : ¬ xs[j].angle = s.angle := by omega
    simp only [e1, Bool.and_false, Bool.false_eq_true, if_false, if_neg e2, Bool.or_false]
    rw [List.take_append_getElem]
theorem run_post {s : Spot} {xs : List Spot} {j0 : Nat} {o : List Spot} (hr : runA s xs j0 = some (o, true)) (h : ∀ i (hi : i < xs.length), j0 ≤ i → xs[i].angle ≠ s.angle) : ∀ m, j0 + m ≤ xs.length → runA s xs (j0 + m) = some (o ++ (xs.drop j0).take m, true)
  | 0, _ => by simpa using hr
  | m + 1, hm => by
    rw [← Nat.add_assoc, runA_succ (by omega) (run_post hr h m (by omega))]
    have h1 := h (j0 + m) (by omega) (by omega)
    unfold stepA
    simp only [Bool.not_true, Bool.false_and, Bool.false_eq_true, if_false, if_neg h1, Bool.true_or]
    rw [List.append_assoc]
    congr 3
    rw [← List.take_append_getElem (show m < (xs.drop j0).length by rw [List.length_drop]; omega), List.getElem_drop]
theorem run_all {s : Spot} {xs : List Spot} {j0 : Nat} {o : List Spot} (hj : j0 ≤ xs.length) (hr : runA s xs j0 = some (o, true)) (h : ∀ i (hi : i < xs.length), j0 ≤ i → xs[i].angle ≠ s.angle) : runA s xs xs.length = some (o ++ xs.drop j0, true) := by
  have := run_post hr h (xs.length - j0) (by omega)
  rw [show j0 + (xs.length - j0) = xs.length from by omega, List.take_of_length_le (by rw [List.length_drop]; exact Nat.le_refl _)] at this
  exact this
/-- no spot has this angle -/
theorem addL_miss {s : Spot} {xs : List Spot} {k : Nat} (hk : k ≤ xs.length) (h1 : ∀ i (hi : i < xs.length), i < k → xs[i].angle < s.angle) (h2 : ∀ i (hi : i < xs.length), k ≤ i → s.angle < xs[i].angle) :
    addL s xs = if 16 ≤ xs.length then ([], 5) else (xs.take k ++ (s :: xs.drop k), 0) := by
  have hp := run_pre hk h1 k (Nat.le_refl _)
  rcases Nat.lt_or_eq_of_le hk with hlt | heq
  · have hs : runA s xs (k + 1) = some (xs.take k ++ [s] ++ [xs[k]], true) := by
      rw [runA_succ hlt hp]
      have := h2 k hlt (Nat.le_refl _)
      unfold stepA
      have e1 : decide (s.angle < xs[k].angle) = true := decide_eq_true this
      have e2 : ¬ xs[k].angle = s.angle := by omega
      simp only [e1, Bool.not_false, Bool.true_and, if_true, if_neg e2, Bool.false_or]
    have ha := run_all (by omega) hs fun i hi hki => by have := h2 i hi (by omega); omega
    have e : xs.take k ++ [s] ++ [xs[k]] ++ xs.drop (k + 1) = xs.take k ++ (s :: xs.drop k) := by
      rw [List.drop_eq_getElem_cons hlt]
      simp
    rw [e] at ha
    unfold addL
    rw [ha]
    unfold endA
    have hl : (xs.take k ++ (s :: xs.drop k)).length = xs.length + 1 := by simp; omega
    simp only [if_true, hl]
    by_cases h16 : 16 ≤ xs.length
    · rw [if_pos (by omega), if_pos h16]
    · rw [if_neg (by omega), if_neg h16]
  · subst heq
    unfold addL
    rw [hp]
    unfold endA
    simp only [List.take_length, List.drop_length, Bool.false_eq_true, if_false, List.length_append, List.length_cons, List.length_nil]
    by_cases h16 : 16 ≤ xs.length
    · rw [if_pos (by omega), if_pos h16]
    · rw [if_neg (by omega), if_neg h16]
/-- spot k has this angle -/
theorem addL_hit {s : Spot} {xs : List Spot} {k : Nat} (hs : SortedA xs) (hl : xs.length ≤ 16) (hk : k < xs.length) (he : xs[k].angle = s.angle) :
    addL s xs = if xs[k].weight + s.weight = 0 then (xs.take k ++ xs.drop (k + 1), 0) else if weightB (xs[k].weight + s.weight) = true then (xs.set k ⟨xs[k].angle, xs[k].weight + s.weight⟩, 0) else ([], 6) := by
  have hp := run_pre (s := s) (Nat.le_of_lt hk) (fun i hi hik => by have := hs i k hi hk hik; omega) k (Nat.le_refl _)
  have hq : ∀ i (hi : i < xs.length), k + 1 ≤ i → xs[i].angle ≠ s.angle := fun i hi hik => by have := hs k i hk hi (by omega); omega
  have e1 : decide (s.angle < xs[k].angle) = false := decide_eq_false (by omega)
  have hstep := runA_succ hk hp
  unfold stepA at hstep
  simp only [e1, Bool.and_false, Bool.false_eq_true, if_false, if_pos he] at hstep
  by_cases hz : xs[k].weight + s.weight = 0
  · rw [if_pos hz] at hstep ⊢
    have ha := run_all (by omega) hstep hq
    unfold addL
    rw [ha]
    unfold endA
    have hl2 : (xs.take k ++ xs.drop (k + 1)).length ≤ 16 := by simp; omega
    simp only [if_true]
    rw [if_neg (by omega)]
  · rw [if_neg hz] at hstep ⊢
    by_cases hw : weightB (xs[k].weight + s.weight) = true
    · rw [if_pos hw] at hstep ⊢
      have ha := run_all (by omega) hstep hq
      have e : xs.take k ++ [⟨xs[k].angle, xs[k].weight + s.weight⟩] ++ xs.drop (k + 1) = xs.set k ⟨xs[k].angle, xs[k].weight + s.weight⟩ := by
        rw [List.set_eq_take_append_cons_drop, if_pos hk]
        simp
      rw [e] at ha
      unfold addL
      rw [ha]
      unfold endA
      simp only [if_true, List.length_set]
      rw [if_neg (by omega)]
    · rw [if_neg hw] at hstep ⊢
      exact addL_bad hk hstep
end Go.Proofs.Ytnbodmbagendnaa
namespace Go.Proofs.Ytnbodmbagendnaa
open Go.ChangeShapes Go.WideShapes Go.ChangeAt Go.RowKit Go.Deep Go.Joins
set_option linter.unusedVariables false
set_option maxRecDepth 100000
set_option linter.unusedSimpArgs false
theorem Spot_one (xs : List Spot) : ∀ u ∈ xs.flatMap Spot.put, u.oneCell' = true := by
  intro u hu
  obtain ⟨x, _, hx⟩ := List.mem_flatMap.1 hu
  simp [Spot.put] at hx
  rcases hx with rfl | rfl <;> rfl
theorem spot_one2 (a b : Int) : ∀ u ∈ [Value.int .i64 a, Value.int .i64 b], u.oneCell' = true := by
  intro u hu
  simp at hu
  rcases hu with rfl | rfl <;> rfl
theorem take_flat (xs : List Spot) : ∀ k, (xs.flatMap Spot.put).take (k * 2) = (xs.take k).flatMap Spot.put := by
  induction xs with
  | nil => intro k; simp
  | cons x xs ih =>
    intro k
    cases k with
    | zero => simp
    | succ k =>
      rw [show (k + 1) * 2 = k * 2 + 2 from by omega]
      show ((.int .i64 x.angle) :: (.int .i64 x.weight) :: xs.flatMap Spot.put).take (k * 2 + 2) = (x :: xs.take k).flatMap Spot.put
      rw [List.take_succ_cons, List.take_succ_cons, ih k]
      rfl
theorem drop_flat (xs : List Spot) : ∀ k, (xs.flatMap Spot.put).drop (k * 2) = (xs.drop k).flatMap Spot.put := by
  induction xs with
  | nil => intro k; simp
  | cons x xs ih =>
    intro k
    cases k with
    | zero => simp
    | succ k =>
      rw [show (k + 1) * 2 = k * 2 + 2 from by omega]
      show ((.int .i64 x.angle) :: (.int .i64 x.weight) :: xs.flatMap Spot.put).drop (k * 2 + 2) = (xs.drop k).flatMap Spot.put
      rw [List.drop_succ_cons, List.drop_succ_cons, ih k]
theorem ins_flat (xs : List Spot) (s : Spot) (k : Nat) : (xs.flatMap Spot.put).take (k * 2) ++ ([.int .i64 s.angle, .int .i64 s.weight] ++ (xs.flatMap Spot.put).drop (k * 2)) = (xs.take k ++ (s :: xs.drop k)).flatMap Spot.put := by
  rw [take_flat, drop_flat, List.flatMap_append]
  rfl
theorem del_flat (xs : List Spot) (k : Nat) : (xs.flatMap Spot.put).take (k * 2) ++ (xs.flatMap Spot.put).drop ((k + 1) * 2) = (xs.take k ++ xs.drop (k + 1)).flatMap Spot.put := by
  rw [take_flat, drop_flat, List.flatMap_append]
theorem set_flat1 (xs : List Spot) (n : Int) : ∀ k (h : k < xs.length), (xs.flatMap Spot.put).set (k * 2 + 1) (.int .i64 n) = (xs.set k ⟨xs[k].angle, n⟩).flatMap Spot.put := by
  induction xs with
  | nil => intro k h; simp at h
  | cons x xs ih =>
    intro k h
    cases k with
    | zero => rfl
    | succ k =>
      rw [show (k + 1) * 2 + 1 = k * 2 + 1 + 2 from by omega]
      show ((.int .i64 x.angle) :: (.int .i64 x.weight) :: (xs.flatMap Spot.put).set (k * 2 + 1) (.int .i64 n)) = _
      rw [ih k (by simpa using h)]
      rfl
theorem set_flat0 (xs : List Spot) (n : Int) : ∀ k (h : k < xs.length), (xs.flatMap Spot.put).set (k * 2) (.int .i64 n) = (xs.set k ⟨n, xs[k].weight⟩).flatMap Spot.put := by
  induction xs with
  | nil => intro k h; simp at h
  | cons x xs ih =>
    intro k h
    cases k with
    | zero => rfl
    | succ k =>
      rw [show (k + 1) * 2 = k * 2 + 2 from by omega]
      show ((.int .i64 x.angle) :: (.int .i64 x.weight) :: (xs.flatMap Spot.put).set (k * 2) (.int .i64 n)) = _
      rw [ih k (by simpa using h)]
      rfl
/-- a store into a slice of one's own -/
theorem own_setI {w : World} {base g cap n s : Nat} {E : TypeId} {L : List Value} (h : w.ownsRow base E s (.slice (some ⟨g, 0, none⟩) n cap) n L) (i : Nat) (hi : i < n * s) (u : Value) : (w.setCell ⟨g, i, none⟩ u).ownsRow base E s (.slice (some ⟨g, 0, none⟩) n cap) n (L.set i u) := by
  obtain ⟨h1, h2⟩ := h
  rcases h2 with ⟨e, _⟩ | ⟨g', cap', cur, e, hb, hg, hn, hm, hs, ht⟩
  · cases e
  · injection e with q1 q2 q3
    injection q1 with q4
    injection q4 with q5
    subst q5; subst q3
    have ho : Own w g E cur.toList := by unfold Own; simpa using hg
    refine row_of_own (ho.set i u) hb hn hm (by simpa using hs) (by rw [List.length_set, h1]) ?_
    rw [List.take_set, ht]
theorem own_base {w : World} {base base' n s : Nat} {E : TypeId} {v : Value} {L : List Value} (h : w.ownsRow base E s v n L) (hb : base' ≤ base) : w.ownsRow base' E s v n L := by
  obtain ⟨h1, h2⟩ := h
  refine ⟨h1, ?_⟩
  rcases h2 with h2 | ⟨g, cap, cur, e, hb0, rest⟩
  · exact .inl h2
  · exact .inr ⟨g, cap, cur, e, Nat.le_trans hb hb0, rest⟩
/-- its cells -/
theorem own_cellI {w : World} {base g cap n s : Nat} {E : TypeId} {L : List Value} (h : w.ownsRow base E s (.slice (some ⟨g, 0, none⟩) n cap) n L) (i : Nat) (hi : i < n * s) : w.cell? ⟨g, i, none⟩ = L[i]? ∧ w.frozen? ⟨g, i, none⟩ = false ∧ g < w.heap.size ∧ base ≤ g := by
  obtain ⟨h1, h2⟩ := h
  rcases h2 with ⟨e, _⟩ | ⟨g', cap', cur, e, hb, hg, hn, hm, hs, ht⟩
  · cases e
  · injection e with q1 q2 q3
    injection q1 with q4
    injection q4 with q5
    subst q5; subst q3
    have ho : Own w g E cur.toList := by unfold Own; simpa using hg
    refine ⟨?_, ho.free i, ho.lt, hb⟩
    rw [ho.cell, ← ht, List.getElem?_take_of_lt hi]
end Go.Proofs.Ytnbodmbagendnaa
namespace Go.Proofs.Ytnbodmbagendnaa
open Go.ChangeShapes Go.WideShapes Go.ChangeAt Go.RowKit Go.Deep Go.Joins
set_option linter.unusedVariables false
set_option maxRecDepth 100000
set_option linter.unusedSimpArgs false
/-- each melt's ingots lie in a block of their own; gs are these blocks -/
def Kids (base : Nat) (w : World) (xs : List Melt) (gs : List Nat) : Prop :=
  gs.length = xs.length ∧ gs.Nodup ∧ ∀ i (h : i < xs.length) (h' : i < gs.length), ∃ V c, xs[i].list = .slice (some ⟨gs[i], 0, none⟩) xs[i].ingots.length c ∧ xs[i].ingots.length ≤ c ∧ c ≤ maxLen ∧ base ≤ gs[i] ∧ Own w gs[i] 9 (xs[i].ingots.flatMap putStr ++ V)
theorem Kids.nil (base : Nat) (w : World) : Kids base w [] [] := ⟨rfl, List.nodup_nil, fun i h => by simp at h⟩
theorem Kids.kept {base : Nat} {w w' : World} {xs : List Melt} {gs : List Nat} (h : Kids base w xs gs) (k : ∀ b L, Own w b 9 L → Own w' b 9 L) : Kids base w' xs gs := by
  obtain ⟨h1, h2, h3⟩ := h
  refine ⟨h1, h2, fun i hi hi' => ?_⟩
  obtain ⟨V, c, e1, e2, e3, e4, e5⟩ := h3 i hi hi'
  exact ⟨V, c, e1, e2, e3, e4, k _ _ e5⟩
theorem Kids.below {base : Nat} {w w' : World} {xs : List Melt} {gs : List Nat} (h : Kids base w xs gs) (b : Below w.heap.size w w') : Kids base w' xs gs := h.kept fun _ _ o => o.below b o.lt
theorem Kids.lt {base : Nat} {w : World} {xs : List Melt} {gs : List Nat} (h : Kids base w xs gs) : ∀ g ∈ gs, g < w.heap.size := by
  intro g hg
  obtain ⟨i, hi, rfl⟩ := List.mem_iff_getElem.1 hg
  obtain ⟨V, c, _, _, _, _, e5⟩ := h.2.2 i (by have := h.1; omega) hi
  exact e5.lt
theorem Kids.snoc {base : Nat} {w : World} {xs : List Melt} {gs : List Nat} (h : Kids base w xs gs) {x : Melt} {g c : Nat} {V : List Value} (hg : ∀ g' ∈ gs, g' ≠ g) (e1 : x.list = .slice (some ⟨g, 0, none⟩) x.ingots.length c) (e2 : x.ingots.length ≤ c) (e3 : c ≤ maxLen) (e4 : base ≤ g)
    (e5 : Own w g 9 (x.ingots.flatMap putStr ++ V)) : Kids base w (xs ++ [x]) (gs ++ [g]) := by
  obtain ⟨h1, h2, h3⟩ := h
  refine ⟨by simp [h1], ?_, fun i hi hi' => ?_⟩
  · rw [List.nodup_append]
    refine ⟨h2, by simp, fun a ha b hb => ?_⟩
    obtain rfl : b = g := by simpa using hb
    exact hg a ha
  · rcases Nat.lt_or_ge i xs.length with q | q
    · have a1 : (xs ++ [x])[i] = xs[i] := List.getElem_append_left q
      have a2 : (gs ++ [g])[i] = gs[i]'(by omega) := List.getElem_append_left (by omega)
      rw [a1, a2]
      exact h3 i q (by omega)
    · have : i = xs.length := by simp at hi; omega
      have a1 : (xs ++ [x])[i] = x := by simp [this]
      have a2 : (gs ++ [g])[i] = g := by simp [this, ← h1]
      rw [a1, a2]
      exact ⟨V, c, e1, e2, e3, e4, e5⟩
theorem Kids.base {base base' : Nat} {w : World} {xs : List Melt} {gs : List Nat} (h : Kids base w xs gs) (hb : base' ≤ base) : Kids base' w xs gs := by
  obtain ⟨h1, h2, h3⟩ := h
  refine ⟨h1, h2, fun i hi hi' => ?_⟩
  obtain ⟨V, c, e1, e2, e3, e4, e5⟩ := h3 i hi hi'
  exact ⟨V, c, e1, e2, e3, by omega, e5⟩
theorem own_neT {w : World} {a b : Nat} {E E' : TypeId} {L L' : List Value} (h : Own w a E L) (h' : Own w b E' L') (hne : E ≠ E') : a ≠ b := by
  rintro rfl
  unfold Own at h h'
  rw [h] at h'
  injection h' with h'
  injection h' with _ q _
  exact hne q
theorem eraseIdx_get {α : Type} {l : List α} {k i : Nat} (h : i < (l.eraseIdx k).length) : ∃ h2 : (if i < k then i else i + 1) < l.length, (l.eraseIdx k)[i] = l[if i < k then i else i + 1] := by
  have := List.getElem_eraseIdx (l := l) (i := k) h
  by_cases hk : i < k
  · simp only [hk, if_true] at this ⊢
    refine ⟨?_, by rw [this]; simp⟩
    rw [List.length_eraseIdx] at h
    split at h <;> omega
  · simp only [hk, if_false] at this ⊢
    refine ⟨?_, by rw [this]; simp⟩
    rw [List.length_eraseIdx] at h
    split at h <;> omega
theorem Kids.erase {base : Nat} {w : World} {xs : List Melt} {gs : List Nat} (h : Kids base w xs gs) (k : Nat) : Kids base w (xs.eraseIdx k) (gs.eraseIdx k) := by
  obtain ⟨h1, h2, h3⟩ := h
  refine ⟨by rw [List.length_eraseIdx, List.length_eraseIdx, h1], h2.sublist (List.eraseIdx_sublist gs k), fun i hi hi' => ?_⟩
  obtain ⟨q1, e1⟩ := eraseIdx_get hi
  obtain ⟨q2, e2⟩ := eraseIdx_get hi'
  rw [e1, e2]
  exact h3 _ q1 q2
theorem insertIdx_get {α : Type} {l : List α} {a : α} {k i : Nat} (hk : k ≤ l.length) (h : i < (l.take k ++ a :: l.drop k).length) : (i < k ∧ ∃ h2 : i < l.length, (l.take k ++ a :: l.drop k)[i] = l[i]) ∨ (i = k ∧ (l.take k ++ a :: l.drop k)[i] = a) ∨ (k < i ∧ ∃ h2 : i - 1 < l.length, (l.take k ++ a :: l.drop k)[i] = l[i - 1]) := by
  have hl : (l.take k).length = k := by rw [List.length_take]; omega
  rcases Nat.lt_trichotomy i k with q | q | q
  · refine .inl ⟨q, by omega, ?_⟩
    rw [List.getElem_append_left (by omega), List.getElem_take]
  · refine .inr (.inl ⟨q, ?_⟩)
    rw [List.getElem_append_right (by omega)]
    simp [hl, q]
  · have hh : i - 1 < l.length := by
      simp only [List.length_append, List.length_cons, List.length_drop, hl] at h; omega
    refine .inr (.inr ⟨q, hh, ?_⟩)
    rw [List.getElem_append_right (by omega)]
    obtain ⟨m, hm⟩ : ∃ m, i - (l.take k).length = m + 1 := ⟨i - k - 1, by omega⟩
    simp only [hm, List.getElem_cons_succ, List.getElem_drop]
    congr 1
    omega
theorem Kids.insert {base : Nat} {w : World} {xs : List Melt} {gs : List Nat} (h : Kids base w xs gs) {k : Nat} (hk : k ≤ xs.length) {x : Melt} {g c : Nat} {V : List Value} (hg : ∀ g' ∈ gs, g' ≠ g) (e1 : x.list = .slice (some ⟨g, 0, none⟩) x.ingots.length c) (e2 : x.ingots.length ≤ c) (e3 : c ≤ maxLen) (e4 : base ≤ g)
    (e5 : Own w g 9 (x.ingots.flatMap putStr ++ V)) : Kids base w (xs.take k ++ x :: xs.drop k) (gs.take k ++ g :: gs.drop k) := by
  obtain ⟨h1, h2, h3⟩ := h
  refine ⟨by simp [h1], ?_, fun i hi hi' => ?_⟩
  · have hp : (g :: gs).Nodup := List.nodup_cons.2 ⟨fun q => hg g q rfl, h2⟩
    have e : (gs.take k ++ g :: gs.drop k).Perm (g :: gs) := by
      refine List.perm_middle.trans ?_
      rw [List.take_append_drop]
    exact e.nodup_iff.2 hp
  · rcases insertIdx_get hk hi with ⟨q, z, ex⟩ | ⟨q, ex⟩ | ⟨q, z, ex⟩
    · rcases insertIdx_get (by omega) hi' with ⟨q', z', eg⟩ | ⟨q', eg⟩ | ⟨q', z', eg⟩
      · rw [ex, eg]; exact h3 i z z'
      · omega
      · omega
    · rcases insertIdx_get (by omega) hi' with ⟨q', z', eg⟩ | ⟨q', eg⟩ | ⟨q', z', eg⟩
      · omega
      · rw [ex, eg]; exact ⟨V, c, e1, e2, e3, e4, e5⟩
      · omega
    · rcases insertIdx_get (by omega) hi' with ⟨q', z', eg⟩ | ⟨q', eg⟩ | ⟨q', z', eg⟩
      · omega
      · omega
      · rw [ex, eg]; exact h3 (i - 1) z z'

/-- a result: melts whose list lies in lo .. hi, and their ingots' lists too, each in a block of its own -/
def Nest (lo hi : Nat) (w : World) (v : Value) (xs : List Melt) : Prop :=
  Held lo hi w 63 3 v xs.length (xs.flatMap Melt.put) ∧ ∃ gs, Kids lo w xs gs ∧ ∀ g ∈ gs, g < hi
theorem Nest.form {lo hi : Nat} {w : World} {v : Value} {xs : List Melt} (h : Nest lo hi w v xs) : ∃ ao cap, v = .slice ao xs.length cap := h.1.form
theorem Nest.turn {lo hi lo' hi' : Nat} {w w' : World} {v : Value} {xs : List Melt} (h : Nest lo hi w v xs) (t : Turn lo' hi' w w') (hd : hi ≤ lo' ∨ hi' ≤ lo) : Nest lo hi w' v xs := by
  obtain ⟨h1, gs, ⟨k1, k2, k3⟩, h3⟩ := h
  refine ⟨h1.turn t hd, gs, ⟨k1, k2, fun i hi1 hi2 => ?_⟩, h3⟩
  obtain ⟨V, c, e1, e2, e3, e4, e5⟩ := k3 i hi1 hi2
  have := h3 gs[i] (List.getElem_mem hi2)
  exact ⟨V, c, e1, e2, e3, e4, e5.turn t (by omega)⟩
theorem Nest.below {lo hi : Nat} {w w' : World} {v : Value} {xs : List Melt} (h : Nest lo hi w v xs) (b : Below w.heap.size w w') : Nest lo hi w' v xs := h.turn (Turn.of_below (lo := hi) (hi := hi) b) (.inl (Nat.le_refl _))
theorem Nest.of {base : Nat} {w : World} {v : Value} {xs : List Melt} {gs : List Nat} (h : w.ownsRow base 63 3 v xs.length (xs.flatMap Melt.put)) (k : Kids base w xs gs) : Nest base w.heap.size w v xs := ⟨Held.of_row h, gs, k, k.lt⟩
/-- what a list of one's own reads as -/
theorem Nest.rd {lo hi : Nat} {w : World} {v : Value} {xs : List Melt} (h : Nest lo hi w v xs) : Rd w.heap.size w v 3 xs.length (xs.flatMap Melt.put) := h.1.rd
theorem Kids.rd {base : Nat} {w : World} {xs : List Melt} {gs : List Nat} (h : Kids base w xs gs) : ∀ x ∈ xs, Rd w.heap.size w x.list 1 x.ingots.length (x.ingots.flatMap putStr) := by
  intro x hx
  obtain ⟨i, hi, rfl⟩ := List.mem_iff_getElem.1 hx
  obtain ⟨V, c, e1, e2, e3, e4, e5⟩ := h.2.2 i hi (by have := h.1; omega)
  rw [e1]
  refine ⟨putStr_len _, _, _, rfl, e2, e3, (fun q => by cases q), fun hn => ⟨_, 0, rfl, e5.lt, fun j hj => ?_⟩⟩
  rw [Nat.zero_add, e5.cell, List.getElem?_append_left (by rw [putStr_len]; exact hj)]
theorem Nest.kids {lo hi : Nat} {w : World} {v : Value} {xs : List Melt} (h : Nest lo hi w v xs) : ∀ x ∈ xs, Rd w.heap.size w x.list 1 x.ingots.length (x.ingots.flatMap putStr) := by
  obtain ⟨_, gs, k, _⟩ := h
  exact k.rd
/-- two such results that say the same are equal -/
theorem eqMeltN (w : World) (lo hi lo2 hi2 : Nat) (v1 v2 : Value) (xs ys : List Melt) (h1 : Nest lo hi w v1 xs) (h2 : Nest lo2 hi2 w v2 ys) (hs : xs.map Melt.said = ys.map Melt.said) (hn : xs.length ≤ 1048576) (hi : ∀ x ∈ xs, x.ingots.length ≤ 1048576) :
    Calls Try.prog 31 #[v1, v2] w fun e w' => e = .returned (.bool true) ∧ Below w.heap.size w w' :=
  eqMeltS w v1 v2 xs ys h1.rd h2.rd hn hs (fun x hx => ⟨h1.kids x hx, hi x hx⟩) (fun y hy => h2.kids y hy)
theorem Nest.rdm {lo hi : Nat} {w : World} {v : Value} {xs : List Melt} (h : Nest lo hi w v xs) : RdM w.heap.size w v xs := by
  obtain ⟨hl, ao, cap, e, hc, hm, hnil, hs⟩ := h.rd
  refine ⟨ao, cap, e, hc, hm, fun hp => ?_⟩
  obtain ⟨b, off, e2, hb, hcell⟩ := hs hp
  have hw : xs.length ≤ 1048576 ∨ True := .inr trivial
  refine ⟨b, off, e2, hb, fun k hk => ⟨xs[k].list, ?_, ?_, ?_, h.kids xs[k] (List.getElem_mem hk)⟩⟩
  · have := hcell (k * 3) (by omega); rw [this]; exact Melt_get0 xs k hk
  · have := hcell (k * 3 + 1) (by omega); rw [Nat.add_assoc, this]; exact Melt_get1 xs k hk
  · have := hcell (k * 3 + 2) (by omega); rw [Nat.add_assoc, this]; exact Melt_get2 xs k hk
end Go.Proofs.Ytnbodmbagendnaa
