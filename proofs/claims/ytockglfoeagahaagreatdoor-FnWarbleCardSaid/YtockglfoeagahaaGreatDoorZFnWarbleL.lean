/- Contracts and plain facts, joined: InsK. -/
import Derived.Test.YtockglfoeagahaaGreatDoorRows
import Derived.Test.YtockglfoeagahaaGreatDoorZFnWarbleB
import Derived.Test.YtockglfoeagahaaGreatDoorZFnWarbleC
import Derived.Test.YtockglfoeagahaaGreatDoorZFnWarbleE
import Derived.Test.YtockglfoeagahaaGreatDoorZFnWarbleF
import Derived.Laws.CopyOwn
import Derived.Lib.AppendZerosOnto
import Derived.Lib.AppendZeros
import Derived.Lib.Overlaps
import Derived.Laws.Externs
import Derived.Shelf.Spec.SlicesInsertGrow
namespace Go.Proofs.YtockglfoeagahaaGreatDoor
open Go.ChangeShapes Go.WideShapes Go.ChangeAt Go.RowKit Go.Deep Go.Joins
set_option linter.unusedVariables false
set_option maxRecDepth 100000
set_option linter.unusedSimpArgs false
/-- all blocks but a slice's own are as they were -/
def KeptO (w : World) (r : Value) (w' : World) : Prop := ∀ b, b < w.heap.size → (∀ g', r.ownBlock = some g' → g' ≠ b) → w'.heap[b]? = w.heap[b]?
theorem KeptO.grown {w w' : World} {r : Value} (hg : w.grownBy w' r.ownBlock) : KeptO w r w' := fun b hb hne => hg.block b hb (fun e => hne b e.symm rfl)
theorem KeptO.own {w w' : World} {r : Value} (h : KeptO w r w') {b : Nat} {E : TypeId} {L : List Value} (ho : Own w b E L) (hne : ∀ g', r.ownBlock = some g' → g' ≠ b) : Own w' b E L := (h b ho.lt hne).trans ho
theorem run_copyN {P : Program} (w : World) (dT sT ty elem : TypeId) (g o dLen dCap : Nat) (a : Addr) (sLen sCap : Nat) (cur : Array Value) (t : TypeId) (cs : List Value) (sz k : Nat)
    (hu : P.underlying dT = some (.slice elem)) (hs : (P.info? elem).map (·.size) = some sz)
    (hg : w.heap[g]? = some (.cells cur t (0, 0))) (hk : k = Nat.min sLen dLen) (hn : cs.length = k * sz)
    (hsrc : ∀ j v, cs[j]? = some v → w.cell? (a.add j) = some v) (hfit : o + cs.length ≤ cur.size) (h1 : ∀ v ∈ cs, v.oneCell' = true) :
    (Builtin.copy_ #[dT, sT] ty #[.slice (some ⟨g, o, none⟩) dLen dCap, .slice (some a) sLen sCap]).run P w =
      .ok (goInt k) (w.setRow g (cur.toList.take o ++ cs ++ cur.toList.drop (o + cs.length)).toArray) := by
  have hl := run_loadCells_list (P := P) w a cs hsrc
  have hst := run_storeCells_at P g o t cs 0 cur w hg (by simpa using hfit) h1
  cases hq : P.info? elem with
  | none => simp [hq] at hs
  | some i =>
    have hi : i.size = sz := by simpa [hq] using hs
    rw [hn] at hl
    simp [Builtin.copy_, run_underlying hu, Builtin.lenOf, Builtin.firstCells, sizeOf, typeInfo, hq, hi, ← hk, hl, hst]
theorem wp_copyN {P : Program} {w : World} {o : Oper} {a : Act} {K : Act → World → Prop} {Q : Exit → Act → World → Prop} (d s : Operand) (T E : TypeId)
    (ho : o.op = .call { callee := .builtin .copy, args := #[d, s], argTypes := #[T, T] }) (sz : Nat) (hu : P.underlying T = some (.slice E)) (hsz : (P.info? E).map (·.size) = some sz)
    (g off dLen dCap : Nat) (b so sLen sCap : Nat) (hd : a.eval d = .slice (some ⟨g, off, none⟩) dLen dCap) (hs : a.eval s = .slice (some ⟨b, so, none⟩) sLen sCap)
    (cur : List Value) (hg : Own w g E cur) (k : Nat) (hk : k = Nat.min sLen dLen) (cs : List Value) (hn : cs.length = k * sz)
    (hsrc : ∀ j v, cs[j]? = some v → w.cell? ⟨b, so + j, none⟩ = some v) (hfit : off + cs.length ≤ cur.length) (h1 : ∀ v ∈ cs, v.oneCell' = true) (B : Nat) (w0 : World) (hb : Below B w0 w) (hBg : B ≤ g)
    (h : ∀ w', Hid (Own w' g E (splice cur off cs)) → Hid (Below B w0 w') → Hid (∀ b, b ≠ g → w'.heap[b]? = w.heap[b]?) → K (a.put o.dst (goInt k)) w') :
    Oper.wp P o a w K Q := by
  have hrun := run_copyN (P := P) w T T o.type E g off dLen dCap ⟨b, so, none⟩ sLen sCap cur.toArray E cs sz k hu hsz hg hk hn (fun j v hj => by rw [Addr.add_lit]; exact hsrc j v hj) (by simpa using hfit) h1
  unfold Oper.wp
  simp [execOp, ho, resolve, invoke, builtin, hd, hs, hrun, Result.andThen]
  refine h _ (Lib.hid ?_) (Lib.hid (below_setRow hb hBg _)) (Lib.hid (fun b hne => setRow_other w g b _ hne))
  have := setRow_heap w g cur.toArray (cur.toArray.toList.take off ++ cs ++ cur.toArray.toList.drop (off + cs.length)).toArray E (0, 0) hg
  unfold Own splice
  simpa using this
theorem copyN {P : Program} {w : World} {ops : Array Oper} {rest : List Oper} {o : Oper} {a : Act} {Q : Exit → Act → World → Prop} (hgd : o.guard = none) (d s : Operand) (T E : TypeId)
    (ho : o.op = .call { callee := .builtin .copy, args := #[d, s], argTypes := #[T, T] }) (sz : Nat) (hu : P.underlying T = some (.slice E)) (hsz : (P.info? E).map (·.size) = some sz)
    (g off dLen dCap : Nat) (b so sLen sCap : Nat) (hd : a.eval d = .slice (some ⟨g, off, none⟩) dLen dCap) (hs : a.eval s = .slice (some ⟨b, so, none⟩) sLen sCap)
    (cur : List Value) (hg : Own w g E cur) (k : Nat) (hk : k = Nat.min sLen dLen) (cs : List Value) (hn : cs.length = k * sz)
    (hsrc : ∀ j v, cs[j]? = some v → w.cell? ⟨b, so + j, none⟩ = some v) (hfit : off + cs.length ≤ cur.length) (h1 : ∀ v ∈ cs, v.oneCell' = true) (B : Nat) (w0 : World) (hb : Below B w0 w) (hBg : B ≤ g)
    (h : ∀ w', Hid (Own w' g E (splice cur off cs)) → Hid (Below B w0 w') → Hid (∀ b, b ≠ g → w'.heap[b]? = w.heap[b]?) → wpList P ops Q rest (a.put o.dst (goInt k)) w') :
    wpList P ops Q (o :: rest) a w :=
  wpList_plain hgd fun _ hK => wp_copyN d s T E ho sz hu hsz g off dLen dCap b so sLen sCap hd hs cur hg k hk cs hn hsrc hfit h1 B w0 hb hBg fun w' h2 h3 h4 => hK _ _ (h w' h2 h3 h4)
theorem scopyN {P : Program} {w : World} {ops : Array Oper} {o : Oper} {a : Act} {K : Act → World → Prop} {Q : Exit → Act → World → Prop} {X : Prop} (hgd : o.guard = none) (d s : Operand) (T E : TypeId)
    (ho : o.op = .call { callee := .builtin .copy, args := #[d, s], argTypes := #[T, T] }) (sz : Nat) (hu : P.underlying T = some (.slice E)) (hsz : (P.info? E).map (·.size) = some sz)
    (g off dLen dCap : Nat) (b so sLen sCap : Nat) (hd : a.eval d = .slice (some ⟨g, off, none⟩) dLen dCap) (hs : a.eval s = .slice (some ⟨b, so, none⟩) sLen sCap)
    (cur : List Value) (hg : Own w g E cur) (k : Nat) (hk : k = Nat.min sLen dLen) (cs : List Value) (hn : cs.length = k * sz)
    (hsrc : ∀ j v, cs[j]? = some v → w.cell? ⟨b, so + j, none⟩ = some v) (hfit : off + cs.length ≤ cur.length) (h1 : ∀ v ∈ cs, v.oneCell' = true) (B : Nat) (w0 : World) (hb : Below B w0 w) (hBg : B ≤ g)
    (h : ∀ w', Hid (Own w' g E (splice cur off cs)) → Hid (Below B w0 w') → Hid (∀ b, b ≠ g → w'.heap[b]? = w.heap[b]?) → K (a.put o.dst (goInt k)) w') :
    if Region.wanted o (yielded ops a.tmps) = true then Oper.wp P o a w K Q else X := by
  have hw : Region.wanted o (yielded ops a.tmps) = true := by simp [Region.wanted, hgd]
  rw [if_pos hw]
  exact wp_copyN d s T E ho sz hu hsz g off dLen dCap b so sLen sCap hd hs cur hg k hk cs hn hsrc hfit h1 B w0 hb hBg h

theorem appzN {P : Program} {w : World} {ops : Array Oper} {rest : List Oper} {o : Oper} {a : Act} {Q : Exit → Act → World → Prop} (hgd : o.guard = none) (s x : Operand) (T tn E : TypeId)
    (ho : o.op = .call { callee := .builtin .append, args := #[s, x], argTypes := #[T, tn] }) (i0 : TypeInfo) (z : Value) (sz bytes : Nat) (hT : P.underlying T = some (.slice E)) (htn : P.underlying tn = some (.int .i64)) (hi : P.info? E = some i0) (hz : i0.zero = some z)
    (h1 : i0.size = sz) (h2 : i0.bytes = bytes) (hzs : z.cells.size = sz) (hsz : 0 < sz) (hby : bytes ≤ 64) (b i c k : Nat) (q : Int) (hs : a.eval s = .slice (some ⟨b, 0, none⟩) i c) (hx : a.eval x = .int .i64 q) (hq : q = (k : Int)) (hk : 0 < k) (hg : c < i + k) (hlim : i + k ≤ 2097152)
    (olds : List Value) (hol : olds.length = i * sz) (hcells : ∀ j v, olds[j]? = some v → w.cell? ⟨b, j, none⟩ = some v)
    (h : ∀ cap Z w', Own w' w.heap.size E (olds ++ Z) → (olds ++ Z).length = cap * sz → i + k ≤ cap → cap ≤ maxLen → Below w.heap.size w w' → w'.heap.size = w.heap.size + 1 → wpList P ops Q rest (a.put o.dst (.slice (some ⟨w.heap.size, 0, none⟩) (i + k) cap)) w') :
    wpList P ops Q (o :: rest) a w := by
  subst hq
  have hb : (i + k) * bytes ≤ 140737488355328 := by
    have := Nat.mul_le_mul hlim hby
    omega
  have hkb : k * bytes ≤ 281474976710656 := by
    have := Nat.mul_le_mul (show k ≤ 2097152 by omega) hby
    omega
  have hold : (Builtin.firstCells i0.size i (.slice (some ⟨b, 0, none⟩) i c)).run P w.drew = .ok olds.toArray w.drew := by
    rw [h1]
    exact run_firstCells_some w.drew sz i ⟨b, 0, none⟩ i c olds hol (fun j v hj => by
      rw [Addr.add_lit, Nat.zero_add]
      exact hcells j v hj)
  have hrun := fun ty => Lib.run_append_grow_zeros w T tn ty E i0 z .i64 .i64 hT htn hi hz (some ⟨b, 0, none⟩) i c olds hold k hk (by omega) hg (by omega) (by rw [h2]; exact hkb) (by rw [h2]; exact growslice_fits hg hb)
  have hge := grownCap_ge w (i + k) c E
  have hle := grownCap_le_maxLen w (i + k) c E (by unfold maxLen; omega)
  refine Lib.wpList_append_run w hgd s x T tn ho _ _ hs hx _ _ (hrun _) ?_
  generalize hG : grownCap w (i + k) c E = G at *
  refine h G ((Builtin.zeroCells z.cells k).toList ++ (Builtin.zeroCells z.cells (G - (i + k))).toList) _ ?_ ?_ hge hle ?_ ?_
  · have := Own.new w.drew E (olds ++ ((Builtin.zeroCells z.cells k).toList ++ (Builtin.zeroCells z.cells (G - (i + k))).toList))
    have e : (olds ++ ((Builtin.zeroCells z.cells k).toList ++ (Builtin.zeroCells z.cells (G - (i + k))).toList)).toArray = olds.toArray ++ Builtin.zeroCells z.cells k ++ Builtin.zeroCells z.cells (G - (i + k)) := by
      apply Array.toList_inj.1
      simp
    unfold Own at this ⊢
    rw [e] at this ⊢
    exact this
  · simp [Builtin.zeroCells, hol, hzs]
    rw [← Nat.add_mul, ← Nat.add_mul]
    congr 1; omega
  · exact ((Below.refl _ w).drew).alloc (Nat.le_refl _) _
  · simp
theorem splice_in (A B S vs : List Value) (h : vs.length ≤ S.length) : splice (splice (A ++ (B ++ S)) (A.length + vs.length) B) A.length vs = A ++ (vs ++ (B ++ S.drop vs.length)) := by
  unfold splice
  have e1 : (A ++ (B ++ S)).take (A.length + vs.length) = A ++ (B ++ S).take vs.length := by rw [List.take_length_add_append]
  have e2 : (A ++ (B ++ S)).drop (A.length + vs.length + B.length) = S.drop vs.length := by
    rw [show A.length + vs.length + B.length = A.length + (B.length + vs.length) from by omega, List.drop_length_add_append, List.drop_length_add_append]
  rw [e1, e2, List.append_assoc, List.take_left, List.drop_length_add_append]
  have e3 : ((B ++ S).take vs.length).length = vs.length := by simp; omega
  congr 2
  exact List.drop_left' e3
theorem splice_new (A B Z vs : List Value) (h : vs.length + B.length ≤ Z.length) : splice (splice (A ++ Z) A.length vs) (A.length + vs.length) B = A ++ (vs ++ (B ++ Z.drop (vs.length + B.length))) := by
  unfold splice
  rw [List.take_left, List.drop_length_add_append, List.take_length_add_append, List.take_left, List.append_assoc]
  congr 3
  rw [show A.length + vs.length + B.length = A.length + (vs.length + B.length) from by omega, List.drop_length_add_append, List.drop_length_add_append, List.drop_drop]
/-- a block known whole is a slice of one's own -/
theorem row_of_own {w : World} {base g cap n sz : Nat} {E : TypeId} {cur L : List Value} (h : Own w g E cur) (hb : base ≤ g) (hn : n ≤ cap) (hm : cap ≤ maxLen) (hs : cur.length = cap * sz) (hl : L.length = n * sz) (ht : cur.take (n * sz) = L) :
    w.ownsRow base E sz (.slice (some ⟨g, 0, none⟩) n cap) n L :=
  ⟨hl, .inr ⟨g, cap, cur.toArray, rfl, hb, h, hn, hm, by simpa using hs, by simpa using ht⟩⟩
theorem run_append_roomN {P : Program} (w : World) (t ty e : TypeId) (i : TypeInfo) (ht : P.underlying t = some (.slice e)) (hi : P.info? e = some i)
    (g sLen sCap : Nat) (a : Addr) (m c : Nat) (cur : List Value) (E : TypeId) (hg : Own w g E cur) (news : List Value) (hl : news.length = m * i.size) (hnews : ∀ j u, news[j]? = some u → w.cell? (a.add j) = some u) (h1 : ∀ u ∈ news, u.oneCell' = true)
    (hroom : sLen + m ≤ sCap) (hfit : sLen * i.size + news.length ≤ cur.length) :
    (Builtin.append_ #[t, t] ty #[.slice (some ⟨g, 0, none⟩) sLen sCap, .slice (some a) m c]).run P w = .ok (.slice (some ⟨g, 0, none⟩) (sLen + m) sCap) (w.setRow g (splice cur (sLen * i.size) news).toArray) := by
  have hfc := run_firstCells_some (P := P) w i.size m a m c news hl hnews
  have hst := run_storeCells_at P g (sLen * i.size) E news 0 cur.toArray w hg (by simpa using hfit) h1
  simp only [Nat.add_zero] at hst
  simp [Builtin.append_, run_underlying ht, sizeOf, typeInfo, hi, Builtin.lenOf, hroom, hfc, Addr.add_lit, hst, splice]
theorem own_setRow {w : World} {g : Nat} {E : TypeId} {cur : List Value} (hg : Own w g E cur) (L : List Value) : Own (w.setRow g L.toArray) g E L := by
  have := setRow_heap w g cur.toArray L.toArray E (0, 0) hg
  unfold Own
  exact this
/-- 'append(s[:n], x...)' in place, as one step of a region that draws -/
theorem sappN {P : Program} {w : World} {ops : Array Oper} {o : Oper} {a : Act} {K : Act → World → Prop} {Q : Exit → Act → World → Prop} {X : Prop} (hgd : o.guard = none) (s x : Operand) (T E : TypeId)
    (ho : o.op = .call { callee := .builtin .append, args := #[s, x], argTypes := #[T, T] }) (i : TypeInfo) (sz : Nat) (hT : P.underlying T = some (.slice E)) (hi : P.info? E = some i) (hsz : i.size = sz)
    (g n cap : Nat) (hs : a.eval s = .slice (some ⟨g, 0, none⟩) n cap) (ad : Addr) (m c : Nat) (hx : a.eval x = .slice (some ad) m c)
    (cur : List Value) (hg : Own w g E cur) (cs : List Value) (hn : cs.length = m * sz) (hsrc : ∀ j u, cs[j]? = some u → w.cell? (ad.add j) = some u) (h1 : ∀ u ∈ cs, u.oneCell' = true)
    (hroom : n + m ≤ cap) (hfit : n * sz + cs.length ≤ cur.length) (B : Nat) (w0 : World) (hb : Below B w0 w) (hBg : B ≤ g)
    (h : ∀ w', Hid (Own w' g E (splice cur (n * sz) cs)) → Hid (Below B w0 w') → Hid (∀ b, b ≠ g → w'.heap[b]? = w.heap[b]?) → K (a.put o.dst (.slice (some ⟨g, 0, none⟩) (n + m) cap)) w') :
    if Region.wanted o (yielded ops a.tmps) = true then Oper.wp P o a w K Q else X := by
  have hw : Region.wanted o (yielded ops a.tmps) = true := by simp [Region.wanted, hgd]
  rw [if_pos hw]
  subst hsz
  have hrun := run_append_roomN (P := P) w T o.type E i hT hi g n cap ad m c cur E hg cs hn hsrc h1 hroom hfit
  unfold Oper.wp
  simp [execOp, ho, resolve, invoke, builtin, hs, hx, hrun, Result.andThen]
  exact h _ (Lib.hid (own_setRow hg _)) (Lib.hid (below_setRow hb hBg _)) (Lib.hid (fun b hne => setRow_other w g b _ hne))
/-- 'clear(s)' of some elements of a block of one's own -/
theorem clrN {P : Program} {w : World} {ops : Array Oper} {rest : List Oper} {o : Oper} {a : Act} {Q : Exit → Act → World → Prop} (hgd : o.guard = none) (s : Operand) (T E : TypeId)
    (ho : o.op = .call { callee := .builtin .clear, args := #[s], argTypes := #[T] }) (hT : P.underlying T = some (.slice E)) (z : Value) (hv : ∀ w, (zeroValue E).run P w = .ok z w) (h1 : ∀ u ∈ z.cells.toList, u.oneCell' = true) (sz : Nat) (hzs : z.cells.size = sz)
    (g off n c : Nat) (hs : a.eval s = .slice (some ⟨g, off, none⟩) n c) (hn : 0 < n) (cur : List Value) (hg : Own w g E cur) (hfit : off + n * sz ≤ cur.length) (B : Nat) (w0 : World) (hb : Below B w0 w) (hBg : B ≤ g)
    (h : ∀ Z w', Hid (Z.length = n * sz) → Hid (Own w' g E (splice cur off Z)) → Hid (Below B w0 w') → Hid (∀ b, b ≠ g → w'.heap[b]? = w.heap[b]?) → wpList P ops Q rest (a.put o.dst (.tuple #[])) w') :
    wpList P ops Q (o :: rest) a w := by
  refine wpList_plain hgd fun K hK => ?_
  have hzl : (Builtin.zeroCells z.cells n).toList.length = n * sz := by simp [Builtin.zeroCells, hzs]
  have h1' : ∀ u ∈ (Builtin.zeroCells z.cells n).toList, u.oneCell' = true := by
    intro u hu
    have hu2 : u ∈ (Array.range (n * z.cells.size)).map fun i => z.cells[i % z.cells.size]! := by simpa [Builtin.zeroCells] using hu
    obtain ⟨i, hi, rfl⟩ := Array.mem_map.1 hu2
    have hi2 : i < n * z.cells.size := by simpa using hi
    have hp : 0 < z.cells.size := by
      rcases Nat.eq_zero_or_pos z.cells.size with q | q
      · rw [q] at hi2; omega
      · exact q
    have hm : i % z.cells.size < z.cells.size := Nat.mod_lt _ hp
    have e : z.cells[i % z.cells.size]! = z.cells[i % z.cells.size] := getElem!_pos z.cells _ hm
    rw [e]
    exact h1 _ (Array.getElem_mem_toList hm)
  have hst := run_storeCells_at P g off E (Builtin.zeroCells z.cells n).toList 0 cur.toArray w hg (by rw [hzl]; simpa using hfit) h1'
  simp only [Nat.add_zero] at hst
  obtain ⟨m, rfl⟩ : ∃ m, n = m + 1 := ⟨n - 1, by omega⟩
  unfold Oper.wp
  simp [execOp, ho, resolve, invoke, builtin, hs, Builtin.clear_, run_underlying hT, hv, hst, Result.andThen]
  refine hK _ _ (h (Builtin.zeroCells z.cells (m + 1)).toList _ (Lib.hid hzl) (Lib.hid ?_) (Lib.hid (below_setRow hb hBg _)) (Lib.hid (fun b hne => setRow_other w g b _ hne)))
  have e := own_setRow hg (splice cur off (Builtin.zeroCells z.cells (m + 1)).toList)
  unfold splice at e ⊢
  simpa using e
theorem splice_del (A X D S Z : List Value) (h : X.length = Z.length) : (splice (splice (A ++ (X ++ (D ++ S))) A.length D) (A.length + D.length) Z).take (A.length + D.length) = A ++ D := by
  have e1 : splice (A ++ (X ++ (D ++ S))) A.length D = A ++ (D ++ (X ++ (D ++ S)).drop D.length) := by
    unfold splice
    rw [List.take_left, List.drop_length_add_append]
  rw [e1]
  unfold splice
  have e2 : (A ++ (D ++ (X ++ (D ++ S)).drop D.length)).take (A.length + D.length) = A ++ D := by
    rw [List.take_length_add_append, List.take_left]
  rw [e2]
  exact List.take_left' (by rw [List.length_append])
end Go.Proofs.YtockglfoeagahaaGreatDoor
