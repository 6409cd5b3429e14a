/- Contracts and plain facts, joined: OwnK, OwnR. -/
import Derived.Test.YtcjekailcljaaaaGreatRows
import Derived.Test.YtcjekailcljaaaaGreatZFnExactGreedyPlanJ
import Derived.Test.YtcjekailcljaaaaGreatZFnExactGreedyPlanQ
import Derived.Test.YtcjekailcljaaaaGreatZFnExactGreedyPlanU
import Derived.Deep.RegionLaw
import Derived.Deep.RegionWith
import Derived.Deep.RegionHeld3
import Derived.Shelf.RegionOpenPlain
namespace Go.Proofs.YtcjekailcljaaaaGreat
open Go.ChangeShapes Go.WideShapes Go.ChangeAt Go.RowKit Go.Deep Go.Joins
set_option linter.unusedVariables false
set_option maxRecDepth 100000
set_option linter.unusedSimpArgs false
theorem own_block {w : World} {base g cap n s : Nat} {E : TypeId} {L : List Value} (h : w.ownsRow base E s (.slice (some ⟨g, 0, none⟩) n cap) n L) : ∃ U, Own w g E (L ++ U) := by
  obtain ⟨h1, h2⟩ := h
  rcases h2 with ⟨e, _⟩ | ⟨g', cap', cur, e, hb, hg, hn, hm, hs, ht⟩
  · cases e
  · injection e with q1 q2 q3
    injection q1 with q4
    injection q4 with q5
    subst q5
    refine ⟨cur.toList.drop (n * s), ?_⟩
    rw [← ht, List.take_append_drop]
    unfold Own
    simpa using hg
/-- blocks of two types are two blocks -/
theorem own_apart_type {w : World} {base s n g : Nat} {E E' : TypeId} {v : Value} {L L' : List Value} (h : w.ownsRow base E s v n L) (o : Own w g E' L') (hne : E ≠ E') : ∀ g', v.ownBlock = some g' → g' ≠ g := by
  rintro g' hg rfl
  obtain ⟨h1, h2⟩ := h
  rcases h2 with ⟨rfl, _⟩ | ⟨g2, cap, cur, rfl, hb, hg2, rest⟩
  · cases hg
  · obtain rfl : g2 = g' := by injection hg
    unfold Own at o
    rw [hg2] at o
    injection o with o
    injection o with _ q _
    exact hne q
theorem own_rdU {w : World} {g n : Nat} {E : TypeId} {L U : List Value} (h : Own w g E (L ++ U)) (hl : L.length = n * 1) (k : Nat) (hk : k < n) : w.cell? ⟨g, k, none⟩ = L[k]? := by
  rw [h.cell, List.getElem?_append_left (by omega)]
theorem dash_list : (⟨#[45]⟩ : ByteArray).toList = [45] := by rw [ByteArray.toList_eq]
theorem two_of {α : Type} {l : List α} (h : l.length = 2) : ∃ a b, l = [a, b] := by
  match l, h with
  | [a, b], _ => exact ⟨a, b, rfl⟩
end Go.Proofs.YtcjekailcljaaaaGreat
namespace Go.Proofs.YtcjekailcljaaaaGreat
open Go.ChangeShapes Go.WideShapes Go.ChangeAt Go.RowKit Go.Deep Go.Joins
set_option linter.unusedVariables false
set_option maxRecDepth 100000
set_option linter.unusedSimpArgs false
theorem sapp_slZ {P : Program} {w1 : World} {ops : Array Oper} {o : Oper} {a : Act} {K : Act → World → Prop} {Q : Exit → Act → World → Prop} {X : Prop} (hgd : o.guard = none) (s x : Operand) (T E : TypeId)
    (ho : o.op = .call { callee := .builtin .append, args := #[s, x], argTypes := #[T, T] }) (i : TypeInfo) (z : Value) (sz bytes : Nat)
    (hT : P.underlying T = some (.slice E)) (hi : P.info? E = some i) (hz : i.zero = some z) (h1 : i.size = sz) (h2 : i.bytes = bytes) (hzs : z.cells.size = sz) (hsz : 0 < sz)
    (w0 : World) (hs : a.eval s = .slice (some ⟨w0.heap.size, 0, none⟩) 0 0) (xv : Value) (m : Nat) (cs : List Value) (hx : a.eval x = xv) (hr : Rd w0.heap.size w0 xv sz m cs) (hone : ∀ u ∈ cs, u.oneCell' = true) (hm : 0 < m) (hn : m ≤ 2097152) (hby : bytes ≤ 64)
    (hw : w1 = w0.alloc (.cells #[] E))
    (h : ∀ g cap w', Hid (w'.ownsRow w0.heap.size E sz (.slice (some ⟨g, 0, none⟩) m cap) m cs) → Hid (Below w0.heap.size w0 w') → K (a.put o.dst (.slice (some ⟨g, 0, none⟩) m cap)) w') :
    if Region.wanted o (yielded ops a.tmps) = true then Oper.wp P o a w1 K Q else X := by
  have hwt : Region.wanted o (yielded ops a.tmps) = true := by simp [Region.wanted, hgd]
  rw [if_pos hwt]
  subst hw
  have hb : (0 + m) * bytes ≤ 140737488355328 := by
    have := Nat.mul_le_mul hn hby
    rw [Nat.zero_add]
    omega
  have b0 : Below w0.heap.size w0 (w0.alloc (.cells #[] E)) := (Below.refl _ w0).alloc (Nat.le_refl _) _
  obtain ⟨hl, ao, cap, rfl, hc, hmx, hnil, hsome⟩ := hr
  obtain ⟨b, off, rfl, hbB, hcell⟩ := hsome hm
  refine wp_append_lies _ s x T ho w0.heap.size E i z sz bytes hT hi hz h1 h2 hzs hsz _ 0 [] hs (own_empty w0 w0.heap.size E sz (Nat.le_refl _)) ⟨b, off, none⟩ m cap cs hx hl (fun j u hj => ?_) hone hm (by unfold maxLen; omega) hb b0.size _ rfl ?_
  · have hj' := (List.getElem?_eq_some_iff.1 hj).1
    rw [Addr.add_lit, b0.cell (p := ⟨b, off + j, none⟩) hbB, hcell j (by omega), hj]
  · intro g cap' w' hown hgrow _ _
    rw [Nat.zero_add, List.nil_append] at hown
    rw [Nat.zero_add]
    exact h g cap' w' (Lib.hid hown) (Lib.hid (grown_below b0 (own_empty w0 w0.heap.size E sz (Nat.le_refl _)) b0.size hgrow))
theorem row_of_ownZ {w : World} {base g cap n sz : Nat} {E : TypeId} {cur L : List Value} (h : Own w g E cur) (hb : base ≤ g) (hn : n ≤ cap) (hm : cap ≤ maxLen) (hs : cur.length = cap * sz) (hl : L.length = n * sz) (ht : cur.take (n * sz) = L) :
    w.ownsRow base E sz (.slice (some ⟨g, 0, none⟩) n cap) n L :=
  ⟨hl, .inr ⟨g, cap, cur.toArray, rfl, hb, h, hn, hm, by simpa using hs, by simpa using ht⟩⟩
/-- a store into a slice of one's own -/
theorem own_setZ {w : World} {base g cap n s : Nat} {E : TypeId} {L : List Value} (h : w.ownsRow base E s (.slice (some ⟨g, 0, none⟩) n cap) n L) (i : Nat) (hi : i < n * s) (u : Value) : (w.setCell ⟨g, i, none⟩ u).ownsRow base E s (.slice (some ⟨g, 0, none⟩) n cap) n (L.set i u) := by
  obtain ⟨h1, h2⟩ := h
  rcases h2 with ⟨e, _⟩ | ⟨g', cap', cur, e, hb, hg, hn, hm, hs, ht⟩
  · cases e
  · injection e with q1 q2 q3
    injection q1 with q4
    injection q4 with q5
    subst q5; subst q3
    have ho : Own w g E cur.toList := by unfold Own; simpa using hg
    refine row_of_ownZ (ho.set i u) hb hn hm (by simpa using hs) (by rw [List.length_set, h1]) ?_
    rw [List.take_set, ht]
theorem own_baseZ {w : World} {base base' n s : Nat} {E : TypeId} {v : Value} {L : List Value} (h : w.ownsRow base E s v n L) (hb : base' ≤ base) : w.ownsRow base' E s v n L := by
  obtain ⟨h1, h2⟩ := h
  refine ⟨h1, ?_⟩
  rcases h2 with h2 | ⟨g, cap, cur, e, hb0, rest⟩
  · exact .inl h2
  · exact .inr ⟨g, cap, cur, e, Nat.le_trans hb hb0, rest⟩
/-- its cells -/
theorem own_cellZ {w : World} {base g cap n s : Nat} {E : TypeId} {L : List Value} (h : w.ownsRow base E s (.slice (some ⟨g, 0, none⟩) n cap) n L) (i : Nat) (hi : i < n * s) : w.cell? ⟨g, i, none⟩ = L[i]? ∧ w.frozen? ⟨g, i, none⟩ = false ∧ g < w.heap.size ∧ base ≤ g := by
  obtain ⟨h1, h2⟩ := h
  rcases h2 with ⟨e, _⟩ | ⟨g', cap', cur, e, hb, hg, hn, hm, hs, ht⟩
  · cases e
  · injection e with q1 q2 q3
    injection q1 with q4
    injection q4 with q5
    subst q5; subst q3
    have ho : Own w g E cur.toList := by unfold Own; simpa using hg
    refine ⟨?_, ho.free i, ho.lt, hb⟩
    rw [ho.cell, ← ht, List.getElem?_take_of_lt hi]
theorem Ring_one (xs : List Ring) : ∀ u ∈ xs.flatMap Ring.put, u.oneCell' = true := by
  intro u hu
  obtain ⟨x, _, hx⟩ := List.mem_flatMap.1 hu
  simp [Ring.put] at hx
  rcases hx with rfl | rfl | rfl <;> rfl
theorem clone_Ring (w : World) (v : Value) (n : Nat) (cs : List Value) (h : Rd w.heap.size w v 3 n cs) (h1 : ∀ u ∈ cs, u.oneCell' = true) (hn : n ≤ 1048576) :
    Calls Tryz.prog 131 #[v] w fun e w' => ∃ r, e = .returned r ∧ w'.ownsRow w.heap.size 123 3 r n cs ∧ Below w.heap.size w w' := by
  obtain ⟨i0, hi, hz0, hz1, hz2⟩ := info_parts Ring_info
  have q22 : ∀ (w : World) (a : Option Addr) (n c n' c' : Nat), (binOp .eql 41 (.slice a n c) (.slice none n' c')).run Tryz.prog w = .ok (.bool a.isNone) w := fun w a n c n' c' => Lib.run_eql_slice_nil w _ _ a n c n' c' Tryz.underlying41
  have H := Lib.hid h
  have H1 := Lib.hid h1
  obtain ⟨hL, ao, cap, rfl, hcap, hmax, hnil, hsome⟩ := h
  clear h1 hsome
  cases ao with
  | none =>
    obtain ⟨rfl, rfl⟩ := hnil rfl
    have e : cs = [] := List.eq_nil_of_length_eq_zero (by simpa using hL)
    subst e
    go_enter Tryz.func131, Tryz.ntmps131
    go_wp2_with fail
    go_ret
    exact ⟨_, rfl, own_nil _ _ _ _, Below.refl _ _⟩
  | some p =>
    clear hnil
    go_enter Tryz.func131, Tryz.ntmps131
    go_wp2_with (at_builtin; go_loud (refine app_slE rfl _ _ 41 123 i0 (.agg #[.int .i64 0, .int .i64 0, .int .i64 0]) 3 24 Tryz.underlying41 hi hz0 hz1 hz2 (by rfl) (by decide) rfl w (by rfl) _ n cs (by rfl) H.out H1.out (by omega) (by decide) ?_; intro ao' cap' w' hown hb; have HO := Lib.hid hown; have HB := Lib.hid hb; clear hown hb))
    go_ret
    exact ⟨_, rfl, HO.out, HB.out⟩
theorem own_farZ {w : World} {base g : Nat} {E : TypeId} {s n : Nat} {v : Value} {L : List Value} (h : w.ownsRow base E s v n L) (ha : ∀ g', v.ownBlock = some g' → g' ≠ g) (i : Nat) (u : Value) : (w.setCell ⟨g, i, none⟩ u).ownsRow base E s v n L := by
  obtain ⟨h1, h2⟩ := h
  refine ⟨h1, ?_⟩
  rcases h2 with h2 | ⟨g1, cap, cur, rfl, hg0, hg1, rest⟩
  · exact .inl h2
  · refine .inr ⟨g1, cap, cur, rfl, hg0, ?_, rest⟩
    rw [Below.heap_setCell _ _ _ _ (fun e => ha g1 rfl e)]
    exact hg1
set_option maxHeartbeats 4000000 in
theorem spec_l05Own (w : World) (p : Nat) (x : Profile) (lo : Option Addr) (lc : Nat) (hp : ProfAt w p x lo lc) (hR : RdR w lo lc x.rings) (hn : x.rings.length ≤ 1048576) (h1 : 1 ≤ x.rings.length) :
    Calls Tryz.prog 102 #[.pointer (some ⟨p, 0, none⟩)] w fun e w' => ∃ g c, e = .returned (.agg #[.string x.name, .slice (some ⟨g, 0, none⟩) x.rings.length c]) ∧ w'.ownsRow w.heap.size 123 3 (.slice (some ⟨g, 0, none⟩) x.rings.length c) x.rings.length (x.rings.flatMap Ring.put) ∧ Below w.heap.size w w' := by
  obtain ⟨i0, hi, hz0, hz1, hz2⟩ := info_parts Ring_info
  obtain ⟨c0, c1, ha⟩ := hp
  have hR0 : Hid (Own (w.alloc (.cells #[.string ⟨#[]⟩, .slice none 0 0] 43)) w.heap.size 43 [.string ⟨#[]⟩, .slice none 0 0]) := Lib.hid (Own.new w _ _)
  have HB0 : Hid (Below w.heap.size w (w.alloc (.cells #[.string ⟨#[]⟩, .slice none 0 0] 43)).drew) := Lib.hid (((Below.refl _ _).alloc (Nat.le_refl _) _).drew)
  have HR := Lib.hid (hR.up ((Below.refl _ w).alloc (Nat.le_refl _) (.cells #[.string ⟨#[]⟩, .slice none 0 0] 43)))
  have h2 := Ring_one x.rings
  have mixed : Tryz.prog.follows .mixedOrders = true := by kernel_rfl
  clear hR
  go_enter Tryz.func102, Tryz.ntmps102
  go_wp2_with fail
  go_region_law_o (refine sapp_slZ rfl _ _ 41 123 rfl i0 (.agg #[.int .i64 0, .int .i64 0, .int .i64 0]) 3 24 Tryz.underlying41 hi hz0 hz1 hz2 (by rfl) (by decide) (w.alloc (.cells #[.string ⟨#[]⟩, .slice none 0 0] 43)).drew (by simp [Act.eval, Act.put]) _ x.rings.length (x.rings.flatMap Ring.put) (by simp [Act.eval, Act.put]; try rfl) HR.out h2 (by omega) (by omega) (by decide) (by rfl) ?_; intro g cap w1 HO1 HB1; have HBW : Hid (Below w.heap.size w w1) := Lib.hid (HB0.out.trans (HB1.out.mono HB0.out.size)); have R1 : Hid (Own w1 w.heap.size 43 [.string ⟨#[]⟩, .slice none 0 0]) := Lib.hid (Own.below (w := (w.alloc (.cells #[.string ⟨#[]⟩, .slice none 0 0] 43)).drew) hR0.out HB1.out hR0.out.lt); have d0 := (HBW.out.cell (p := ⟨p, 0, none⟩) ha).trans c0; have d1 := (HBW.out.cell (p := ⟨p, 1, none⟩) ha).trans c1; have q0 : w1.cell? ⟨w.heap.size, 0, none⟩ = some (.string ⟨#[]⟩) := R1.out.cell 0; have q1 : w1.cell? ⟨w.heap.size, 1, none⟩ = some (.slice none 0 0) := R1.out.cell 1; have f0 := R1.out.free 0; have f1 := R1.out.free 1; have hlt := R1.out.lt; have hne : ¬ w.heap.size = w1.heap.size := (by omega))
  all_goals go_wp2_with fail
  all_goals have hgl := (HO1.out.lt g rfl).1
  all_goals have hgs : w.heap.size + 1 ≤ g := by simpa using hgl
  all_goals (have hax : ∀ g', (Value.slice (some ⟨g, 0, none⟩) x.rings.length cap).ownBlock = some g' → g' ≠ w.heap.size := fun g' hg' => (by have h3 := HO1.out.lt g' hg'; have h4 : w.heap.size + 1 ≤ g' := (by simpa using h3.1); omega))
  all_goals have hb := HBW.out
  all_goals refine bodyPost_ret (v := .agg #[.string x.name, .slice (some ⟨g, 0, none⟩) x.rings.length cap]) (by simp [results, Tryz.results102, go_sem, q0, q1, hlt, hne]) rfl ?_
  all_goals exact ⟨g, cap, rfl, own_baseZ (own_farZ (own_farZ HO1.out hax 0 _) hax 1 _) (by simp), by (repeat' (first | (with_reducible exact Below.refl _ _) | (with_reducible assumption) | (with_reducible refine below_dn ?_ _) | (with_reducible refine Below.drew ?_) | (with_reducible refine Below.alloc ?_ ?_ _) | (with_reducible refine Below.setCell ?_ ?_ _) | go_size))⟩
set_option maxHeartbeats 4000000 in
theorem impl_copyProfile (w : World) (x : Profile) (lo : Option Addr) (lc : Nat) (hR : RdR w lo lc x.rings) (hn : x.rings.length ≤ 1048576) :
    Calls Tryz.prog 110 #[.agg #[.string x.name, .slice lo x.rings.length lc]] w fun e w' => ∃ r, e = .returned (.agg #[.string x.name, r]) ∧ w'.ownsRow w.heap.size 123 3 r x.rings.length (x.rings.flatMap Ring.put) ∧ Below w.heap.size w w' := by
  obtain ⟨W1, hW1⟩ : ∃ W1, w.alloc (.cells #[.string x.name, .slice lo x.rings.length lc] 43) = W1 := ⟨_, rfl⟩
  have e1 : W1.heap.size = w.heap.size + 1 := by rw [← hW1]; simp
  have O1 : Own W1 w.heap.size 43 [.string x.name, .slice lo x.rings.length lc] := hW1 ▸ Own.new w _ _
  have b1 : Below w.heap.size w W1 := hW1 ▸ (Below.refl _ _).alloc (Nat.le_refl _) _
  have b2 : Below W1.heap.size W1 (W1.alloc (.cells #[.string ⟨#[]⟩, .slice none 0 0] 43)) := (Below.refl _ _).alloc (Nat.le_refl _) _
  have V := O1.below b2 O1.lt
  have R := Own.new W1 43 [.string ⟨#[]⟩, .slice none 0 0]
  have B2 := bnext b1 b2
  have R2 := (hR.up b1).up b2
  obtain ⟨W2, hW2⟩ : ∃ W2, W1.alloc (.cells #[.string ⟨#[]⟩, .slice none 0 0] 43) = W2 := ⟨_, rfl⟩
  rw [hW2] at V R B2 R2
  obtain ⟨g1, hg1⟩ : ∃ g1, W1.heap.size = g1 := ⟨_, rfl⟩
  have z1 : w.heap.size < W1.heap.size := by omega
  have HRO := Lib.hid R
  have HB := Lib.hid B2
  have HR := Lib.hid R2
  have c0 := V.cell 0
  have c1 := V.cell 1
  have cl := V.lt
  clear V R B2 R2 b1 b2 O1 hR e1 hg1
  go_enter Tryz.func110, Tryz.ntmps110
  go_wp2_with fail
  go_region_held3 (fun w' => w'.cell? ⟨w.heap.size, 0, none⟩ = some (.string x.name) ∧ w'.cell? ⟨w.heap.size, 1, none⟩ = some (.slice lo x.rings.length lc)) (first | (go_keep; done) | (refine ⟨?_, ?_⟩ <;> (first | (go_keep; done) | (simp [go_sem, d0, d1, dl]; done)))) (first | (go_at_call 131; refine (clone_Ring _ _ x.rings.length _ (by exact HR.out.up (by (repeat' (first | (with_reducible exact Below.refl _ _) | (with_reducible assumption) | (with_reducible refine below_dn ?_ _) | (with_reducible refine Below.drew ?_) | (with_reducible refine Below.alloc ?_ ?_ _) | (with_reducible refine Below.setCell ?_ ?_ _) | go_size)))) (Ring_one _) hn).mono ?_; rintro e w3 ⟨r, rfl, o3, b3⟩; obtain ⟨ro, rc, er⟩ := (own_rd o3).form; subst er; have B3 : Below W2.heap.size W2 w3 := (by first | exact b3 | exact Below.trans (by (repeat' (first | (with_reducible exact Below.refl _ _) | (with_reducible assumption) | (with_reducible refine below_dn ?_ _) | (with_reducible refine Below.drew ?_) | (with_reducible refine Below.alloc ?_ ?_ _) | (with_reducible refine Below.setCell ?_ ?_ _) | go_size))) (b3.mono (by simp <;> omega))); have O3 := Lib.hid o3; have HB3 := Lib.hid (bnext HB.out B3); have RR := HRO.out.below B3 HRO.out.lt; have r0 := RR.cell 0; have r1 := RR.cell 1; have f0 := RR.free 0; have f1 := RR.free 1; have rl := RR.lt; have d0 := (B3.cell (p := ⟨w.heap.size, 0, none⟩) cl).trans c0; have d1 := (B3.cell (p := ⟨w.heap.size, 1, none⟩) cl).trans c1; have dl := Nat.lt_of_lt_of_le cl B3.size; clear RR o3 b3))
  go_wp2_with fail
  have hz2 : W1.heap.size < W2.heap.size := HRO.out.lt
  have hz0 := HB.out.size
  have hax : ∀ g', (Value.slice ro x.rings.length rc).ownBlock = some g' → g' ≠ W1.heap.size := fun g' hg' => (by
    have h3 : W2.heap.size ≤ g' := (O3.out.lt g' hg').1
    omega)
  have hne : ¬ W1.heap.size = w.heap.size := by omega
  refine bodyPost_ret (v := .agg #[.string x.name, .slice ro x.rings.length rc]) (by simp [results, Tryz.results110, go_sem, r0, r1, rl]) rfl ?_
  refine ⟨_, rfl, own_baseZ (own_farZ (own_farZ O3.out hax 0 _) hax 1 _) (show w.heap.size ≤ W2.heap.size from hz0), ?_⟩
  exact Below.setCell (Below.setCell HB3.out (show w.heap.size ≤ W1.heap.size by omega) _) (show w.heap.size ≤ W1.heap.size by omega) _
end Go.Proofs.YtcjekailcljaaaaGreat
