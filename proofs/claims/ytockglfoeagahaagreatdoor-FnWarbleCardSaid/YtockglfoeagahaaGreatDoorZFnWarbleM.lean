/- Contracts and plain facts, joined: ClonS. -/
import Derived.Test.YtockglfoeagahaaGreatDoorRows
import Derived.Test.YtockglfoeagahaaGreatDoorZFnWarbleB
import Derived.Test.YtockglfoeagahaaGreatDoorZFnWarbleJ
import Derived.Test.YtockglfoeagahaaGreatDoorZFnWarbleL
import Derived.Lib.SliceRun
namespace Go.Proofs.YtockglfoeagahaaGreatDoor
open Go.ChangeShapes Go.WideShapes Go.ChangeAt Go.RowKit Go.Deep Go.Joins
set_option linter.unusedVariables false
set_option maxRecDepth 100000
set_option linter.unusedSimpArgs false
theorem Spot_one (xs : List Spot) : ∀ u ∈ xs.flatMap Spot.put, u.oneCell' = true := by
  intro u hu
  obtain ⟨x, _, hx⟩ := List.mem_flatMap.1 hu
  simp [Spot.put] at hx
  rcases hx with rfl | rfl <;> rfl
theorem spot_one2 (a b : Int) : ∀ u ∈ [Value.int .i64 a, Value.int .i64 b], u.oneCell' = true := by
  intro u hu
  simp at hu
  rcases hu with rfl | rfl <;> rfl
theorem clone_Spot (w : World) (v : Value) (n : Nat) (cs : List Value) (h : Rd w.heap.size w v 2 n cs) (h1 : ∀ u ∈ cs, u.oneCell' = true) (hn : n ≤ 1048576) :
    Calls Tryz.prog 25 #[v] w fun e w' => ∃ r, e = .returned r ∧ w'.ownsRow w.heap.size 38 2 r n cs ∧ Below w.heap.size w w' := by
  obtain ⟨i0, hi, hz0, hz1, hz2⟩ := info_parts Spot_info
  have q22 : ∀ (w : World) (a : Option Addr) (n c n' c' : Nat), (binOp .eql 24 (.slice a n c) (.slice none n' c')).run Tryz.prog w = .ok (.bool a.isNone) w := fun w a n c n' c' => Lib.run_eql_slice_nil w _ _ a n c n' c' Tryz.underlying24
  have H := Lib.hid h
  have H1 := Lib.hid h1
  obtain ⟨hL, ao, cap, rfl, hcap, hmax, hnil, hsome⟩ := h
  clear h1 hsome
  cases ao with
  | none =>
    obtain ⟨rfl, rfl⟩ := hnil rfl
    have e : cs = [] := List.eq_nil_of_length_eq_zero (by simpa using hL)
    subst e
    go_enter Tryz.func25, Tryz.ntmps25
    go_wp2_with fail
    go_ret
    exact ⟨_, rfl, own_nil _ _ _ _, Below.refl _ _⟩
  | some p =>
    clear hnil
    go_enter Tryz.func25, Tryz.ntmps25
    go_wp2_with (at_builtin; go_loud (refine app_slE rfl _ _ 24 38 i0 (.agg #[.int .i64 0, .int .i64 0]) 2 16 Tryz.underlying24 hi hz0 hz1 hz2 (by rfl) (by decide) rfl w (by rfl) _ n cs (by rfl) H.out H1.out (by omega) (by decide) ?_; intro ao' cap' w' hown hb; have HO := Lib.hid hown; have HB := Lib.hid hb; clear hown hb))
    go_ret
    exact ⟨_, rfl, HO.out, HB.out⟩
theorem take_flat (xs : List Spot) : ∀ k, (xs.flatMap Spot.put).take (k * 2) = (xs.take k).flatMap Spot.put := by
  induction xs with
  | nil => intro k; simp
  | cons x xs ih =>
    intro k
    cases k with
    | zero => simp
    | succ k =>
      rw [show (k + 1) * 2 = k * 2 + 2 from by omega]
      show ((.int .i64 x.angle) :: (.int .i64 x.weight) :: xs.flatMap Spot.put).take (k * 2 + 2) = (x :: xs.take k).flatMap Spot.put
      rw [List.take_succ_cons, List.take_succ_cons, ih k]
      rfl
theorem drop_flat (xs : List Spot) : ∀ k, (xs.flatMap Spot.put).drop (k * 2) = (xs.drop k).flatMap Spot.put := by
  induction xs with
  | nil => intro k; simp
  | cons x xs ih =>
    intro k
    cases k with
    | zero => simp
    | succ k =>
      rw [show (k + 1) * 2 = k * 2 + 2 from by omega]
      show ((.int .i64 x.angle) :: (.int .i64 x.weight) :: xs.flatMap Spot.put).drop (k * 2 + 2) = (xs.drop k).flatMap Spot.put
      rw [List.drop_succ_cons, List.drop_succ_cons, ih k]
theorem ins_flat (xs : List Spot) (s : Spot) (k : Nat) : (xs.flatMap Spot.put).take (k * 2) ++ ([.int .i64 s.angle, .int .i64 s.weight] ++ (xs.flatMap Spot.put).drop (k * 2)) = (xs.take k ++ (s :: xs.drop k)).flatMap Spot.put := by
  rw [take_flat, drop_flat, List.flatMap_append]
  rfl
theorem del_flat (xs : List Spot) (k : Nat) : (xs.flatMap Spot.put).take (k * 2) ++ (xs.flatMap Spot.put).drop ((k + 1) * 2) = (xs.take k ++ xs.drop (k + 1)).flatMap Spot.put := by
  rw [take_flat, drop_flat, List.flatMap_append]
theorem set_flat1 (xs : List Spot) (n : Int) : ∀ k (h : k < xs.length), (xs.flatMap Spot.put).set (k * 2 + 1) (.int .i64 n) = (xs.set k ⟨xs[k].angle, n⟩).flatMap Spot.put := by
  induction xs with
  | nil => intro k h; simp at h
  | cons x xs ih =>
    intro k h
    cases k with
    | zero => rfl
    | succ k =>
      rw [show (k + 1) * 2 + 1 = k * 2 + 1 + 2 from by omega]
      show ((.int .i64 x.angle) :: (.int .i64 x.weight) :: (xs.flatMap Spot.put).set (k * 2 + 1) (.int .i64 n)) = _
      rw [ih k (by simpa using h)]
      rfl
theorem set_flat0 (xs : List Spot) (n : Int) : ∀ k (h : k < xs.length), (xs.flatMap Spot.put).set (k * 2) (.int .i64 n) = (xs.set k ⟨n, xs[k].weight⟩).flatMap Spot.put := by
  induction xs with
  | nil => intro k h; simp at h
  | cons x xs ih =>
    intro k h
    cases k with
    | zero => rfl
    | succ k =>
      rw [show (k + 1) * 2 = k * 2 + 2 from by omega]
      show ((.int .i64 x.angle) :: (.int .i64 x.weight) :: (xs.flatMap Spot.put).set (k * 2) (.int .i64 n)) = _
      rw [ih k (by simpa using h)]
      rfl
/-- a store into a slice of one's own -/
theorem own_setI {w : World} {base g cap n s : Nat} {E : TypeId} {L : List Value} (h : w.ownsRow base E s (.slice (some ⟨g, 0, none⟩) n cap) n L) (i : Nat) (hi : i < n * s) (u : Value) : (w.setCell ⟨g, i, none⟩ u).ownsRow base E s (.slice (some ⟨g, 0, none⟩) n cap) n (L.set i u) := by
  obtain ⟨h1, h2⟩ := h
  rcases h2 with ⟨e, _⟩ | ⟨g', cap', cur, e, hb, hg, hn, hm, hs, ht⟩
  · cases e
  · injection e with q1 q2 q3
    injection q1 with q4
    injection q4 with q5
    subst q5; subst q3
    have ho : Own w g E cur.toList := by unfold Own; simpa using hg
    refine row_of_own (ho.set i u) hb hn hm (by simpa using hs) (by rw [List.length_set, h1]) ?_
    rw [List.take_set, ht]
theorem own_base {w : World} {base base' n s : Nat} {E : TypeId} {v : Value} {L : List Value} (h : w.ownsRow base E s v n L) (hb : base' ≤ base) : w.ownsRow base' E s v n L := by
  obtain ⟨h1, h2⟩ := h
  refine ⟨h1, ?_⟩
  rcases h2 with h2 | ⟨g, cap, cur, e, hb0, rest⟩
  · exact .inl h2
  · exact .inr ⟨g, cap, cur, e, Nat.le_trans hb hb0, rest⟩
/-- its cells -/
theorem own_cellI {w : World} {base g cap n s : Nat} {E : TypeId} {L : List Value} (h : w.ownsRow base E s (.slice (some ⟨g, 0, none⟩) n cap) n L) (i : Nat) (hi : i < n * s) : w.cell? ⟨g, i, none⟩ = L[i]? ∧ w.frozen? ⟨g, i, none⟩ = false ∧ g < w.heap.size ∧ base ≤ g := by
  obtain ⟨h1, h2⟩ := h
  rcases h2 with ⟨e, _⟩ | ⟨g', cap', cur, e, hb, hg, hn, hm, hs, ht⟩
  · cases e
  · injection e with q1 q2 q3
    injection q1 with q4
    injection q4 with q5
    subst q5; subst q3
    have ho : Own w g E cur.toList := by unfold Own; simpa using hg
    refine ⟨?_, ho.free i, ho.lt, hb⟩
    rw [ho.cell, ← ht, List.getElem?_take_of_lt hi]
end Go.Proofs.YtockglfoeagahaaGreatDoor
