/- Contracts and plain facts, joined: AddL, Search, CmpInt. -/
import Derived.Test.YtockglfoeagahaaGreatDoorRows
import Derived.Test.YtockglfoeagahaaGreatDoorZFnWarbleA
import Derived.Test.YtockglfoeagahaaGreatDoorZFnWarbleB
import Derived.Test.YtockglfoeagahaaGreatDoorZFnWarbleD
import Derived.Test.YtockglfoeagahaaGreatDoorZFnWarbleE
namespace Go.Proofs.YtockglfoeagahaaGreatDoor
open Go.ChangeShapes Go.WideShapes Go.ChangeAt Go.RowKit Go.Deep Go.Joins
set_option linter.unusedVariables false
set_option maxRecDepth 100000
set_option linter.unusedSimpArgs false
/-- one element, the new spot s, what is out so far and whether s is in -/
def stepA (s : Spot) (o : List Spot) (d : Bool) (x : Spot) : Option (List Spot × Bool) :=
  let o1 := if !d && decide (s.angle < x.angle) then o ++ [s] else o
  let d1 := d || decide (s.angle < x.angle)
  if x.angle = s.angle then
    if x.weight + s.weight = 0 then some (o1, true)
    else if weightB (x.weight + s.weight) = true then some (o1 ++ [⟨x.angle, x.weight + s.weight⟩], true) else none
  else some (o1 ++ [x], d1)
def runA (s : Spot) (xs : List Spot) : Nat → Option (List Spot × Bool)
  | 0 => some ([], false)
  | k + 1 => match runA s xs k, xs[k]? with
    | some st, some x => stepA s st.1 st.2 x
    | r, _ => r
def endA (s : Spot) (r : Option (List Spot × Bool)) : List Spot × Int := match r with
  | none => ([], 6)
  | some (o, d) => if 16 < (if d then o else o ++ [s]).length then ([], 5) else (if d then o else o ++ [s], 0)
def addL (s : Spot) (xs : List Spot) : List Spot × Int := endA s (runA s xs xs.length)
theorem runA_succ {s : Spot} {xs : List Spot} {k : Nat} (h : k < xs.length) {st : List Spot × Bool} (hr : runA s xs k = some st) : runA s xs (k + 1) = stepA s st.1 st.2 xs[k] := by
  show (match runA s xs k, xs[k]? with
    | some st, some x => stepA s st.1 st.2 x
    | r, _ => r) = _
  rw [hr, List.getElem?_eq_getElem h]
theorem runA_none {s : Spot} {xs : List Spot} {k : Nat} (hr : runA s xs k = none) : ∀ m, runA s xs (k + m) = none
  | 0 => hr
  | m + 1 => by
    show (match runA s xs (k + m), xs[k + m]? with
      | some st, some x => stepA s st.1 st.2 x
      | r, _ => r) = none
    rw [runA_none hr m]
theorem addL_bad {s : Spot} {xs : List Spot} {k : Nat} (h : k < xs.length) (hr : runA s xs (k + 1) = none) : addL s xs = ([], 6) := by
  unfold addL
  obtain ⟨m, hm⟩ : ∃ m, xs.length = k + 1 + m := ⟨xs.length - (k + 1), by omega⟩
  rw [hm, runA_none hr m]; rfl
theorem stepA_len {s : Spot} {o : List Spot} {d : Bool} {x : Spot} {st : List Spot × Bool} (h : stepA s o d x = some st) : st.1.length ≤ o.length + 2 := by
  unfold stepA at h
  simp only at h
  have h1 : (if (!d && decide (s.angle < x.angle)) = true then o ++ [s] else o).length ≤ o.length + 1 := by split <;> simp
  generalize (if (!d && decide (s.angle < x.angle)) = true then o ++ [s] else o) = o1 at *
  split at h
  · split at h
    · cases h; show o1.length ≤ _; omega
    · split at h
      · cases h; show (o1 ++ [_]).length ≤ _; rw [List.length_append]; simp; omega
      · cases h
  · cases h; show (o1 ++ [_]).length ≤ _; rw [List.length_append]; simp; omega
theorem runA_len {s : Spot} {xs : List Spot} : ∀ {k : Nat} {st : List Spot × Bool}, k ≤ xs.length → runA s xs k = some st → st.1.length ≤ 2 * k
  | 0, st, _, h => by cases h; simp
  | k + 1, st, hk, h => by
    cases hr : runA s xs k with
    | none => have := runA_none hr 1; rw [h] at this; cases this
    | some st0 =>
      rw [runA_succ (by omega) hr] at h
      have h1 := runA_len (by omega) hr
      have h2 := stepA_len h
      omega
theorem spot_snoc (xs : List Spot) (a : Spot) : (xs ++ [a]).flatMap Spot.put = xs.flatMap Spot.put ++ [.int .i64 a.angle, .int .i64 a.weight] := by rw [List.flatMap_append]; rfl

/-- 'append(out, x)', x in a block of its own; what is owned beside stays -/
theorem app_elK {P : Program} {ops : Array Oper} {rest : List Oper} {o : Oper} {a : Act} {Q : Exit → Act → World → Prop} {w1 : World} (hgd : o.guard = none) (s x : Operand) (T E : TypeId) (i : TypeInfo) (z : Value) (sz bytes : Nat)
    (hT : P.underlying T = some (.slice E)) (hi : P.info? E = some i) (hz : i.zero = some z) (h1 : i.size = sz) (h2 : i.bytes = bytes) (hzs : z.cells.size = sz) (hsz : 0 < sz)
    (ho : o.op = .call { callee := .builtin .append, args := #[s, x], argTypes := #[T, T] }) (w0 : World) (base : Nat) (v : Value) (n : Nat) (L : List Value) (hs : a.eval s = v) (hown : w0.ownsRow base E sz v n L)
    (cs : List Value) (hcs : cs.length = sz) (hone : ∀ u ∈ cs, u.oneCell' = true) (hx : a.eval x = .slice (some ⟨w0.heap.size, 0, none⟩) 1 1) (hn : n + 1 ≤ 2097152) (hby : bytes ≤ 64) (hbase : base ≤ w0.heap.size) (hw : w1 = w0.alloc (.cells cs.toArray E))
    (h : ∀ g cap w', w'.ownsRow base E sz (.slice (some ⟨g, 0, none⟩) (n + 1) cap) (n + 1) (L ++ cs) → (∀ W, Below base W w0 → Below base W w') → (∀ b E' L', Own w0 b E' L' → (∀ g', v.ownBlock = some g' → g' ≠ b) → Own w' b E' L') → w0.heap.size < w'.heap.size → wpList P ops Q rest (a.put o.dst (.slice (some ⟨g, 0, none⟩) (n + 1) cap)) w') :
    wpList P ops Q (o :: rest) a w1 := by
  subst hw
  have hb : (n + 1) * bytes ≤ 140737488355328 := by
    have := Nat.mul_le_mul hn hby
    omega
  refine wpList_append_lies _ hgd s x T ho base E i z sz bytes hT hi hz h1 h2 hzs hsz v n L hs (hown.alloc _) ⟨w0.heap.size, 0, none⟩ 1 1 cs hx (by omega) (World.news_of_block (Own.new w0 E cs)) hone (by omega) (by unfold maxLen; omega) hb (by simp; omega) _ rfl ?_
  intro g cap w' hown' hgrow _ _
  refine h g cap w' hown' (fun W hW => ?_) (fun b E' L' hO hne => ?_) ?_
  · exact grown_below (hW.alloc hbase _) (hown.alloc _) (by simp; omega) hgrow
  · have hO2 : Own (w0.alloc (.cells cs.toArray E)) b E' L' := hO.alloc _
    exact (hgrow.block b hO2.lt (fun e => hne b e.symm rfl)).trans hO2
  · have := hgrow.size
    simp at this; omega
end Go.Proofs.YtockglfoeagahaaGreatDoor
namespace Go.Proofs.YtockglfoeagahaaGreatDoor
open Go.ChangeShapes Go.WideShapes Go.ChangeAt Go.RowKit Go.Deep Go.Joins
set_option linter.unusedVariables false
set_option maxRecDepth 100000
set_option linter.unusedSimpArgs false
/-- the comparisons fall: less, then not less -/
def Falls (c : Nat → Int) (n : Nat) : Prop := ∀ a b, a ≤ b → b < n → c b < 0 → c a < 0
/-- what is known of the part that is left -/
def Part (c : Nat → Int) (n a b : Nat) : Prop := Falls c n → (∀ k, k < a → c k < 0) ∧ (∀ k, b ≤ k → k < n → 0 ≤ c k)
/-- what is found: all before it are less, all from it on are not -/
def Found (c : Nat → Int) (n i : Nat) : Prop := i ≤ n ∧ Part c n i i
theorem part_start (c : Nat → Int) (n : Nat) : Part c n 0 n := fun _ => ⟨fun k h => by omega, fun k h1 h2 => by omega⟩
theorem part_up {c : Nat → Int} {n a b m : Nat} (h : Part c n a b) (hm : m < n) (hc : c m < 0) : Part c n (m + 1) b := fun hf => ⟨fun k hk => hf k m (by omega) hm hc, (h hf).2⟩
theorem part_down {c : Nat → Int} {n a b m : Nat} (h : Part c n a b) (hc : 0 ≤ c m) : Part c n a m := fun hf => ⟨(h hf).1, fun k h1 h2 => by
  rcases Int.lt_or_le (c k) 0 with h3 | h3
  · have := hf m k h1 h2 h3; omega
  · exact h3⟩
theorem part_end {c : Nat → Int} {n a : Nat} (h : Part c n a a) (ha : a ≤ n) : Found c n a := ⟨ha, h⟩
end Go.Proofs.YtockglfoeagahaaGreatDoor
namespace Go.Proofs.YtockglfoeagahaaGreatDoor
open Go.ChangeShapes Go.WideShapes Go.ChangeAt Go.RowKit Go.Deep Go.Joins
set_option linter.unusedVariables false
set_option maxRecDepth 100000
set_option linter.unusedSimpArgs false
def cmpI (x y : Int) : Int := if x < y then -1 else if y < x then 1 else 0
theorem cmp_isNaN_int (x : Int) (w : World) : Calls Tryz.prog 76 #[.int .i64 x] w fun e w' => e = .returned (.bool false) ∧ w = w' := by
  go_enter Tryz.func76, Tryz.ntmps76
  go_wp2
  go_ret
  exact ⟨by first | rfl | simp, rfl⟩
theorem cmp_Compare_int (x y : Int) (w : World) : Calls Tryz.prog 48 #[.int .i64 x, .int .i64 y] w fun e w' => e = .returned (.int .i64 (cmpI x y)) ∧ w = w' := by
  by_cases h1 : x < y
  · have e : Hid (cmpI x y = -1) := (by unfold cmpI; rw [if_pos h1] : cmpI x y = -1)
    go_enter Tryz.func48, Tryz.ntmps48
    go_wp2_with (first | (go_at_call 76; refine (cmp_isNaN_int _ _).mono ?_; rintro e w' ⟨rfl, rfl⟩))
    go_ret
    exact ⟨by rw [e.out]; rfl, rfl⟩
  by_cases h2 : y < x
  · have e : Hid (cmpI x y = 1) := (by unfold cmpI; rw [if_neg h1, if_pos h2] : cmpI x y = 1)
    go_enter Tryz.func48, Tryz.ntmps48
    go_wp2_with (first | (go_at_call 76; refine (cmp_isNaN_int _ _).mono ?_; rintro e w' ⟨rfl, rfl⟩))
    go_ret
    exact ⟨by rw [e.out]; rfl, rfl⟩
  · have e : Hid (cmpI x y = 0) := (by unfold cmpI; rw [if_neg h1, if_neg h2] : cmpI x y = 0)
    go_enter Tryz.func48, Tryz.ntmps48
    go_wp2_with (first | (go_at_call 76; refine (cmp_isNaN_int _ _).mono ?_; rintro e w' ⟨rfl, rfl⟩))
    go_ret
    exact ⟨by rw [e.out]; rfl, rfl⟩
end Go.Proofs.YtockglfoeagahaaGreatDoor
