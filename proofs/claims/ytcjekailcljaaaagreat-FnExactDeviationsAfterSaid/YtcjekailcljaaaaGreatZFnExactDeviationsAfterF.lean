/- Contracts and plain facts, joined: HGoal, Steps, In. -/
import Derived.Test.YtcjekailcljaaaaGreatRows
import Derived.Test.YtcjekailcljaaaaGreatZFnExactDeviationsAfterA
import Derived.Test.YtcjekailcljaaaaGreatZFnExactDeviationsAfterD
namespace Go.Proofs.YtcjekailcljaaaaGreat
open Go.ChangeShapes Go.WideShapes Go.ChangeAt Go.RowKit Go.Deep Go.Joins
set_option linter.unusedVariables false
set_option maxRecDepth 100000
set_option linter.unusedSimpArgs false
set_option maxHeartbeats 1000000 in
theorem toGoal (x : GoalX) (w : World) : Calls Tryz.prog 11 #[.agg #[.int .i64 x.a, .int .i64 x.b, .int .i64 x.c, .int .i64 x.d, .int .i64 x.e, .int .i64 x.tol, .int .i64 x.most]] w fun e w' => e = .returned (.agg #[.int .i64 x.a, .int .i64 x.b, .int .i64 x.c, .int .i64 x.d, .int .i64 x.e, .int .i64 x.tol, .int .i64 x.most]) ∧ Below w.heap.size w w' := by
  have HS := Lib.hid (goalsnd x)
  obtain ⟨a, b, c, d, e, t, m⟩ := x
  show Calls Tryz.prog 11 #[.agg #[.int .i64 a, .int .i64 b, .int .i64 c, .int .i64 d, .int .i64 e, .int .i64 t, .int .i64 m]] w fun r w' => r = .returned (.agg #[.int .i64 a, .int .i64 b, .int .i64 c, .int .i64 d, .int .i64 e, .int .i64 t, .int .i64 m]) ∧ Below w.heap.size w w'
  obtain ⟨W1, hW1⟩ : ∃ W1, w.alloc (.cells #[.int .i64 a, .int .i64 b, .int .i64 c, .int .i64 d, .int .i64 e, .int .i64 t, .int .i64 m] 32) = W1 := ⟨_, rfl⟩
  obtain ⟨W2, hW2⟩ : ∃ W2, W1.alloc (.cells #[.int .i64 0, .int .i64 0, .int .i64 0, .int .i64 0, .int .i64 0, .int .i64 0, .int .i64 0] 47) = W2 := ⟨_, rfl⟩
  obtain ⟨W3, hW3⟩ : ∃ W3, W2.alloc (.cells #[.int .i64 0, .int .i64 0, .int .i64 0, .int .i64 0, .int .i64 0, .int .i64 0, .int .i64 0] 47) = W3 := ⟨_, rfl⟩
  have b1 : Below w.heap.size w W1 := hW1 ▸ (Below.refl _ _).alloc (Nat.le_refl _) _
  have b2 : Below W1.heap.size W1 W2 := hW2 ▸ (Below.refl _ _).alloc (Nat.le_refl _) _
  have b3 : Below W2.heap.size W2 W3 := hW3 ▸ (Below.refl _ _).alloc (Nat.le_refl _) _
  have X1 : Own W1 w.heap.size 32 [.int .i64 a, .int .i64 b, .int .i64 c, .int .i64 d, .int .i64 e, .int .i64 t, .int .i64 m] := hW1 ▸ Own.new w _ _
  have X3 := (X1.below b2 X1.lt).below b3 (X1.below b2 X1.lt).lt
  have R2 : Own W2 W1.heap.size 47 [.int .i64 0, .int .i64 0, .int .i64 0, .int .i64 0, .int .i64 0, .int .i64 0, .int .i64 0] := hW2 ▸ Own.new W1 _ _
  have R3 := R2.below b3 R2.lt
  have T3 : Own W3 W2.heap.size 47 [.int .i64 0, .int .i64 0, .int .i64 0, .int .i64 0, .int .i64 0, .int .i64 0, .int .i64 0] := hW3 ▸ Own.new W2 _ _
  have l1 : w.heap.size < W1.heap.size := X1.lt
  have l2 : W1.heap.size < W2.heap.size := R2.lt
  have HX := Lib.hid X3
  have HR := Lib.hid R3
  have HT := Lib.hid T3
  have B3 := Lib.hid (bnext (bnext b1 b2) b3)
  have x0 : W3.cell? ⟨w.heap.size, 0, none⟩ = some (.int .i64 a) := X3.cell 0
  have x1 : W3.cell? ⟨w.heap.size, 1, none⟩ = some (.int .i64 b) := X3.cell 1
  have x2 : W3.cell? ⟨w.heap.size, 2, none⟩ = some (.int .i64 c) := X3.cell 2
  have x3 : W3.cell? ⟨w.heap.size, 3, none⟩ = some (.int .i64 d) := X3.cell 3
  have x4 : W3.cell? ⟨w.heap.size, 4, none⟩ = some (.int .i64 e) := X3.cell 4
  have xl := X3.lt
  clear b1 b2 b3 X1 X3 R2 R3 T3
  go_enter Tryz.func11, Tryz.ntmps11
  go_wp2_with fail
  refine (HS.out _).mono ?_; rintro r w4 ⟨rfl, b4⟩
  have X4 := HX.out.below b4 HX.out.lt
  have R4 := HR.out.below b4 HR.out.lt
  have T4 := HT.out.below b4 HT.out.lt
  have B4 := bnext B3.out b4
  have hne3 : ¬ w.heap.size = W2.heap.size := by omega
  have hne4 : ¬ W2.heap.size = w.heap.size := by omega
  have hne : ¬ W1.heap.size = W2.heap.size := by omega
  have hne2 : ¬ W2.heap.size = W1.heap.size := by omega
  have hge1 : w.heap.size ≤ W1.heap.size := by omega
  have hge2 : w.heap.size ≤ W2.heap.size := by omega
  generalize hq1 : W1.heap.size = q1 at *
  generalize hq2 : W2.heap.size = q2 at *
  obtain ⟨W5, hW5⟩ : ∃ W5, ((((w4.setCell ⟨q2, 0, none⟩ (.int .i64 a)).setCell ⟨q2, 1, none⟩ (.int .i64 b)).setCell ⟨q2, 2, none⟩ (.int .i64 c)).setCell ⟨q2, 3, none⟩ (.int .i64 d)).setCell ⟨q2, 4, none⟩ (.int .i64 e) = W5 := ⟨_, rfl⟩
  have T5 : Own W5 q2 47 [.int .i64 a, .int .i64 b, .int .i64 c, .int .i64 d, .int .i64 e, .int .i64 0, .int .i64 0] := hW5 ▸ ((((T4.set 0 _).set 1 _).set 2 _).set 3 _).set 4 _
  have X5 : Own W5 w.heap.size 32 [.int .i64 a, .int .i64 b, .int .i64 c, .int .i64 d, .int .i64 e, .int .i64 t, .int .i64 m] := hW5 ▸ ((((X4.other hne4 _).other hne4 _).other hne4 _).other hne4 _).other hne4 _
  have R5 : Own W5 q1 47 [.int .i64 0, .int .i64 0, .int .i64 0, .int .i64 0, .int .i64 0, .int .i64 0, .int .i64 0] := hW5 ▸ ((((R4.other hne2 _).other hne2 _).other hne2 _).other hne2 _).other hne2 _
  have B5 : Below w.heap.size w W5 := hW5 ▸ Below.setCell (Below.setCell (Below.setCell (Below.setCell (Below.setCell B4 hge2 _) hge2 _) hge2 _) hge2 _) hge2 _
  obtain ⟨W6, hW6⟩ : ∃ W6, W5.setCell ⟨q2, 5, none⟩ (.int .i64 t) = W6 := ⟨_, rfl⟩
  have T6 : Own W6 q2 47 [.int .i64 a, .int .i64 b, .int .i64 c, .int .i64 d, .int .i64 e, .int .i64 t, .int .i64 0] := hW6 ▸ T5.set 5 _
  have X6 : Own W6 w.heap.size 32 [.int .i64 a, .int .i64 b, .int .i64 c, .int .i64 d, .int .i64 e, .int .i64 t, .int .i64 m] := hW6 ▸ X5.other hne4 _
  have R6 : Own W6 q1 47 [.int .i64 0, .int .i64 0, .int .i64 0, .int .i64 0, .int .i64 0, .int .i64 0, .int .i64 0] := hW6 ▸ R5.other hne2 _
  have B6 : Below w.heap.size w W6 := hW6 ▸ Below.setCell B5 hge2 _
  obtain ⟨W7, hW7⟩ : ∃ W7, W6.setCell ⟨q2, 6, none⟩ (.int .i64 m) = W7 := ⟨_, rfl⟩
  have T7 : Own W7 q2 47 [.int .i64 a, .int .i64 b, .int .i64 c, .int .i64 d, .int .i64 e, .int .i64 t, .int .i64 m] := hW7 ▸ T6.set 6 _
  have R7 : Own W7 q1 47 [.int .i64 0, .int .i64 0, .int .i64 0, .int .i64 0, .int .i64 0, .int .i64 0, .int .i64 0] := hW7 ▸ R6.other hne2 _
  have B7 := Lib.hid (hW7 ▸ Below.setCell B6 hge2 _ : Below w.heap.size w W7)
  have s0 : w4.cell? ⟨q2, 0, none⟩ = some (.int .i64 0) := T4.cell 0
  have sf0 := T4.free 0
  have s1 : w4.cell? ⟨q2, 1, none⟩ = some (.int .i64 0) := T4.cell 1
  have sf1 := T4.free 1
  have s2 : w4.cell? ⟨q2, 2, none⟩ = some (.int .i64 0) := T4.cell 2
  have sf2 := T4.free 2
  have s3 : w4.cell? ⟨q2, 3, none⟩ = some (.int .i64 0) := T4.cell 3
  have sf3 := T4.free 3
  have s4 : w4.cell? ⟨q2, 4, none⟩ = some (.int .i64 0) := T4.cell 4
  have sf4 := T4.free 4
  have sl := T4.lt
  have v5 : W5.cell? ⟨w.heap.size, 5, none⟩ = some (.int .i64 t) := X5.cell 5
  have vl5 := X5.lt
  have s5 : W5.cell? ⟨q2, 5, none⟩ = some (.int .i64 0) := T5.cell 5
  have sf5 := T5.free 5
  have sl5 := T5.lt
  have v6 : W6.cell? ⟨w.heap.size, 6, none⟩ = some (.int .i64 m) := X6.cell 6
  have vl6 := X6.lt
  have s6 : W6.cell? ⟨q2, 6, none⟩ = some (.int .i64 0) := T6.cell 6
  have sf6 := T6.free 6
  have sl6 := T6.lt
  have u0 : W7.cell? ⟨q2, 0, none⟩ = some (.int .i64 a) := T7.cell 0
  have r0 : W7.cell? ⟨q1, 0, none⟩ = some (.int .i64 0) := R7.cell 0
  have rf0 := R7.free 0
  have u1 : W7.cell? ⟨q2, 1, none⟩ = some (.int .i64 b) := T7.cell 1
  have r1 : W7.cell? ⟨q1, 1, none⟩ = some (.int .i64 0) := R7.cell 1
  have rf1 := R7.free 1
  have u2 : W7.cell? ⟨q2, 2, none⟩ = some (.int .i64 c) := T7.cell 2
  have r2 : W7.cell? ⟨q1, 2, none⟩ = some (.int .i64 0) := R7.cell 2
  have rf2 := R7.free 2
  have u3 : W7.cell? ⟨q2, 3, none⟩ = some (.int .i64 d) := T7.cell 3
  have r3 : W7.cell? ⟨q1, 3, none⟩ = some (.int .i64 0) := R7.cell 3
  have rf3 := R7.free 3
  have u4 : W7.cell? ⟨q2, 4, none⟩ = some (.int .i64 e) := T7.cell 4
  have r4 : W7.cell? ⟨q1, 4, none⟩ = some (.int .i64 0) := R7.cell 4
  have rf4 := R7.free 4
  have u5 : W7.cell? ⟨q2, 5, none⟩ = some (.int .i64 t) := T7.cell 5
  have r5 : W7.cell? ⟨q1, 5, none⟩ = some (.int .i64 0) := R7.cell 5
  have rf5 := R7.free 5
  have u6 : W7.cell? ⟨q2, 6, none⟩ = some (.int .i64 m) := T7.cell 6
  have r6 : W7.cell? ⟨q1, 6, none⟩ = some (.int .i64 0) := R7.cell 6
  have rf6 := R7.free 6
  have ul := T7.lt
  have rl := R7.lt
  clear b4 X4 R4 T4 B4 T5 X5 R5 B5 T6 X6 R6 B6 T7 R7 x0 x1 x2 x3 x4 xl HX HR HT B3 hW1 hW2 hW3 HS hq1 hq2 l1 l2
  go_wp2_with fail
  refine bodyPost_ret (v := .agg #[.int .i64 a, .int .i64 b, .int .i64 c, .int .i64 d, .int .i64 e, .int .i64 t, .int .i64 m]) (by simp [results, Tryz.results11, go_sem, r0, rf0, r1, rf1, r2, rf2, r3, rf3, r4, rf4, r5, rf5, r6, rf6, rl]) rfl ?_
  exact ⟨rfl, Below.setCell (Below.setCell (Below.setCell (Below.setCell (Below.setCell (Below.setCell (Below.setCell (B7.out) hge1 _) hge1 _) hge1 _) hge1 _) hge1 _) hge1 _) hge1 _⟩
end Go.Proofs.YtcjekailcljaaaaGreat
namespace Go.Proofs.YtcjekailcljaaaaGreat
open Go.ChangeShapes Go.WideShapes Go.ChangeAt Go.RowKit Go.Deep Go.Joins
set_option linter.unusedVariables false
set_option maxRecDepth 100000
set_option linter.unusedSimpArgs false
def allK (f : Nat → Bool) : Nat → Bool
  | 0 => true
  | k + 1 => allK f k && f k
theorem allK_succ (f : Nat → Bool) (k : Nat) : allK f (k + 1) = (allK f k && f k) := rfl
theorem allK_false (f : Nat → Bool) (n k : Nat) (h : k < n) (hf : f k = false) : allK f n = false := by
  induction n with
  | zero => omega
  | succ n ih =>
    rw [allK_succ]
    by_cases hk : k = n
    · subst hk; simp [hf]
    · rw [ih (by omega)]; rfl
theorem allK_true {f : Nat → Bool} {n : Nat} (h : allK f n = true) (k : Nat) (hk : k < n) : f k = true := by
  cases hf : f k with
  | true => rfl
  | false => rw [allK_false f n k hk hf] at h; cases h
theorem allK_intro {f : Nat → Bool} : ∀ {n : Nat}, (∀ k, k < n → f k = true) → allK f n = true
  | 0, _ => rfl
  | n + 1, h => by rw [allK_succ, allK_intro (fun k hk => h k (by omega)), h n (by omega)]; rfl
/-- element k is valid, and behind the one before it -/
def stepB {α : Type} (ok : α → Bool) (lt : α → α → Bool) (xs : List α) (k : Nat) : Bool :=
  match xs[k]? with
  | none => true
  | some x => ok x && (match k with
    | 0 => true
    | j + 1 => match xs[j]? with
      | none => true
      | some y => lt y x)
section
variable {α : Type} {ok : α → Bool} {lt : α → α → Bool} {xs : List α} {k : Nat}
theorem stepB_no (h : k < xs.length) (hO : ok xs[k] = false) : stepB ok lt xs k = false := by
  unfold stepB
  rw [List.getElem?_eq_getElem h]
  simp [hO]
theorem stepB_zero (h : 0 < xs.length) (hO : ok xs[0] = true) : stepB ok lt xs 0 = true := by
  unfold stepB
  rw [List.getElem?_eq_getElem h]
  simp [hO]
theorem stepB_k0 (h : k < xs.length) (h0 : k = 0) (hO : ok xs[k] = true) : stepB ok lt xs k = true := by
  subst h0; exact stepB_zero h hO
theorem stepB_pos (h : k < xs.length) (hp : 0 < k) (hO : ok xs[k] = true) : stepB ok lt xs k = lt xs[k - 1] xs[k] := by
  match k, hp with
  | j + 1, _ =>
    unfold stepB
    rw [List.getElem?_eq_getElem h]
    simp [hO, List.getElem?_eq_getElem (show j < xs.length by omega)]
theorem stepB_lt (h : k < xs.length) (hp : 0 < k) (hO : ok xs[k] = true) (hT : lt xs[k - 1] xs[k] = false) : stepB ok lt xs k = false := by rw [stepB_pos h hp hO, hT]
theorem stepB_yes (h : k < xs.length) (hp : 0 < k) (hO : ok xs[k] = true) (hT : lt xs[k - 1] xs[k] = true) : stepB ok lt xs k = true := by rw [stepB_pos h hp hO, hT]
end

theorem not_less : ∀ (a b : List UInt8), (!(Op.bytesLess b a)) = (Op.bytesLess a b || a == b)
  | [], [] => by simp [Op.bytesLess]
  | [], b :: y => by simp [Op.bytesLess]
  | a :: x, [] => by simp [Op.bytesLess]
  | a :: x, b :: y => by
    have ih := not_less x y
    simp only [Op.bytesLess]
    by_cases h1 : a < b
    · have h2 : ¬ b < a := fun h => by simp only [UInt8.lt_iff_toNat_lt] at h h1; omega
      have h3 : (b == a) = false := by
        rw [beq_eq_false_iff_ne]
        intro h
        subst h
        exact h2 h1
      simp [h1, h2, h3]
    · by_cases h2 : b < a
      · have h3 : (a == b) = false := by
          rw [beq_eq_false_iff_ne]
          intro h
          subst h
          exact h1 h2
        have h4 : a ≠ b := by simpa using h3
        simp [h1, h2, h3, h4]
      · have h3 : a = b := by
          apply UInt8.toNat_inj.1
          simp only [UInt8.lt_iff_toNat_lt] at h1 h2
          omega
        subst h3
        simp [h1, ih]
theorem less_irrefl : ∀ (a : List UInt8), Op.bytesLess a a = false
  | [] => rfl
  | a :: x => by simp [Op.bytesLess, less_irrefl x]
theorem less_trans : ∀ (a b c : List UInt8), Op.bytesLess a b = true → Op.bytesLess b c = true → Op.bytesLess a c = true
  | _, [], _, h, _ => by simp [Op.bytesLess] at h
  | _, _ :: _, [], _, h => by simp [Op.bytesLess] at h
  | [], _ :: _, _ :: _, _, _ => rfl
  | a :: x, b :: y, c :: z, h1, h2 => by
    simp only [Op.bytesLess, Bool.or_eq_true, Bool.and_eq_true, decide_eq_true_eq, beq_iff_eq] at h1 h2 ⊢
    simp only [UInt8.lt_iff_toNat_lt] at h1 h2 ⊢
    rcases h1 with h1 | ⟨rfl, h1⟩
    · rcases h2 with h2 | ⟨rfl, h2⟩
      · left; omega
      · left; exact h1
    · rcases h2 with h2 | ⟨rfl, h2⟩
      · left; exact h2
      · right; exact ⟨rfl, less_trans x y z h1 h2⟩
end Go.Proofs.YtcjekailcljaaaaGreat
namespace Go.Proofs.YtcjekailcljaaaaGreat
open Go.ChangeShapes Go.WideShapes Go.ChangeAt Go.RowKit Go.Deep Go.Joins
set_option linter.unusedVariables false
set_option maxRecDepth 100000
set_option linter.unusedSimpArgs false
/-- low to high -/
def inB (n lo hi : Int) : Bool := decide (lo ≤ n) && decide (n ≤ hi)
theorem inB_true {n lo hi : Int} (h : inB n lo hi = true) : lo ≤ n ∧ n ≤ hi := by simpa [inB] using h
theorem inB_false {n lo hi : Int} (h : inB n lo hi = false) : ¬ (lo ≤ n ∧ n ≤ hi) := by
  intro hc
  have : inB n lo hi = true := by simpa [inB] using hc
  rw [this] at h; cases h
theorem inB_mk {n lo hi : Int} (h : lo ≤ n ∧ n ≤ hi) : inB n lo hi = true := by simpa [inB] using h

theorem l00In (n lo hi : Int) (w : World) : Calls Tryz.prog 58 #[.int .i64 n, .int .i64 lo, .int .i64 hi] w fun e w' => e = .returned (.bool (inB n lo hi)) ∧ w = w' := by
  unfold inB
  go_enter Tryz.func58, Tryz.ntmps58
  go_wp2
  all_goals go_ret
  all_goals exact ⟨by first | (simp [*]; done) | (simp [*]; omega), rfl⟩

theorem within (n lo hi : Int) (w : World) : Calls Tryz.prog 74 #[.int .i64 n, .int .i64 lo, .int .i64 hi] w fun e w' => e = .returned (.bool (inB n lo hi)) ∧ w = w' := by
  unfold inB
  go_enter Tryz.func74, Tryz.ntmps74
  go_wp2
  all_goals go_ret
  all_goals exact ⟨by first | (simp [*]; done) | (simp [*]; omega), rfl⟩

theorem l00In_is {b : Bool} (n lo hi : Int) (w : World) (h : inB n lo hi = b) : Calls Tryz.prog 58 #[.int .i64 n, .int .i64 lo, .int .i64 hi] w fun e w' => e = .returned (.bool b) ∧ w = w' := by
  rw [← h]; exact l00In n lo hi w
theorem within_is {b : Bool} (n lo hi : Int) (w : World) (h : inB n lo hi = b) : Calls Tryz.prog 74 #[.int .i64 n, .int .i64 lo, .int .i64 hi] w fun e w' => e = .returned (.bool b) ∧ w = w' := by
  rw [← h]; exact within n lo hi w
end Go.Proofs.YtcjekailcljaaaaGreat
