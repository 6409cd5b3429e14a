/- Contracts and plain facts, joined: Steps, ChoiceS, HAlloy. -/
import Derived.Test.YtnbodmbagendnaaRows
import Derived.Test.YtnbodmbagendnaaZFnMetalA
import Derived.Test.YtnbodmbagendnaaZFnMetalC
import Derived.Test.YtnbodmbagendnaaZFnMetalE
import Derived.Test.YtnbodmbagendnaaZFnMetalG
namespace Go.Proofs.Ytnbodmbagendnaa
open Go.ChangeShapes Go.WideShapes Go.ChangeAt Go.RowKit Go.Deep Go.Joins
set_option linter.unusedVariables false
set_option maxRecDepth 100000
set_option linter.unusedSimpArgs false
def allK (f : Nat → Bool) : Nat → Bool
  | 0 => true
  | k + 1 => allK f k && f k
theorem allK_succ (f : Nat → Bool) (k : Nat) : allK f (k + 1) = (allK f k && f k) := rfl
theorem allK_false (f : Nat → Bool) (n k : Nat) (h : k < n) (hf : f k = false) : allK f n = false := by
  induction n with
  | zero => omega
  | succ n ih =>
    rw [allK_succ]
    by_cases hk : k = n
    · subst hk; simp [hf]
    · rw [ih (by omega)]; rfl
theorem allK_true {f : Nat → Bool} {n : Nat} (h : allK f n = true) (k : Nat) (hk : k < n) : f k = true := by
  cases hf : f k with
  | true => rfl
  | false => rw [allK_false f n k hk hf] at h; cases h
theorem allK_intro {f : Nat → Bool} : ∀ {n : Nat}, (∀ k, k < n → f k = true) → allK f n = true
  | 0, _ => rfl
  | n + 1, h => by rw [allK_succ, allK_intro (fun k hk => h k (by omega)), h n (by omega)]; rfl
/-- element k is valid, and behind the one before it -/
def stepB {α : Type} (ok : α → Bool) (lt : α → α → Bool) (xs : List α) (k : Nat) : Bool :=
  match xs[k]? with
  | none => true
  | some x => ok x && (match k with
    | 0 => true
    | j + 1 => match xs[j]? with
      | none => true
      | some y => lt y x)
section
variable {α : Type} {ok : α → Bool} {lt : α → α → Bool} {xs : List α} {k : Nat}
theorem stepB_no (h : k < xs.length) (hO : ok xs[k] = false) : stepB ok lt xs k = false := by
  unfold stepB
  rw [List.getElem?_eq_getElem h]
  simp [hO]
theorem stepB_zero (h : 0 < xs.length) (hO : ok xs[0] = true) : stepB ok lt xs 0 = true := by
  unfold stepB
  rw [List.getElem?_eq_getElem h]
  simp [hO]
theorem stepB_k0 (h : k < xs.length) (h0 : k = 0) (hO : ok xs[k] = true) : stepB ok lt xs k = true := by
  subst h0; exact stepB_zero h hO
theorem stepB_pos (h : k < xs.length) (hp : 0 < k) (hO : ok xs[k] = true) : stepB ok lt xs k = lt xs[k - 1] xs[k] := by
  match k, hp with
  | j + 1, _ =>
    unfold stepB
    rw [List.getElem?_eq_getElem h]
    simp [hO, List.getElem?_eq_getElem (show j < xs.length by omega)]
theorem stepB_lt (h : k < xs.length) (hp : 0 < k) (hO : ok xs[k] = true) (hT : lt xs[k - 1] xs[k] = false) : stepB ok lt xs k = false := by rw [stepB_pos h hp hO, hT]
theorem stepB_yes (h : k < xs.length) (hp : 0 < k) (hO : ok xs[k] = true) (hT : lt xs[k - 1] xs[k] = true) : stepB ok lt xs k = true := by rw [stepB_pos h hp hO, hT]
end

theorem not_less : ∀ (a b : List UInt8), (!(Op.bytesLess b a)) = (Op.bytesLess a b || a == b)
  | [], [] => by simp [Op.bytesLess]
  | [], b :: y => by simp [Op.bytesLess]
  | a :: x, [] => by simp [Op.bytesLess]
  | a :: x, b :: y => by
    have ih := not_less x y
    simp only [Op.bytesLess]
    by_cases h1 : a < b
    · have h2 : ¬ b < a := fun h => by simp only [UInt8.lt_iff_toNat_lt] at h h1; omega
      have h3 : (b == a) = false := by
        rw [beq_eq_false_iff_ne]
        intro h
        subst h
        exact h2 h1
      simp [h1, h2, h3]
    · by_cases h2 : b < a
      · have h3 : (a == b) = false := by
          rw [beq_eq_false_iff_ne]
          intro h
          subst h
          exact h1 h2
        have h4 : a ≠ b := by simpa using h3
        simp [h1, h2, h3, h4]
      · have h3 : a = b := by
          apply UInt8.toNat_inj.1
          simp only [UInt8.lt_iff_toNat_lt] at h1 h2
          omega
        subst h3
        simp [h1, ih]
theorem less_irrefl : ∀ (a : List UInt8), Op.bytesLess a a = false
  | [] => rfl
  | a :: x => by simp [Op.bytesLess, less_irrefl x]
theorem less_trans : ∀ (a b c : List UInt8), Op.bytesLess a b = true → Op.bytesLess b c = true → Op.bytesLess a c = true
  | _, [], _, h, _ => by simp [Op.bytesLess] at h
  | _, _ :: _, [], _, h => by simp [Op.bytesLess] at h
  | [], _ :: _, _ :: _, _, _ => rfl
  | a :: x, b :: y, c :: z, h1, h2 => by
    simp only [Op.bytesLess, Bool.or_eq_true, Bool.and_eq_true, decide_eq_true_eq, beq_iff_eq] at h1 h2 ⊢
    simp only [UInt8.lt_iff_toNat_lt] at h1 h2 ⊢
    rcases h1 with h1 | ⟨rfl, h1⟩
    · rcases h2 with h2 | ⟨rfl, h2⟩
      · left; omega
      · left; exact h1
    · rcases h2 with h2 | ⟨rfl, h2⟩
      · left; exact h2
      · right; exact ⟨rfl, less_trans x y z h1 h2⟩
end Go.Proofs.Ytnbodmbagendnaa
namespace Go.Proofs.Ytnbodmbagendnaa
open Go.ChangeShapes Go.WideShapes Go.ChangeAt Go.RowKit Go.Deep Go.Joins
set_option linter.unusedVariables false
set_option maxRecDepth 100000
set_option linter.unusedSimpArgs false
def okC (n : Nat) (c : Int) : Bool := inB c 0 ((n : Int) - 1)
def ltC (a b : Int) : Bool := decide (a < b)
def choiceB (n : Nat) (cs : List Int) : Bool := allK (stepB (okC n) ltC cs) cs.length
theorem okC_true {n : Nat} {c : Int} (h : okC n c = true) : 0 ≤ c ∧ c ≤ (n : Int) - 1 := inB_true h
theorem choice_rises {n : Nat} {cs : List Int} (h : choiceB n cs = true) (k : Nat) (hk : k < cs.length) : okC n cs[k] = true := by
  have := allK_true h k hk
  unfold stepB at this
  rw [List.getElem?_eq_getElem hk] at this
  simp only [Bool.and_eq_true] at this
  exact this.1
theorem choice_less {n : Nat} {cs : List Int} (h : choiceB n cs = true) (k : Nat) (hk : k + 1 < cs.length) : cs[k] < cs[k + 1] := by
  have h1 := allK_true h (k + 1) hk
  rw [stepB_pos hk (by omega) (choice_rises h (k + 1) hk)] at h1
  simpa [ltC] using h1
theorem choice_ge {n : Nat} {cs : List Int} (h : choiceB n cs = true) : ∀ (k : Nat) (hk : k < cs.length), (k : Int) ≤ cs[k]
  | 0, hk => by have := okC_true (choice_rises h 0 hk); omega
  | k + 1, hk => by
    have h1 := choice_ge h k (by omega)
    have h2 := choice_less h k hk
    omega
theorem choice_len {n : Nat} {cs : List Int} (h : choiceB n cs = true) : cs.length ≤ n := by
  rcases Nat.eq_zero_or_pos cs.length with h0 | h0
  · omega
  · have h1 := choice_ge h (cs.length - 1) (by omega)
    have h2 := okC_true (choice_rises h (cs.length - 1) (by omega))
    omega
theorem choice_at {n : Nat} {cs : List Int} (h : choiceB n cs = true) (k : Nat) (hk : k < cs.length) : ∃ j : Nat, cs[k] = (j : Int) ∧ j < n := by
  have := okC_true (choice_rises h k hk)
  exact ⟨cs[k].toNat, by omega, by omega⟩

/-- a sum over chosen ingots -/
def sumK (f : Ingot → Int) (xs : List Ingot) (cs : List Int) : Int := (cs.map fun c => (xs[c.toNat]?).elim 0 f).sum
theorem sumK_succ (f : Ingot → Int) (xs : List Ingot) (cs : List Int) (k : Nat) (hk : k < cs.length) (j : Nat) (hj : cs[k] = (j : Int)) (hl : j < xs.length) : sumK f xs (cs.take (k + 1)) = sumK f xs (cs.take k) + f xs[j] := by
  unfold sumK
  rw [List.take_succ_eq_append_getElem hk, List.map_append, List.sum_append, hj]
  simp [List.getElem?_eq_getElem hl]
theorem sumK_bd (f : Ingot → Int) (xs : List Ingot) (m : Int) (hm : 0 ≤ m) (hf : ∀ x ∈ xs, 0 ≤ f x ∧ f x ≤ m) : ∀ (cs : List Int), 0 ≤ sumK f xs cs ∧ sumK f xs cs ≤ cs.length * m
  | [] => by simp [sumK]
  | c :: cs => by
    have ih := sumK_bd f xs m hm hf cs
    have h1 : 0 ≤ (xs[c.toNat]?).elim 0 f ∧ (xs[c.toNat]?).elim 0 f ≤ m := by
      cases h : xs[c.toNat]? with
      | none => simp [hm]
      | some x => exact hf x (List.mem_of_getElem? h)
    have e : sumK f xs (c :: cs) = (xs[c.toNat]?).elim 0 f + sumK f xs cs := by simp [sumK]
    have e2 : (((c :: cs).length : Nat) : Int) * m = cs.length * m + m := by
      rw [List.length_cons]; push_cast; rw [Int.add_mul]; omega
    rw [e, e2]; omega
def massF (x : Ingot) : Int := x.mass
def tinF (x : Ingot) : Int := x.mass * x.alloy.tin
def otherF (x : Ingot) : Int := x.mass * x.alloy.other
theorem part_bd (m t : Int) (h1 : 1 ≤ m ∧ m ≤ 20000000) (h2 : 0 ≤ t ∧ t ≤ 1000000) : 0 ≤ m * t ∧ m * t ≤ 20000000000000 := by
  refine ⟨Int.mul_nonneg (by omega) (by omega), ?_⟩
  have := Int.mul_le_mul h1.2 h2.2 h2.1 (by omega)
  omega
theorem ingotB_nums {x : Ingot} (h : ingotB x = true) : (1 ≤ x.mass ∧ x.mass ≤ 20000000) ∧ (0 ≤ x.alloy.tin ∧ x.alloy.tin ≤ 1000000) ∧ (0 ≤ x.alloy.other ∧ x.alloy.other ≤ 1000000) := by
  simp only [ingotB, Bool.and_eq_true, alloyB] at h
  exact ⟨inB_true h.2.1, inB_true h.2.2.2.1, inB_true h.2.2.2.2.1⟩
theorem sum_len {cs : List Int} {k : Nat} (hc : cs.length ≤ 16) (b m S : Int) (hS : S ≤ ((cs.take k).length : Nat) * m) (hm : 0 ≤ m) (hb : 16 * m ≤ b) : S ≤ b := by
  have h1 : ((cs.take k).length : Int) ≤ 16 := by have := List.length_take_le k cs; have : (cs.take k).length ≤ cs.length := by rw [List.length_take]; omega
                                                  omega
  have h2 : ((cs.take k).length : Int) * m ≤ 16 * m := Int.mul_le_mul_of_nonneg_right h1 hm
  omega
theorem massF_bd {xs : List Ingot} (hv : ∀ x ∈ xs, ingotB x = true) {cs : List Int} (hc : cs.length ≤ 16) (k : Nat) : 0 ≤ sumK massF xs (cs.take k) ∧ sumK massF xs (cs.take k) ≤ 320000000 := by
  have h := sumK_bd massF xs 20000000 (by omega) (fun x hx => by have := (ingotB_nums (hv x hx)).1; unfold massF; omega) (cs.take k)
  exact ⟨h.1, sum_len hc _ _ _ h.2 (by omega) (by omega)⟩
theorem tinF_bd {xs : List Ingot} (hv : ∀ x ∈ xs, ingotB x = true) {cs : List Int} (hc : cs.length ≤ 16) (k : Nat) : 0 ≤ sumK tinF xs (cs.take k) ∧ sumK tinF xs (cs.take k) ≤ 320000000000000 := by
  have h := sumK_bd tinF xs 20000000000000 (by omega) (fun x hx => by have := ingotB_nums (hv x hx); exact part_bd _ _ this.1 this.2.1) (cs.take k)
  exact ⟨h.1, sum_len hc _ _ _ h.2 (by omega) (by omega)⟩
theorem otherF_bd {xs : List Ingot} (hv : ∀ x ∈ xs, ingotB x = true) {cs : List Int} (hc : cs.length ≤ 16) (k : Nat) : 0 ≤ sumK otherF xs (cs.take k) ∧ sumK otherF xs (cs.take k) ≤ 320000000000000 := by
  have h := sumK_bd otherF xs 20000000000000 (by omega) (fun x hx => by have := ingotB_nums (hv x hx); exact part_bd _ _ this.1 this.2.2) (cs.take k)
  exact ⟨h.1, sum_len hc _ _ _ h.2 (by omega) (by omega)⟩
theorem take_all {α : Type} {cs : List α} {k : Nat} (h : cs.length ≤ k) : cs.take k = cs := List.take_of_length_le h
/-- the mass of a choice that is not empty is not 0 -/
theorem mass_pos {xs : List Ingot} (hv : ∀ x ∈ xs, ingotB x = true) {cs : List Int} (hc : choiceB xs.length cs = true) (h0 : 0 < cs.length) : 1 ≤ sumK massF xs cs := by
  obtain ⟨j, hj, hl⟩ := choice_at hc 0 h0
  have hs := sumK_succ massF xs cs 0 h0 j hj hl
  have h1 := (ingotB_nums (hv xs[j] (List.getElem_mem hl))).1
  have hr : sumK massF xs cs = sumK massF xs (cs.take 1) + sumK massF xs (cs.drop 1) := by
    unfold sumK; rw [← List.sum_append, ← List.map_append, List.take_append_drop]
  have h2 := (sumK_bd massF xs 20000000 (by omega) (fun x hx => by have := (ingotB_nums (hv x hx)).1; unfold massF; omega) (cs.drop 1)).1
  have e0 : sumK massF xs (cs.take 0) = 0 := rfl
  have e1 : massF xs[j] = xs[j].mass := rfl
  rw [hr, hs, e0, e1]; omega

def fitsB (d : Demand) (m t o : Int) : Bool := inB m d.least d.most && (inB t (d.minTin * m) (d.maxTin * m) && decide (o ≤ d.other * m))
end Go.Proofs.Ytnbodmbagendnaa
namespace Go.Proofs.Ytnbodmbagendnaa
open Go.ChangeShapes Go.WideShapes Go.ChangeAt Go.RowKit Go.Deep Go.Joins
set_option linter.unusedVariables false
set_option maxRecDepth 100000
set_option linter.unusedSimpArgs false
theorem eqAlloy (x : Alloy) (w : World) : Calls Try.prog 137 #[.agg #[.int .i64 x.copper, .int .i64 x.tin, .int .i64 x.other], .agg #[.int .i64 x.copper, .int .i64 x.tin, .int .i64 x.other]] w fun e w' => e = .returned (.bool true) ∧ Below w.heap.size w w' := by
  go_enter Try.func137, Try.ntmps137
  repeat (go_wp2_with fail; go_quiet (fail))
  go_wp2_with fail
  go_ret
  exact ⟨rfl, by (repeat' (first | (with_reducible exact Below.refl _ _) | (with_reducible assumption) | (with_reducible refine below_dn ?_ _) | (with_reducible refine Below.drew ?_) | (with_reducible refine Below.alloc ?_ ?_ _) | (with_reducible refine Below.setCell ?_ ?_ _) | go_size))⟩
end Go.Proofs.Ytnbodmbagendnaa
