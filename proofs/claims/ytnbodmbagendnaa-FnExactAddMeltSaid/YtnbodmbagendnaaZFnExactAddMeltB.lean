/- Contracts and plain facts, joined: Steps, AtB, Words, HMelt, In, Name, NameIs, VMelt, CmpStr. -/
import Derived.Test.YtnbodmbagendnaaRows
import Derived.Test.YtnbodmbagendnaaZFnExactAddMeltA
import Derived.WalkLawsBesides
namespace Go.Proofs.Ytnbodmbagendnaa
open Go.ChangeShapes Go.WideShapes Go.ChangeAt Go.RowKit Go.Deep Go.Joins
set_option linter.unusedVariables false
set_option maxRecDepth 100000
set_option linter.unusedSimpArgs false
def allK (f : Nat → Bool) : Nat → Bool
  | 0 => true
  | k + 1 => allK f k && f k
theorem allK_succ (f : Nat → Bool) (k : Nat) : allK f (k + 1) = (allK f k && f k) := rfl
theorem allK_false (f : Nat → Bool) (n k : Nat) (h : k < n) (hf : f k = false) : allK f n = false := by
  induction n with
  | zero => omega
  | succ n ih =>
    rw [allK_succ]
    by_cases hk : k = n
    · subst hk; simp [hf]
    · rw [ih (by omega)]; rfl
theorem allK_true {f : Nat → Bool} {n : Nat} (h : allK f n = true) (k : Nat) (hk : k < n) : f k = true := by
  cases hf : f k with
  | true => rfl
  | false => rw [allK_false f n k hk hf] at h; cases h
theorem allK_intro {f : Nat → Bool} : ∀ {n : Nat}, (∀ k, k < n → f k = true) → allK f n = true
  | 0, _ => rfl
  | n + 1, h => by rw [allK_succ, allK_intro (fun k hk => h k (by omega)), h n (by omega)]; rfl
/-- element k is valid, and behind the one before it -/
def stepB {α : Type} (ok : α → Bool) (lt : α → α → Bool) (xs : List α) (k : Nat) : Bool :=
  match xs[k]? with
  | none => true
  | some x => ok x && (match k with
    | 0 => true
    | j + 1 => match xs[j]? with
      | none => true
      | some y => lt y x)
section
variable {α : Type} {ok : α → Bool} {lt : α → α → Bool} {xs : List α} {k : Nat}
theorem stepB_no (h : k < xs.length) (hO : ok xs[k] = false) : stepB ok lt xs k = false := by
  unfold stepB
  rw [List.getElem?_eq_getElem h]
  simp [hO]
theorem stepB_zero (h : 0 < xs.length) (hO : ok xs[0] = true) : stepB ok lt xs 0 = true := by
  unfold stepB
  rw [List.getElem?_eq_getElem h]
  simp [hO]
theorem stepB_k0 (h : k < xs.length) (h0 : k = 0) (hO : ok xs[k] = true) : stepB ok lt xs k = true := by
  subst h0; exact stepB_zero h hO
theorem stepB_pos (h : k < xs.length) (hp : 0 < k) (hO : ok xs[k] = true) : stepB ok lt xs k = lt xs[k - 1] xs[k] := by
  match k, hp with
  | j + 1, _ =>
    unfold stepB
    rw [List.getElem?_eq_getElem h]
    simp [hO, List.getElem?_eq_getElem (show j < xs.length by omega)]
theorem stepB_lt (h : k < xs.length) (hp : 0 < k) (hO : ok xs[k] = true) (hT : lt xs[k - 1] xs[k] = false) : stepB ok lt xs k = false := by rw [stepB_pos h hp hO, hT]
theorem stepB_yes (h : k < xs.length) (hp : 0 < k) (hO : ok xs[k] = true) (hT : lt xs[k - 1] xs[k] = true) : stepB ok lt xs k = true := by rw [stepB_pos h hp hO, hT]
end

theorem not_less : ∀ (a b : List UInt8), (!(Op.bytesLess b a)) = (Op.bytesLess a b || a == b)
  | [], [] => by simp [Op.bytesLess]
  | [], b :: y => by simp [Op.bytesLess]
  | a :: x, [] => by simp [Op.bytesLess]
  | a :: x, b :: y => by
    have ih := not_less x y
    simp only [Op.bytesLess]
    by_cases h1 : a < b
    · have h2 : ¬ b < a := fun h => by simp only [UInt8.lt_iff_toNat_lt] at h h1; omega
      have h3 : (b == a) = false := by
        rw [beq_eq_false_iff_ne]
        intro h
        subst h
        exact h2 h1
      simp [h1, h2, h3]
    · by_cases h2 : b < a
      · have h3 : (a == b) = false := by
          rw [beq_eq_false_iff_ne]
          intro h
          subst h
          exact h1 h2
        have h4 : a ≠ b := by simpa using h3
        simp [h1, h2, h3, h4]
      · have h3 : a = b := by
          apply UInt8.toNat_inj.1
          simp only [UInt8.lt_iff_toNat_lt] at h1 h2
          omega
        subst h3
        simp [h1, ih]
theorem less_irrefl : ∀ (a : List UInt8), Op.bytesLess a a = false
  | [] => rfl
  | a :: x => by simp [Op.bytesLess, less_irrefl x]
theorem less_trans : ∀ (a b c : List UInt8), Op.bytesLess a b = true → Op.bytesLess b c = true → Op.bytesLess a c = true
  | _, [], _, h, _ => by simp [Op.bytesLess] at h
  | _, _ :: _, [], _, h => by simp [Op.bytesLess] at h
  | [], _ :: _, _ :: _, _, _ => rfl
  | a :: x, b :: y, c :: z, h1, h2 => by
    simp only [Op.bytesLess, Bool.or_eq_true, Bool.and_eq_true, decide_eq_true_eq, beq_iff_eq] at h1 h2 ⊢
    simp only [UInt8.lt_iff_toNat_lt] at h1 h2 ⊢
    rcases h1 with h1 | ⟨rfl, h1⟩
    · rcases h2 with h2 | ⟨rfl, h2⟩
      · left; omega
      · left; exact h1
    · rcases h2 with h2 | ⟨rfl, h2⟩
      · left; exact h2
      · right; exact ⟨rfl, less_trans x y z h1 h2⟩
end Go.Proofs.Ytnbodmbagendnaa
namespace Go.Proofs.Ytnbodmbagendnaa
open Go.ChangeShapes Go.WideShapes Go.ChangeAt Go.RowKit Go.Deep Go.Joins
set_option linter.unusedVariables false
set_option maxRecDepth 100000
set_option linter.unusedSimpArgs false
/-- element k of both -/
def atB {α : Type} (f : α → α → Bool) (xs ys : List α) (k : Nat) : Bool :=
  match xs[k]?, ys[k]? with
  | some x, some y => f x y
  | _, _ => true
theorem atB_eq {α : Type} {f : α → α → Bool} {xs ys : List α} {k : Nat} (h : k < xs.length) (h2 : k < ys.length) : atB f xs ys k = f xs[k] ys[k] := by
  unfold atB
  rw [List.getElem?_eq_getElem h, List.getElem?_eq_getElem h2]
def strEq (x y : ByteArray) : Bool := x.toList == y.toList
theorem strEq_t {x y : ByteArray} (h : strEq x y = true) : (x.toList == y.toList) = true := h
theorem strEq_f {x y : ByteArray} (h : strEq x y = false) : (x.toList == y.toList) = false := h
theorem strEq_nt {x y : ByteArray} (h : strEq x y = true) : (!(x.toList == y.toList)) = false := by unfold strEq at h; rw [h]; rfl
theorem strEq_nf {x y : ByteArray} (h : strEq x y = false) : (!(x.toList == y.toList)) = true := by unfold strEq at h; rw [h]; rfl
/-- the same as lists of texts -/
def wordsS (xs ys : List ByteArray) : Bool := decide (xs.length = ys.length) && allK (atB strEq xs ys) xs.length
end Go.Proofs.Ytnbodmbagendnaa
namespace Go.Proofs.Ytnbodmbagendnaa
open Go.ChangeShapes Go.WideShapes Go.ChangeAt Go.RowKit Go.Deep Go.Joins
set_option linter.unusedVariables false
set_option maxRecDepth 100000
set_option linter.unusedSimpArgs false

end Go.Proofs.Ytnbodmbagendnaa
namespace Go.Proofs.Ytnbodmbagendnaa
open Go.ChangeShapes Go.WideShapes Go.ChangeAt Go.RowKit Go.Deep Go.Joins
set_option linter.unusedVariables false
set_option maxRecDepth 100000
set_option linter.unusedSimpArgs false
def Melt.val (x : Melt) : Value := .agg #[.string x.id, x.list, .int .i64 x.mass]

theorem toMelt (x : Melt) (w : World) (h : Rd w.heap.size w x.list 1 x.ingots.length (x.ingots.flatMap putStr)) (hn : x.ingots.length ≤ 1048576) :
    Calls Try.prog 29 #[.agg #[.string x.id, x.list, .int .i64 x.mass]] w fun e w' => ∃ g, e = .returned (.agg #[.string x.id, .slice (some ⟨g, 0, none⟩) x.ingots.length x.ingots.length, .int .i64 x.mass]) ∧ w.heap.size ≤ g ∧ Own w' g 9 (x.ingots.flatMap putStr) ∧ Below w.heap.size w w' := by
  have H := Lib.hid h; clear h
  go_enter Try.func29, Try.ntmps29
  go_wp2_with fail
  refine (toStringS _ _ x.ingots (by exact H.out.up (by (repeat' (first | (with_reducible exact Below.refl _ _) | (with_reducible assumption) | (with_reducible refine below_dn ?_ _) | (with_reducible refine Below.drew ?_) | (with_reducible refine Below.alloc ?_ ?_ _) | (with_reducible refine Below.setCell ?_ ?_ _) | go_size)))) hn).mono ?_; rintro e w1 ⟨g, rfl, hg, o1, b1⟩
  obtain ⟨hc, hf⟩ := bcell b1
  have O1 := Lib.hid o1; clear o1
  have M : Own w1 (w.heap.size + 1) 63 [.string ⟨#[]⟩, .slice none 0 0, .int .i64 0] := by
    refine Own.below (Own.alloc ?_ _) b1 (by simp)
    have e1 : (w.alloc (Obj.cells #[Value.string x.id, x.list, Value.int IntKind.i64 x.mass] 53)).heap.size = w.heap.size + 1 := by simp
    rw [← e1]
    exact Own.new _ _ [.string ⟨#[]⟩, .slice none 0 0, .int .i64 0]
  have c10 : w1.cell? ⟨w.heap.size + 1, 0, none⟩ = some (.string ⟨#[]⟩) := M.cell 0
  have c11 : w1.cell? ⟨w.heap.size + 1, 1, none⟩ = some (.slice none 0 0) := M.cell 1
  have c12 : w1.cell? ⟨w.heap.size + 1, 2, none⟩ = some (.int .i64 0) := M.cell 2
  have HB := Lib.hid b1; clear b1
  have HG := Lib.hid hg; clear hg
  go_wp2_with fail
  clear hc hf c10 c11 c12
  refine bodyPost_ret (v := .agg #[.string x.id, .slice (some ⟨g, 0, none⟩) x.ingots.length x.ingots.length, .int .i64 x.mass]) ?_ rfl ?_
  · have M2 := ((((((M.other (a := ⟨w.heap.size + 1 + 1, 1, none⟩) (by simp) (Value.slice (some ⟨g, 0, none⟩) x.ingots.length x.ingots.length)).other (a := ⟨w.heap.size + 1 + 1, 2, none⟩) (by simp) (Value.int .i64 x.mass)).set 0 (.string x.id)).set 1 (Value.slice (some ⟨g, 0, none⟩) x.ingots.length x.ingots.length)).set 2 (Value.int .i64 x.mass)))
    have d0 := M2.cell 0
    have d1 := M2.cell 1
    have d2 := M2.cell 2
    simp only [List.set, List.getElem?_cons_zero, List.getElem?_cons_succ] at d0 d1 d2
    clear M M2 HB O1
    simp [results, Try.results29, go_sem, d0, d1, d2]
  · refine ⟨g, rfl, ?_, ?_, ?_⟩
    · have := HG.out; simp at this; omega
    · have := HG.out
      simp at this
      exact ((((O1.out.other (by simp; omega) _).other (by simp; omega) _).other (by simp; omega) _).other (by simp; omega) _).other (by simp; omega) _
    · refine Below.setCell (Below.setCell (Below.setCell (Below.setCell (Below.setCell (Below.trans ?_ (HB.out.mono (by simp; omega))) ?_ _) ?_ _) ?_ _) ?_ _) ?_ _
      all_goals first | (simp; done) | (simp; omega) | (repeat' (first | (with_reducible exact Below.refl _ _) | (with_reducible assumption) | (with_reducible refine below_dn ?_ _) | (with_reducible refine Below.drew ?_) | (with_reducible refine Below.alloc ?_ ?_ _) | (with_reducible refine Below.setCell ?_ ?_ _) | go_size))

theorem eqMelt (x : Melt) (l1 l2 : Value) (w : World) (h1 : Rd w.heap.size w l1 1 x.ingots.length (x.ingots.flatMap putStr)) (h2 : Rd w.heap.size w l2 1 x.ingots.length (x.ingots.flatMap putStr)) (hn : x.ingots.length ≤ 1048576) :
    Calls Try.prog 33 #[.agg #[.string x.id, l1, .int .i64 x.mass], .agg #[.string x.id, l2, .int .i64 x.mass]] w fun e w' => e = .returned (.bool true) ∧ Below w.heap.size w w' := by
  have H1 := Lib.hid h1; clear h1
  have H2 := Lib.hid h2; clear h2
  go_enter Try.func33, Try.ntmps33
  go_wp2_with fail
  refine (eqStringS _ _ _ _ _ x.ingots (by exact H1.out.below (by (repeat' (first | (with_reducible exact Below.refl _ _) | (with_reducible assumption) | (with_reducible refine below_dn ?_ _) | (with_reducible refine Below.drew ?_) | (with_reducible refine Below.alloc ?_ ?_ _) | (with_reducible refine Below.setCell ?_ ?_ _) | go_size)))) (by exact H2.out.below (by (repeat' (first | (with_reducible exact Below.refl _ _) | (with_reducible assumption) | (with_reducible refine below_dn ?_ _) | (with_reducible refine Below.drew ?_) | (with_reducible refine Below.alloc ?_ ?_ _) | (with_reducible refine Below.setCell ?_ ?_ _) | go_size)))) hn).mono ?_; rintro e w1 ⟨rfl, n, rfl⟩
  go_wp2_with fail
  go_ret
  exact ⟨rfl, by (repeat' (first | (with_reducible exact Below.refl _ _) | (with_reducible assumption) | (with_reducible refine below_dn ?_ _) | (with_reducible refine Below.drew ?_) | (with_reducible refine Below.alloc ?_ ?_ _) | (with_reducible refine Below.setCell ?_ ?_ _) | go_size))⟩

theorem szMelt (x : Melt) (left : Int) (w : World) (h : x.ok w) (h0 : 0 ≤ left) (h1 : left ≤ 1048576) :
    Calls Try.prog 25 #[.agg #[.string x.id, x.list, .int .i64 x.mass], .int .i64 left] w fun e w' => e = .returned (.int .i64 (szR left (x.id.size + (x.ingots.length + wtStr x.ingots)))) ∧ Below w.heap.size w w' := by
  obtain ⟨hi, ⟨hr, hl, hs⟩, _⟩ := h
  have hi2 := hi
  unfold maxLen at hi2
  have HR := Lib.hid hr; clear hr
  have HS := Lib.hid hs; clear hs
  by_cases hq : (x.id.size : Int) ≤ left
  case neg =>
    have e : Hid (szR left (x.id.size + (x.ingots.length + wtStr x.ingots)) = -1) := (if_neg (by omega) : szR left (x.id.size + (x.ingots.length + wtStr x.ingots)) = -1)
    go_enter Try.func25, Try.ntmps25
    go_wp2
    go_ret
    exact ⟨by rw [e.out]; rfl, by (repeat' (first | (with_reducible exact Below.refl _ _) | (with_reducible assumption) | (with_reducible refine below_dn ?_ _) | (with_reducible refine Below.drew ?_) | (with_reducible refine Below.alloc ?_ ?_ _) | (with_reducible refine Below.setCell ?_ ?_ _) | go_size))⟩
  have es : Hid (szR (left - x.id.size) (x.ingots.length + wtStr x.ingots) = szR left (x.id.size + (x.ingots.length + wtStr x.ingots))) := (by
    unfold szR
    by_cases hz : ((x.ingots.length + wtStr x.ingots : Nat) : Int) ≤ left - x.id.size
    · rw [if_pos hz, if_pos (by push_cast at *; omega)]; push_cast; omega
    · rw [if_neg hz, if_neg (by push_cast at *; omega)] : szR (left - x.id.size) (x.ingots.length + wtStr x.ingots) = szR left (x.id.size + (x.ingots.length + wtStr x.ingots)))
  generalize hZ : szR left (x.id.size + (x.ingots.length + wtStr x.ingots)) = z at es
  have hzr : -1 ≤ z ∧ z ≤ left := by
    rw [← hZ]; unfold szR; split <;> omega
  clear hZ
  rcases (show z = -1 ∨ 0 ≤ z by omega) with rfl | hz0
  all_goals
    go_enter Try.func25, Try.ntmps25
    go_wp2_with fail
    refine (szStringS w.heap.size _ _ x.ingots _ (by exact HR.out.below (by (repeat' (first | (with_reducible exact Below.refl _ _) | (with_reducible assumption) | (with_reducible refine below_dn ?_ _) | (with_reducible refine Below.drew ?_) | (with_reducible refine Below.alloc ?_ ?_ _) | (with_reducible refine Below.setCell ?_ ?_ _) | go_size)))) hl HS.out (by omega) (by omega)).mono ?_; rw [es.out]; rintro e w1 ⟨rfl, rfl⟩
    go_wp2_with fail
    go_ret
    exact ⟨rfl, by (repeat' (first | (with_reducible exact Below.refl _ _) | (with_reducible assumption) | (with_reducible refine below_dn ?_ _) | (with_reducible refine Below.drew ?_) | (with_reducible refine Below.alloc ?_ ?_ _) | (with_reducible refine Below.setCell ?_ ?_ _) | go_size))⟩
end Go.Proofs.Ytnbodmbagendnaa
namespace Go.Proofs.Ytnbodmbagendnaa
open Go.ChangeShapes Go.WideShapes Go.ChangeAt Go.RowKit Go.Deep Go.Joins
set_option linter.unusedVariables false
set_option maxRecDepth 100000
set_option linter.unusedSimpArgs false
/-- low to high -/
def inB (n lo hi : Int) : Bool := decide (lo ≤ n) && decide (n ≤ hi)
theorem inB_true {n lo hi : Int} (h : inB n lo hi = true) : lo ≤ n ∧ n ≤ hi := by simpa [inB] using h
theorem inB_false {n lo hi : Int} (h : inB n lo hi = false) : ¬ (lo ≤ n ∧ n ≤ hi) := by
  intro hc
  have : inB n lo hi = true := by simpa [inB] using hc
  rw [this] at h; cases h
theorem inB_mk {n lo hi : Int} (h : lo ≤ n ∧ n ≤ hi) : inB n lo hi = true := by simpa [inB] using h

theorem l00In (n lo hi : Int) (w : World) : Calls Try.prog 119 #[.int .i64 n, .int .i64 lo, .int .i64 hi] w fun e w' => e = .returned (.bool (inB n lo hi)) ∧ w = w' := by
  unfold inB
  go_enter Try.func119, Try.ntmps119
  go_wp2
  all_goals go_ret
  all_goals exact ⟨by first | (simp [*]; done) | (simp [*]; omega), rfl⟩

theorem within (n lo hi : Int) (w : World) : Calls Try.prog 56 #[.int .i64 n, .int .i64 lo, .int .i64 hi] w fun e w' => e = .returned (.bool (inB n lo hi)) ∧ w = w' := by
  unfold inB
  go_enter Try.func56, Try.ntmps56
  go_wp2
  all_goals go_ret
  all_goals exact ⟨by first | (simp [*]; done) | (simp [*]; omega), rfl⟩

theorem l00In_is {b : Bool} (n lo hi : Int) (w : World) (h : inB n lo hi = b) : Calls Try.prog 119 #[.int .i64 n, .int .i64 lo, .int .i64 hi] w fun e w' => e = .returned (.bool b) ∧ w = w' := by
  rw [← h]; exact l00In n lo hi w
theorem within_is {b : Bool} (n lo hi : Int) (w : World) (h : inB n lo hi = b) : Calls Try.prog 56 #[.int .i64 n, .int .i64 lo, .int .i64 hi] w fun e w' => e = .returned (.bool b) ∧ w = w' := by
  rw [← h]; exact within n lo hi w
end Go.Proofs.Ytnbodmbagendnaa
namespace Go.Proofs.Ytnbodmbagendnaa
open Go.ChangeShapes Go.WideShapes Go.ChangeAt Go.RowKit Go.Deep Go.Joins
set_option linter.unusedVariables false
set_option maxRecDepth 100000
set_option linter.unusedSimpArgs false
def smallC (c : UInt8) : Bool := inB c.toNat 97 122
def digitC (c : UInt8) : Bool := inB c.toNat 48 57
def restC (c : UInt8) : Bool := smallC c || digitC c
def nameL (l : List UInt8) : Bool := decide (1 ≤ l.length) && (decide (l.length ≤ 10) && (l.head?.any smallC && l.all restC))
def nameB (s : ByteArray) : Bool := nameL s.data.toList

theorem take_snocB (s : ByteArray) (k : Nat) (h : k < s.size) : s.data.toList.take (k + 1) = s.data.toList.take k ++ [s[k]] := by
  rw [List.take_succ_eq_append_getElem (by simpa using h)]; rfl
theorem all_snocB (s : ByteArray) (k : Nat) (h : k < s.size) : (s.data.toList.take (k + 1)).all restC = ((s.data.toList.take k).all restC && restC s[k]) := by
  rw [take_snocB s k h, List.all_append]; simp
theorem all_falseB (s : ByteArray) (k : Nat) (h : k < s.size) (hc : restC s[k] = false) : s.data.toList.all restC = false := by
  rw [List.all_eq_false]
  exact ⟨s[k], by simp [ByteArray.getElem_eq_getElem_data], by simp [hc]⟩
theorem headB (s : ByteArray) (h : 0 < s.size) : s.data.toList.head? = some s[0] := by
  rw [List.head?_eq_getElem?, List.getElem?_eq_getElem (by simpa using h)]; rfl

theorem spec_l01Small (n : Int) (w : World) : Calls Try.prog 147 #[.int .u8 n] w fun e w' => e = .returned (.bool (inB n 97 122)) ∧ w = w' := by
  unfold inB
  go_enter Try.func147, Try.ntmps147
  go_wp2
  all_goals go_ret
  all_goals exact ⟨by first | (simp [*]; done) | (simp [*]; omega), rfl⟩
theorem spec_l01Digit (n : Int) (w : World) : Calls Try.prog 148 #[.int .u8 n] w fun e w' => e = .returned (.bool (inB n 48 57)) ∧ w = w' := by
  unfold inB
  go_enter Try.func148, Try.ntmps148
  go_wp2
  all_goals go_ret
  all_goals exact ⟨by first | (simp [*]; done) | (simp [*]; omega), rfl⟩
theorem spec_l01Small_is {b : Bool} (n : Int) (w : World) (h : inB n 97 122 = b) : Calls Try.prog 147 #[.int .u8 n] w fun e w' => e = .returned (.bool b) ∧ w = w' := by
  rw [← h]; exact spec_l01Small n w
theorem spec_l01Digit_is {b : Bool} (n : Int) (w : World) (h : inB n 48 57 = b) : Calls Try.prog 148 #[.int .u8 n] w fun e w' => e = .returned (.bool b) ∧ w = w' := by
  rw [← h]; exact spec_l01Digit n w

/-- the world behind '[]byte(s)' -/
def convW (w : World) (e : TypeId) (s : ByteArray) : World := w.drew.alloc (.cells (bytesRow s (grownCap w s.size 0 e)) e ((bytesRow s (grownCap w s.size 0 e)).size, (bytesRow s (grownCap w s.size 0 e)).size + 1))
theorem convW_run {P : Program} (w : World) (src dst e : TypeId) (s : ByteArray) (hs : P.underlying src = some .string) (hd : P.underlying dst = some (.slice e)) (he : P.underlying e = some (.int .u8)) :
    (Go.convert src dst (.string s)).run P w = .ok (.slice (some ⟨w.heap.size, 0, none⟩) s.size (grownCap w s.size 0 e)) (convW w e s) := run_bytes_of_string w src dst e s hs hd he
theorem convW_below (w : World) (e : TypeId) (s : ByteArray) : Below w.heap.size w (convW w e s) := ((Below.refl _ _).drew).alloc (Nat.le_refl _) _
theorem convW_size (w : World) (e : TypeId) (s : ByteArray) : (convW w e s).heap.size = w.heap.size + 1 := by
  unfold convW
  simp
theorem convW_cell (w : World) (e : TypeId) (s : ByteArray) (k : Nat) (h : k < s.size) : (convW w e s).cell? ⟨w.heap.size, k, none⟩ = some (.int .u8 s[k].toNat) := by
  have hk : k < s.data.size := h
  have hb := bytesRow_at s (grownCap w s.size 0 e) k hk
  have hh : (convW w e s).heap[w.heap.size]? = some (.cells (bytesRow s (grownCap w s.size 0 e)) e ((bytesRow s (grownCap w s.size 0 e)).size, (bytesRow s (grownCap w s.size 0 e)).size + 1)) := by
    show (w.heap.push _)[w.heap.size]? = _
    simp
  unfold World.cell?
  simp only [hh]
  have e : s[k] = s.data[k] := rfl
  rw [e]
  simpa using hb

theorem spec_l01Name (s : ByteArray) (w : World) (hs : s.size ≤ maxLen) : Calls Try.prog 110 #[.string s] w fun e w' => e = .returned (.bool (nameB s)) ∧ w = w' := by
  unfold maxLen at hs
  by_cases h0 : s.size = 0
  · have hz : s.toList.isEmpty = true := by
      rw [← decide_eq_emptyBytes]
      have : s.data = #[] := Array.eq_empty_of_size_eq_zero h0
      simp [ByteArray.ext_iff, this]
    have e : Hid (nameB s = false) := (by simp [nameB, nameL, h0] : nameB s = false)
    go_enter Try.func110, Try.ntmps110
    go_wp2
    go_ret
    exact ⟨by rw [e.out]; rfl, rfl⟩
  have hz : s.toList.isEmpty = false := by
    rw [← decide_eq_emptyBytes]
    have : s.data ≠ #[] := fun h => h0 (show s.data.size = 0 by rw [h]; rfl)
    simp [ByteArray.ext_iff, this]
  have h0' : 0 < s.size := by omega
  by_cases h1 : s.size ≤ 10
  case neg =>
    have d2 : 10 < (s.size : Int) := by omega
    have e : Hid (nameB s = false) := (by simp [nameB, nameL, h1] : nameB s = false)
    go_enter Try.func110, Try.ntmps110
    go_wp2
    go_ret
    exact ⟨by rw [e.out]; rfl, rfl⟩
  have d2 : ¬ 10 < (s.size : Int) := by omega
  cases hA : inB s[0].toNat 97 122
  · have e : Hid (nameB s = false) := (by
      unfold nameB nameL
      rw [headB s h0']
      simp [smallC, hA] : nameB s = false)
    go_enter Try.func110, Try.ntmps110
    go_wp2_with (go_at_call 147; refine (spec_l01Small_is _ _ (by assumption)).mono ?_; rintro e w' ⟨rfl, rfl⟩)
    go_ret
    exact ⟨by rw [e.out]; rfl, rfl⟩
  have en : Hid (nameB s = s.data.toList.all restC) := (by
    unfold nameB nameL
    rw [headB s h0']
    have e1 : decide (1 ≤ s.data.toList.length) = true := by simpa using (show 1 ≤ s.data.size from h0')
    have e2 : decide (s.data.toList.length ≤ 10) = true := by simpa using (show s.data.size ≤ 10 from h1)
    rw [e1, e2]
    simp [smallC, hA] : nameB s = s.data.toList.all restC)
  go_enter Try.func110, Try.ntmps110
  go_wp2_with (go_at_call 147; refine (spec_l01Small_is _ _ (by assumption)).mono ?_; rintro e w' ⟨rfl, rfl⟩)
  clear hA
  go_loop [3] (fun i => ∃ k : Nat, k ≤ s.size ∧ i = .int .i64 k ∧ (s.data.toList.take k).all restC = true) (fun i => s.size - (intOf i).toNat)
  case atStart => exact ⟨0, Nat.zero_le _, rfl, rfl⟩
  case round =>
    obtain ⟨k, hk, rfl, hall⟩ := hrel
    have Hall := Lib.hid hall; clear hall
    by_cases hlt : k < s.size
    · have hn := Lib.hid (all_snocB s k hlt)
      have hf := Lib.hid (all_falseB s k hlt)
      cases hS : inB s[k].toNat 97 122
      · cases hD : inB s[k].toNat 48 57
        · have e : Hid (nameB s = false) := (by rw [en.out]; exact hf.out (by simp [restC, smallC, digitC, hS, hD]) : nameB s = false)
          go_wp2_with (first | (go_at_call 147; refine (spec_l01Small_is _ _ (by assumption)).mono ?_; rintro e w' ⟨rfl, rfl⟩) | (go_at_call 148; refine (spec_l01Digit_is _ _ (by assumption)).mono ?_; rintro e w' ⟨rfl, rfl⟩))
          go_ret
          exact ⟨by rw [e.out]; rfl, rfl⟩
        · have e : Hid ((s.data.toList.take (k + 1)).all restC = true) := (by rw [hn.out, Hall.out]; simp [restC, smallC, digitC, hS, hD] : (s.data.toList.take (k + 1)).all restC = true)
          go_wp2_with (first | (go_at_call 147; refine (spec_l01Small_is _ _ (by assumption)).mono ?_; rintro e w' ⟨rfl, rfl⟩) | (go_at_call 148; refine (spec_l01Digit_is _ _ (by assumption)).mono ?_; rintro e w' ⟨rfl, rfl⟩))
          go_round
          case rel => exact ⟨k + 1, by omega, by go_num, e.out⟩
          case measure => simp [intOf]; omega
      · have e : Hid ((s.data.toList.take (k + 1)).all restC = true) := (by rw [hn.out, Hall.out]; simp [restC, smallC, digitC, hS] : (s.data.toList.take (k + 1)).all restC = true)
        go_wp2_with (first | (go_at_call 147; refine (spec_l01Small_is _ _ (by assumption)).mono ?_; rintro e w' ⟨rfl, rfl⟩) | (go_at_call 148; refine (spec_l01Digit_is _ _ (by assumption)).mono ?_; rintro e w' ⟨rfl, rfl⟩))
        go_round
        case rel => exact ⟨k + 1, by omega, by go_num, e.out⟩
        case measure => simp [intOf]; omega
    · have e : Hid (nameB s = true) := (by
        rw [en.out]
        have := Hall.out
        rwa [List.take_of_length_le (by simp; omega)] at this : nameB s = true)
      go_wp2
      go_ret
      exact ⟨by rw [e.out]; rfl, rfl⟩

set_option maxHeartbeats 1000000 in
theorem impl_IsName (s : ByteArray) (w : World) (hs : s.size ≤ maxLen) : Calls Try.prog 102 #[.string s] w fun e w' => e = .returned (.bool (nameB s)) ∧ Below w.heap.size w w' := by
  unfold maxLen at hs
  by_cases h0 : s.size = 0
  · have d1 : (s.size : Int) < 1 := by omega
    have e : Hid (nameB s = false) := (by simp [nameB, nameL, h0] : nameB s = false)
    clear h0
    go_enter Try.func102, Try.ntmps102
    go_wp2
    go_ret
    exact ⟨by rw [e.out]; rfl, by (repeat' (first | (with_reducible exact Below.refl _ _) | (with_reducible assumption) | (with_reducible refine below_dn ?_ _) | (with_reducible refine Below.drew ?_) | (with_reducible refine Below.alloc ?_ ?_ _) | (with_reducible refine Below.setCell ?_ ?_ _) | go_size))⟩
  have d1 : ¬ (s.size : Int) < 1 := by omega
  have h0' : 0 < s.size := by omega
  by_cases h1 : s.size ≤ 10
  case neg =>
    have d2 : 10 < (s.size : Int) := by omega
    have e : Hid (nameB s = false) := (by simp [nameB, nameL, h1] : nameB s = false)
    go_enter Try.func102, Try.ntmps102
    go_wp2
    go_ret
    exact ⟨by rw [e.out]; rfl, by (repeat' (first | (with_reducible exact Below.refl _ _) | (with_reducible assumption) | (with_reducible refine below_dn ?_ _) | (with_reducible refine Below.drew ?_) | (with_reducible refine Below.alloc ?_ ?_ _) | (with_reducible refine Below.setCell ?_ ?_ _) | go_size))⟩
  have d2 : ¬ 10 < (s.size : Int) := by omega
  have hcv := fun w s => convW_run (P := Try.prog) w 9 22 5 s Try.underlying9 Try.underlying22 Try.underlying5
  have en : Hid (nameB s = (smallC s[0] && s.data.toList.all restC)) := (by
    unfold nameB nameL
    rw [headB s h0']
    have e1 : decide (1 ≤ s.data.toList.length) = true := by simpa using (show 1 ≤ s.data.size from h0')
    have e2 : decide (s.data.toList.length ≤ 10) = true := by simpa using (show s.data.size ≤ 10 from h1)
    rw [e1, e2]
    simp : nameB s = (smallC s[0] && s.data.toList.all restC))
  go_enter Try.func102, Try.ntmps102
  go_wp2
  clear hcv
  have hwb := convW_below w 5 s
  have hcell := Lib.hid (convW_cell w 5 s)
  generalize convW w 5 s = w1 at *
  go_loop [18] (fun i => ∃ k : Nat, k ≤ s.size ∧ i = .int .i64 k ∧ (s.data.toList.take k).all restC = true ∧ (0 < k → smallC s[0] = true)) (fun i => s.size - (intOf i).toNat)
  case atStart => exact ⟨0, Nat.zero_le _, rfl, rfl, fun h => by omega⟩
  case round =>
    obtain ⟨k, hk, rfl, hall, hfst⟩ := hrel
    have Hall := Lib.hid hall; clear hall
    have Hfst := Lib.hid hfst; clear hfst
    by_cases hlt : k < s.size
    · have hn := Lib.hid (all_snocB s k hlt)
      have hf := Lib.hid (all_falseB s k hlt)
      have c1 := hcell.out k hlt
      have hb := s[k].toNat_lt
      by_cases a1 : 97 ≤ s[k].toNat ∧ s[k].toNat ≤ 122
      · have hS : smallC s[k] = true := by simp [smallC, inB]; omega
        have e : Hid ((s.data.toList.take (k + 1)).all restC = true) := (by rw [hn.out, Hall.out]; simp [restC, hS] : (s.data.toList.take (k + 1)).all restC = true)
        have e2 : Hid (smallC s[0] = true) := (by
          by_cases hk0 : k = 0
          · subst hk0; exact hS
          · exact Hfst.out (by omega) : smallC s[0] = true)
        obtain ⟨a1, a2⟩ := a1
        clear hS
        go_wp2
        go_round
        case rel => exact ⟨k + 1, by omega, by go_num, e.out, fun _ => e2.out⟩
        case measure => simp [intOf]; omega
      have hS : smallC s[k] = false := by
        cases h : smallC s[k] with
        | false => rfl
        | true => have := inB_true h; omega
      by_cases hk0 : k = 0
      · subst hk0
        have e : Hid (nameB s = false) := (by rw [en.out, hS]; rfl : nameB s = false)
        clear hS
        have t1 : (s[0].toNat : Int) < 48 ∨ (48 ≤ (s[0].toNat : Int) ∧ (s[0].toNat : Int) ≤ 57) ∨ (57 < (s[0].toNat : Int) ∧ (s[0].toNat : Int) < 97) ∨ (122 < (s[0].toNat : Int) ∧ (!decide ((s[0].toNat : Int) ≤ 122)) = true) := by
          simp only [Bool.not_eq_true', decide_eq_false_iff_not]
          omega
        clear a1
        rcases t1 with t1 | ⟨t1, t2⟩ | ⟨t1, t2⟩ | ⟨t1, t2⟩
        all_goals
          go_wp2
          all_goals go_ret
          all_goals exact ⟨by rw [e.out]; rfl, hwb⟩
      · have hz : ((k : Int) == 0) = false := beq_eq_false_iff_ne.2 (by omega)
        have e2 : Hid (smallC s[0] = true) := (Hfst.out (by omega) : smallC s[0] = true)
        by_cases a4 : 48 ≤ s[k].toNat ∧ s[k].toNat ≤ 57
        · have hD : digitC s[k] = true := by simp [digitC, inB]; omega
          have e : Hid ((s.data.toList.take (k + 1)).all restC = true) := (by rw [hn.out, Hall.out]; simp [restC, hD] : (s.data.toList.take (k + 1)).all restC = true)
          have t1 : 48 ≤ (s[k].toNat : Int) := by omega
          have t2 : (s[k].toNat : Int) ≤ 57 := by omega
          clear hS hD a1 a4
          go_wp2
          go_round
          case rel => exact ⟨k + 1, by omega, by go_num, e.out, fun _ => e2.out⟩
          case measure => simp [intOf]; omega
        · have hD : digitC s[k] = false := by
            cases h : digitC s[k] with
            | false => rfl
            | true => have := inB_true h; omega
          have e : Hid (nameB s = false) := (by rw [en.out, hf.out (by simp [restC, hS, hD])]; simp : nameB s = false)
          clear hS hD
          have t1 : (s[k].toNat : Int) < 48 ∨ (57 < (s[k].toNat : Int) ∧ (s[k].toNat : Int) < 97 ∧ (!decide ((s[k].toNat : Int) ≤ 57)) = true) ∨ (122 < (s[k].toNat : Int) ∧ (!decide ((s[k].toNat : Int) ≤ 122)) = true ∧ (!decide ((s[k].toNat : Int) ≤ 57)) = true) := by
            simp only [Bool.not_eq_true', decide_eq_false_iff_not]
            omega
          clear a1 a4
          rcases t1 with t1 | ⟨t1, t2, t3⟩ | ⟨t1, t2, t3⟩
          all_goals
            go_wp2
            all_goals go_ret
            all_goals exact ⟨by rw [e.out]; rfl, hwb⟩
    · have e : Hid (nameB s = true) := (by
        rw [en.out, Hfst.out (by omega)]
        have := Hall.out
        rw [List.take_of_length_le (by simp; omega)] at this
        simpa using this : nameB s = true)
      go_wp2
      go_ret
      exact ⟨by rw [e.out]; rfl, hwb⟩
end Go.Proofs.Ytnbodmbagendnaa
namespace Go.Proofs.Ytnbodmbagendnaa
open Go.ChangeShapes Go.WideShapes Go.ChangeAt Go.RowKit Go.Deep Go.Joins
set_option linter.unusedVariables false
set_option maxRecDepth 100000
set_option linter.unusedSimpArgs false
theorem spec_l01Name_is {b : Bool} (s : ByteArray) (w : World) (hs : s.size ≤ maxLen) (h : nameB s = b) : Calls Try.prog 110 #[.string s] w fun e w' => e = .returned (.bool b) ∧ w = w' := by
  rw [← h]; exact spec_l01Name s w hs
theorem impl_IsName_is {b : Bool} (s : ByteArray) (w : World) (hs : s.size ≤ maxLen) (h : nameB s = b) : Calls Try.prog 102 #[.string s] w fun e w' => e = .returned (.bool b) ∧ Below w.heap.size w w' := by
  rw [← h]; exact impl_IsName s w hs
end Go.Proofs.Ytnbodmbagendnaa
namespace Go.Proofs.Ytnbodmbagendnaa
open Go.ChangeShapes Go.WideShapes Go.ChangeAt Go.RowKit Go.Deep Go.Joins
set_option linter.unusedVariables false
set_option maxRecDepth 100000
set_option linter.unusedSimpArgs false
def ltName (y x : ByteArray) : Bool := Op.bytesLess y.toList x.toList
def meltB (x : Melt) : Bool := nameB x.id && (decide (1 ≤ x.ingots.length) && (decide (x.ingots.length ≤ 16) && (allK (stepB nameB ltName x.ingots) x.ingots.length && inB x.mass 1 320000000)))

theorem ltName_spec_f {y x : ByteArray} (h : ltName y x = false) : (!(Op.bytesLess y.toList x.toList)) = true := by
  unfold ltName at h; rw [h]; rfl
theorem ltName_spec_t {y x : ByteArray} (h : ltName y x = true) : (!(Op.bytesLess y.toList x.toList)) = false := by
  unfold ltName at h; rw [h]; rfl
theorem ltName_impl_f {y x : ByteArray} (h : ltName y x = false) : (Op.bytesLess x.toList y.toList || x.toList == y.toList) = true := by
  unfold ltName at h; rw [← not_less, h]; rfl
theorem ltName_impl_t {y x : ByteArray} (h : ltName y x = true) : (Op.bytesLess x.toList y.toList || x.toList == y.toList) = false := by
  unfold ltName at h; rw [← not_less, h]; rfl

set_option maxHeartbeats 1000000 in
theorem spec_l14One (x : Melt) (a o : Nat) (w : World) (hx : x.ok w) (hn : x.ingots.length ≤ 1048576) (h0 : w.cell? ⟨a, o, none⟩ = some (.string x.id)) (h1 : w.cell? ⟨a, o + 1, none⟩ = some x.list) (h2 : w.cell? ⟨a, o + 2, none⟩ = some (.int .i64 x.mass)) (ha : a < w.heap.size) :
    Calls Try.prog 69 #[.pointer (some ⟨a, o, none⟩)] w fun e w' => e = .returned (.bool (meltB x)) ∧ Below w.heap.size w w' := by
  obtain ⟨hi, ⟨hr, hl, hs⟩, _⟩ := hx
  have Hi := Lib.hid hi; clear hi
  obtain ⟨hL, ao, cap, hlist, hcap, hmax, hnil, hsome⟩ := hr
  rw [hlist] at h1
  clear hlist
  have Hok := Lib.hid hs; clear hs
  cases hN : nameB x.id
  case false =>
    have e : Hid (meltB x = false) := (by unfold meltB; rw [hN]; rfl : meltB x = false)
    clear hsome hnil
    go_enter Try.func69, Try.ntmps69
    go_wp2_with (first | (go_at_call 110; refine (spec_l01Name_is _ _ Hi.out (by assumption)).mono ?_; rintro e w' ⟨rfl, rfl⟩))
    go_ret
    exact ⟨by rw [e.out]; rfl, by (repeat' (first | (with_reducible exact Below.refl _ _) | (with_reducible assumption) | (with_reducible refine below_dn ?_ _) | (with_reducible refine Below.drew ?_) | (with_reducible refine Below.alloc ?_ ?_ _) | (with_reducible refine Below.setCell ?_ ?_ _) | go_size))⟩
  by_cases hz1 : 1 ≤ x.ingots.length
  case neg =>
    have e : Hid (meltB x = false) := (by unfold meltB; rw [decide_eq_false hz1]; simp : meltB x = false)
    clear hsome hnil
    go_enter Try.func69, Try.ntmps69
    go_wp2_with (first | (go_at_call 110; refine (spec_l01Name_is _ _ Hi.out (by assumption)).mono ?_; rintro e w' ⟨rfl, rfl⟩))
    go_ret
    exact ⟨by rw [e.out]; rfl, by (repeat' (first | (with_reducible exact Below.refl _ _) | (with_reducible assumption) | (with_reducible refine below_dn ?_ _) | (with_reducible refine Below.drew ?_) | (with_reducible refine Below.alloc ?_ ?_ _) | (with_reducible refine Below.setCell ?_ ?_ _) | go_size))⟩
  by_cases hz2 : x.ingots.length ≤ 16
  case neg =>
    have e : Hid (meltB x = false) := (by unfold meltB; rw [decide_eq_false hz2]; simp : meltB x = false)
    clear hsome hnil
    go_enter Try.func69, Try.ntmps69
    go_wp2_with (first | (go_at_call 110; refine (spec_l01Name_is _ _ Hi.out (by assumption)).mono ?_; rintro e w' ⟨rfl, rfl⟩))
    go_ret
    exact ⟨by rw [e.out]; rfl, by (repeat' (first | (with_reducible exact Below.refl _ _) | (with_reducible assumption) | (with_reducible refine below_dn ?_ _) | (with_reducible refine Below.drew ?_) | (with_reducible refine Below.alloc ?_ ?_ _) | (with_reducible refine Below.setCell ?_ ?_ _) | go_size))⟩
  cases hM : inB x.mass 1 320000000
  case false =>
    have e : Hid (meltB x = false) := (by unfold meltB; rw [hM]; simp : meltB x = false)
    clear hsome hnil
    go_enter Try.func69, Try.ntmps69
    go_wp2_with (first | (go_at_call 110; refine (spec_l01Name_is _ _ Hi.out (by assumption)).mono ?_; rintro e w' ⟨rfl, rfl⟩) | (go_at_call 119; refine (l00In_is _ _ _ _ (by assumption)).mono ?_; rintro e w' ⟨rfl, rfl⟩))
    go_ret
    exact ⟨by rw [e.out]; rfl, by (repeat' (first | (with_reducible exact Below.refl _ _) | (with_reducible assumption) | (with_reducible refine below_dn ?_ _) | (with_reducible refine Below.drew ?_) | (with_reducible refine Below.alloc ?_ ?_ _) | (with_reducible refine Below.setCell ?_ ?_ _) | go_size))⟩
  have es : Hid (meltB x = allK (stepB nameB ltName x.ingots) x.ingots.length) := (by unfold meltB; rw [hN, hM, decide_eq_true hz1, decide_eq_true hz2]; simp : meltB x = allK (stepB nameB ltName x.ingots) x.ingots.length)
  have HM := Lib.hid hM
  go_enter Try.func69, Try.ntmps69
  go_wp2_with (first | (go_at_call 110; refine (spec_l01Name_is _ _ Hi.out (by assumption)).mono ?_; rintro e w' ⟨rfl, rfl⟩) | (go_at_call 119; refine (l00In_is _ _ _ _ (by assumption)).mono ?_; rintro e w' ⟨rfl, rfl⟩))
  clear hM hN
  go_loopw [3] (fun i wr => ∃ (k : Nat), k ≤ x.ingots.length ∧ i = .int .i64 k ∧ allK (stepB nameB ltName x.ingots) k = true ∧ Below w.heap.size w wr) (fun i _ => x.ingots.length - (intOf i).toNat)
  case atStart => exact ⟨0, Nat.zero_le _, rfl, rfl, by (repeat' (first | (with_reducible exact Below.refl _ _) | (with_reducible assumption) | (with_reducible refine below_dn ?_ _) | (with_reducible refine Below.drew ?_) | (with_reducible refine Below.alloc ?_ ?_ _) | (with_reducible refine Below.setCell ?_ ?_ _) | go_size))⟩
  case round =>
    obtain ⟨k, hk, rfl, hall, hb⟩ := hrel
    have Hall := Lib.hid hall; clear hall
    have r0 : wr.cell? ⟨a, o, none⟩ = some (.string x.id) := (hb.cell (p := ⟨a, o, none⟩) ha).trans h0
    have r1 : wr.cell? ⟨a, o + 1, none⟩ = some (.slice ao x.ingots.length cap) := (hb.cell (p := ⟨a, o + 1, none⟩) ha).trans h1
    by_cases hlt : k < x.ingots.length
    · obtain ⟨b, off, rfl, hbB, hc⟩ := hsome (by omega)
      have c0 : wr.cell? ⟨b, off + k, none⟩ = some (.string x.ingots[k]) := by
        rw [hb.cell (p := ⟨b, off + k, none⟩) hbB, hc k (by omega), putStr_get x.ingots k hlt]
      have hbr : b < wr.heap.size := Nat.lt_of_lt_of_le hbB hb.size
      have har : a < wr.heap.size := Nat.lt_of_lt_of_le ha hb.size
      have hok : x.ingots[k].size ≤ maxLen := Hok.out _ (List.getElem_mem hlt)
      have HK := Lib.hid hok; clear hok
      have HS := Lib.hid (allK_succ (stepB nameB ltName x.ingots) k)
      have HF := Lib.hid (allK_false (stepB nameB ltName x.ingots) x.ingots.length k hlt)
      cases hO : nameB x.ingots[k]
      · have e : Hid (meltB x = false) := (by rw [es.out]; exact HF.out (stepB_no hlt hO) : meltB x = false)
        have HB := Lib.hid hb
        clear hc hsome hnil hb h0 h1 h2
        go_wp2_with fail
        refine wp_region_above (by kernel_rfl) (by kernel_rfl) ?_
        repeat (go_big_quiet_step ((first | (go_at_call 110; exact aboveE (spec_l01Name_is _ _ HK.out (by assumption))))))
        refine wpQuiet_nil ?_
        intro w1 b1
        have HB1 := Lib.hid (HB.out.trans (b1.mono HB.out.size)); clear b1 HB
        go_wp2_with fail
        go_ret
        exact ⟨by rw [e.out]; rfl, HB1.out⟩
      by_cases hk0 : k = 0
      · have e : Hid (allK (stepB nameB ltName x.ingots) (k + 1) = true) := (by subst hk0; rw [HS.out, stepB_zero hlt hO]; rfl : allK (stepB nameB ltName x.ingots) (k + 1) = true)
        have hz : decide (0 < k) = false := decide_eq_false (by omega)
        have HB := Lib.hid hb
        clear hc hsome hnil hb hk0 h0 h1 h2
        go_wp2_with fail
        refine wp_region_above (by kernel_rfl) (by kernel_rfl) ?_
        repeat (go_big_quiet_step ((first | (go_at_call 110; exact aboveE (spec_l01Name_is _ _ HK.out (by assumption))))))
        refine wpQuiet_nil ?_
        intro w1 b1
        have HB1 := Lib.hid (HB.out.trans (b1.mono HB.out.size)); clear b1 HB
        go_wp2_with fail
        go_roundw
        case rel => exact ⟨k + 1, by omega, by go_num, e.out, HB1.out⟩
        case measure => simp [intOf]; omega
      · have hpos : 0 < k := by omega
        have hz : decide (0 < k) = true := decide_eq_true (by omega)
        have p0 : wr.cell? ⟨b, off + (k - 1), none⟩ = some (.string x.ingots[k - 1]) := by
          rw [hb.cell (p := ⟨b, off + (k - 1), none⟩) hbB, hc (k - 1) (by omega), putStr_get x.ingots (k - 1) (by omega)]
        cases hT : ltName x.ingots[k - 1] x.ingots[k]
        · have e : Hid (meltB x = false) := (by rw [es.out]; exact HF.out (stepB_lt hlt hpos hO hT) : meltB x = false)
          have t1 : (!(Op.bytesLess x.ingots[k - 1].toList x.ingots[k].toList)) = true := ltName_spec_f hT
          have HB := Lib.hid hb
          clear hc hsome hnil hb hT h0 h1 h2
          go_wp2_with fail
          refine wp_region_above (by kernel_rfl) (by kernel_rfl) ?_
          repeat (go_big_quiet_step ((first | (go_at_call 110; exact aboveE (spec_l01Name_is _ _ HK.out (by assumption))))))
          refine wpQuiet_nil ?_
          intro w1 b1
          have HB1 := Lib.hid (HB.out.trans (b1.mono HB.out.size)); clear b1 HB
          go_wp2_with fail
          go_ret
          exact ⟨by rw [e.out]; rfl, HB1.out⟩
        · have e : Hid (allK (stepB nameB ltName x.ingots) (k + 1) = true) := (by rw [HS.out, Hall.out, stepB_yes hlt hpos hO hT]; rfl : allK (stepB nameB ltName x.ingots) (k + 1) = true)
          have t1 : (!(Op.bytesLess x.ingots[k - 1].toList x.ingots[k].toList)) = false := ltName_spec_t hT
          have HB := Lib.hid hb
          clear hc hsome hnil hb hT h0 h1 h2
          go_wp2_with fail
          refine wp_region_above (by kernel_rfl) (by kernel_rfl) ?_
          repeat (go_big_quiet_step ((first | (go_at_call 110; exact aboveE (spec_l01Name_is _ _ HK.out (by assumption))))))
          refine wpQuiet_nil ?_
          intro w1 b1
          have HB1 := Lib.hid (HB.out.trans (b1.mono HB.out.size)); clear b1 HB
          go_wp2_with fail
          go_roundw
          case rel => exact ⟨k + 1, by omega, by go_num, e.out, HB1.out⟩
          case measure => simp [intOf]; omega
    · have e : Hid (meltB x = true) := (by
        obtain rfl : k = x.ingots.length := by omega
        rw [es.out]; exact Hall.out : meltB x = true)
      go_wp2
      go_ret
      exact ⟨by rw [e.out]; rfl, hb⟩
end Go.Proofs.Ytnbodmbagendnaa
namespace Go.Proofs.Ytnbodmbagendnaa
open Go.ChangeShapes Go.WideShapes Go.ChangeAt Go.RowKit Go.Deep Go.Joins
set_option linter.unusedVariables false
set_option maxRecDepth 100000
set_option linter.unusedSimpArgs false
/-- what a comparison of two texts gives -/
def cmpS (x y : ByteArray) : Int := if ltName x y then -1 else if strEq x y then 0 else 1
theorem cmpS_lt {x y : ByteArray} : cmpS x y < 0 ↔ ltName x y = true := by
  unfold cmpS
  cases h : ltName x y <;> simp
  cases strEq x y <;> simp
theorem ltName_irrefl (x : ByteArray) : ltName x x = false := less_irrefl _
theorem ltName_trans {x y z : ByteArray} (h1 : ltName x y = true) (h2 : ltName y z = true) : ltName x z = true := less_trans _ _ _ h1 h2
theorem strEq_iff {x y : ByteArray} : strEq x y = true ↔ x = y := by
  unfold strEq
  rw [beq_iff_eq]
  constructor
  · intro h
    have h2 : x.data.toList = y.data.toList := by
      rw [ByteArray.toList_eq, ByteArray.toList_eq] at h; exact h
    cases x; cases y
    simp only [ByteArray.mk.injEq]
    exact Array.toList_inj.1 h2
  · rintro rfl; rfl
theorem cmpS_zero {x y : ByteArray} : cmpS x y = 0 ↔ x = y := by
  unfold cmpS
  cases h : ltName x y
  · simp only [Bool.false_eq_true, if_false]
    cases h2 : strEq x y
    · simp only [Bool.false_eq_true, if_false]
      constructor
      · intro h; omega
      · rintro rfl; rw [strEq_iff.2 rfl] at h2; cases h2
    · simp [strEq_iff.1 h2]
  · simp only [if_true]
    constructor
    · intro h; omega
    · rintro rfl; rw [ltName_irrefl] at h; cases h
/-- not before it, not equal: behind it -/
theorem ltName_total {x y : ByteArray} (h1 : ltName x y = false) (h2 : x ≠ y) : ltName y x = true := by
  have h := not_less y.toList x.toList
  unfold ltName at *
  have h3 : strEq y x = false := by
    cases h4 : strEq y x with
    | false => rfl
    | true => exact absurd (strEq_iff.1 h4).symm h2
  unfold strEq at h3
  rw [h1, h3] at h
  simpa using h.symm
theorem cmp_isNaN_str (x : ByteArray) (w : World) : Calls Try.prog 150 #[.string x] w fun e w' => e = .returned (.bool false) ∧ w = w' := by
  have t1 : (x.toList == x.toList) = true := by simp
  go_enter Try.func150, Try.ntmps150
  go_wp2
  go_ret
  exact ⟨by first | rfl | simp, rfl⟩
theorem cmp_Compare_str (x y : ByteArray) (w : World) : Calls Try.prog 125 #[.string x, .string y] w fun e w' => e = .returned (.int .i64 (cmpS x y)) ∧ w = w' := by
  cases h1 : ltName x y
  · cases h2 : strEq x y
    · have e : Hid (cmpS x y = 1) := (by unfold cmpS; rw [h1, h2]; rfl : cmpS x y = 1)
      have t1 : Op.bytesLess x.toList y.toList = false := h1
      have t2 : (x.toList == y.toList) = false := h2
      clear h1 h2
      go_enter Try.func125, Try.ntmps125
      go_wp2_with (first | (go_at_call 150; refine (cmp_isNaN_str _ _).mono ?_; rintro e w' ⟨rfl, rfl⟩))
      go_ret
      exact ⟨by rw [e.out]; rfl, rfl⟩
    · have e : Hid (cmpS x y = 0) := (by unfold cmpS; rw [h1, h2]; rfl : cmpS x y = 0)
      have t1 : Op.bytesLess x.toList y.toList = false := h1
      have t2 : (x.toList == y.toList) = true := h2
      clear h1 h2
      go_enter Try.func125, Try.ntmps125
      go_wp2_with (first | (go_at_call 150; refine (cmp_isNaN_str _ _).mono ?_; rintro e w' ⟨rfl, rfl⟩))
      go_ret
      exact ⟨by rw [e.out]; rfl, rfl⟩
  · have e : Hid (cmpS x y = -1) := (by unfold cmpS; rw [h1]; rfl : cmpS x y = -1)
    have t1 : Op.bytesLess x.toList y.toList = true := h1
    clear h1
    go_enter Try.func125, Try.ntmps125
    go_wp2_with (first | (go_at_call 150; refine (cmp_isNaN_str _ _).mono ?_; rintro e w' ⟨rfl, rfl⟩))
    go_ret
    exact ⟨by rw [e.out]; rfl, rfl⟩
end Go.Proofs.Ytnbodmbagendnaa
