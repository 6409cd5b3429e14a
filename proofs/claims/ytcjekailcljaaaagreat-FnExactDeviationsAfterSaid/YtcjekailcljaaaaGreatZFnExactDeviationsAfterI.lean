/- Contracts and plain facts, joined: MdlM. -/
import Derived.Test.YtcjekailcljaaaaGreatRows
import Derived.Test.YtcjekailcljaaaaGreatZFnExactDeviationsAfterH
namespace Go.Proofs.YtcjekailcljaaaaGreat
open Go.ChangeShapes Go.WideShapes Go.ChangeAt Go.RowKit Go.Deep Go.Joins
set_option linter.unusedVariables false
set_option maxRecDepth 100000
set_option linter.unusedSimpArgs false
structure Mdl where
  zones : List Int
  rows : List (List Int)
  base : List Int
/-- v is a slice of lists of numbers -/
def RdL (B : Nat) (w : World) (v : Value) (xs : List (List Int)) : Prop :=
  ∃ ao cap, v = .slice ao xs.length cap ∧ xs.length ≤ cap ∧ cap ≤ maxLen ∧ (ao = none → xs.length = 0 ∧ cap = 0) ∧
    (0 < xs.length → ∃ b off, ao = some ⟨b, off, none⟩ ∧ b < B ∧ ∀ k (h : k < xs.length), ∃ l, w.cell? ⟨b, off + k, none⟩ = some l ∧ Rd B w l 1 xs[k].length (xs[k].flatMap putI))
theorem RdL.below {B : Nat} {w w' : World} {v : Value} {xs : List (List Int)} (h : RdL B w v xs) (hb : Below B w w') : RdL B w' v xs := by
  obtain ⟨ao, cap, h1, h2, h3, h5, h4⟩ := h
  refine ⟨ao, cap, h1, h2, h3, h5, fun hp => ?_⟩
  obtain ⟨b, off, e, hB, hc⟩ := h4 hp
  refine ⟨b, off, e, hB, fun k hk => ?_⟩
  obtain ⟨l, c0, hr⟩ := hc k hk
  exact ⟨l, (hb.cell (p := ⟨b, _, none⟩) hB).trans c0, hr.below hb⟩
theorem RdL.mono {B B' : Nat} {w : World} {v : Value} {xs : List (List Int)} (h : RdL B w v xs) (hB : B ≤ B') : RdL B' w v xs := by
  obtain ⟨ao, cap, h1, h2, h3, h5, h4⟩ := h
  refine ⟨ao, cap, h1, h2, h3, h5, fun hp => ?_⟩
  obtain ⟨b, off, e, hb, hc⟩ := h4 hp
  refine ⟨b, off, e, Nat.lt_of_lt_of_le hb hB, fun k hk => ?_⟩
  obtain ⟨l, c0, hr⟩ := hc k hk
  exact ⟨l, c0, hr.mono hB⟩
theorem RdL.up {w w' : World} {v : Value} {xs : List (List Int)} (h : RdL w.heap.size w v xs) (hb : Below w.heap.size w w') : RdL w'.heap.size w' v xs := (h.below hb).mono hb.size
theorem RdL.form {B : Nat} {w : World} {v : Value} {xs : List (List Int)} (h : RdL B w v xs) : ∃ ao cap, v = .slice ao xs.length cap := by
  obtain ⟨ao, cap, e, _⟩ := h; exact ⟨ao, cap, e⟩
/-- list k -/
theorem RdL.at {w : World} {ao : Option Addr} {n cap : Nat} {xs : List (List Int)} (h : RdL w.heap.size w (.slice ao n cap) xs) (k : Nat) (hk : k < xs.length) :
    ∃ b off lo lc, ao = some ⟨b, off, none⟩ ∧ b < w.heap.size ∧ w.cell? ⟨b, off + k, none⟩ = some (.slice lo xs[k].length lc) ∧ Rd w.heap.size w (.slice lo xs[k].length lc) 1 xs[k].length (xs[k].flatMap putI) := by
  obtain ⟨ao', cap', e, _, _, _, h4⟩ := h
  injection e with e1 e2 e3
  subst e1
  obtain ⟨b, off, e, hB, hc⟩ := h4 (by omega)
  obtain ⟨l, c0, hr⟩ := hc k hk
  obtain ⟨lo, lc, rfl⟩ := hr.form
  exact ⟨b, off, lo, lc, e, hB, c0, hr⟩
/-- number k of a list -/
theorem Rd.at {w : World} {ao : Option Addr} {n cap : Nat} {xs : List Int} (h : Rd w.heap.size w (.slice ao n cap) 1 xs.length (xs.flatMap putI)) (k : Nat) (hk : k < xs.length) :
    ∃ b off, ao = some ⟨b, off, none⟩ ∧ b < w.heap.size ∧ w.cell? ⟨b, off + k, none⟩ = some (.int .i64 xs[k]) := by
  obtain ⟨hL, ao', cap', e, _, _, _, h4⟩ := h
  injection e with e1 e2 e3
  subst e1
  obtain ⟨b, off, e, hB, hc⟩ := h4 (by omega)
  exact ⟨b, off, e, hB, by rw [hc k (by omega), putI_get xs k hk]⟩
/-- three values are a model's lists -/
def RdMdl (B : Nat) (w : World) (zv wv bv : Value) (m : Mdl) : Prop := Rd B w zv 1 m.zones.length (m.zones.flatMap putI) ∧ RdL B w wv m.rows ∧ Rd B w bv 1 m.base.length (m.base.flatMap putI)
theorem RdMdl.up {w w' : World} {zv wv bv : Value} {m : Mdl} (h : RdMdl w.heap.size w zv wv bv m) (hb : Below w.heap.size w w') : RdMdl w'.heap.size w' zv wv bv m := ⟨h.1.up hb, h.2.1.up hb, h.2.2.up hb⟩
/-- block a is a model -/
def MdlAt (w : World) (a : Nat) (zv wv bv : Value) : Prop := w.cell? ⟨a, 0, none⟩ = some zv ∧ w.cell? ⟨a, 1, none⟩ = some wv ∧ w.cell? ⟨a, 2, none⟩ = some bv ∧ a < w.heap.size
theorem MdlAt.below {B : Nat} {w w' : World} {a : Nat} {zv wv bv : Value} (h : MdlAt w a zv wv bv) (hb : Below B w w') (ha : a < B) : MdlAt w' a zv wv bv :=
  ⟨(hb.cell (p := ⟨a, 0, none⟩) ha).trans h.1, (hb.cell (p := ⟨a, 1, none⟩) ha).trans h.2.1, (hb.cell (p := ⟨a, 2, none⟩) ha).trans h.2.2.1, Nat.lt_of_lt_of_le h.2.2.2 hb.size⟩

def w1000 (x : Int) : Bool := inB x 0 1000
def rowB (n : Nat) (row : List Int) : Bool := decide (row.length = n) && (row.all w1000 && decide (row.sum ≠ 0))
def baseB (b : Int) : Bool := inB b 1 1000000000
def mdlK (m : Mdl) (k : Nat) : Bool := match m.rows[k]?, m.base[k]? with
  | some r, some b => baseB b && rowB m.zones.length r
  | _, _ => true
def mdlB (m : Mdl) : Bool := zonesB 32 m.zones && (decide (m.rows.length = 5) && (decide (m.base.length = 5) && allK (mdlK m) 5))
theorem mdlK_at {m : Mdl} {k : Nat} (h1 : k < m.rows.length) (h2 : k < m.base.length) : mdlK m k = (baseB m.base[k] && rowB m.zones.length m.rows[k]) := by
  unfold mdlK
  rw [List.getElem?_eq_getElem h1, List.getElem?_eq_getElem h2]
theorem mdlB_parts {m : Mdl} (h : mdlB m = true) : zonesB 32 m.zones = true ∧ m.rows.length = 5 ∧ m.base.length = 5 ∧ allK (mdlK m) 5 = true := by
  simp only [mdlB, Bool.and_eq_true, decide_eq_true_eq] at h
  exact ⟨h.1, h.2.1, h.2.2.1, h.2.2.2⟩
theorem mdlB_noz {m : Mdl} (h : zonesB 32 m.zones = false) : mdlB m = false := by unfold mdlB; rw [h]; rfl
theorem mdlB_nor {m : Mdl} (h : m.rows.length ≠ 5) : mdlB m = false := by unfold mdlB; rw [decide_eq_false h]; simp
theorem mdlB_nob {m : Mdl} (h : m.base.length ≠ 5) : mdlB m = false := by unfold mdlB; rw [decide_eq_false h]; simp
theorem mdlB_nok {m : Mdl} {k : Nat} (hk : k < 5) (h : mdlK m k = false) : mdlB m = false := by unfold mdlB; rw [allK_false (mdlK m) 5 k hk h]; simp
theorem mdlB_all {m : Mdl} (hz : zonesB 32 m.zones = true) (hr : m.rows.length = 5) (hb : m.base.length = 5) (h : allK (mdlK m) 5 = true) : mdlB m = true := by
  unfold mdlB; rw [hz, decide_eq_true hr, decide_eq_true hb, h]; rfl
theorem rowB_parts {n : Nat} {row : List Int} (h : rowB n row = true) : row.length = n ∧ (∀ x ∈ row, 0 ≤ x ∧ x ≤ 1000) ∧ row.sum ≠ 0 := by
  simp only [rowB, Bool.and_eq_true, decide_eq_true_eq] at h
  refine ⟨h.1, fun x hx => ?_, h.2.2⟩
  exact inB_true (List.all_eq_true.1 h.2.1 x hx)
theorem rowB_nol {n : Nat} {row : List Int} (h : row.length ≠ n) : rowB n row = false := by unfold rowB; rw [decide_eq_false h]; rfl
theorem rowB_now {n : Nat} {row : List Int} (h : row.all w1000 = false) : rowB n row = false := by unfold rowB; rw [h]; simp
theorem rowB_no0 {n : Nat} {row : List Int} (h : row.sum = 0) : rowB n row = false := by unfold rowB; rw [decide_eq_false (p := row.sum ≠ 0) (fun q => q h)]; simp
theorem rowB_yes {n : Nat} {row : List Int} (h1 : row.length = n) (h2 : row.all w1000 = true) (h3 : row.sum ≠ 0) : rowB n row = true := by unfold rowB; rw [decide_eq_true h1, h2, decide_eq_true h3]; rfl
theorem all_take {row : List Int} {z : Nat} (hz : z < row.length) (h : (row.take z).all w1000 = true) (hx : w1000 row[z] = true) : (row.take (z + 1)).all w1000 = true := by
  rw [List.take_succ_eq_append_getElem hz, List.all_append, h]; simp [hx]
theorem all_no {row : List Int} {z : Nat} (hz : z < row.length) (hx : w1000 row[z] = false) : row.all w1000 = false := by
  cases h : row.all w1000 with
  | false => rfl
  | true => have := List.all_eq_true.1 h row[z] (List.getElem_mem hz); rw [hx] at this; cases this
theorem sum_take {row : List Int} {z : Nat} (hz : z < row.length) : (row.take (z + 1)).sum = (row.take z).sum + row[z] := by
  rw [List.take_succ_eq_append_getElem hz, List.sum_append]; simp
theorem sum_bd {row : List Int} : (∀ x ∈ row, w1000 x = true) → 0 ≤ row.sum ∧ row.sum ≤ row.length * 1000 := by
  induction row with
  | nil => intro _; simp
  | cons x xs ih =>
    intro h
    have h1 := ih (fun y hy => h y (List.mem_cons_of_mem _ hy))
    have h2 := inB_true (h x (List.mem_cons_self ..))
    simp only [List.sum_cons, List.length_cons]
    push_cast; omega
/-- the greatest of some numbers -/
def maxL : List Int → Int
  | [] => 0
  | x :: xs => xs.foldl max x
theorem foldl_max (x : Int) : ∀ (xs : List Int), x ≤ xs.foldl max x ∧ (∀ y ∈ xs, y ≤ xs.foldl max x) ∧ (xs.foldl max x = x ∨ xs.foldl max x ∈ xs) := by
  intro xs
  induction xs generalizing x with
  | nil => exact ⟨Int.le_refl _, (fun y hy => by cases hy), .inl rfl⟩
  | cons y ys ih =>
    obtain ⟨h1, h2, h3⟩ := ih (max x y)
    simp only [List.foldl_cons]
    refine ⟨by omega, fun z hz => ?_, ?_⟩
    · rcases List.mem_cons.1 hz with rfl | q
      · omega
      · exact h2 z q
    · rcases h3 with h3 | h3
      · rcases Int.le_total x y with q | q
        · right; rw [h3]; rw [show max x y = y by omega]; exact List.mem_cons_self ..
        · left; rw [h3]; omega
      · right; exact List.mem_cons_of_mem _ h3
theorem maxL_ge {xs : List Int} (x : Int) (hx : x ∈ xs) : x ≤ maxL xs := by
  cases xs with
  | nil => cases hx
  | cons y ys =>
    obtain ⟨h1, h2, _⟩ := foldl_max y ys
    rcases List.mem_cons.1 hx with rfl | q
    · exact h1
    · exact h2 x q
theorem maxL_mem {xs : List Int} (h : xs ≠ []) : maxL xs ∈ xs := by
  cases xs with
  | nil => exact absurd rfl h
  | cons y ys =>
    rcases (foldl_max y ys).2.2 with q | q
    · show ys.foldl max y ∈ _; rw [q]; exact List.mem_cons_self ..
    · exact List.mem_cons_of_mem _ q
theorem maxL_snoc {xs : List Int} {k : Nat} (hk : k < xs.length) (h0 : 0 < k) : maxL (xs.take (k + 1)) = max (maxL (xs.take k)) xs[k] := by
  cases xs with
  | nil => simp at hk
  | cons y ys =>
    obtain ⟨j, rfl⟩ : ∃ j, k = j + 1 := ⟨k - 1, by omega⟩
    have hj : j < ys.length := by simpa using hk
    simp only [List.take_succ_cons, List.getElem_cons_succ]
    show (ys.take (j + 1)).foldl max y = _
    rw [List.take_succ_eq_append_getElem hj, List.foldl_append]; rfl
/-- no weight but 0 -/
theorem row_zero {row : List Int} (hne : row ≠ []) (h : maxL row = 0) : row.all w1000 = true → row.sum = 0 := by
  intro ha
  have key : ∀ (xs : List Int), (∀ x ∈ xs, x ≤ 0 ∧ 0 ≤ x) → xs.sum = 0 := by
    intro xs
    induction xs with
    | nil => intro _; rfl
    | cons x xs ih =>
      intro hx
      have h1 := hx x (List.mem_cons_self ..)
      have h2 := ih (fun y hy => hx y (List.mem_cons_of_mem _ hy))
      simp only [List.sum_cons]; omega
  refine key row fun x hx => ⟨?_, ?_⟩
  · have := maxL_ge x hx; omega
  · exact (inB_true (List.all_eq_true.1 ha x hx)).1
theorem row_pos {row : List Int} (hne : row ≠ []) (h : maxL row ≠ 0) (ha : row.all w1000 = true) : row.sum ≠ 0 := by
  have h1 := maxL_mem hne
  have h2 := (inB_true (List.all_eq_true.1 ha _ h1)).1
  have key : ∀ (xs : List Int), (∀ x ∈ xs, 0 ≤ x) → ∀ y ∈ xs, y ≤ xs.sum := by
    intro xs
    induction xs with
    | nil => intro _ y hy; cases hy
    | cons x xs ih =>
      intro hx y hy
      have h0 := hx x (List.mem_cons_self ..)
      have ih := ih (fun y hy => hx y (List.mem_cons_of_mem _ hy))
      have hs : 0 ≤ xs.sum := by
        cases xs with
        | nil => simp
        | cons z zs =>
          have := ih z (List.mem_cons_self ..)
          have := hx z (by simp)
          omega
      simp only [List.sum_cons]
      rcases List.mem_cons.1 hy with rfl | q
      · omega
      · have := ih y q; omega
  have := key row (fun x hx => (inB_true (List.all_eq_true.1 ha x hx)).1) _ h1
  omega
end Go.Proofs.YtcjekailcljaaaaGreat
