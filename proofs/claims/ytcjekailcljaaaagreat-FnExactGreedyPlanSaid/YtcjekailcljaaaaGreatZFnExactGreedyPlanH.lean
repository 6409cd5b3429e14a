/- Contracts and plain facts, joined: MdlM, HModel4. -/
import Derived.Test.YtcjekailcljaaaaGreatRows
import Derived.Test.YtcjekailcljaaaaGreatZFnExactGreedyPlanD
import Derived.Test.YtcjekailcljaaaaGreatZFnExactGreedyPlanG
namespace Go.Proofs.YtcjekailcljaaaaGreat
open Go.ChangeShapes Go.WideShapes Go.ChangeAt Go.RowKit Go.Deep Go.Joins
set_option linter.unusedVariables false
set_option maxRecDepth 100000
set_option linter.unusedSimpArgs false
structure Mdl where
  zones : List Int
  rows : List (List Int)
  base : List Int
/-- v is a slice of lists of numbers -/
def RdL (B : Nat) (w : World) (v : Value) (xs : List (List Int)) : Prop :=
  ∃ ao cap, v = .slice ao xs.length cap ∧ xs.length ≤ cap ∧ cap ≤ maxLen ∧ (ao = none → xs.length = 0 ∧ cap = 0) ∧
    (0 < xs.length → ∃ b off, ao = some ⟨b, off, none⟩ ∧ b < B ∧ ∀ k (h : k < xs.length), ∃ l, w.cell? ⟨b, off + k, none⟩ = some l ∧ Rd B w l 1 xs[k].length (xs[k].flatMap putI))
theorem RdL.below {B : Nat} {w w' : World} {v : Value} {xs : List (List Int)} (h : RdL B w v xs) (hb : Below B w w') : RdL B w' v xs := by
  obtain ⟨ao, cap, h1, h2, h3, h5, h4⟩ := h
  refine ⟨ao, cap, h1, h2, h3, h5, fun hp => ?_⟩
  obtain ⟨b, off, e, hB, hc⟩ := h4 hp
  refine ⟨b, off, e, hB, fun k hk => ?_⟩
  obtain ⟨l, c0, hr⟩ := hc k hk
  exact ⟨l, (hb.cell (p := ⟨b, _, none⟩) hB).trans c0, hr.below hb⟩
theorem RdL.mono {B B' : Nat} {w : World} {v : Value} {xs : List (List Int)} (h : RdL B w v xs) (hB : B ≤ B') : RdL B' w v xs := by
  obtain ⟨ao, cap, h1, h2, h3, h5, h4⟩ := h
  refine ⟨ao, cap, h1, h2, h3, h5, fun hp => ?_⟩
  obtain ⟨b, off, e, hb, hc⟩ := h4 hp
  refine ⟨b, off, e, Nat.lt_of_lt_of_le hb hB, fun k hk => ?_⟩
  obtain ⟨l, c0, hr⟩ := hc k hk
  exact ⟨l, c0, hr.mono hB⟩
theorem RdL.up {w w' : World} {v : Value} {xs : List (List Int)} (h : RdL w.heap.size w v xs) (hb : Below w.heap.size w w') : RdL w'.heap.size w' v xs := (h.below hb).mono hb.size
theorem RdL.form {B : Nat} {w : World} {v : Value} {xs : List (List Int)} (h : RdL B w v xs) : ∃ ao cap, v = .slice ao xs.length cap := by
  obtain ⟨ao, cap, e, _⟩ := h; exact ⟨ao, cap, e⟩
/-- list k -/
theorem RdL.at {w : World} {ao : Option Addr} {n cap : Nat} {xs : List (List Int)} (h : RdL w.heap.size w (.slice ao n cap) xs) (k : Nat) (hk : k < xs.length) :
    ∃ b off lo lc, ao = some ⟨b, off, none⟩ ∧ b < w.heap.size ∧ w.cell? ⟨b, off + k, none⟩ = some (.slice lo xs[k].length lc) ∧ Rd w.heap.size w (.slice lo xs[k].length lc) 1 xs[k].length (xs[k].flatMap putI) := by
  obtain ⟨ao', cap', e, _, _, _, h4⟩ := h
  injection e with e1 e2 e3
  subst e1
  obtain ⟨b, off, e, hB, hc⟩ := h4 (by omega)
  obtain ⟨l, c0, hr⟩ := hc k hk
  obtain ⟨lo, lc, rfl⟩ := hr.form
  exact ⟨b, off, lo, lc, e, hB, c0, hr⟩
/-- number k of a list -/
theorem Rd.at {w : World} {ao : Option Addr} {n cap : Nat} {xs : List Int} (h : Rd w.heap.size w (.slice ao n cap) 1 xs.length (xs.flatMap putI)) (k : Nat) (hk : k < xs.length) :
    ∃ b off, ao = some ⟨b, off, none⟩ ∧ b < w.heap.size ∧ w.cell? ⟨b, off + k, none⟩ = some (.int .i64 xs[k]) := by
  obtain ⟨hL, ao', cap', e, _, _, _, h4⟩ := h
  injection e with e1 e2 e3
  subst e1
  obtain ⟨b, off, e, hB, hc⟩ := h4 (by omega)
  exact ⟨b, off, e, hB, by rw [hc k (by omega), putI_get xs k hk]⟩
/-- three values are a model's lists -/
def RdMdl (B : Nat) (w : World) (zv wv bv : Value) (m : Mdl) : Prop := Rd B w zv 1 m.zones.length (m.zones.flatMap putI) ∧ RdL B w wv m.rows ∧ Rd B w bv 1 m.base.length (m.base.flatMap putI)
theorem RdMdl.up {w w' : World} {zv wv bv : Value} {m : Mdl} (h : RdMdl w.heap.size w zv wv bv m) (hb : Below w.heap.size w w') : RdMdl w'.heap.size w' zv wv bv m := ⟨h.1.up hb, h.2.1.up hb, h.2.2.up hb⟩
/-- block a is a model -/
def MdlAt (w : World) (a : Nat) (zv wv bv : Value) : Prop := w.cell? ⟨a, 0, none⟩ = some zv ∧ w.cell? ⟨a, 1, none⟩ = some wv ∧ w.cell? ⟨a, 2, none⟩ = some bv ∧ a < w.heap.size
theorem MdlAt.below {B : Nat} {w w' : World} {a : Nat} {zv wv bv : Value} (h : MdlAt w a zv wv bv) (hb : Below B w w') (ha : a < B) : MdlAt w' a zv wv bv :=
  ⟨(hb.cell (p := ⟨a, 0, none⟩) ha).trans h.1, (hb.cell (p := ⟨a, 1, none⟩) ha).trans h.2.1, (hb.cell (p := ⟨a, 2, none⟩) ha).trans h.2.2.1, Nat.lt_of_lt_of_le h.2.2.2 hb.size⟩

def w1000 (x : Int) : Bool := inB x 0 1000
def rowB (n : Nat) (row : List Int) : Bool := decide (row.length = n) && (row.all w1000 && decide (row.sum ≠ 0))
def baseB (b : Int) : Bool := inB b 1 1000000000
def mdlK (m : Mdl) (k : Nat) : Bool := match m.rows[k]?, m.base[k]? with
  | some r, some b => baseB b && rowB m.zones.length r
  | _, _ => true
def mdlB (m : Mdl) : Bool := zonesB 32 m.zones && (decide (m.rows.length = 5) && (decide (m.base.length = 5) && allK (mdlK m) 5))
theorem mdlK_at {m : Mdl} {k : Nat} (h1 : k < m.rows.length) (h2 : k < m.base.length) : mdlK m k = (baseB m.base[k] && rowB m.zones.length m.rows[k]) := by
  unfold mdlK
  rw [List.getElem?_eq_getElem h1, List.getElem?_eq_getElem h2]
theorem mdlB_parts {m : Mdl} (h : mdlB m = true) : zonesB 32 m.zones = true ∧ m.rows.length = 5 ∧ m.base.length = 5 ∧ allK (mdlK m) 5 = true := by
  simp only [mdlB, Bool.and_eq_true, decide_eq_true_eq] at h
  exact ⟨h.1, h.2.1, h.2.2.1, h.2.2.2⟩
theorem mdlB_noz {m : Mdl} (h : zonesB 32 m.zones = false) : mdlB m = false := by unfold mdlB; rw [h]; rfl
theorem mdlB_nor {m : Mdl} (h : m.rows.length ≠ 5) : mdlB m = false := by unfold mdlB; rw [decide_eq_false h]; simp
theorem mdlB_nob {m : Mdl} (h : m.base.length ≠ 5) : mdlB m = false := by unfold mdlB; rw [decide_eq_false h]; simp
theorem mdlB_nok {m : Mdl} {k : Nat} (hk : k < 5) (h : mdlK m k = false) : mdlB m = false := by unfold mdlB; rw [allK_false (mdlK m) 5 k hk h]; simp
theorem mdlB_all {m : Mdl} (hz : zonesB 32 m.zones = true) (hr : m.rows.length = 5) (hb : m.base.length = 5) (h : allK (mdlK m) 5 = true) : mdlB m = true := by
  unfold mdlB; rw [hz, decide_eq_true hr, decide_eq_true hb, h]; rfl
theorem rowB_parts {n : Nat} {row : List Int} (h : rowB n row = true) : row.length = n ∧ (∀ x ∈ row, 0 ≤ x ∧ x ≤ 1000) ∧ row.sum ≠ 0 := by
  simp only [rowB, Bool.and_eq_true, decide_eq_true_eq] at h
  refine ⟨h.1, fun x hx => ?_, h.2.2⟩
  exact inB_true (List.all_eq_true.1 h.2.1 x hx)
theorem rowB_nol {n : Nat} {row : List Int} (h : row.length ≠ n) : rowB n row = false := by unfold rowB; rw [decide_eq_false h]; rfl
theorem rowB_now {n : Nat} {row : List Int} (h : row.all w1000 = false) : rowB n row = false := by unfold rowB; rw [h]; simp
theorem rowB_no0 {n : Nat} {row : List Int} (h : row.sum = 0) : rowB n row = false := by unfold rowB; rw [decide_eq_false (p := row.sum ≠ 0) (fun q => q h)]; simp
theorem rowB_yes {n : Nat} {row : List Int} (h1 : row.length = n) (h2 : row.all w1000 = true) (h3 : row.sum ≠ 0) : rowB n row = true := by unfold rowB; rw [decide_eq_true h1, h2, decide_eq_true h3]; rfl
theorem all_take {row : List Int} {z : Nat} (hz : z < row.length) (h : (row.take z).all w1000 = true) (hx : w1000 row[z] = true) : (row.take (z + 1)).all w1000 = true := by
  rw [List.take_succ_eq_append_getElem hz, List.all_append, h]; simp [hx]
theorem all_no {row : List Int} {z : Nat} (hz : z < row.length) (hx : w1000 row[z] = false) : row.all w1000 = false := by
  cases h : row.all w1000 with
  | false => rfl
  | true => have := List.all_eq_true.1 h row[z] (List.getElem_mem hz); rw [hx] at this; cases this
theorem sum_take {row : List Int} {z : Nat} (hz : z < row.length) : (row.take (z + 1)).sum = (row.take z).sum + row[z] := by
  rw [List.take_succ_eq_append_getElem hz, List.sum_append]; simp
theorem sum_bd {row : List Int} : (∀ x ∈ row, w1000 x = true) → 0 ≤ row.sum ∧ row.sum ≤ row.length * 1000 := by
  induction row with
  | nil => intro _; simp
  | cons x xs ih =>
    intro h
    have h1 := ih (fun y hy => h y (List.mem_cons_of_mem _ hy))
    have h2 := inB_true (h x (List.mem_cons_self ..))
    simp only [List.sum_cons, List.length_cons]
    push_cast; omega
/-- the greatest of some numbers -/
def maxL : List Int → Int
  | [] => 0
  | x :: xs => xs.foldl max x
theorem foldl_max (x : Int) : ∀ (xs : List Int), x ≤ xs.foldl max x ∧ (∀ y ∈ xs, y ≤ xs.foldl max x) ∧ (xs.foldl max x = x ∨ xs.foldl max x ∈ xs) := by
  intro xs
  induction xs generalizing x with
  | nil => exact ⟨Int.le_refl _, (fun y hy => by cases hy), .inl rfl⟩
  | cons y ys ih =>
    obtain ⟨h1, h2, h3⟩ := ih (max x y)
    simp only [List.foldl_cons]
    refine ⟨by omega, fun z hz => ?_, ?_⟩
    · rcases List.mem_cons.1 hz with rfl | q
      · omega
      · exact h2 z q
    · rcases h3 with h3 | h3
      · rcases Int.le_total x y with q | q
        · right; rw [h3]; rw [show max x y = y by omega]; exact List.mem_cons_self ..
        · left; rw [h3]; omega
      · right; exact List.mem_cons_of_mem _ h3
theorem maxL_ge {xs : List Int} (x : Int) (hx : x ∈ xs) : x ≤ maxL xs := by
  cases xs with
  | nil => cases hx
  | cons y ys =>
    obtain ⟨h1, h2, _⟩ := foldl_max y ys
    rcases List.mem_cons.1 hx with rfl | q
    · exact h1
    · exact h2 x q
theorem maxL_mem {xs : List Int} (h : xs ≠ []) : maxL xs ∈ xs := by
  cases xs with
  | nil => exact absurd rfl h
  | cons y ys =>
    rcases (foldl_max y ys).2.2 with q | q
    · show ys.foldl max y ∈ _; rw [q]; exact List.mem_cons_self ..
    · exact List.mem_cons_of_mem _ q
theorem maxL_snoc {xs : List Int} {k : Nat} (hk : k < xs.length) (h0 : 0 < k) : maxL (xs.take (k + 1)) = max (maxL (xs.take k)) xs[k] := by
  cases xs with
  | nil => simp at hk
  | cons y ys =>
    obtain ⟨j, rfl⟩ : ∃ j, k = j + 1 := ⟨k - 1, by omega⟩
    have hj : j < ys.length := by simpa using hk
    simp only [List.take_succ_cons, List.getElem_cons_succ]
    show (ys.take (j + 1)).foldl max y = _
    rw [List.take_succ_eq_append_getElem hj, List.foldl_append]; rfl
/-- no weight but 0 -/
theorem row_zero {row : List Int} (hne : row ≠ []) (h : maxL row = 0) : row.all w1000 = true → row.sum = 0 := by
  intro ha
  have key : ∀ (xs : List Int), (∀ x ∈ xs, x ≤ 0 ∧ 0 ≤ x) → xs.sum = 0 := by
    intro xs
    induction xs with
    | nil => intro _; rfl
    | cons x xs ih =>
      intro hx
      have h1 := hx x (List.mem_cons_self ..)
      have h2 := ih (fun y hy => hx y (List.mem_cons_of_mem _ hy))
      simp only [List.sum_cons]; omega
  refine key row fun x hx => ⟨?_, ?_⟩
  · have := maxL_ge x hx; omega
  · exact (inB_true (List.all_eq_true.1 ha x hx)).1
theorem row_pos {row : List Int} (hne : row ≠ []) (h : maxL row ≠ 0) (ha : row.all w1000 = true) : row.sum ≠ 0 := by
  have h1 := maxL_mem hne
  have h2 := (inB_true (List.all_eq_true.1 ha _ h1)).1
  have key : ∀ (xs : List Int), (∀ x ∈ xs, 0 ≤ x) → ∀ y ∈ xs, y ≤ xs.sum := by
    intro xs
    induction xs with
    | nil => intro _ y hy; cases hy
    | cons x xs ih =>
      intro hx y hy
      have h0 := hx x (List.mem_cons_self ..)
      have ih := ih (fun y hy => hx y (List.mem_cons_of_mem _ hy))
      have hs : 0 ≤ xs.sum := by
        cases xs with
        | nil => simp
        | cons z zs =>
          have := ih z (List.mem_cons_self ..)
          have := hx z (by simp)
          omega
      simp only [List.sum_cons]
      rcases List.mem_cons.1 hy with rfl | q
      · omega
      · have := ih y q; omega
  have := key row (fun x hx => (inB_true (List.all_eq_true.1 ha x hx)).1) _ h1
  omega
end Go.Proofs.YtcjekailcljaaaaGreat
namespace Go.Proofs.YtcjekailcljaaaaGreat
open Go.ChangeShapes Go.WideShapes Go.ChangeAt Go.RowKit Go.Deep Go.Joins
set_option linter.unusedVariables false
set_option maxRecDepth 100000
set_option linter.unusedSimpArgs false
theorem RowsAt.bd {w : World} {g : Nat} {ys xs : List Row} (h : RowsAt w g ys xs) (hi : ∀ x ∈ xs, x.2.length ≤ 1048576) : ∀ y ∈ ys, y.2.length ≤ 1048576 := fun y hy => by
  have : y.2 ∈ xs.map Prod.snd := by rw [← h.2.1]; exact List.mem_map.2 ⟨y, hy, rfl⟩
  obtain ⟨x, hx, e⟩ := List.mem_map.1 this
  rw [← e]; exact hi x hx
theorem RowsAt.rd {w : World} {g : Nat} {ys xs : List Row} (h : RowsAt w g ys xs) (hn : xs.length ≤ 1048576) : Rd w.heap.size w (.slice (some ⟨g, 0, none⟩) xs.length xs.length) 1 ys.length (ys.flatMap putV) := by
  rw [← rowLen h.2.1]
  exact h.1.rd h.lt (putV_len ys) (by have := rowLen h.2.1; unfold maxLen; omega) _ (Nat.le_refl _) (by have := rowLen h.2.1; unfold maxLen; omega)
theorem RowsAt.rdl {w : World} {g : Nat} {ys xs : List Row} (h : RowsAt w g ys xs) (hn : xs.length ≤ 1048576) (hi : ∀ x ∈ xs, x.2.length ≤ 1048576) : RdL w.heap.size w (.slice (some ⟨g, 0, none⟩) xs.length xs.length) (xs.map Prod.snd) := by
  have hl := rowLen h.2.1
  refine ⟨some ⟨g, 0, none⟩, xs.length, by rw [List.length_map], by rw [List.length_map]; exact Nat.le_refl _, by unfold maxLen; omega, (by intro q; cases q), fun hp => ⟨g, 0, rfl, h.lt, fun k hk => ?_⟩⟩
  have hk2 : k < xs.length := by rw [List.length_map] at hk; exact hk
  have hky : k < ys.length := by omega
  have e := rowAt h.2.1 k hky hk2
  refine ⟨ys[k].1, ?_, ?_⟩
  · rw [Nat.zero_add, h.1.cell]; exact putV_get ys k hky
  · have hm := (h.2.2 ys[k] (List.getElem_mem hky)).rd (h.bd hi ys[k] (List.getElem_mem hky))
    rw [List.getElem_map, ← e]
    exact hm
set_option maxHeartbeats 1000000 in
theorem eqModel (w : World) (g1 h1 k1 g2 h2 k2 : Nat) (Z B : List Int) (ys zs xs : List Row) (a1 : Own w g1 2 (Z.flatMap putI)) (a2 : Own w g2 2 (Z.flatMap putI)) (b1 : RowsAt w h1 ys xs) (b2 : RowsAt w h2 zs xs) (c1 : Own w k1 2 (B.flatMap putI)) (c2 : Own w k2 2 (B.flatMap putI))
    (hZ : Z.length ≤ 1048576) (hn : xs.length ≤ 1048576) (hi : ∀ x ∈ xs, x.2.length ≤ 1048576) (hB : B.length ≤ 1048576) :
    Calls Tryz.prog 15 #[.agg #[.slice (some ⟨g1, 0, none⟩) Z.length Z.length, .slice (some ⟨h1, 0, none⟩) xs.length xs.length, .slice (some ⟨k1, 0, none⟩) B.length B.length], .agg #[.slice (some ⟨g2, 0, none⟩) Z.length Z.length, .slice (some ⟨h2, 0, none⟩) xs.length xs.length, .slice (some ⟨k2, 0, none⟩) B.length B.length]] w fun e w' => e = .returned (.bool true) ∧ Below w.heap.size w w' := by
  have RZ1 : Hid (Rd w.heap.size w (.slice (some ⟨g1, 0, none⟩) Z.length Z.length) 1 Z.length (Z.flatMap putI)) := Lib.hid (a1.rd a1.lt (putI_len _) (by unfold maxLen; omega) _ (Nat.le_refl _) (by unfold maxLen; omega))
  have RZ2 : Hid (Rd w.heap.size w (.slice (some ⟨g2, 0, none⟩) Z.length Z.length) 1 Z.length (Z.flatMap putI)) := Lib.hid (a2.rd a2.lt (putI_len _) (by unfold maxLen; omega) _ (Nat.le_refl _) (by unfold maxLen; omega))
  have RB1 : Hid (Rd w.heap.size w (.slice (some ⟨k1, 0, none⟩) B.length B.length) 1 B.length (B.flatMap putI)) := Lib.hid (c1.rd c1.lt (putI_len _) (by unfold maxLen; omega) _ (Nat.le_refl _) (by unfold maxLen; omega))
  have RB2 : Hid (Rd w.heap.size w (.slice (some ⟨k2, 0, none⟩) B.length B.length) 1 B.length (B.flatMap putI)) := Lib.hid (c2.rd c2.lt (putI_len _) (by unfold maxLen; omega) _ (Nat.le_refl _) (by unfold maxLen; omega))
  have Y1 := Lib.hid (b1.rd hn)
  have Y2 := Lib.hid (b2.rd hn)
  have ly := rowLen b1.2.1
  have P1 : Hid (∀ y ∈ ys, Rd w.heap.size w y.1 1 y.2.length (y.2.flatMap putI) ∧ y.2.length ≤ 1048576) := Lib.hid (fun y hy => ⟨(b1.2.2 y hy).rd (b1.bd hi y hy), b1.bd hi y hy⟩)
  have P2 : Hid (∀ y ∈ zs, Rd w.heap.size w y.1 1 y.2.length (y.2.flatMap putI)) := Lib.hid (fun y hy => (b2.2.2 y hy).rd (b2.bd hi y hy))
  have SD : Hid (zs.map Prod.snd = ys.map Prod.snd) := Lib.hid (by rw [b1.2.1, b2.2.1])
  have hny : ys.length ≤ 1048576 := by omega
  have HR := Lib.hid (fun (w' : World) (hb : Below w.heap.size w w') => eqRows w' _ _ ys zs (Y1.out.up hb) (Y2.out.up hb) hny SD.out (fun y hy => ⟨(P1.out y hy).1.up hb, (P1.out y hy).2⟩) (fun y hy => (P2.out y hy).up hb))
  have HQ1 := Lib.hid (fun (w' : World) (hb : Below w.heap.size w w') => (eqInt64S w.heap.size w.heap.size w' _ _ Z Z (RZ1.out.below hb) (RZ2.out.below hb) hZ hZ rfl).mono fun e w'' h => (⟨h.1, h.2.below⟩ : e = .returned (.bool true) ∧ Below w'.heap.size w' w''))
  have HQ2 := Lib.hid (fun (w' : World) (hb : Below w.heap.size w w') => (eqInt64S w.heap.size w.heap.size w' _ _ B B (RB1.out.below hb) (RB2.out.below hb) hB hB rfl).mono fun e w'' h => (⟨h.1, h.2.below⟩ : e = .returned (.bool true) ∧ Below w'.heap.size w' w''))
  clear a1 a2 b1 b2 c1 c2 ly
  obtain ⟨W1, hW1⟩ : ∃ W1, w.alloc (.cells #[.slice (some ⟨g1, 0, none⟩) Z.length Z.length, .slice (some ⟨h1, 0, none⟩) xs.length xs.length, .slice (some ⟨k1, 0, none⟩) B.length B.length] 39) = W1 := ⟨_, rfl⟩
  obtain ⟨W2, hW2⟩ : ∃ W2, W1.alloc (.cells #[.slice (some ⟨g2, 0, none⟩) Z.length Z.length, .slice (some ⟨h2, 0, none⟩) xs.length xs.length, .slice (some ⟨k2, 0, none⟩) B.length B.length] 39) = W2 := ⟨_, rfl⟩
  have b1 : Below w.heap.size w W1 := hW1 ▸ (Below.refl _ _).alloc (Nat.le_refl _) _
  have b2 : Below W1.heap.size W1 W2 := hW2 ▸ (Below.refl _ _).alloc (Nat.le_refl _) _
  have M1 : Own W1 w.heap.size 39 [.slice (some ⟨g1, 0, none⟩) Z.length Z.length, .slice (some ⟨h1, 0, none⟩) xs.length xs.length, .slice (some ⟨k1, 0, none⟩) B.length B.length] := hW1 ▸ Own.new w _ _
  have M2 := Lib.hid (M1.below b2 M1.lt)
  have N2 : Hid (Own W2 W1.heap.size 39 [.slice (some ⟨g2, 0, none⟩) Z.length Z.length, .slice (some ⟨h2, 0, none⟩) xs.length xs.length, .slice (some ⟨k2, 0, none⟩) B.length B.length]) := Lib.hid (hW2 ▸ Own.new W1 _ _)
  have B2 := Lib.hid (bnext b1 b2)
  have m0 : W2.cell? ⟨w.heap.size, 0, none⟩ = some (.slice (some ⟨g1, 0, none⟩) Z.length Z.length) := M2.out.cell 0
  have n0 : W2.cell? ⟨W1.heap.size, 0, none⟩ = some (.slice (some ⟨g2, 0, none⟩) Z.length Z.length) := N2.out.cell 0
  have ml := M2.out.lt
  have nl := N2.out.lt
  clear b1 b2 M1
  go_enter Tryz.func15, Tryz.ntmps15
  go_wp2_with fail
  refine (HQ1.out W2 B2.out).mono ?_; rintro e w3 ⟨rfl, b3⟩
  have M3 := Lib.hid (M2.out.below b3 M2.out.lt)
  have N3 := Lib.hid (N2.out.below b3 N2.out.lt)
  have B3 := Lib.hid (bnext B2.out b3)
  have m1 : w3.cell? ⟨w.heap.size, 1, none⟩ = some (.slice (some ⟨h1, 0, none⟩) xs.length xs.length) := M3.out.cell 1
  have n1 : w3.cell? ⟨W1.heap.size, 1, none⟩ = some (.slice (some ⟨h2, 0, none⟩) xs.length xs.length) := N3.out.cell 1
  have ml3 := M3.out.lt
  have nl3 := N3.out.lt
  clear b3 m0 n0 ml nl M2 N2 B2 hW1 hW2
  go_wp2_with fail
  refine (HR.out w3 B3.out).mono ?_; rintro e w4 ⟨rfl, b4⟩
  have M4 := Lib.hid (M3.out.below b4 M3.out.lt)
  have N4 := Lib.hid (N3.out.below b4 N3.out.lt)
  have B4 := Lib.hid (bnext B3.out b4)
  have m2 : w4.cell? ⟨w.heap.size, 2, none⟩ = some (.slice (some ⟨k1, 0, none⟩) B.length B.length) := M4.out.cell 2
  have n2 : w4.cell? ⟨W1.heap.size, 2, none⟩ = some (.slice (some ⟨k2, 0, none⟩) B.length B.length) := N4.out.cell 2
  have ml4 := M4.out.lt
  have nl4 := N4.out.lt
  clear b4 m1 n1 ml3 nl3 M3 N3 B3
  go_wp2_with fail
  refine (HQ2.out w4 B4.out).mono ?_; rintro e w5 ⟨rfl, b5⟩
  have B5 := Lib.hid (bnext B4.out b5)
  clear b5
  go_wp2_with fail
  go_ret
  exact ⟨rfl, B5.out⟩
end Go.Proofs.YtcjekailcljaaaaGreat
