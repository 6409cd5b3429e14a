/- Contracts and plain facts, joined: MarkModel, HProfile, Any. -/
import Derived.Test.YtcjekailcljaaaaGreatRows
import Derived.Test.YtcjekailcljaaaaGreatZFnExactGreedyPlanA
import Derived.Test.YtcjekailcljaaaaGreatZFnExactGreedyPlanC
import Derived.Test.YtcjekailcljaaaaGreatZFnExactGreedyPlanJ
namespace Go.Proofs.YtcjekailcljaaaaGreat
open Go.ChangeShapes Go.WideShapes Go.ChangeAt Go.RowKit Go.Deep Go.Joins
set_option linter.unusedVariables false
set_option maxRecDepth 100000
set_option linter.unusedSimpArgs false
set_option maxHeartbeats 500000 in
theorem markProfileR (k : Int) (w : World) (lo hi : Nat) (s : ByteArray) (po : Option Addr) (pc n : Nat) (L : List Value) (h : Held lo hi w 123 3 (.slice po n pc) n L) (hhi : hi ≤ w.heap.size) (hn : n ≤ 1048576) (h1 : 1 ≤ k) (hk : k ≤ 536870912) :
    Calls Tryz.prog 19 #[.agg #[.string s, .slice po n pc], .int .i64 k] w fun e w' => e = .returned (.int .i64 (k + 3 * (n : Int))) ∧ Turn lo hi w w' := by
  obtain ⟨W1, hW1⟩ : ∃ W1, w.alloc (.cells #[.string s, .slice po n pc] 43) = W1 := ⟨_, rfl⟩
  have b1 : Below w.heap.size w W1 := hW1 ▸ (Below.refl _ _).alloc (Nat.le_refl _) _
  have X1 : Own W1 w.heap.size 43 [.string s, .slice po n pc] := hW1 ▸ Own.new w _ _
  have x1 : W1.cell? ⟨w.heap.size, 1, none⟩ = some (.slice po n pc) := X1.cell 1
  have xl := X1.lt
  have T1 := Lib.hid (Turn.of_below (lo := lo) (hi := hi) b1)
  have HM := Lib.hid (markRingS k W1 lo hi _ n L (h.below b1) hn h1 hk)
  clear h b1 X1
  go_enter Tryz.func19, Tryz.ntmps19
  go_wp2_with fail
  refine HM.out.mono ?_; rintro e w2 ⟨rfl, t2, _⟩
  have T2 := Lib.hid (T1.out.trans t2)
  clear t2 x1 xl hW1 HM
  go_wp2_with fail
  go_ret
  exact ⟨rfl, T2.out⟩
set_option maxHeartbeats 500000 in
theorem markModel (k : Int) (w : World) (lo hi gz gw gb : Nat) (Z B : List Int) (ys xs : List Row) (hz : Own w gz 2 (Z.flatMap putI)) (hr : RowsIn gw gb w gw ys xs) (hb : Own w gb 2 (B.flatMap putI)) (hlo : lo ≤ gz) (hzw : gz < gw) (hbh : gb < hi) (hhi : hi ≤ w.heap.size)
    (hZ : Z.length ≤ 1048576) (hn : xs.length ≤ 1048576) (hc : wtRows xs ≤ 1048576) (hB : B.length ≤ 1048576) (h1 : 1 ≤ k) (hk : k ≤ 134217728) :
    Calls Tryz.prog 18 #[.agg #[.slice (some ⟨gz, 0, none⟩) Z.length Z.length, .slice (some ⟨gw, 0, none⟩) xs.length xs.length, .slice (some ⟨gb, 0, none⟩) B.length B.length], .int .i64 k] w fun e w' => e = .returned (.int .i64 (k + 1 * (Z.length : Int) + (wtRows xs : Int) + 1 * (B.length : Int))) ∧ Turn lo hi w w' := by
  obtain ⟨W1, hW1⟩ : ∃ W1, w.alloc (.cells #[.slice (some ⟨gz, 0, none⟩) Z.length Z.length, .slice (some ⟨gw, 0, none⟩) xs.length xs.length, .slice (some ⟨gb, 0, none⟩) B.length B.length] 39) = W1 := ⟨_, rfl⟩
  have b1 : Below w.heap.size w W1 := hW1 ▸ (Below.refl _ _).alloc (Nat.le_refl _) _
  have X1 : Own W1 w.heap.size 39 [.slice (some ⟨gz, 0, none⟩) Z.length Z.length, .slice (some ⟨gw, 0, none⟩) xs.length xs.length, .slice (some ⟨gb, 0, none⟩) B.length B.length] := hW1 ▸ Own.new w _ _
  have HX1 := Lib.hid X1
  have hwb : gw < gb := hr.2.2.1
  have T1 := Lib.hid (Turn.of_below (lo := lo) (hi := hi) b1)
  have x0 : W1.cell? ⟨w.heap.size, 0, none⟩ = some (.slice (some ⟨gz, 0, none⟩) Z.length Z.length) := X1.cell 0
  have xl := X1.lt
  have HZ := Lib.hid (hz.below b1 hz.lt)
  have HR := Lib.hid (hr.turn (Turn.of_below (lo := gb) (hi := gb) b1) (.inl (Nat.le_refl _)))
  have HB := Lib.hid (hb.below b1 hb.lt)
  have HM1 := Lib.hid (markInt64S k W1 gz (gz + 1) _ Z.length _ (Held.of_own (n := Z.length) (s := 1) HZ.out (putI_len _) (by unfold maxLen; omega)) hZ h1 (by omega))
  obtain ⟨k2, hk2⟩ : ∃ q, k + 1 * (Z.length : Int) = q := ⟨_, rfl⟩
  obtain ⟨k3, hk3⟩ : ∃ q, k2 + (wtRows xs : Int) = q := ⟨_, rfl⟩
  obtain ⟨k4, hk4⟩ : ∃ q, k3 + 1 * (B.length : Int) = q := ⟨_, rfl⟩
  have bk2 : 1 ≤ k2 ∧ k2 ≤ 268435456 := by omega
  have bk3 : 1 ≤ k3 ∧ k3 ≤ 536870912 := by omega
  rw [hk2] at HM1
  have HK3 := Lib.hid hk3
  have HK4 := Lib.hid hk4
  rw [hk2, hk3, hk4]
  clear hz hr hb b1 X1 hk2 hk3 hk4
  go_enter Tryz.func18, Tryz.ntmps18
  go_wp2_with fail
  refine HM1.out.mono ?_; rintro e w2 ⟨rfl, t2, _⟩
  have X2 := HX1.out.turn t2 (.inr (by omega))
  have HX2 := Lib.hid X2
  have T2 := Lib.hid (T1.out.trans (t2.wide (by omega) (by omega)))
  have HR2 := Lib.hid (HR.out.turn t2 (.inr (by omega)))
  have HB2 := Lib.hid (HB.out.turn t2 (.inr (by omega)))
  have x1 : w2.cell? ⟨w.heap.size, 1, none⟩ = some (.slice (some ⟨gw, 0, none⟩) xs.length xs.length) := X2.cell 1
  have xl2 := X2.lt
  have HM2 := Lib.hid (markRows k2 w2 gw gb gw ys xs HR2.out hn hc bk2.1 bk2.2)
  rw [HK3.out] at HM2
  clear t2 X2 HX1 HM1 HR HB HZ x0 xl T1 hW1
  go_wp2_with fail
  refine HM2.out.mono ?_; rintro e w3 ⟨rfl, t3⟩
  have X3 := HX2.out.turn t3 (.inr (by omega))
  have T3 := Lib.hid (T2.out.trans (t3.wide (by omega) (by omega)))
  have HB3 := HB2.out.turn t3 (.inr (Nat.le_refl _))
  have x2 : w3.cell? ⟨w.heap.size, 2, none⟩ = some (.slice (some ⟨gb, 0, none⟩) B.length B.length) := X3.cell 2
  have xl3 := X3.lt
  have HM3 := Lib.hid (markInt64S k3 w3 gb (gb + 1) _ B.length _ (Held.of_own (n := B.length) (s := 1) HB3 (putI_len _) (by unfold maxLen; omega)) hB bk3.1 bk3.2)
  rw [HK4.out] at HM3
  clear t3 X3 HX2 HM2 HR2 HB2 x1 xl2 T2 HB3
  go_wp2_with fail
  refine HM3.out.mono ?_; rintro e w4 ⟨rfl, t4, _⟩
  have T4 := Lib.hid (T3.out.trans (t4.wide (by omega) (by omega)))
  clear t4 x2 xl3 HM3
  go_wp2_with fail
  go_ret
  exact ⟨rfl, T4.out⟩
end Go.Proofs.YtcjekailcljaaaaGreat
namespace Go.Proofs.YtcjekailcljaaaaGreat
open Go.ChangeShapes Go.WideShapes Go.ChangeAt Go.RowKit Go.Deep Go.Joins
set_option linter.unusedVariables false
set_option maxRecDepth 100000
set_option linter.unusedSimpArgs false
theorem toProfile (x : Profile) (w : World) (h : Rd w.heap.size w x.list 3 x.rings.length (x.rings.flatMap Ring.put)) (hn : x.rings.length ≤ 1048576) :
    Calls Tryz.prog 10 #[.agg #[.string x.name, x.list]] w fun e w' => ∃ g, e = .returned (.agg #[.string x.name, .slice (some ⟨g, 0, none⟩) x.rings.length x.rings.length]) ∧ w.heap.size ≤ g ∧ Own w' g 123 (x.rings.flatMap Ring.put) ∧ Below w.heap.size w w' := by
  have H := Lib.hid h
  obtain ⟨lo, lc, hl⟩ := h.form
  rw [hl] at H ⊢
  clear h hl
  go_enter Tryz.func10, Tryz.ntmps10
  go_wp2_with fail
  refine (toRingS _ _ x.rings (by exact H.out.up (by (repeat' (first | (with_reducible exact Below.refl _ _) | (with_reducible assumption) | (with_reducible refine below_dn ?_ _) | (with_reducible refine Below.drew ?_) | (with_reducible refine Below.alloc ?_ ?_ _) | (with_reducible refine Below.setCell ?_ ?_ _) | go_size)))) hn).mono ?_; rintro e w1 ⟨g, rfl, hg, o1, b1⟩
  obtain ⟨hc, hf⟩ := bcell b1
  have O1 := Lib.hid o1; clear o1
  have M : Own w1 (w.heap.size + 1) 43 [.string ⟨#[]⟩, .slice none 0 0] := by
    refine Own.below (Own.alloc ?_ _) b1 (by simp)
    have e1 : (w.alloc (Obj.cells #[Value.string x.name, Value.slice lo x.rings.length lc] 28)).heap.size = w.heap.size + 1 := by simp
    rw [← e1]
    exact Own.new _ _ [.string ⟨#[]⟩, .slice none 0 0]
  have c10 : w1.cell? ⟨w.heap.size + 1, 0, none⟩ = some (.string ⟨#[]⟩) := M.cell 0
  have c11 : w1.cell? ⟨w.heap.size + 1, 1, none⟩ = some (.slice none 0 0) := M.cell 1
  have HB := Lib.hid b1; clear b1
  have HG := Lib.hid hg; clear hg
  go_wp2_with fail
  clear hc hf c10 c11
  refine bodyPost_ret (v := .agg #[.string x.name, .slice (some ⟨g, 0, none⟩) x.rings.length x.rings.length]) ?_ rfl ?_
  · have M2 := (((M.other (a := ⟨w.heap.size + 1 + 1, 1, none⟩) (by simp) (Value.slice (some ⟨g, 0, none⟩) x.rings.length x.rings.length)).set 0 (.string x.name)).set 1 (Value.slice (some ⟨g, 0, none⟩) x.rings.length x.rings.length))
    have d0 := M2.cell 0
    have d1 := M2.cell 1
    simp only [List.set, List.getElem?_cons_zero, List.getElem?_cons_succ] at d0 d1
    clear M M2 HB O1
    simp [results, Tryz.results10, go_sem, d0, d1]
  · refine ⟨g, rfl, ?_, ?_, ?_⟩
    · have := HG.out; simp at this; omega
    · have := HG.out
      simp at this
      exact ((O1.out.other (by simp; omega) _).other (by simp; omega) _).other (by simp; omega) _
    · refine Below.setCell (Below.setCell (Below.setCell (Below.trans ?_ (HB.out.mono (by simp; omega))) ?_ _) ?_ _) ?_ _
      all_goals first | (simp; done) | (simp; omega) | (repeat' (first | (with_reducible exact Below.refl _ _) | (with_reducible assumption) | (with_reducible refine below_dn ?_ _) | (with_reducible refine Below.drew ?_) | (with_reducible refine Below.alloc ?_ ?_ _) | (with_reducible refine Below.setCell ?_ ?_ _) | go_size))

theorem eqProfile (x : Profile) (l1 l2 : Value) (w : World) (h1 : Rd w.heap.size w l1 3 x.rings.length (x.rings.flatMap Ring.put)) (h2 : Rd w.heap.size w l2 3 x.rings.length (x.rings.flatMap Ring.put)) (hn : x.rings.length ≤ 1048576) :
    Calls Tryz.prog 16 #[.agg #[.string x.name, l1], .agg #[.string x.name, l2]] w fun e w' => e = .returned (.bool true) ∧ Below w.heap.size w w' := by
  have H1 := Lib.hid h1; clear h1
  have H2 := Lib.hid h2; clear h2
  go_enter Tryz.func16, Tryz.ntmps16
  go_wp2_with fail
  refine (eqRingS _ _ _ x.rings (by exact H1.out.up (by (repeat' (first | (with_reducible exact Below.refl _ _) | (with_reducible assumption) | (with_reducible refine below_dn ?_ _) | (with_reducible refine Below.drew ?_) | (with_reducible refine Below.alloc ?_ ?_ _) | (with_reducible refine Below.setCell ?_ ?_ _) | go_size)))) (by exact H2.out.up (by (repeat' (first | (with_reducible exact Below.refl _ _) | (with_reducible assumption) | (with_reducible refine below_dn ?_ _) | (with_reducible refine Below.drew ?_) | (with_reducible refine Below.alloc ?_ ?_ _) | (with_reducible refine Below.setCell ?_ ?_ _) | go_size)))) hn).mono ?_; rintro e w1 ⟨rfl, b1⟩
  go_wp2_with fail
  go_ret
  exact ⟨rfl, Below.trans (by (repeat' (first | (with_reducible exact Below.refl _ _) | (with_reducible assumption) | (with_reducible refine below_dn ?_ _) | (with_reducible refine Below.drew ?_) | (with_reducible refine Below.alloc ?_ ?_ _) | (with_reducible refine Below.setCell ?_ ?_ _) | go_size))) (b1.mono (by simp <;> omega))⟩

theorem szProfile (x : Profile) (left : Int) (w : World) (h : x.ok w) (h0 : 0 ≤ left) (h1 : left ≤ 1048576) :
    Calls Tryz.prog 6 #[.agg #[.string x.name, x.list], .int .i64 left] w fun e w' => e = .returned (.int .i64 (szR left (x.name.size + x.rings.length))) ∧ Below w.heap.size w w' := by
  obtain ⟨hi, hr, hl, _⟩ := h
  have hi2 := hi
  unfold maxLen at hi2
  have HR := Lib.hid hr; clear hr
  by_cases hq : (x.name.size : Int) ≤ left
  case neg =>
    have e : Hid (szR left (x.name.size + x.rings.length) = -1) := (if_neg (by omega) : szR left (x.name.size + x.rings.length) = -1)
    go_enter Tryz.func6, Tryz.ntmps6
    go_wp2
    go_ret
    exact ⟨by rw [e.out]; rfl, by (repeat' (first | (with_reducible exact Below.refl _ _) | (with_reducible assumption) | (with_reducible refine below_dn ?_ _) | (with_reducible refine Below.drew ?_) | (with_reducible refine Below.alloc ?_ ?_ _) | (with_reducible refine Below.setCell ?_ ?_ _) | go_size))⟩
  have es : Hid (szR (left - x.name.size) x.rings.length = szR left (x.name.size + x.rings.length)) := (by
    unfold szR
    by_cases hz : ((x.rings.length : Nat) : Int) ≤ left - x.name.size
    · rw [if_pos hz, if_pos (by push_cast at *; omega)]; push_cast; omega
    · rw [if_neg hz, if_neg (by push_cast at *; omega)] : szR (left - x.name.size) x.rings.length = szR left (x.name.size + x.rings.length))
  generalize hZ : szR left (x.name.size + x.rings.length) = z at es
  have hzr : -1 ≤ z ∧ z ≤ left := by
    rw [← hZ]; unfold szR; split <;> omega
  clear hZ
  rcases (show z = -1 ∨ 0 ≤ z by omega) with rfl | hz0
  all_goals
    go_enter Tryz.func6, Tryz.ntmps6
    go_wp2_with fail
    refine (szRingS _ _ x.rings _ w.heap.size (by exact HR.out.below (by (repeat' (first | (with_reducible exact Below.refl _ _) | (with_reducible assumption) | (with_reducible refine below_dn ?_ _) | (with_reducible refine Below.drew ?_) | (with_reducible refine Below.alloc ?_ ?_ _) | (with_reducible refine Below.setCell ?_ ?_ _) | go_size)))) hl (by omega) (by omega)).mono ?_; rw [es.out]; rintro e w1 ⟨rfl, rfl⟩
    go_wp2_with fail
    go_ret
    exact ⟨rfl, by (repeat' (first | (with_reducible exact Below.refl _ _) | (with_reducible assumption) | (with_reducible refine below_dn ?_ _) | (with_reducible refine Below.drew ?_) | (with_reducible refine Below.alloc ?_ ?_ _) | (with_reducible refine Below.setCell ?_ ?_ _) | go_size))⟩

theorem Profile.ok.up {w w' : World} {x : Profile} (h : x.ok w) (hb : Below w.heap.size w w') : x.ok w' := ⟨h.1, h.2.1.up hb, h.2.2⟩
end Go.Proofs.YtcjekailcljaaaaGreat
namespace Go.Proofs.YtcjekailcljaaaaGreat
open Go.ChangeShapes Go.WideShapes Go.ChangeAt Go.RowKit Go.Deep Go.Joins
set_option linter.unusedVariables false
set_option maxRecDepth 100000
set_option linter.unusedSimpArgs false
theorem any_take {α : Type} {p : α → Bool} (xs : List α) (k : Nat) (h : k < xs.length) : (xs.take (k + 1)).any p = ((xs.take k).any p || p xs[k]) := by
  rw [List.take_succ_eq_append_getElem h, List.any_append]; simp
theorem any_at {α : Type} {p : α → Bool} (xs : List α) (k : Nat) (h : k < xs.length) (hp : p xs[k] = true) : xs.any p = true := by
  rw [List.any_eq_true]; exact ⟨xs[k], List.getElem_mem h, hp⟩
theorem any_full {α : Type} {p : α → Bool} {xs : List α} {k : Nat} (h : (xs.take k).any p = false) (hk : xs.length ≤ k) : xs.any p = false := by
  rwa [List.take_of_length_le hk] at h
theorem any_two {α β : Type} (f : α → β → Bool) (g : β → α → Bool) (hfg : ∀ a b, f a b = g b a) (xs : List α) (ys : List β) : (xs.any fun a => ys.any fun b => f a b) = ys.any fun b => xs.any fun a => g b a := by
  rw [Bool.eq_iff_iff]
  simp only [List.any_eq_true]
  constructor
  · rintro ⟨a, ha, b, hb, h⟩; exact ⟨b, hb, a, ha, by rw [← hfg]; exact h⟩
  · rintro ⟨b, hb, a, ha, h⟩; exact ⟨a, ha, b, hb, by rw [hfg]; exact h⟩
end Go.Proofs.YtcjekailcljaaaaGreat
