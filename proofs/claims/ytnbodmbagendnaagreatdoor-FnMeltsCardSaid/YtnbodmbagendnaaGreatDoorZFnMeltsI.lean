/- Contracts and plain facts, joined: DrawnI, DrawI. -/
import Derived.Test.YtnbodmbagendnaaGreatDoorRows
import Derived.Test.YtnbodmbagendnaaGreatDoorZFnMeltsD
import Derived.Test.YtnbodmbagendnaaGreatDoorZFnMeltsF
import Derived.Test.YtnbodmbagendnaaGreatDoorZFnMeltsG
import Derived.Test.YtnbodmbagendnaaGreatDoorZFnMeltsH
import Derived.Deep.RegionHeld3
namespace Go.Proofs.YtnbodmbagendnaaGreatDoor
open Go.ChangeShapes Go.WideShapes Go.ChangeAt Go.RowKit Go.Deep Go.Joins
set_option linter.unusedVariables false
set_option maxRecDepth 100000
set_option linter.unusedSimpArgs false
/-- the name of the drawn ingot k -/
def letB (k : Nat) : ByteArray := ⟨#[UInt8.ofNat (97 + k)]⟩
/-- what is known of drawn ingots -/
def drawnI (xs : List Ingot) : Prop := xs.length ≤ 7 ∧ ∀ k (h : k < xs.length), xs[k].id = letB k ∧ (1000 ≤ xs[k].mass ∧ xs[k].mass ≤ 90000) ∧ alloyB xs[k].alloy = true
theorem letB_name : ∀ k, k < 7 → nameB (letB k) = true := by
  intro k hk
  match k, hk with
  | 0, _ => decide
  | 1, _ => decide
  | 2, _ => decide
  | 3, _ => decide
  | 4, _ => decide
  | 5, _ => decide
  | 6, _ => decide
theorem drawn_one {xs : List Ingot} (h : drawnI xs) : ∀ x ∈ xs, ingotB x = true := by
  intro x hx
  obtain ⟨k, hk, rfl⟩ := List.mem_iff_getElem.1 hx
  obtain ⟨h1, h2, h3⟩ := h.2 k hk
  have h7 := h.1
  unfold ingotB
  rw [h1, letB_name k (by omega), h3, inB_mk ⟨by omega, by omega⟩]; rfl
theorem drawn_nil : drawnI [] := ⟨by simp, fun k h => absurd h (by simp)⟩
theorem drawn_snoc {xs : List Ingot} {x : Ingot} (h : drawnI xs) (hl : xs.length < 7) (h1 : x.id = letB xs.length) (h2 : 1000 ≤ x.mass ∧ x.mass ≤ 90000) (h3 : alloyB x.alloy = true) : drawnI (xs ++ [x]) := by
  refine ⟨by simp; omega, fun k hk => ?_⟩
  by_cases q : k < xs.length
  · rw [List.getElem_append_left q]; exact h.2 k q
  · have : k = xs.length := by simp at hk; omega
    subst this
    rw [List.getElem_append_right (Nat.le_refl _)]
    simp only [Nat.sub_self, List.getElem_cons_zero]
    exact ⟨h1, h2, h3⟩
theorem letB_lt (k : Nat) (h : k < 6) : Op.bytesLess (letB k).toList (letB (k + 1)).toList = true := by
  rw [ByteArray.toList_eq, ByteArray.toList_eq]
  match k, h with
  | 0, _ => decide
  | 1, _ => decide
  | 2, _ => decide
  | 3, _ => decide
  | 4, _ => decide
  | 5, _ => decide
theorem drawn_valid {xs : List Ingot} (h : drawnI xs) : validIngotS xs = true := by
  have h7 := h.1
  unfold validIngotS
  rw [Bool.and_eq_true, decide_eq_true_eq]
  refine ⟨allK_intro fun k hk => ?_, by omega⟩
  have ho := drawn_one h xs[k] (List.getElem_mem hk)
  by_cases h0 : 0 < k
  · refine stepB_yes hk h0 ho ?_
    unfold ltKIngot
    obtain ⟨j, rfl⟩ : ∃ j, k = j + 1 := ⟨k - 1, by omega⟩
    show Op.bytesLess xs[j].id.toList xs[j + 1].id.toList = true
    rw [(h.2 (j + 1) hk).1, (h.2 j (by omega)).1]
    exact letB_lt j (by omega)
  · exact stepB_k0 hk (by omega) ho
end Go.Proofs.YtnbodmbagendnaaGreatDoor
namespace Go.Proofs.YtnbodmbagendnaaGreatDoor
open Go.ChangeShapes Go.WideShapes Go.ChangeAt Go.RowKit Go.Deep Go.Joins
set_option linter.unusedVariables false
set_option maxRecDepth 100000
set_option linter.unusedSimpArgs false
theorem alloy_drawn {t o : Int} (ht : t ∈ [(0 : Int), 200000, 220000, 230000, 1000000, 150000]) (ho : (t < 1000000 ∧ o ∈ [(0 : Int), 0, 5000, 20000]) ∨ (¬ t < 1000000 ∧ o = 0)) : alloyB ⟨1000000 - t - o, t, o⟩ = true := by
  have h1 : t = 0 ∨ t = 200000 ∨ t = 220000 ∨ t = 230000 ∨ t = 1000000 ∨ t = 150000 := by simpa using ht
  have h2 : 0 ≤ o ∧ o ≤ 20000 ∧ (¬ t < 1000000 → o = 0) := by
    rcases ho with ⟨_, h⟩ | ⟨_, h⟩
    · have : o = 0 ∨ o = 0 ∨ o = 5000 ∨ o = 20000 := by simpa using h
      omega
    · omega
  simp only [alloyB, Bool.and_eq_true, decide_eq_true_eq]
  exact ⟨inB_mk ⟨by omega, by omega⟩, inB_mk ⟨by omega, by omega⟩, inB_mk ⟨by omega, by omega⟩, by omega⟩
set_option maxHeartbeats 4000000 in
theorem draw_alloy (w : World) (g n : Nat) (h : Src w g n) (hn : n ≤ 1000000) :
    Calls Tryz.prog 101 #[.pointer (some ⟨g, 0, none⟩)] w fun e w' => ∃ a : Alloy, e = .returned (.agg #[.int .i64 a.copper, .int .i64 a.tin, .int .i64 a.other]) ∧ alloyB a = true ∧ Src w' g (n + 4) ∧ Turn g (g + 1) w w' := by
  have hg := h.lt
  obtain ⟨W1, hW1⟩ : ∃ W1, w.alloc (.cells #[.int .i64 0, .int .i64 0, .int .i64 0] 75) = W1 := ⟨_, rfl⟩
  have e1 : W1.heap.size = w.heap.size + 1 := by rw [← hW1]; simp
  obtain ⟨W2, hW2⟩ : ∃ W2, W1.alloc (.cells #[.int .i64 0, .int .i64 200000, .int .i64 220000, .int .i64 230000, .int .i64 1000000, .int .i64 150000] 2) = W2 := ⟨_, rfl⟩
  have e2 : W2.heap.size = w.heap.size + 2 := by rw [← hW2]; simp [e1]
  have T2 : Turn g (g + 1) w W2 := by rw [← hW2, ← hW1]; exact ((Turn.refl _ _ w).allocR _).allocR _
  have R1 : Own W1 w.heap.size 75 [.int .i64 0, .int .i64 0, .int .i64 0] := by rw [← hW1]; exact Own.new w _ _
  have R2 : Own W2 w.heap.size 75 [.int .i64 0, .int .i64 0, .int .i64 0] := by rw [← hW2]; exact R1.alloc _
  have S2 : Src W2 g n := by rw [← hW2, ← hW1]; exact (h.below ((Below.refl _ _).alloc (Nat.le_refl _) _)).below ((Below.refl _ _).alloc (Nat.le_refl _) _)
  have L2 : Rd W2.heap.size W2 (.slice (some ⟨W1.heap.size, 0, none⟩) 6 6) 1 6 ([(0 : Int), 200000, 220000, 230000, 1000000, 150000].flatMap putI) := by
    have o : Own W2 W1.heap.size 2 [.int .i64 0, .int .i64 200000, .int .i64 220000, .int .i64 230000, .int .i64 1000000, .int .i64 150000] := by rw [← hW2]; exact Own.new W1 _ _
    exact o.rd o.lt (n := 6) rfl (by unfold maxLen; omega) _ (Nat.le_refl _) (by unfold maxLen; omega)
  rw [e1] at L2
  have HX := Lib.hid (src_among W2 g n _ _ S2 (by omega) L2 (by decide) (by decide) (by rintro b off l c e; injection e with e _ _; injection e with e; injection e with e; omega))
  have HR2 := Lib.hid R2
  have HT2 := Lib.hid T2
  clear R1 R2 S2 L2 T2 h
  go_enter Tryz.func101, Tryz.ntmps101
  go_wp2_with fail
  refine HX.out.mono ?_; rintro e w3 ⟨t, rfl, ht, s3, t3⟩
  have HTN := Lib.hid ht
  have htb : 0 ≤ t ∧ t ≤ 1000000 := by
    have h1 : t = 0 ∨ t = 200000 ∨ t = 220000 ∨ t = 230000 ∨ t = 1000000 ∨ t = 150000 := by simpa using ht
    omega
  have z3 : W2.heap.size ≤ w3.heap.size := t3.size
  have R3 := Lib.hid (HR2.out.turn t3 (.inr (by omega)))
  have T3 := Lib.hid (HT2.out.trans t3)
  have S3 := Lib.hid s3
  clear ht s3 t3 HX HR2 HT2
  by_cases hlt : t < 1000000
  · have tl : decide (t < 1000000) = true := decide_eq_true hlt
    have R5 : Hid (Own ((w3.alloc (.cells #[.int .i64 0, .int .i64 t, .int .i64 0] 75)).alloc (.cells #[.int .i64 0, .int .i64 0, .int .i64 5000, .int .i64 20000] 2)) w.heap.size 75 [.int .i64 0, .int .i64 0, .int .i64 0]) := Lib.hid ((R3.out.alloc _).alloc _)
    have A5 : Hid (Own ((w3.alloc (.cells #[.int .i64 0, .int .i64 t, .int .i64 0] 75)).alloc (.cells #[.int .i64 0, .int .i64 0, .int .i64 5000, .int .i64 20000] 2)) w3.heap.size 75 [.int .i64 0, .int .i64 t, .int .i64 0]) := Lib.hid ((Own.new w3 _ _).alloc _)
    have T5 : Hid (Turn g (g + 1) w ((w3.alloc (.cells #[.int .i64 0, .int .i64 t, .int .i64 0] 75)).alloc (.cells #[.int .i64 0, .int .i64 0, .int .i64 5000, .int .i64 20000] 2))) := Lib.hid ((T3.out.allocR _).allocR _)
    have S5 : Src ((w3.alloc (.cells #[.int .i64 0, .int .i64 t, .int .i64 0] 75)).alloc (.cells #[.int .i64 0, .int .i64 0, .int .i64 5000, .int .i64 20000] 2)) g (n + 2) := (S3.out.below ((Below.refl _ _).alloc (Nat.le_refl _) _)).below ((Below.refl _ _).alloc (Nat.le_refl _) _)
    have o5 : Own ((w3.alloc (.cells #[.int .i64 0, .int .i64 t, .int .i64 0] 75)).alloc (.cells #[.int .i64 0, .int .i64 0, .int .i64 5000, .int .i64 20000] 2)) (w3.heap.size + 1) 2 [.int .i64 0, .int .i64 0, .int .i64 5000, .int .i64 20000] := Own.newAt _ _ (by simp)
    have L5 : Rd ((w3.alloc (.cells #[.int .i64 0, .int .i64 t, .int .i64 0] 75)).alloc (.cells #[.int .i64 0, .int .i64 0, .int .i64 5000, .int .i64 20000] 2)).heap.size ((w3.alloc (.cells #[.int .i64 0, .int .i64 t, .int .i64 0] 75)).alloc (.cells #[.int .i64 0, .int .i64 0, .int .i64 5000, .int .i64 20000] 2)) (.slice (some ⟨w3.heap.size + 1, 0, none⟩) 4 4) 1 4 ([(0 : Int), 0, 5000, 20000].flatMap putI) := o5.rd o5.lt (n := 4) rfl (by unfold maxLen; omega) _ (Nat.le_refl _) (by unfold maxLen; omega)
    have HX2 := Lib.hid (src_among ((w3.alloc (.cells #[.int .i64 0, .int .i64 t, .int .i64 0] 75)).alloc (.cells #[.int .i64 0, .int .i64 0, .int .i64 5000, .int .i64 20000] 2)) g (n + 2) _ _ S5 (by omega) L5 (by decide) (by decide) (by rintro b off l c e; injection e with e _ _; injection e with e; injection e with e; omega))
    clear L5 S5 o5 R3 T3 S3
    go_wp2_with fail
    refine HX2.out.mono ?_; rintro e w6 ⟨o, rfl, ho, s6, t6⟩
    have HA := Lib.hid (alloy_drawn HTN.out (.inl ⟨hlt, ho⟩))
    have hob : 0 ≤ o ∧ o ≤ 20000 := by
      have h1 : o = 0 ∨ o = 0 ∨ o = 5000 ∨ o = 20000 := by simpa using ho
      omega
    have R6 := Lib.hid (R5.out.turn t6 (.inr (by omega)))
    have A6 := Lib.hid (A5.out.turn t6 (.inr (by omega)))
    have T6 := Lib.hid (T5.out.trans t6)
    have S6 := Lib.hid s6
    clear ho s6 t6 R5 A5 T5 HX2
    have x0 : w6.cell? ⟨w3.heap.size, 0, none⟩ = some (.int .i64 0) := A6.out.cell 0
    have fx0 := A6.out.free 0
    have x1 : w6.cell? ⟨w3.heap.size, 1, none⟩ = some (.int .i64 t) := A6.out.cell 1
    have fx1 := A6.out.free 1
    have x2 : w6.cell? ⟨w3.heap.size, 2, none⟩ = some (.int .i64 0) := A6.out.cell 2
    have fx2 := A6.out.free 2
    have hltx := A6.out.lt
    have r0 : w6.cell? ⟨w.heap.size, 0, none⟩ = some (.int .i64 0) := R6.out.cell 0
    have fr0 := R6.out.free 0
    have r1 : w6.cell? ⟨w.heap.size, 1, none⟩ = some (.int .i64 0) := R6.out.cell 1
    have fr1 := R6.out.free 1
    have r2 : w6.cell? ⟨w.heap.size, 2, none⟩ = some (.int .i64 0) := R6.out.cell 2
    have fr2 := R6.out.free 2
    have hltr := R6.out.lt
    have hne1 : ¬ w.heap.size = w3.heap.size := by omega
    have hne2 : ¬ w3.heap.size = w.heap.size := by omega
    go_wp2_with fail
    refine bodyPost_ret (v := .agg #[.int .i64 (1000000 - t - o), .int .i64 t, .int .i64 o]) (by simp [results, Tryz.results101, go_sem, x0, x1, x2, r0, r1, r2, hltx, hltr, hne1, hne2]) rfl ?_
    refine ⟨⟨1000000 - t - o, t, o⟩, rfl, HA.out, ?_, ?_⟩
    · repeat (refine Src.set ?_ (by omega) _ _)
      exact S6.out
    · repeat (refine Turn.setNew ?_ (by omega) _ _)
      exact T6.out
  · have tl : decide (t < 1000000) = false := decide_eq_false hlt
    have HA := Lib.hid (alloy_drawn HTN.out (.inr ⟨hlt, rfl⟩))
    have RB : Hid (Own (w3.alloc (.cells #[.int .i64 (1000000 - t), .int .i64 t, .int .i64 0] 75)) w.heap.size 75 [.int .i64 0, .int .i64 0, .int .i64 0]) := Lib.hid (R3.out.alloc _)
    have TB : Hid (Turn g (g + 1) w (w3.alloc (.cells #[.int .i64 (1000000 - t), .int .i64 t, .int .i64 0] 75))) := Lib.hid (T3.out.allocR _)
    have SB : Hid (Src (w3.alloc (.cells #[.int .i64 (1000000 - t), .int .i64 t, .int .i64 0] 75)) g (n + 2)) := Lib.hid (S3.out.below ((Below.refl _ _).alloc (Nat.le_refl _) _))
    have r0 : (w3.alloc (.cells #[.int .i64 (1000000 - t), .int .i64 t, .int .i64 0] 75)).cell? ⟨w.heap.size, 0, none⟩ = some (.int .i64 0) := RB.out.cell 0
    have fr0 := RB.out.free 0
    have r1 : (w3.alloc (.cells #[.int .i64 (1000000 - t), .int .i64 t, .int .i64 0] 75)).cell? ⟨w.heap.size, 1, none⟩ = some (.int .i64 0) := RB.out.cell 1
    have fr1 := RB.out.free 1
    have r2 : (w3.alloc (.cells #[.int .i64 (1000000 - t), .int .i64 t, .int .i64 0] 75)).cell? ⟨w.heap.size, 2, none⟩ = some (.int .i64 0) := RB.out.cell 2
    have fr2 := RB.out.free 2
    have hltr := RB.out.lt
    have hne1 : ¬ w.heap.size = w3.heap.size := by omega
    have hne2 : ¬ w3.heap.size = w.heap.size := by omega
    clear R3 T3 S3
    go_wp2_with fail
    refine bodyPost_ret (v := .agg #[.int .i64 (1000000 - t), .int .i64 t, .int .i64 0]) (by simp [results, Tryz.results101, go_sem, r0, r1, r2, hltr, hne1, hne2]) rfl ?_
    refine ⟨⟨1000000 - t - 0, t, 0⟩, by rw [Int.sub_zero], HA.out, ?_, ?_⟩
    · repeat (refine Src.set ?_ (by omega) _ _)
      exact SB.out.mono (by omega)
    · repeat (refine Turn.setNew ?_ (by omega) _ _)
      exact TB.out
def namesI : List ByteArray := [⟨#[97]⟩, ⟨#[98]⟩, ⟨#[99]⟩, ⟨#[100]⟩, ⟨#[101]⟩, ⟨#[102]⟩, ⟨#[103]⟩]
theorem namesI_get (k : Nat) (h : k < namesI.length) : namesI[k] = letB k := by
  have h7 : k < 7 := h
  match k, h7 with
  | 0, _ => rfl
  | 1, _ => rfl
  | 2, _ => rfl
  | 3, _ => rfl
  | 4, _ => rfl
  | 5, _ => rfl
  | 6, _ => rfl
theorem ing_snoc (xs : List Ingot) (a : Ingot) : (xs ++ [a]).flatMap Ingot.put = xs.flatMap Ingot.put ++ [.string a.id, .int .i64 a.mass, .int .i64 a.alloy.copper, .int .i64 a.alloy.tin, .int .i64 a.alloy.other] := by rw [List.flatMap_append]; rfl
end Go.Proofs.YtnbodmbagendnaaGreatDoor
