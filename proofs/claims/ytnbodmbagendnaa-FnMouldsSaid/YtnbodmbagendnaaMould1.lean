/- A ring of another size. -/
import Derived.Test.YtnbodmbagendnaaRows
import Derived.Test.YtnbodmbagendnaaDrawP
import Derived.Test.YtnbodmbagendnaaMouldLaw
import Derived.Test.YtnbodmbagendnaaRound
import Derived.Deep.RegionHeld3
import Derived.Deep.RegionLaw
import Derived.Shelf.RegionOpenPlain
namespace Go.Proofs.Ytnbodmbagendnaa
open Go.ChangeShapes Go.WideShapes Go.ChangeAt Go.RowKit Go.Deep Go.Joins
set_option linter.unusedVariables false
set_option maxRecDepth 100000
set_option linter.unusedSimpArgs false
theorem scR_nn {num : Int} {r : Ring} (h : ringB r = true) (hn : 1 ≤ num ∧ num ≤ 2000) : (0 ≤ r.outer * num ∧ r.outer * num ≤ 1000000000000) ∧ (0 ≤ r.inner * num ∧ r.inner * num ≤ 1000000000000) ∧ (0 ≤ r.height * num ∧ r.height * num ≤ 1000000000000) := by
  have hb := ringB_nums h
  have key : ∀ v : Int, 0 ≤ v → v ≤ 300000 → 0 ≤ v * num ∧ v * num ≤ 1000000000000 := fun v h0 h1 => by
    refine ⟨Int.mul_nonneg h0 (by omega), ?_⟩
    have := Int.mul_le_mul h1 hn.2 (by omega) (by omega)
    omega
  exact ⟨key _ (by omega) (by omega), key _ (by omega) (by omega), key _ (by omega) (by omega)⟩
set_option maxHeartbeats 4000000 in
theorem impl_scaled1 (r : Ring) (num den k : Int) (a b : Nat) (w : World) (ga : w.cell? ⟨a, 0, none⟩ = some (.int .i64 num)) (gb : w.cell? ⟨b, 0, none⟩ = some (.int .i64 den)) (ha : a < w.heap.size) (hb : b < w.heap.size) (hr : ringB r = true) (hn : 1 ≤ num ∧ num ≤ 2000) (hd : 1 ≤ den ∧ den ≤ 2000) :
    Calls Try.prog 108 #[.int .i64 k, .agg #[.int .i64 r.outer, .int .i64 r.inner, .int .i64 r.height], .pointer (some ⟨a, 0, none⟩), .pointer (some ⟨b, 0, none⟩)] w fun e w' => e = .returned (.agg #[.int .i64 (scR num den r).outer, .int .i64 (scR num den r).inner, .int .i64 (scR num den r).height]) ∧ Below w.heap.size w w' := by
  obtain ⟨q0, q1, q2⟩ := scR_nn hr hn
  obtain ⟨W1, hW1⟩ : ∃ W1, w.alloc (.cells #[.int .i64 r.outer, .int .i64 r.inner, .int .i64 r.height] 94) = W1 := ⟨_, rfl⟩
  have e1 : W1.heap.size = w.heap.size + 1 := by rw [← hW1]; simp
  obtain ⟨W2, hW2⟩ : ∃ W2, W1.alloc (.cells #[.int .i64 0, .int .i64 0, .int .i64 0] 94) = W2 := ⟨_, rfl⟩
  have e2 : W2.heap.size = w.heap.size + 2 := by rw [← hW2]; simp [e1]
  have B2 : Below w.heap.size w W2 := by rw [← hW2, ← hW1]; exact ((Below.refl _ _).alloc (Nat.le_refl _) _).alloc (by simp) _
  have o1 : Own W2 w.heap.size 94 [.int .i64 r.outer, .int .i64 r.inner, .int .i64 r.height] := by rw [← hW2, ← hW1]; exact (Own.new w _ _).alloc _
  have o2 : Own W2 (w.heap.size + 1) 94 [.int .i64 0, .int .i64 0, .int .i64 0] := by rw [← hW2, ← e1]; exact Own.new W1 _ _
  have x0 : W2.cell? ⟨w.heap.size, 0, none⟩ = some (.int .i64 r.outer) := o1.cell 0
  have x1 : W2.cell? ⟨w.heap.size, 1, none⟩ = some (.int .i64 r.inner) := o1.cell 1
  have x2 : W2.cell? ⟨w.heap.size, 2, none⟩ = some (.int .i64 r.height) := o1.cell 2
  have r0 : W2.cell? ⟨w.heap.size + 1, 0, none⟩ = some (.int .i64 0) := o2.cell 0
  have r1 : W2.cell? ⟨w.heap.size + 1, 1, none⟩ = some (.int .i64 0) := o2.cell 1
  have r2 : W2.cell? ⟨w.heap.size + 1, 2, none⟩ = some (.int .i64 0) := o2.cell 2
  have fr0 := o2.free 0
  have fr1 := o2.free 1
  have fr2 := o2.free 2
  have ya : W2.cell? ⟨a, 0, none⟩ = some (.int .i64 num) := (B2.cell (p := ⟨a, 0, none⟩) ha).trans ga
  have yb : W2.cell? ⟨b, 0, none⟩ = some (.int .i64 den) := (B2.cell (p := ⟨b, 0, none⟩) hb).trans gb
  have la : a < W2.heap.size := by omega
  have lb : b < W2.heap.size := by omega
  have lx : w.heap.size < W2.heap.size := by omega
  have lr : w.heap.size + 1 < W2.heap.size := by omega
  have n1 : ¬ w.heap.size = w.heap.size + 1 := by omega
  have n2 : ¬ a = w.heap.size + 1 := by omega
  have n3 : ¬ b = w.heap.size + 1 := by omega
  have n4 : ¬ w.heap.size + 1 = w.heap.size := by omega
  have HB2 := Lib.hid B2
  unfold scR
  generalize r.outer = ro at *
  generalize r.inner = ri at *
  generalize r.height = rh at *
  obtain ⟨p0, hp0⟩ : ∃ p0, ro * num = p0 := ⟨_, rfl⟩
  obtain ⟨p1, hp1⟩ : ∃ p1, ri * num = p1 := ⟨_, rfl⟩
  obtain ⟨p2, hp2⟩ : ∃ p2, rh * num = p2 := ⟨_, rfl⟩
  have HN := Lib.hid (fun (p : Int) (hp : 0 ≤ p ∧ p ≤ 1000000000000) (w' : World) => impl_nearest p den w' (by omega) (by omega) (by omega) (by omega))
  rw [hp0] at q0
  rw [hp1] at q1
  rw [hp2] at q2
  have ww0 : IntKind.i64.wrap p0 = p0 := by rw [IntKind.wrap_i64]; omega
  have ww1 : IntKind.i64.wrap p1 = p1 := by rw [IntKind.wrap_i64]; omega
  have ww2 : IntKind.i64.wrap p2 = p2 := by rw [IntKind.wrap_i64]; omega
  have Q0 := Lib.hid q0
  have Q1 := Lib.hid q1
  have Q2 := Lib.hid q2
  clear B2 o1 o2 ga gb hr
  go_enter Try.func108, Try.ntmps108
  go_wp2_with fail
  go_region_held3 (fun w' => w'.cell? ⟨w.heap.size, 0, none⟩ = some (.int .i64 ro) ∧ w'.cell? ⟨w.heap.size, 1, none⟩ = some (.int .i64 ri) ∧ w'.cell? ⟨w.heap.size, 2, none⟩ = some (.int .i64 rh) ∧ w'.cell? ⟨a, 0, none⟩ = some (.int .i64 num) ∧ w'.cell? ⟨b, 0, none⟩ = some (.int .i64 den)) (first | (go_keep; done) | (refine ⟨?_, ?_, ?_, ?_, ?_⟩ <;> (first | (go_keep; done) | (simp [go_sem, x0, x1, x2, ya, yb, lx, lr, la, lb, n1, n2, n3, n4]; done)))) (first
    | (go_at_call_of 109 p0
       refine (HN.out p0 Q0.out _).mono ?_; rintro e w' ⟨rfl, nn, rfl⟩)
    | (go_at_call_of 109 p1
       refine (HN.out p1 Q1.out _).mono ?_; rintro e w' ⟨rfl, nn, rfl⟩)
    | (go_at_call_of 109 p2
       refine (HN.out p2 Q2.out _).mono ?_; rintro e w' ⟨rfl, nn, rfl⟩))
  all_goals go_wp2_with fail
  all_goals refine bodyPost_ret (v := .agg #[.int .i64 (divR p0 den), .int .i64 (divR p1 den), .int .i64 (divR p2 den)]) (by simp [results, Try.results108, go_sem, r0, r1, r2, lr]) rfl ?_
  all_goals exact ⟨(by rw [hp0, hp1, hp2]), (by
    have hb2 := HB2.out
    repeat (refine Below.setCell ?_ (by show w.heap.size ≤ w.heap.size + 1; omega) _)
    repeat' (first | exact hb2 | refine below_dn ?_ _ | refine Below.drew ?_))⟩
end Go.Proofs.Ytnbodmbagendnaa
