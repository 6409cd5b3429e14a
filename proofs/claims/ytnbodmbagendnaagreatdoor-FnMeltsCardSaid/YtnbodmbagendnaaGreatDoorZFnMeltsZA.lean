/- Contracts and plain facts, joined: Most, AskS. -/
import Derived.Test.YtnbodmbagendnaaGreatDoorRows
import Derived.Test.YtnbodmbagendnaaGreatDoorZFnMeltsO
import Derived.Test.YtnbodmbagendnaaGreatDoorZFnMeltsR
namespace Go.Proofs.YtnbodmbagendnaaGreatDoor
open Go.ChangeShapes Go.WideShapes Go.ChangeAt Go.RowKit Go.Deep Go.Joins
set_option linter.unusedVariables false
set_option maxRecDepth 100000
set_option linter.unusedSimpArgs false
/-- of the metal m -/
def mostV (m : Int) : Int := m - divR (m * 20000) 1000000
theorem most_bd {m : Int} (h : 0 ≤ m ∧ m ≤ 320000000) : 0 ≤ divR (m * 20000) 1000000 ∧ divR (m * 20000) 1000000 ≤ 6400001 := by
  unfold divR
  rw [if_neg (by omega)]
  omega
theorem most_pos {m : Int} (h : 1 ≤ m ∧ m ≤ 320000000) : 1 ≤ mostV m ∧ mostV m ≤ m := by
  unfold mostV divR
  rw [if_neg (by omega)]
  omega
theorem metal_bd {xs : List Ingot} {cs : List Int} (hn : xs.length ≤ 16) (hv : ∀ x ∈ xs, ingotB x = true) (hch : choiceB xs.length cs = true) : 0 ≤ sumK massF xs cs ∧ sumK massF xs cs ≤ 320000000 := by
  have h := massF_bd hv (Nat.le_trans (choice_len hch) hn) cs.length
  rwa [take_all (Nat.le_refl _)] at h

set_option maxHeartbeats 1000000 in
theorem spec_l14Most (w : World) (v : Value) (xs : List Ingot) (ids : List ByteArray) (cs : List Int) (a1 o1 : Nat) (v1 : Value) (h : Rd w.heap.size w v 5 xs.length (xs.flatMap Ingot.put)) (hn : xs.length ≤ 16) (hr : Rises xs) (hv : ∀ x ∈ xs, ingotB x = true)
    (g1 : w.cell? ⟨a1, o1 + 1, none⟩ = some v1) (ha1 : a1 < w.heap.size) (h2 : Rd w.heap.size w v1 1 ids.length (ids.flatMap putStr)) (hn2 : ids.length ≤ 1048576) (hc : chosenL xs ids = some cs) (hch : choiceB xs.length cs = true) :
    Calls Tryz.prog 104 #[v, .pointer (some ⟨a1, o1, none⟩)] w fun e w' => e = .returned (.int .i64 (mostV (sumK massF xs cs))) ∧ Below w.heap.size w w' := by
  have HX := Lib.hid (spec_l14Metal w v xs ids cs a1 o1 v1 h hn hr hv g1 ha1 h2 hn2 hc hch)
  have hm := metal_bd hn hv hch
  obtain ⟨q1, q2⟩ := most_bd hm
  unfold mostV
  clear h hr hv g1 h2 hc hch
  generalize sumK massF xs cs = m at *
  go_enter Tryz.func104, Tryz.ntmps104
  go_wp2_with fail
  refine HX.out.mono ?_; rintro e w1 ⟨rfl, b1⟩
  go_wp2_with (first | (go_at_call 129; refine (spec_l01Div _ _ _ (by omega) (by omega) (by omega) (by omega)).mono ?_; rintro e w' ⟨rfl, rfl⟩))
  go_ret
  exact ⟨rfl, b1⟩

set_option maxHeartbeats 1000000 in
theorem impl_mostFrom (w : World) (v : Value) (xs : List Ingot) (x : Melt) (lo : Option Addr) (lc : Nat) (cs : List Int) (h : Rd w.heap.size w v 5 xs.length (xs.flatMap Ingot.put)) (hn : xs.length ≤ 16) (hr : Rises xs) (hv : ∀ x ∈ xs, ingotB x = true)
    (h2 : Rd w.heap.size w (.slice lo x.ingots.length lc) 1 x.ingots.length (x.ingots.flatMap putStr)) (hn2 : x.ingots.length ≤ 1048576) (hc : chosenL xs x.ingots = some cs) (hch : choiceB xs.length cs = true) :
    Calls Tryz.prog 24 #[v, .agg #[.string x.id, .slice lo x.ingots.length lc, .int .i64 x.mass]] w fun e w' => e = .returned (.int .i64 (mostV (sumK massF xs cs))) ∧ Below w.heap.size w w' := by
  have HX := Lib.hid (fun w' (hb : Below w.heap.size w w') => impl_metalOf w' v xs x lo lc cs (h.up hb) hn hr hv (h2.up hb) hn2 hc hch)
  obtain ⟨vo, vc, rfl⟩ := h.form
  have hm := metal_bd hn hv hch
  obtain ⟨q1, q2⟩ := most_bd hm
  unfold mostV
  clear h hr hv h2 hc hch
  generalize sumK massF xs cs = m at *
  go_enter Tryz.func24, Tryz.ntmps24
  go_wp2_with fail
  refine (HX.out _ (by (repeat' (first | (with_reducible exact Below.refl _ _) | (with_reducible assumption) | (with_reducible refine below_dn ?_ _) | (with_reducible refine Below.drew ?_) | (with_reducible refine Below.alloc ?_ ?_ _) | (with_reducible refine Below.setCell ?_ ?_ _) | go_size)))).mono ?_; rintro e w1 ⟨rfl, b1⟩
  have HB1 := Lib.hid (show Below w.heap.size w w1 from Below.trans (by (repeat' (first | (with_reducible exact Below.refl _ _) | (with_reducible assumption) | (with_reducible refine below_dn ?_ _) | (with_reducible refine Below.drew ?_) | (with_reducible refine Below.alloc ?_ ?_ _) | (with_reducible refine Below.setCell ?_ ?_ _) | go_size))) (b1.mono (by simp <;> omega))); clear b1
  go_wp2_with (first | (go_at_call 60; refine (impl_nearest _ _ _ (by omega) (by omega) (by omega) (by omega)).mono ?_; rintro e w' ⟨rfl, nn, rfl⟩))
  go_ret
  exact ⟨rfl, below_dn HB1.out _⟩
end Go.Proofs.YtnbodmbagendnaaGreatDoor
namespace Go.Proofs.YtnbodmbagendnaaGreatDoor
open Go.ChangeShapes Go.WideShapes Go.ChangeAt Go.RowKit Go.Deep Go.Joins
set_option linter.unusedVariables false
set_option maxRecDepth 100000
set_option linter.unusedSimpArgs false
theorem askS_zero {xs : List Ingot} {x : Melt} (h : askS xs x = 0) : validIngotS xs = true ∧ meltB x = true ∧ ∃ cs, chosenL xs x.ingots = some cs := by
  unfold askS at h
  cases hV : validIngotS xs <;> cases hM : meltB x <;> rw [hV, hM] at h <;> simp at h
  refine ⟨rfl, rfl, ?_⟩
  exact Option.ne_none_iff_exists'.1 h
theorem ask_choice {xs : List Ingot} {x : Melt} {cs : List Int} (hV : validIngotS xs = true) (hM : meltB x = true) (hc : chosenL xs x.ingots = some cs) : choiceB xs.length cs = true :=
  choice_of (rises_of hV) (risesT_of (meltB_parts hM).2.2.2.1) hc
theorem chosen_pos {xs : List Ingot} {x : Melt} {cs : List Int} (hM : meltB x = true) (hc : chosenL xs x.ingots = some cs) : 0 < cs.length := by
  have h0 : chosenL xs (x.ingots.take x.ingots.length) = some cs := by rw [take_all (Nat.le_refl _)]; exact hc
  rw [chosen_len (Nat.le_refl _) h0]
  have := (meltB_parts hM).2.1
  omega
end Go.Proofs.YtnbodmbagendnaaGreatDoor
