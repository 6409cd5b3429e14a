/- Contracts and plain facts, joined: Draw, WarbB. -/
import Derived.Test.YtockglfoeagahaaGreatDoorRows
import Derived.Test.YtockglfoeagahaaGreatDoorZFnWarbleZI
import Derived.Test.YtockglfoeagahaaGreatDoorZFnWarbleZJ
namespace Go.Proofs.YtockglfoeagahaaGreatDoor
open Go.ChangeShapes Go.WideShapes Go.ChangeAt Go.RowKit Go.Deep Go.Joins
set_option linter.unusedVariables false
set_option maxRecDepth 100000
set_option linter.unusedSimpArgs false
theorem Turn.setNew {lo hi : Nat} {a w : World} (h : Turn lo hi a w) {g : Nat} (hg : a.heap.size ≤ g) (o : Nat) (v : Value) : Turn lo hi a (w.setCell ⟨g, o, none⟩ v) := by
  obtain ⟨h1, h2, h3, h4, h5, h6⟩ := h
  have b : Below g w (w.setCell ⟨g, o, none⟩ v) := Below.setCell (Below.refl g w) (Nat.le_refl g) v
  refine ⟨b.os.trans h1, b.tape.trans h2, b.output.trans h3, Nat.le_trans h4 b.size, fun i hi' hd => ?_, fun i E L ho => ?_⟩
  · exact (b.block i (by omega)).trans (h5 i hi' hd)
  · obtain ⟨L', e, o'⟩ := h6 i E L ho
    exact ⟨L', e, o'.other (by have := ho.lt; show g ≠ i; omega) v⟩
theorem Turn.allocR {lo hi : Nat} {a w : World} (h : Turn lo hi a w) (ob : Obj) : Turn lo hi a (w.alloc ob) := h.trans (Turn.of_below ((Below.refl _ _).alloc (Nat.le_refl _) _))
theorem Turn.drewR {lo hi : Nat} {a w : World} (h : Turn lo hi a w) : Turn lo hi a w.drew := h.trans (Turn.of_below ((Below.refl _ _).drew))
theorem putB_map (cs : List UInt8) : cs.flatMap putB = cs.map fun b => Value.int .u8 b.toNat := by
  induction cs with
  | nil => rfl
  | cons c cs ih => rw [List.flatMap_cons, List.map_cons, ih]; rfl
theorem src_from (w : World) (v : Value) (cs : List UInt8) (h : Rd w.heap.size w v 1 cs.length (cs.flatMap putB)) (hl : cs.length ≤ maxLen) :
    Calls Tryz.prog 17 #[v] w fun e w' => e = .returned (.pointer (some ⟨w.heap.size, 0, none⟩)) ∧ Src w' w.heap.size 0 ∧ Below w.heap.size w w' := by
  obtain ⟨ao, cap, rfl⟩ := h.form
  have HS : Hid (Src (w.alloc (.cells #[.slice ao cs.length cap, .int .i64 0, .int .u64 0] 72)) w.heap.size 0) := Lib.hid ⟨_, cs, 0, 0, Own.new w _ _, Nat.le_refl _, by decide, by decide, by
    have hb : Below w.heap.size w (w.alloc (.cells #[.slice ao cs.length cap, .int .i64 0, .int .u64 0] 72)) := (Below.refl _ _).alloc (Nat.le_refl _) _
    rw [← putB_map]; exact h.below hb, hl⟩
  have HB : Hid (Below w.heap.size w (w.alloc (.cells #[.slice ao cs.length cap, .int .i64 0, .int .u64 0] 72))) := Lib.hid ((Below.refl _ _).alloc (Nat.le_refl _) _)
  clear h
  go_enter Tryz.func17, Tryz.ntmps17
  go_wp2_with fail
  go_ret
  exact ⟨rfl, HS.out, HB.out⟩
theorem own_baseD {w : World} {base base' n s : Nat} {E : TypeId} {v : Value} {L : List Value} (h : w.ownsRow base E s v n L) (hb : base' ≤ base) : w.ownsRow base' E s v n L := by
  obtain ⟨h1, h2⟩ := h
  refine ⟨h1, ?_⟩
  rcases h2 with h2 | ⟨g, cap, cur, rfl, hg0, rest⟩
  · exact .inl h2
  · exact .inr ⟨g, cap, cur, rfl, Nat.le_trans hb hg0, rest⟩
theorem Src.belowB {B : Nat} {w w' : World} {g n : Nat} (h : Src w g n) (b : Below B w w') (hg : g < B) : Src w' g n := by
  obtain ⟨v, cs, k, sd, o, h1, h2, h3, h4, h5⟩ := h
  exact ⟨v, cs, k, sd, o.below b hg, h1, h2, h3, h4.below (Below.mono b (Nat.le_of_lt hg)), h5⟩
theorem Turn.thenB {lo hi B : Nat} {a w w' : World} (h : Turn lo hi a w) (b : Below B w w') (hB : a.heap.size ≤ B) : Turn lo hi a w' := by
  obtain ⟨h1, h2, h3, h4, h5, h6⟩ := h
  refine ⟨b.os.trans h1, b.tape.trans h2, b.output.trans h3, Nat.le_trans h4 b.size, fun i hi' hd => ?_, fun i E L ho => ?_⟩
  · exact (b.block i (by omega)).trans (h5 i hi' hd)
  · obtain ⟨L', e, o'⟩ := h6 i E L ho
    exact ⟨L', e, o'.below b (by have := ho.lt; omega)⟩
theorem Turn.cell {lo hi : Nat} {w w' : World} (t : Turn lo hi w w') {b : Nat} (hb : b < w.heap.size) (hd : b < lo ∨ hi ≤ b) (o : Nat) : w'.cell? ⟨b, o, none⟩ = w.cell? ⟨b, o, none⟩ := by
  have := t.kept hb hd
  simp [World.cell?, this]
end Go.Proofs.YtockglfoeagahaaGreatDoor
namespace Go.Proofs.YtockglfoeagahaaGreatDoor
open Go.ChangeShapes Go.WideShapes Go.ChangeAt Go.RowKit Go.Deep Go.Joins
set_option linter.unusedVariables false
set_option maxRecDepth 100000
set_option linter.unusedSimpArgs false
theorem laws_b10At (w : World) (v : Value) (xs : List UInt8) (B : Nat) (h : Rd B w v 1 xs.length (xs.flatMap putB)) (hx : xs.length ≤ 1048576) (k n : Int) (hk : 0 ≤ k) (hk2 : k ≤ 1000000000) (hn : 2 ≤ n) (hn2 : n ≤ 1000000000000) :
    Calls Tryz.prog 23 #[v, .int .i64 k, .int .i64 n] w fun e w' => ∃ x : Int, e = .returned (.int .i64 x) ∧ 0 ≤ x ∧ x < n ∧ w = w' := by
  obtain ⟨hL, ao, cap, rfl, hcap, hmax, hnil, hsome⟩ := h
  obtain ⟨k, rfl⟩ := Int.eq_ofNat_of_zero_le hk
  have t1 : decide (n ≤ 1) = false := decide_eq_false (by omega)
  by_cases hlt : k < xs.length
  · obtain ⟨b, off, rfl, hbB, hc⟩ := hsome (by omega)
    have c1 : w.cell? ⟨b, off + k, none⟩ = some (.int .u8 xs[k].toNat) := by rw [hc k (by omega), putB_get xs k hlt]
    have hb := xs[k].toNat_lt
    have q0 : 0 ≤ (xs[k].toNat : Int) % n := Int.emod_nonneg _ (by omega)
    have q1 : (xs[k].toNat : Int) % n < n := Int.emod_lt_of_pos _ (by omega)
    clear hc hsome hnil
    go_enter Tryz.func23, Tryz.ntmps23
    go_wp2
    go_ret
    exact ⟨(xs[k].toNat : Int) % n, rfl, q0, q1, rfl⟩
  · have q0 : 0 ≤ ((k : Int) * 37 + 11) % n := Int.emod_nonneg _ (by omega)
    have q1 : ((k : Int) * 37 + 11) % n < n := Int.emod_lt_of_pos _ (by omega)
    have q2 : Int.tmod ((k : Int) * 37 + 11) n = ((k : Int) * 37 + 11) % n := Int.tmod_eq_emod_of_nonneg (by omega)
    clear hsome hnil
    go_enter Tryz.func23, Tryz.ntmps23
    go_wp2
    go_ret
    exact ⟨((k : Int) * 37 + 11) % n, by first | rfl | (rw [q2]; rfl), q0, q1, rfl⟩
theorem laws_b10Wide (w : World) (v : Value) (xs : List UInt8) (B : Nat) (h : Rd B w v 1 xs.length (xs.flatMap putB)) (hx : xs.length ≤ 1048576) (k : Int) (hk : 0 ≤ k) (hk2 : k ≤ 100000000) :
    Calls Tryz.prog 7 #[v, .int .i64 k, .int .i64 360] w fun e w' => ∃ x : Int, e = .returned (.int .i64 x) ∧ 0 ≤ x ∧ x ≤ 359 ∧ w = w' := by
  have H1 := Lib.hid (laws_b10At w v xs B h hx k 256 hk (by omega) (by omega) (by omega))
  have H2 := Lib.hid (laws_b10At w v xs B h hx (k + 1) 256 (by omega) (by omega) (by omega) (by omega))
  clear h
  go_enter Tryz.func7, Tryz.ntmps7
  go_wp2_with fail
  refine H1.out.mono ?_; rintro e w1 ⟨x, rfl, x0, x1, rfl⟩
  go_wp2_with fail
  refine H2.out.mono ?_; rintro e w1 ⟨y, rfl, y0, y1, rfl⟩
  have q2 : Int.tmod (256 * x + y) 360 = (256 * x + y) % 360 := Int.tmod_eq_emod_of_nonneg (by omega)
  go_wp2_with fail
  go_ret
  exact ⟨(256 * x + y) % 360, by first | rfl | (rw [q2]; rfl), by omega, by omega, rfl⟩
theorem laws_b10Abs (n : Int) (w : World) (h : -1000000000 ≤ n ∧ n ≤ 1000000000) : Calls Tryz.prog 10 #[.int .i64 n] w fun e w' => ∃ x : Int, e = .returned (.int .i64 x) ∧ (x = n ∨ x = -n) ∧ w = w' := by
  by_cases q : n < 0
  · have t1 : decide (n < 0) = true := decide_eq_true q
    go_enter Tryz.func10, Tryz.ntmps10
    go_wp2_with fail
    go_ret
    exact ⟨-n, rfl, .inr rfl, rfl⟩
  · have t1 : decide (n < 0) = false := decide_eq_false q
    go_enter Tryz.func10, Tryz.ntmps10
    go_wp2_with fail
    go_ret
    exact ⟨n, rfl, .inl rfl, rfl⟩
theorem laws_b10Long (w : World) (v : Value) (n : Nat) (vo : Option Addr) (vc : Nat) (hv : v = .slice vo n vc) :
    Calls Tryz.prog 4 #[v] w fun e w' => e = .returned (.bool (decide ((1048576 : Int) < n))) ∧ w = w' := by
  subst hv
  go_enter Tryz.func4, Tryz.ntmps4
  go_wp2_with fail
  go_ret
  exact ⟨rfl, rfl⟩
end Go.Proofs.YtockglfoeagahaaGreatDoor
