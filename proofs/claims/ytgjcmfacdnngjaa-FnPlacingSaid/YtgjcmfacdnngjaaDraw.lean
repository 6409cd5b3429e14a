/- A source of draws is made; what is written into new blocks. -/
import Derived.Test.YtgjcmfacdnngjaaRows
import Derived.Test.YtgjcmfacdnngjaaSrc
import Derived.Test.YtgjcmfacdnngjaaR8
namespace Go.Proofs.Ytgjcmfacdnngjaa
open Go.ChangeShapes Go.WideShapes Go.ChangeAt Go.RowKit Go.Deep Go.Joins
set_option linter.unusedVariables false
set_option maxRecDepth 100000
set_option linter.unusedSimpArgs false
theorem Turn.setNew {lo hi : Nat} {a w : World} (h : Turn lo hi a w) {g : Nat} (hg : a.heap.size ≤ g) (o : Nat) (v : Value) : Turn lo hi a (w.setCell ⟨g, o, none⟩ v) := by
  obtain ⟨h1, h2, h3, h4, h5, h6⟩ := h
  have b : Below g w (w.setCell ⟨g, o, none⟩ v) := Below.setCell (Below.refl g w) (Nat.le_refl g) v
  refine ⟨b.os.trans h1, b.tape.trans h2, b.output.trans h3, Nat.le_trans h4 b.size, fun i hi' hd => ?_, fun i E L ho => ?_⟩
  · exact (b.block i (by omega)).trans (h5 i hi' hd)
  · obtain ⟨L', e, o'⟩ := h6 i E L ho
    exact ⟨L', e, o'.other (by have := ho.lt; show g ≠ i; omega) v⟩
theorem Turn.allocR {lo hi : Nat} {a w : World} (h : Turn lo hi a w) (ob : Obj) : Turn lo hi a (w.alloc ob) := h.trans (Turn.of_below ((Below.refl _ _).alloc (Nat.le_refl _) _))
theorem Turn.drewR {lo hi : Nat} {a w : World} (h : Turn lo hi a w) : Turn lo hi a w.drew := h.trans (Turn.of_below ((Below.refl _ _).drew))
theorem putB_map (cs : List UInt8) : cs.flatMap putB = cs.map fun b => Value.int .u8 b.toNat := by
  induction cs with
  | nil => rfl
  | cons c cs ih => rw [List.flatMap_cons, List.map_cons, ih]; rfl
theorem src_from (w : World) (v : Value) (cs : List UInt8) (h : Rd w.heap.size w v 1 cs.length (cs.flatMap putB)) (hl : cs.length ≤ maxLen) :
    Calls Try.prog 12 #[v] w fun e w' => e = .returned (.pointer (some ⟨w.heap.size, 0, none⟩)) ∧ Src w' w.heap.size 0 ∧ Below w.heap.size w w' := by
  obtain ⟨ao, cap, rfl⟩ := h.form
  have HS : Hid (Src (w.alloc (.cells #[.slice ao cs.length cap, .int .i64 0, .int .u64 0] 56)) w.heap.size 0) := Lib.hid ⟨_, cs, 0, 0, Own.new w _ _, Nat.le_refl _, by decide, by decide, by
    have hb : Below w.heap.size w (w.alloc (.cells #[.slice ao cs.length cap, .int .i64 0, .int .u64 0] 56)) := (Below.refl _ _).alloc (Nat.le_refl _) _
    rw [← putB_map]; exact h.below hb, hl⟩
  have HB : Hid (Below w.heap.size w (w.alloc (.cells #[.slice ao cs.length cap, .int .i64 0, .int .u64 0] 56))) := Lib.hid ((Below.refl _ _).alloc (Nat.le_refl _) _)
  clear h
  go_enter Try.func12, Try.ntmps12
  go_wp2_with fail
  go_ret
  exact ⟨rfl, HS.out, HB.out⟩
theorem laws_r8Long (w : World) (v u : Value) (n m : Nat) (vo uo : Option Addr) (vc uc : Nat) (hv : v = .slice vo n vc) (hu : u = .slice uo m uc) :
    Calls Try.prog 4 #[v, u] w fun e w' => e = .returned (.bool (decide ((1048576 : Int) < n) || decide ((1048576 : Int) < m))) ∧ w = w' := by
  subst hv hu
  by_cases h : (1048576 : Int) < n
  · have t1 : decide ((1048576 : Int) < n) = true := decide_eq_true h
    go_enter Try.func4, Try.ntmps4
    go_wp2_with fail
    go_ret
    exact ⟨by simp [t1], rfl⟩
  · have t1 : decide ((1048576 : Int) < n) = false := decide_eq_false h
    go_enter Try.func4, Try.ntmps4
    go_wp2_with fail
    go_ret
    exact ⟨by simp [t1], rfl⟩
theorem own_baseD {w : World} {base base' n s : Nat} {E : TypeId} {v : Value} {L : List Value} (h : w.ownsRow base E s v n L) (hb : base' ≤ base) : w.ownsRow base' E s v n L := by
  obtain ⟨h1, h2⟩ := h
  refine ⟨h1, ?_⟩
  rcases h2 with h2 | ⟨g, cap, cur, rfl, hg0, rest⟩
  · exact .inl h2
  · exact .inr ⟨g, cap, cur, rfl, Nat.le_trans hb hg0, rest⟩
theorem Src.belowB {B : Nat} {w w' : World} {g n : Nat} (h : Src w g n) (b : Below B w w') (hg : g < B) : Src w' g n := by
  obtain ⟨v, cs, k, sd, o, h1, h2, h3, h4, h5⟩ := h
  exact ⟨v, cs, k, sd, o.below b hg, h1, h2, h3, h4.below (Below.mono b (Nat.le_of_lt hg)), h5⟩
theorem laws_r8AtB (w : World) (v : Value) (xs : List UInt8) (B : Nat) (h : Rd B w v 1 xs.length (xs.flatMap putB)) (hx : xs.length ≤ 1048576) (k : Int) (n : Nat) (hk : 0 ≤ k) (hk2 : k ≤ 1000000000) (hn : 1 ≤ n) (hn2 : n ≤ 1000000000) :
    Calls Try.prog 15 #[v, .int .i64 k, .int .i64 n] w fun e w' => ∃ x : Nat, e = .returned (.int .i64 x) ∧ x < n ∧ w = w' := by
  by_cases h2 : 2 ≤ n
  · have hb := r8at_bd xs k n (by omega)
    refine (laws_r8At w v xs B h hx k n hk hk2 (by omega) (by omega)).mono ?_
    rintro e w' ⟨rfl, rfl⟩
    obtain ⟨x, hx⟩ : ∃ x : Nat, r8at xs k n = (x : Int) := ⟨(r8at xs k n).toNat, by omega⟩
    exact ⟨x, by rw [hx], by omega, rfl⟩
  · obtain rfl : n = 1 := by omega
    obtain ⟨ao, cap, rfl⟩ := h.form
    clear h
    go_enter Try.func15, Try.ntmps15
    go_wp2_with fail
    go_ret
    exact ⟨0, rfl, by omega, rfl⟩
theorem Turn.thenB {lo hi B : Nat} {a w w' : World} (h : Turn lo hi a w) (b : Below B w w') (hB : a.heap.size ≤ B) : Turn lo hi a w' := by
  obtain ⟨h1, h2, h3, h4, h5, h6⟩ := h
  refine ⟨b.os.trans h1, b.tape.trans h2, b.output.trans h3, Nat.le_trans h4 b.size, fun i hi' hd => ?_, fun i E L ho => ?_⟩
  · exact (b.block i (by omega)).trans (h5 i hi' hd)
  · obtain ⟨L', e, o'⟩ := h6 i E L ho
    exact ⟨L', e, o'.below b (by have := ho.lt; omega)⟩
theorem Turn.cell {lo hi : Nat} {w w' : World} (t : Turn lo hi w w') {b : Nat} (hb : b < w.heap.size) (hd : b < lo ∨ hi ≤ b) (o : Nat) : w'.cell? ⟨b, o, none⟩ = w.cell? ⟨b, o, none⟩ := by
  have := t.kept hb hd
  simp [World.cell?, this]
end Go.Proofs.Ytgjcmfacdnngjaa
