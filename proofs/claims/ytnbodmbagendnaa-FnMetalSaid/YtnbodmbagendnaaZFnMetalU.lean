/- Contracts and plain facts, joined: Exist. -/
import Derived.Test.YtnbodmbagendnaaRows
import Derived.Test.YtnbodmbagendnaaZFnMetalT
namespace Go.Proofs.Ytnbodmbagendnaa
open Go.ChangeShapes Go.WideShapes Go.ChangeAt Go.RowKit Go.Deep Go.Joins
set_option linter.unusedVariables false
set_option maxRecDepth 100000
set_option linter.unusedSimpArgs false
def noneB (xs : List Ingot) (m : Melt) : Bool := !(chosenL xs m.ingots).isSome
def existB (xs : List Ingot) (ms : List Melt) : Bool := !(ms.any (noneB xs))
set_option maxHeartbeats 1000000 in
theorem impl_exist1 (x : Melt) (lo : Option Addr) (lc : Nat) (g : Nat) (v : Value) (xs : List Ingot) (w : World) (g0 : w.cell? ⟨g, 0, none⟩ = some v) (hg : g < w.heap.size) (h : Rd w.heap.size w v 5 xs.length (xs.flatMap Ingot.put)) (hn : xs.length ≤ 1048576) (hr : Rises xs)
    (h2 : Rd w.heap.size w (.slice lo x.ingots.length lc) 1 x.ingots.length (x.ingots.flatMap putStr)) (hn2 : x.ingots.length ≤ 1048576) :
    Calls Try.prog 129 #[.agg #[.string x.id, .slice lo x.ingots.length lc, .int .i64 x.mass], .pointer (some ⟨g, 0, none⟩)] w fun e w' => e = .returned (.bool (noneB xs x)) ∧ Below w.heap.size w w' := by
  unfold noneB
  obtain ⟨vo, vc, rfl⟩ := h.form
  have H1 := Lib.hid h; clear h
  have H2 := Lib.hid h2; clear h2
  have HR := Lib.hid hr; clear hr
  go_enter Try.func129, Try.ntmps129
  go_wp2_with fail
  refine (impl_choiceOf _ _ xs x lo lc (by exact H1.out.up (by (repeat' (first | (with_reducible exact Below.refl _ _) | (with_reducible assumption) | (with_reducible refine below_dn ?_ _) | (with_reducible refine Below.drew ?_) | (with_reducible refine Below.alloc ?_ ?_ _) | (with_reducible refine Below.setCell ?_ ?_ _) | go_size)))) hn HR.out (by exact H2.out.up (by (repeat' (first | (with_reducible exact Below.refl _ _) | (with_reducible assumption) | (with_reducible refine below_dn ?_ _) | (with_reducible refine Below.drew ?_) | (with_reducible refine Below.alloc ?_ ?_ _) | (with_reducible refine Below.setCell ?_ ?_ _) | go_size)))) hn2).mono ?_; rintro e w1 ⟨⟨u, rfl, _⟩, b1⟩
  have HB1 := Lib.hid (show Below w.heap.size w w1 from Below.trans (by (repeat' (first | (with_reducible exact Below.refl _ _) | (with_reducible assumption) | (with_reducible refine below_dn ?_ _) | (with_reducible refine Below.drew ?_) | (with_reducible refine Below.alloc ?_ ?_ _) | (with_reducible refine Below.setCell ?_ ?_ _) | go_size))) (b1.mono (by simp <;> omega))); clear b1
  cases hS : (chosenL xs x.ingots).isSome
  all_goals
    have HS := Lib.hid hS; clear hS
    go_wp2_with fail
    go_ret
    exact ⟨by rw [HS.out]; rfl, HB1.out⟩

set_option maxHeartbeats 1000000 in
theorem IndexFunc_exist1 (g : Nat) (w : World) (v : Value) (xs : List Melt) (p : Melt → Bool) (h : RdM w.heap.size w v xs) (hn : xs.length ≤ 1048576)
    (H : ∀ (wr : World) (hb : Below w.heap.size w wr) (k : Nat) (hk : k < xs.length) (lo : Option Addr) (lc : Nat) (hr : Rd wr.heap.size wr (.slice lo xs[k].ingots.length lc) 1 xs[k].ingots.length (xs[k].ingots.flatMap putStr)), Calls Try.prog 129 #[.agg #[.string xs[k].id, .slice lo xs[k].ingots.length lc, .int .i64 xs[k].mass], .pointer (some ⟨g, 0, none⟩)] wr fun e w' => e = .returned (.bool (p xs[k])) ∧ Below wr.heap.size wr w') :
    Calls Try.prog 131 #[v, .func (.func 129) #[] #[.pointer (some ⟨g, 0, none⟩)]] w fun e w' => (∃ r : Int, e = .returned (.int .i64 r) ∧ decide (0 ≤ r) = xs.any p) ∧ Below w.heap.size w w' := by
  obtain ⟨ao, cap, rfl, hcap, hmax, hsome⟩ := h
  go_enter Try.func131, Try.ntmps131
  have HH := Lib.hid H; clear H
  go_wp2
  go_loopw [8] (fun i wr => ∃ (k : Nat), k ≤ xs.length ∧ i = .int .i64 k ∧ (xs.take k).any p = false ∧ Below w.heap.size w wr) (fun i _ => xs.length - (intOf i).toNat)
  case atStart => exact ⟨0, Nat.zero_le _, rfl, rfl, Below.refl _ _⟩
  case round =>
    obtain ⟨k, hk, rfl, hall, hb⟩ := hrel
    have Hall := Lib.hid hall; clear hall
    by_cases hlt : k < xs.length
    · obtain ⟨b, off, rfl, hbB, hc⟩ := hsome (by omega)
      obtain ⟨l, p0, p1, p2, hr⟩ := hc k hlt
      obtain ⟨lo, lc, rfl⟩ := hr.form
      have c0 := (hb.cell (p := ⟨b, off + k * 3, none⟩) hbB).trans p0
      have c1 := (hb.cell (p := ⟨b, off + k * 3 + 1, none⟩) hbB).trans p1
      have c2 := (hb.cell (p := ⟨b, off + k * 3 + 2, none⟩) hbB).trans p2
      have hbr : b < wr.heap.size := Nat.lt_of_lt_of_le hbB hb.size
      have HC := Lib.hid (HH.out wr hb k hlt lo lc (hr.up hb)); clear HH
      have HB := Lib.hid hb
      clear hc hsome hb p0 p1 p2 hr
      cases hO : p xs[k]
      all_goals rw [hO] at HC
      · have e : Hid ((xs.take (k + 1)).any p = false) := (by rw [any_take xs k hlt, Hall.out, hO]; rfl : (xs.take (k + 1)).any p = false)
        clear hO
        go_wp2_with fail
        go_at_call 129
        refine HC.out.mono ?_; rintro e1 w1 ⟨rfl, b1⟩
        have HB1 := Lib.hid (HB.out.trans (b1.mono HB.out.size)); clear b1 HB
        go_wp2_with fail
        go_roundw
        case rel => exact ⟨k + 1, by omega, by go_num, e.out, HB1.out⟩
        case measure => simp [intOf]; omega
      · have e : Hid (xs.any p = true) := (any_at xs k hlt hO : xs.any p = true)
        clear hO
        go_wp2_with fail
        go_at_call 129
        refine HC.out.mono ?_; rintro e1 w1 ⟨rfl, b1⟩
        have HB1 := Lib.hid (HB.out.trans (b1.mono HB.out.size)); clear b1 HB
        go_wp2_with fail
        go_ret
        exact ⟨⟨_, rfl, by rw [e.out]; simp⟩, HB1.out⟩
    · have e : Hid (xs.any p = false) := (by
        have := Hall.out
        rwa [List.take_of_length_le (by omega)] at this : xs.any p = false)
      clear HH
      go_wp2
      go_ret
      exact ⟨⟨_, rfl, by rw [e.out]; rfl⟩, hb⟩

theorem ContainsFunc_exist1 (g : Nat) (w : World) (v : Value) (xs : List Melt) (p : Melt → Bool) (h : RdM w.heap.size w v xs) (hn : xs.length ≤ 1048576)
    (H : ∀ (wr : World) (hb : Below w.heap.size w wr) (k : Nat) (hk : k < xs.length) (lo : Option Addr) (lc : Nat) (hr : Rd wr.heap.size wr (.slice lo xs[k].ingots.length lc) 1 xs[k].ingots.length (xs[k].ingots.flatMap putStr)), Calls Try.prog 129 #[.agg #[.string xs[k].id, .slice lo xs[k].ingots.length lc, .int .i64 xs[k].mass], .pointer (some ⟨g, 0, none⟩)] wr fun e w' => e = .returned (.bool (p xs[k])) ∧ Below wr.heap.size wr w') :
    Calls Try.prog 82 #[v, .func (.func 129) #[] #[.pointer (some ⟨g, 0, none⟩)]] w fun e w' => e = .returned (.bool (xs.any p)) ∧ Below w.heap.size w w' := by
  have H2 := Lib.hid (IndexFunc_exist1 g w v xs p h hn H)
  clear h H
  go_enter Try.func82, Try.ntmps82
  go_wp2_with fail
  refine H2.out.mono ?_; rintro e w1 ⟨⟨r, rfl, hr⟩, b1⟩
  have Hr := Lib.hid hr; clear hr
  go_wp2_with fail
  go_ret
  exact ⟨by rw [← Hr.out]; rfl, b1⟩

set_option maxHeartbeats 1000000 in
theorem impl_exist (w : World) (v u : Value) (xs : List Ingot) (ms : List Melt) (h : Rd w.heap.size w v 5 xs.length (xs.flatMap Ingot.put)) (hn : xs.length ≤ 1048576) (hr : Rises xs) (h2 : RdM w.heap.size w u ms) (hn2 : ms.length ≤ 1048576) (hin : ∀ m ∈ ms, m.ingots.length ≤ 1048576) :
    Calls Try.prog 80 #[v, u] w fun e w' => e = .returned (.bool (existB xs ms)) ∧ Below w.heap.size w w' := by
  unfold existB
  have hM := Lib.hid (Own.new w 60 [v])
  obtain ⟨vo, vc, rfl⟩ := h.form
  have H1 := Lib.hid h; clear h
  have H2 := Lib.hid h2
  obtain ⟨uo, uc, rfl, _⟩ := h2
  have HR := Lib.hid hr; clear hr
  have Hin := Lib.hid hin; clear hin
  go_enter Try.func80, Try.ntmps80
  go_wp2_with fail
  refine (ContainsFunc_exist1 w.heap.size _ _ ms (noneB xs) (by exact H2.out.up (by (repeat' (first | (with_reducible exact Below.refl _ _) | (with_reducible assumption) | (with_reducible refine below_dn ?_ _) | (with_reducible refine Below.drew ?_) | (with_reducible refine Below.alloc ?_ ?_ _) | (with_reducible refine Below.setCell ?_ ?_ _) | go_size)))) hn2 ?_).mono ?_
  · intro wr hb k hk lo lc hr
    have hO := hM.out.below hb hM.out.lt
    exact impl_exist1 ms[k] lo lc _ _ xs wr (hO.cell 0) hO.lt (by exact H1.out.up (Below.trans (by (repeat' (first | (with_reducible exact Below.refl _ _) | (with_reducible assumption) | (with_reducible refine below_dn ?_ _) | (with_reducible refine Below.drew ?_) | (with_reducible refine Below.alloc ?_ ?_ _) | (with_reducible refine Below.setCell ?_ ?_ _) | go_size))) (hb.mono (by simp <;> omega)))) hn HR.out hr (Hin.out _ (List.getElem_mem hk))
  rintro e w1 ⟨rfl, b1⟩
  have HB1 := Lib.hid (show Below w.heap.size w w1 from Below.trans (by (repeat' (first | (with_reducible exact Below.refl _ _) | (with_reducible assumption) | (with_reducible refine below_dn ?_ _) | (with_reducible refine Below.drew ?_) | (with_reducible refine Below.alloc ?_ ?_ _) | (with_reducible refine Below.setCell ?_ ?_ _) | go_size))) (b1.mono (by simp <;> omega))); clear b1
  go_wp2_with fail
  go_ret
  exact ⟨rfl, HB1.out⟩
end Go.Proofs.Ytnbodmbagendnaa
