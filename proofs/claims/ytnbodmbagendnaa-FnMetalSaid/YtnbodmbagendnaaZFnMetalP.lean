/- Contracts and plain facts, joined: Chosen. -/
import Derived.Test.YtnbodmbagendnaaRows
import Derived.Test.YtnbodmbagendnaaZFnMetalB
import Derived.Test.YtnbodmbagendnaaZFnMetalO
namespace Go.Proofs.Ytnbodmbagendnaa
open Go.ChangeShapes Go.WideShapes Go.ChangeAt Go.RowKit Go.Deep Go.Joins
set_option linter.unusedVariables false
set_option maxRecDepth 100000
set_option linter.unusedSimpArgs false
theorem impl_ingotAt (w : World) (v : Value) (xs : List Ingot) (t : ByteArray) (h : Rd w.heap.size w v 5 xs.length (xs.flatMap Ingot.put)) (hn : xs.length ≤ 1048576) (hr : Rises xs) :
    Calls Try.prog 152 #[v, .string t] w fun e w' => (∃ i : Nat, e = .returned (.tuple #[.int .i64 i, .bool (idK xs t).isSome]) ∧ i ≤ xs.length ∧ ∀ k, idK xs t = some k → i = k) ∧ Below w.heap.size w w' := by
  have H := Lib.hid (BinarySearch_Ingot w v xs t h hn)
  have HR := Lib.hid hr
  clear h hr
  go_enter Try.func152, Try.ntmps152
  go_wp2_with fail
  refine H.out.mono ?_; rintro e w1 ⟨⟨i, rfl, hf⟩, b1⟩
  have HF := Lib.hid (found_idK HR.out hf)
  have hi := hf.1
  have HF0 := Lib.hid hf
  clear hf
  go_wp2_with fail
  go_ret2
  exact ⟨⟨i, by rw [← HF.out.1]; rfl, hi, HF.out.2⟩, b1⟩

set_option maxHeartbeats 2000000 in
theorem impl_choiceOf (w : World) (v : Value) (xs : List Ingot) (x : Melt) (lo : Option Addr) (lc : Nat) (h : Rd w.heap.size w v 5 xs.length (xs.flatMap Ingot.put)) (hn : xs.length ≤ 1048576) (hr : Rises xs)
    (h2 : Rd w.heap.size w (.slice lo x.ingots.length lc) 1 x.ingots.length (x.ingots.flatMap putStr)) (hn2 : x.ingots.length ≤ 1048576) :
    Calls Try.prog 130 #[v, .agg #[.string x.id, .slice lo x.ingots.length lc, .int .i64 x.mass]] w fun e w' => (∃ u : Value, e = .returned (.tuple #[u, .bool (chosenL xs x.ingots).isSome]) ∧ ∀ cs, chosenL xs x.ingots = some cs → Rd w'.heap.size w' u 1 cs.length (cs.flatMap putI)) ∧ Below w.heap.size w w' := by
  have H1 := Lib.hid h; clear h
  have HR := Lib.hid hr; clear hr
  obtain ⟨hL, ao, cap, he, hcap, hmax, hnil, hsome⟩ := h2
  cases he
  obtain ⟨i0, hi, hz0, hz1, hz2⟩ := info_parts info_i64
  go_enter Try.func130, Try.ntmps130
  go_wp2
  go_loopw [6, 14] (fun u i wr => ∃ (k : Nat) (cs : List Int), k ≤ x.ingots.length ∧ i = .int .i64 k ∧ chosenL xs (x.ingots.take k) = some cs ∧ wr.ownsRow w.heap.size 2 1 u k (cs.flatMap putI) ∧ Below w.heap.size w wr) (fun _ i _ => x.ingots.length - (intOf i).toNat)
  case atStart => exact ⟨0, [], Nat.zero_le _, rfl, rfl, own_nil _ _ _ _, by (repeat' (first | (with_reducible exact Below.refl _ _) | (with_reducible assumption) | (with_reducible refine below_dn ?_ _) | (with_reducible refine Below.drew ?_) | (with_reducible refine Below.alloc ?_ ?_ _) | (with_reducible refine Below.setCell ?_ ?_ _) | go_size))⟩
  case round =>
    obtain ⟨k, cs, hk, rfl, hch, hown, hb⟩ := hrel
    have HCH := Lib.hid hch; clear hch
    have HO := Lib.hid hown; clear hown
    by_cases hlt : k < x.ingots.length
    · obtain ⟨b, off, rfl, hbB, hc⟩ := hsome (by omega)
      have c0 : wr.cell? ⟨b, off + k, none⟩ = some (.string x.ingots[k]) := by
        rw [hb.cell (p := ⟨b, off + k, none⟩) hbB, hc k (by omega), putStr_get x.ingots k hlt]
      have HC := Lib.hid (impl_ingotAt wr v xs x.ingots[k] (H1.out.up hb) hn HR.out)
      have hws := hb.size
      have HB := Lib.hid hb
      clear hc hsome hnil hb
      cases hf : idK xs x.ingots[k] with
      | none =>
        have e : Hid (chosenL xs x.ingots = none) := (chosen_no hlt hf : chosenL xs x.ingots = none)
        rw [hf] at HC
        clear hf hi hz0 hz1 hz2
        go_wp2_with fail
        refine HC.out.mono ?_; rintro e1 w1 ⟨⟨i, rfl, _, _⟩, b1⟩
        have HB1 := Lib.hid (HB.out.trans (b1.mono hws)); clear b1 HC
        go_wp2_with fail
        go_ret2
        exact ⟨⟨.slice none 0 0, by rw [e.out]; rfl, fun cs hcs => by rw [e.out] at hcs; cases hcs⟩, HB1.out⟩
      | some j =>
        have e : Hid (chosenL xs (x.ingots.take (k + 1)) = some (cs ++ [(j : Int)])) := (chosen_yes hlt HCH.out hf : chosenL xs (x.ingots.take (k + 1)) = some (cs ++ [(j : Int)]))
        have hjl : j < xs.length := (idK_some hf).1
        rw [hf] at HC
        clear hf
        go_wp2_with fail
        refine HC.out.mono ?_; rintro e1 w1 ⟨⟨i, rfl, _, hij⟩, b1⟩
        obtain rfl := hij j rfl
        have HB1 := Lib.hid (HB.out.trans (b1.mono hws))
        have HO1 := Lib.hid (own_below HO.out b1 (Nat.le_refl _))
        have hws1 : w.heap.size ≤ w1.heap.size := HB1.out.size
        clear b1 HC hij HO c0
        go_wp2_with (at_builtin; refine app_el rfl _ _ 40 2 i0 (.int .i64 0) 1 8 Try.underlying40 hi hz0 hz1 hz2 rfl (by decide) rfl w1 w.heap.size _ k (cs.flatMap putI) (by rfl) HO1.out [.int .i64 i] rfl (by intro u hu; simp at hu; subst hu; rfl) (by rfl) (by omega) (by decide) hws1 ?_; intro g gc w2 hown2 hB2 hz)
        have HB2 := Lib.hid (hB2 w HB1.out)
        have HO2 := Lib.hid hown2
        clear hown2 hB2
        go_roundw
        case rel => exact ⟨k + 1, _, by omega, by go_num, e.out, by rw [putI_snoc]; exact HO2.out, HB2.out⟩
        case measure => simp [intOf]; omega
    · have e : Hid (chosenL xs x.ingots = some cs) := (by
        have := HCH.out
        rwa [take_all (by omega)] at this : chosenL xs x.ingots = some cs)
      obtain rfl : k = x.ingots.length := by omega
      have HL := Lib.hid (chosen_len (Nat.le_refl _) HCH.out)
      have HB := Lib.hid hb; clear hb hi hz0 hz1 hz2 hsome
      go_wp2
      go_ret2
      refine ⟨⟨_, by rw [e.out]; rfl, fun cs' hcs => ?_⟩, HB.out⟩
      rw [e.out] at hcs
      cases hcs
      have := own_rd HO.out
      rwa [← HL.out] at this
end Go.Proofs.Ytnbodmbagendnaa
