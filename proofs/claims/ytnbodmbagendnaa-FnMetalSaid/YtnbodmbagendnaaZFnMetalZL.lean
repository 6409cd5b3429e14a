/- Contracts and plain facts, joined: AllOf, AddMB. -/
import Derived.Test.YtnbodmbagendnaaRows
import Derived.Test.YtnbodmbagendnaaZFnMetalS
import Derived.Test.YtnbodmbagendnaaZFnMetalX
import Derived.Test.YtnbodmbagendnaaZFnMetalZI
import Derived.Test.YtnbodmbagendnaaZFnMetalZJ
import Derived.Test.YtnbodmbagendnaaZFnMetalZK
namespace Go.Proofs.Ytnbodmbagendnaa
open Go.ChangeShapes Go.WideShapes Go.ChangeAt Go.RowKit Go.Deep Go.Joins
set_option linter.unusedVariables false
set_option maxRecDepth 100000
set_option linter.unusedSimpArgs false
def allS (xs : List Ingot) (ms : List Melt) : Int := if validIngotS xs && meltsB ms then (if existB xs ms then 0 else 3) else 1
theorem allS_zero {xs : List Ingot} {ms : List Melt} (h : allS xs ms = 0) : validIngotS xs = true ∧ meltsB ms = true ∧ existB xs ms = true := by
  unfold allS at h
  cases hV : validIngotS xs <;> cases hM : meltsB ms <;> cases hE : existB xs ms <;> rw [hV, hM, hE] at h <;> simp at h
  exact ⟨rfl, rfl, rfl⟩
theorem exist_all {xs : List Ingot} {ms : List Melt} (hE : existB xs ms = true) : ∀ m ∈ ms, ∃ cs, chosenL xs m.ingots = some cs := fun m hm => by
  unfold existB at hE
  have hE2 : ms.any (noneB xs) = false := by simpa using hE
  have := List.any_eq_false.1 hE2 m hm
  unfold noneB at this
  cases hc : chosenL xs m.ingots with
  | none => rw [hc] at this; exact absurd rfl this
  | some cs => exact ⟨cs, rfl⟩

set_option maxHeartbeats 2000000 in
theorem spec_l14All (w : World) (v u : Value) (xs : List Ingot) (ms : List Melt) (h : Rd w.heap.size w v 5 xs.length (xs.flatMap Ingot.put)) (hn : xs.length ≤ 1048576) (hok : ∀ x ∈ xs, x.ok) (h2 : RdM w.heap.size w u ms) (hn2 : ms.length ≤ 1048576) (hf : ∀ m ∈ ms, m.fine) :
    Calls Try.prog 68 #[v, u] w fun e w' => e = .returned (.int .i64 (allS xs ms)) ∧ Below w.heap.size w w' := by
  have H1 := Lib.hid h; clear h
  have H2 := Lib.hid h2; clear h2
  have Hok := Lib.hid hok; clear hok
  have Hf := Lib.hid hf; clear hf
  cases hV : validIngotS xs
  · have e : Hid (allS xs ms = 1) := (by unfold allS; rw [hV]; rfl : allS xs ms = 1)
    have HV := Lib.hid hV; clear hV
    go_enter Try.func68, Try.ntmps68
    go_wp2_with fail
    refine (spec_l13Ok_is _ _ xs H1.out hn Hok.out HV.out).mono ?_; rintro e1 w1 ⟨rfl, b1⟩
    go_wp2_with fail
    go_ret
    exact ⟨by rw [e.out]; rfl, b1⟩
  obtain ⟨h16, hall⟩ := validIngotS_true hV
  have HR := Lib.hid (rises_of hV)
  clear hall
  cases hM : meltsB ms
  · have e : Hid (allS xs ms = 1) := (by unfold allS; rw [hV, hM]; rfl : allS xs ms = 1)
    have HV := Lib.hid hV; clear hV
    have HM := Lib.hid hM; clear hM
    go_enter Try.func68, Try.ntmps68
    go_wp2_with fail
    refine (spec_l13Ok_is _ _ xs H1.out hn Hok.out HV.out).mono ?_; rintro e1 w1 ⟨rfl, b1⟩
    have HB1 := Lib.hid b1; clear b1
    go_wp2_with fail
    refine (spec_l14Ok_is _ _ ms (by exact H2.out.up HB1.out) hn2 Hf.out HM.out).mono ?_; rintro e2 w2 ⟨rfl, b2⟩
    have HB2 := Lib.hid (bnext HB1.out b2); clear b2
    go_wp2_with fail
    go_ret
    exact ⟨by rw [e.out]; rfl, HB2.out⟩
  obtain ⟨vo, vc, rfl⟩ := H1.out.form
  have H2' := H2.out
  obtain ⟨ao, cap, rfl, hcap, hmax, hsome⟩ := H2'
  obtain ⟨h12, hma⟩ := meltsB_true hM
  clear hma
  have EX := Lib.hid (show allS xs ms = (if existB xs ms = true then 0 else 3) by unfold allS; rw [hV, hM]; rfl)
  have HV := Lib.hid hV; clear hV
  have HM := Lib.hid hM; clear hM
  go_enter Try.func68, Try.ntmps68
  go_wp2_with fail
  refine (spec_l13Ok_is _ _ xs H1.out hn Hok.out HV.out).mono ?_; rintro e1 w1 ⟨rfl, b1⟩
  have HB1 := Lib.hid b1; clear b1
  go_wp2_with fail
  refine (spec_l14Ok_is _ _ ms (by exact H2.out.up HB1.out) hn2 Hf.out HM.out).mono ?_; rintro e2 w2 ⟨rfl, b2⟩
  have HB2 := Lib.hid (bnext HB1.out b2); clear b2 HB1
  have hs2 := HB2.out.size
  go_wp2_with fail
  go_loopw [5, 6, 7] (fun i _ _ wr => ∃ (k : Nat), k ≤ ms.length ∧ i = .int .i64 k ∧ (ms.take k).any (noneB xs) = false ∧ Below w2.heap.size w2 wr) (fun i _ _ _ => ms.length - (intOf i).toNat)
  case atStart => exact ⟨0, Nat.zero_le _, rfl, rfl, Below.refl _ _⟩
  case round =>
    obtain ⟨k, hk, rfl, hall, hb0⟩ := hrel
    have hb : Below w.heap.size w wr := HB2.out.trans (hb0.mono hs2)
    have Hall := Lib.hid hall; clear hall
    have HB0 := Lib.hid hb0; clear hb0
    by_cases hlt : k < ms.length
    · obtain ⟨b, off, rfl, hbB, hc⟩ := hsome (by omega)
      obtain ⟨l, p0, p1, p2, hrd⟩ := hc k hlt
      obtain ⟨lo, lc, rfl⟩ := hrd.form
      have c1 := (hb.cell (p := ⟨b, off + k * 3 + 1, none⟩) hbB).trans p1
      have hbr : b < wr.heap.size := Nat.lt_of_lt_of_le hbB hb.size
      have hin : ms[k].ingots.length ≤ 1048576 := (Hf.out ms[k] (List.getElem_mem hlt)).2.2.2
      have HCH := Lib.hid (spec_l14Chosen wr (.slice vo xs.length vc) xs ms[k].ingots b (off + k * 3) _ (H1.out.up hb) (by omega) HR.out c1 hbr (hrd.up hb) hin)
      clear hc hsome hb p0 p1 p2 hrd
      have em : noneB xs ms[k] = !(chosenL xs ms[k].ingots).isSome := rfl
      cases hC : (chosenL xs ms[k].ingots).isSome
      all_goals rw [hC] at HCH em
      · have e0 : existB xs ms = false := by unfold existB; rw [any_at ms k hlt em]; rfl
        have e : Hid (allS xs ms = 3) := (by rw [EX.out, e0]; rfl : allS xs ms = 3)
        clear e0
        clear hC em
        go_wp2_with fail
        refine HCH.out.mono ?_; rintro e1 w3 ⟨⟨u1, rfl, _⟩, b3⟩
        have HB3 := Lib.hid (HB0.out.trans (b3.mono HB0.out.size)); clear b3
        go_wp2_with fail
        go_ret
        exact ⟨by rw [e.out]; rfl, HB2.out.trans (HB3.out.mono hs2)⟩
      · have e : Hid ((ms.take (k + 1)).any (noneB xs) = false) := (by rw [any_take ms k hlt, Hall.out, em]; rfl : (ms.take (k + 1)).any (noneB xs) = false)
        clear hC em
        go_wp2_with fail
        refine HCH.out.mono ?_; rintro e1 w3 ⟨⟨u1, rfl, _⟩, b3⟩
        have HB3 := Lib.hid (HB0.out.trans (b3.mono HB0.out.size)); clear b3
        go_wp2_with fail
        go_roundw
        case rel => exact ⟨k + 1, by omega, by go_num, e.out, HB3.out⟩
        case measure => simp [intOf]; omega
    · have e0 : existB xs ms = true := by unfold existB; rw [any_full Hall.out (by omega)]; rfl
      have e : Hid (allS xs ms = 0) := (by rw [EX.out, e0]; rfl : allS xs ms = 0)
      clear e0
      clear hsome
      have HB := Lib.hid hb; clear hb
      go_wp2
      go_ret
      exact ⟨by rw [e.out]; rfl, HB.out⟩

theorem impl_exist_is {b0 : Bool} (w : World) (v u : Value) (xs : List Ingot) (ms : List Melt) (h : Rd w.heap.size w v 5 xs.length (xs.flatMap Ingot.put)) (hn : xs.length ≤ 1048576) (hr : Rises xs) (h2 : RdM w.heap.size w u ms) (hn2 : ms.length ≤ 1048576) (hin : ∀ m ∈ ms, m.ingots.length ≤ 1048576) (hb : existB xs ms = b0) :
    Calls Try.prog 80 #[v, u] w fun e w' => e = .returned (.bool b0) ∧ Below w.heap.size w w' := by
  subst hb; exact impl_exist w v u xs ms h hn hr h2 hn2 hin
set_option maxHeartbeats 2000000 in
theorem impl_meltsOf (w : World) (v u : Value) (xs : List Ingot) (ms : List Melt) (h : Rd w.heap.size w v 5 xs.length (xs.flatMap Ingot.put)) (hn : xs.length ≤ 1048576) (hok : ∀ x ∈ xs, x.ok) (h2 : RdM w.heap.size w u ms) (hn2 : ms.length ≤ 1048576) (hf : ∀ m ∈ ms, m.fine) :
    Calls Try.prog 93 #[v, u] w fun e w' => e = .returned (.int .i64 (allS xs ms)) ∧ Below w.heap.size w w' := by
  have H1 := Lib.hid h; clear h
  have H2 := Lib.hid h2; clear h2
  have Hok := Lib.hid hok; clear hok
  have Hf := Lib.hid hf; clear hf
  cases hV : validIngotS xs
  · have e : Hid (allS xs ms = 1) := (by unfold allS; rw [hV]; rfl : allS xs ms = 1)
    have HV := Lib.hid hV; clear hV
    go_enter Try.func93, Try.ntmps93
    go_wp2_with fail
    refine (impl_ValidIngots_is _ _ xs H1.out hn Hok.out HV.out).mono ?_; rintro e1 w1 ⟨rfl, b1⟩
    go_wp2_with fail
    go_ret
    exact ⟨by rw [e.out]; rfl, b1⟩
  have HR := Lib.hid (rises_of hV)
  cases hM : meltsB ms
  · have e : Hid (allS xs ms = 1) := (by unfold allS; rw [hV, hM]; rfl : allS xs ms = 1)
    have HV := Lib.hid hV; clear hV
    have HM := Lib.hid hM; clear hM
    go_enter Try.func93, Try.ntmps93
    go_wp2_with fail
    refine (impl_ValidIngots_is _ _ xs H1.out hn Hok.out HV.out).mono ?_; rintro e1 w1 ⟨rfl, b1⟩
    have HB1 := Lib.hid b1; clear b1
    go_wp2_with fail
    refine (impl_ValidMelts_is _ _ ms (by exact H2.out.up HB1.out) hn2 Hf.out HM.out).mono ?_; rintro e2 w2 ⟨rfl, b2⟩
    have HB2 := Lib.hid (bnext HB1.out b2); clear b2
    go_wp2_with fail
    go_ret
    exact ⟨by rw [e.out]; rfl, HB2.out⟩
  have EX := Lib.hid (show allS xs ms = (if existB xs ms = true then 0 else 3) by unfold allS; rw [hV, hM]; rfl)
  have HV := Lib.hid hV; clear hV
  have HM := Lib.hid hM; clear hM
  cases hE : existB xs ms
  all_goals
    have e := Lib.hid EX.out
    rw [hE] at e
    have HE := Lib.hid hE; clear hE
    go_enter Try.func93, Try.ntmps93
    go_wp2_with fail
    refine (impl_ValidIngots_is _ _ xs H1.out hn Hok.out HV.out).mono ?_; rintro e1 w1 ⟨rfl, b1⟩
    have HB1 := Lib.hid b1; clear b1
    go_wp2_with fail
    refine (impl_ValidMelts_is _ _ ms (by exact H2.out.up HB1.out) hn2 Hf.out HM.out).mono ?_; rintro e2 w2 ⟨rfl, b2⟩
    have HB2 := Lib.hid (bnext HB1.out b2); clear b2
    go_wp2_with fail
    refine (impl_exist_is _ _ _ xs ms (by exact H1.out.up HB2.out) hn HR.out (by exact H2.out.up HB2.out) hn2 (fun m hm => (Hf.out m hm).2.2.2) HE.out).mono ?_; rintro e3 w3 ⟨rfl, b3⟩
    have HB3 := Lib.hid (bnext HB2.out b3); clear b3
    go_wp2_with fail
    go_ret
    exact ⟨by rw [e.out]; rfl, HB3.out⟩

theorem spec_l14All_is {c0 : Int} (w : World) (v u : Value) (xs : List Ingot) (ms : List Melt) (h : Rd w.heap.size w v 5 xs.length (xs.flatMap Ingot.put)) (hn : xs.length ≤ 1048576) (hok : ∀ x ∈ xs, x.ok) (h2 : RdM w.heap.size w u ms) (hn2 : ms.length ≤ 1048576) (hf : ∀ m ∈ ms, m.fine) (hc : allS xs ms = c0) :
    Calls Try.prog 68 #[v, u] w fun e w' => e = .returned (.int .i64 c0) ∧ Below w.heap.size w w' := by
  subst hc; exact spec_l14All w v u xs ms h hn hok h2 hn2 hf

theorem impl_meltsOf_is {c0 : Int} (w : World) (v u : Value) (xs : List Ingot) (ms : List Melt) (h : Rd w.heap.size w v 5 xs.length (xs.flatMap Ingot.put)) (hn : xs.length ≤ 1048576) (hok : ∀ x ∈ xs, x.ok) (h2 : RdM w.heap.size w u ms) (hn2 : ms.length ≤ 1048576) (hf : ∀ m ∈ ms, m.fine) (hc : allS xs ms = c0) :
    Calls Try.prog 93 #[v, u] w fun e w' => e = .returned (.int .i64 c0) ∧ Below w.heap.size w w' := by
  subst hc; exact impl_meltsOf w v u xs ms h hn hok h2 hn2 hf
end Go.Proofs.Ytnbodmbagendnaa
namespace Go.Proofs.Ytnbodmbagendnaa
open Go.ChangeShapes Go.WideShapes Go.ChangeAt Go.RowKit Go.Deep Go.Joins
set_option linter.unusedVariables false
set_option maxRecDepth 100000
set_option linter.unusedSimpArgs false
theorem gt_spell (a b : ByteArray) : (!(Op.bytesLess a.toList b.toList) && !(a.toList == b.toList)) = ltName b a := by
  have h := not_less a.toList b.toList
  unfold ltName
  rw [← Bool.not_or, ← h, Bool.not_not]
theorem idM_none_of {ms : List Melt} {t : ByteArray} (h : ∀ j (hj : j < ms.length), ms[j].id ≠ t) : idM ms t = none := by
  cases hi : idM ms t with
  | none => rfl
  | some j =>
    obtain ⟨hj, he⟩ := idM_some hi
    exact absurd he (h j hj)
theorem any_common {ms : List Melt} {ids : List ByteArray} (h : ∀ j (hj : j < ms.length), commonB ms[j].ingots ids = false) : (ms.any fun y => commonB y.ingots ids) = false := by
  rw [List.any_eq_false]
  intro y hy
  obtain ⟨j, hj, rfl⟩ := List.mem_iff_getElem.1 hy
  rw [h j hj]; simp
/-- the melt that is put in, as its box shows it -/
def BoxM (w' : World) (g : Nat) (x : Melt) (v : Value) : Prop := Own w' g 63 [.string x.id, v, .int .i64 x.mass] ∧ Rd w'.heap.size w' v 1 x.ingots.length (x.ingots.flatMap putStr)
theorem BoxM.up {w w' : World} {g : Nat} {x : Melt} {v : Value} (h : BoxM w g x v) (b : Below w.heap.size w w') : BoxM w' g x v := ⟨h.1.below b h.1.lt, h.2.up b⟩
theorem BoxM.ok {w : World} {g : Nat} {x : Melt} {v : Value} (h : BoxM w g x v) (hf : x.fine) (hv : x.list = v) : x.ok w := by
  subst hv
  exact ⟨hf.1, ⟨h.2, by have := hf.2.2.2; unfold maxLen; omega, hf.2.1⟩, hf.2.2.1⟩
end Go.Proofs.Ytnbodmbagendnaa
