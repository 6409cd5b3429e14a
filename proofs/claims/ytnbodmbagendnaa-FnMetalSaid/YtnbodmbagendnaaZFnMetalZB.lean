/- Contracts and plain facts, joined: MarkString. -/
import Derived.Test.YtnbodmbagendnaaRows
import Derived.Test.YtnbodmbagendnaaZFnMetalC
namespace Go.Proofs.Ytnbodmbagendnaa
open Go.ChangeShapes Go.WideShapes Go.ChangeAt Go.RowKit Go.Deep Go.Joins
set_option linter.unusedVariables false
set_option maxRecDepth 100000
set_option linter.unusedSimpArgs false
def marksString (k : Int) (n : Nat) : List Value := (List.range n).flatMap fun i => [.string (markT (k + 1 * (i : Nat)).toNat)]
theorem marksString_succ (k : Int) (j : Nat) : marksString k (j + 1) = marksString k j ++ [.string (markT (k + 1 * (j : Nat)).toNat)] ∧ (marksString k j).length = j * 1 := marks_succ (s := 1) _ (fun _ => rfl) j
set_option maxHeartbeats 2000000 in
theorem markStringS (k : Int) (w : World) (lo hi : Nat) (v : Value) (n : Nat) (L : List Value) (h : Held lo hi w 9 1 v n L) (hn : n ≤ 1048576) (h1 : 1 ≤ k) (hk : k ≤ 536870912) :
    Calls Try.prog 90 #[v, .int .i64 k] w fun e w' => e = .returned (.int .i64 (k + 1 * (n : Int))) ∧ Turn lo hi w w' ∧ Held lo hi w' 9 1 v n (marksString k n) := by
  obtain ⟨hL, ao, cap, rfl, hcap, hmax, hnil, hsome⟩ := h
  obtain ⟨g, U, hg⟩ : ∃ g U, 0 < n → ao = some ⟨g, 0, none⟩ ∧ lo ≤ g ∧ g < hi ∧ Own w g 9 (L ++ U) := by
    by_cases h0 : 0 < n
    · obtain ⟨g, U, h⟩ := hsome h0; exact ⟨g, U, fun _ => h⟩
    · exact ⟨0, [], fun h => absurd h h0⟩
  have HG := Lib.hid hg; clear hg hsome
  have HN := Lib.hid hnil; clear hnil
  go_enter Try.func90, Try.ntmps90
  go_wp2
  go_loopw [1, 5] (fun q i wr => ∃ (j : Nat), j ≤ n ∧ i = .int .i64 j ∧ q = .int .i64 (k + 1 * (j : Int)) ∧ Turn lo hi w wr ∧ (0 < n → ∃ V, V.length = n * 1 + U.length - j * 1 ∧ Own wr g 9 (marksString k j ++ V))) (fun _ i _ => n - (intOf i).toNat)
  case atStart => exact ⟨0, Nat.zero_le _, rfl, by simp, Turn.refl _ _ _, fun h0 => ⟨L ++ U, by simp [hL], (HG.out h0).2.2.2⟩⟩
  case round =>
    obtain ⟨j, hj, rfl, rfl, ht, hO⟩ := hrel
    by_cases hlt : j < n
    · obtain ⟨rfl, hlo, hhi, _⟩ := HG.out (by omega)
      obtain ⟨V, hV, ho⟩ := hO (by omega)
      obtain ⟨t0, V, rfl, hV2⟩ := mcons1 hV (by omega)
      obtain ⟨es, hA⟩ := marksString_succ k j
      obtain ⟨q, hq, hq1, hq2⟩ : ∃ q : Int, k + 1 * (j : Int) = q ∧ 1 ≤ q ∧ q ≤ 1073741000 := ⟨_, rfl, by omega, by omega⟩
      rw [hq] at es ⊢
      have e2 : Hid (k + 1 * ((j + 1 : Nat) : Int) = q + 1) := (by omega : k + 1 * ((j + 1 : Nat) : Int) = q + 1)
      have ES := Lib.hid es; clear es hq hV HG
      have HV2 := Lib.hid hV2; clear hV2
      have HT := Lib.hid ht; clear ht
      have HO := Lib.hid ho
      clear hO

      have HA := Lib.hid hA; clear ho hA
      go_wp2_with fail
      refine (markTextI q _ (by omega) (by omega)).mono ?_; rintro e w1 ⟨rfl, b1⟩
      have ho := HO.out.below b1 HO.out.lt
      have hA := HA.out
      have d0 : w1.cell? ⟨g, j, none⟩ = some t0 := by rw [ho.cell, List.getElem?_append_right (by omega), hA]; simp
      have f0 := ho.free (j)
      have HB1 := Lib.hid b1; clear b1
      have HO1 := Lib.hid ho; clear ho hA
      have hOo : Hid (Own _ g 9 _) := Lib.hid ((HO1.out.set (j) (.string (markT (q).toNat))))
      have hTt : Hid (Turn lo hi w _) := Lib.hid ((Turn.set (HT.out.trans (Turn.of_below HB1.out)) hlo hhi (j) (.string (markT (q).toNat))))
      rw [mset1 _ _ t0 (.string (markT (q).toNat)) _ (HA.out.trans (Nat.mul_one _)), ← ES.out] at hOo
      clear HO HT
      go_wp2_with fail
      go_roundw
      case rel => exact ⟨j + 1, by omega, by go_num, by rw [e2.out] <;> go_num, hTt.out, fun _ => ⟨V, by have := HV2.out; omega, hOo.out⟩⟩
      case measure => simp [intOf]; omega
    · have hjn : j = n := by omega
      subst hjn
      have hlen := (marksString_succ k j).2
      have HT := Lib.hid ht; clear ht
      have HO := Lib.hid hO; clear hO
      go_wp2
      go_ret
      refine ⟨rfl, HT.out, hlen, ao, cap, rfl, hcap, hmax, HN.out, fun h0 => ?_⟩
      obtain ⟨e, hlo, hhi, _⟩ := HG.out h0
      obtain ⟨V, _, h⟩ := HO.out h0
      exact ⟨g, V, e, hlo, hhi, h⟩

theorem marksString_get (k : Int) (n j : Nat) (h : j < n) (x : Nat) (hx : x < 1) : (marksString k n)[j * 1 + x]? = ([.string (markT (k + 1 * (j : Nat)).toNat)] : List Value)[x]? := by
  unfold marksString
  rw [flat_get (s := 1) (List.range n) (fun _ _ => rfl) hx j]
  simp [List.getElem?_range h]

set_option maxHeartbeats 2000000 in
theorem heldStringS (k : Int) (w : World) (v : Value) (n : Nat) (h : Rd w.heap.size w v 1 n (marksString k n)) (hn : n ≤ 1048576) (h1 : 1 ≤ k) (hk : k ≤ 536870912) :
    Calls Try.prog 91 #[v, .int .i64 k] w fun e w' => e = .returned (.int .i64 (k + 1 * (n : Int))) ∧ Below w.heap.size w w' := by
  obtain ⟨hL, ao, cap, rfl, hcap, hmax, hnil, hsome⟩ := h
  clear hnil
  go_enter Try.func91, Try.ntmps91
  go_wp2
  go_loopw [1, 5] (fun q i wr => ∃ (j : Nat), j ≤ n ∧ i = .int .i64 j ∧ q = .int .i64 (k + 1 * (j : Int)) ∧ Below w.heap.size w wr) (fun _ i _ => n - (intOf i).toNat)
  case atStart => exact ⟨0, Nat.zero_le _, rfl, by simp, Below.refl _ _⟩
  case round =>
    obtain ⟨j, hj, rfl, rfl, hb⟩ := hrel
    by_cases hlt : j < n
    · obtain ⟨b, off, rfl, hbB, hc⟩ := hsome (by omega)
      obtain ⟨q, hq, hq1, hq2⟩ : ∃ q : Int, k + 1 * (j : Int) = q ∧ 1 ≤ q ∧ q ≤ 1073741000 := ⟨_, rfl, by omega, by omega⟩
      have c0 : wr.cell? ⟨b, off + j, none⟩ = some (.string (markT (q).toNat)) := by
        rw [show off + j = off + (j * 1 + 0) from by omega, hb.cell (p := ⟨b, off + (j * 1 + 0), none⟩) hbB, hc (j * 1 + 0) (by omega), marksString_get k n j hlt 0 (by omega), hq]; try rfl
      rw [hq]
      have e2 : Hid (k + 1 * ((j + 1 : Nat) : Int) = q + 1) := (by omega : k + 1 * ((j + 1 : Nat) : Int) = q + 1)
      have hbr : b < wr.heap.size := Nat.lt_of_lt_of_le hbB hb.size
      have HB := Lib.hid hb
      clear hc hsome hb hq hL

      go_wp2_with fail
      refine wp_region_above (by kernel_rfl) (by kernel_rfl) ?_
      repeat (go_big_quiet_step (((go_at_call 89; exact aboveC (markTextI q _ (by omega) (by omega))))))
      refine wpQuiet_nil ?_
      intro w1 b1
      have HB1 := Lib.hid (HB.out.trans (b1.mono HB.out.size))
      clear b1
      go_wp2_with fail
      go_roundw
      case rel => exact ⟨j + 1, by omega, by go_num, by rw [e2.out] <;> go_num, HB1.out⟩
      case measure => simp [intOf]; omega
    · have hjn : j = n := by omega
      subst hjn
      have HB := Lib.hid hb; clear hb hsome
      go_wp2
      go_ret
      exact ⟨rfl, HB.out⟩
end Go.Proofs.Ytnbodmbagendnaa
