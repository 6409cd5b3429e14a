/- The marks of the laws at Ingot. -/
import Derived.Test.YtdliabgdgjboiaaRows
import Derived.Test.YtdliabgdgjboiaaTurn
import Derived.Test.YtdliabgdgjboiaaHIngot
namespace Go.Proofs.Ytdliabgdgjboiaa
open Go.ChangeShapes Go.WideShapes Go.ChangeAt Go.RowKit Go.Deep Go.Joins
set_option linter.unusedVariables false
set_option maxRecDepth 100000
set_option linter.unusedSimpArgs false
def marksIngot (k : Int) (n : Nat) : List Value := (List.range n).flatMap fun i => [.string (markT (k + 5 * (i : Nat)).toNat), .int .i64 (k + 5 * (i : Nat) + 1), .int .i64 (k + 5 * (i : Nat) + 1 + 1), .int .i64 (k + 5 * (i : Nat) + 1 + 1 + 1), .int .i64 (k + 5 * (i : Nat) + 1 + 1 + 1 + 1)]
theorem marksIngot_succ (k : Int) (j : Nat) : marksIngot k (j + 1) = marksIngot k j ++ [.string (markT (k + 5 * (j : Nat)).toNat), .int .i64 (k + 5 * (j : Nat) + 1), .int .i64 (k + 5 * (j : Nat) + 1 + 1), .int .i64 (k + 5 * (j : Nat) + 1 + 1 + 1), .int .i64 (k + 5 * (j : Nat) + 1 + 1 + 1 + 1)] ∧ (marksIngot k j).length = j * 5 := marks_succ (s := 5) _ (fun _ => rfl) j
set_option maxHeartbeats 2000000 in
theorem markIngotS (k : Int) (w : World) (lo hi : Nat) (v : Value) (n : Nat) (L : List Value) (h : Held lo hi w 62 5 v n L) (hn : n ≤ 1048576) (h1 : 1 ≤ k) (hk : k ≤ 536870912) :
    Calls Try.prog 30 #[v, .int .i64 k] w fun e w' => e = .returned (.int .i64 (k + 5 * (n : Int))) ∧ Turn lo hi w w' ∧ Held lo hi w' 62 5 v n (marksIngot k n) := by
  obtain ⟨hL, ao, cap, rfl, hcap, hmax, hnil, hsome⟩ := h
  obtain ⟨g, U, hg⟩ : ∃ g U, 0 < n → ao = some ⟨g, 0, none⟩ ∧ lo ≤ g ∧ g < hi ∧ Own w g 62 (L ++ U) := by
    by_cases h0 : 0 < n
    · obtain ⟨g, U, h⟩ := hsome h0; exact ⟨g, U, fun _ => h⟩
    · exact ⟨0, [], fun h => absurd h h0⟩
  have HG := Lib.hid hg; clear hg hsome
  have HN := Lib.hid hnil; clear hnil
  go_enter Try.func30, Try.ntmps30
  go_wp2
  go_loopw [1, 5] (fun q i wr => ∃ (j : Nat), j ≤ n ∧ i = .int .i64 j ∧ q = .int .i64 (k + 5 * (j : Int)) ∧ Turn lo hi w wr ∧ (0 < n → ∃ V, V.length = n * 5 + U.length - j * 5 ∧ Own wr g 62 (marksIngot k j ++ V))) (fun _ i _ => n - (intOf i).toNat)
  case atStart => exact ⟨0, Nat.zero_le _, rfl, by simp, Turn.refl _ _ _, fun h0 => ⟨L ++ U, by simp [hL], (HG.out h0).2.2.2⟩⟩
  case round =>
    obtain ⟨j, hj, rfl, rfl, ht, hO⟩ := hrel
    by_cases hlt : j < n
    · obtain ⟨rfl, hlo, hhi, _⟩ := HG.out (by omega)
      obtain ⟨V, hV, ho⟩ := hO (by omega)
      obtain ⟨t0, t1, t2, t3, t4, V, rfl, hV2⟩ := cons5 hV (by omega)
      obtain ⟨es, hA⟩ := marksIngot_succ k j
      obtain ⟨q, hq, hq1, hq2⟩ : ∃ q : Int, k + 5 * (j : Int) = q ∧ 1 ≤ q ∧ q ≤ 1073741000 := ⟨_, rfl, by omega, by omega⟩
      rw [hq] at es ⊢
      have e2 : Hid (k + 5 * ((j + 1 : Nat) : Int) = q + 5) := (by omega : k + 5 * ((j + 1 : Nat) : Int) = q + 5)
      have ES := Lib.hid es; clear es hq hV HG
      have HV2 := Lib.hid hV2; clear hV2
      have HT := Lib.hid ht; clear ht
      have HO := Lib.hid ho
      clear hO

      have HA := Lib.hid hA; clear ho hA
      go_wp2_with fail
      refine (markTextI q _ (by omega) (by omega)).mono ?_; rintro e w1 ⟨rfl, b1⟩
      have ho := HO.out.below b1 HO.out.lt
      have hA := HA.out
      have d0 : w1.cell? ⟨g, j * 5, none⟩ = some t0 := by rw [ho.cell, List.getElem?_append_right (by omega), hA]; simp
      have f0 := ho.free (j * 5)
      have d1 : w1.cell? ⟨g, j * 5 + 1, none⟩ = some t1 := by rw [ho.cell, List.getElem?_append_right (by omega), hA]; simp
      have f1 := ho.free (j * 5 + 1)
      have d2 : w1.cell? ⟨g, j * 5 + 2, none⟩ = some t2 := by rw [ho.cell, List.getElem?_append_right (by omega), hA]; simp
      have f2 := ho.free (j * 5 + 2)
      have d3 : w1.cell? ⟨g, j * 5 + 2 + 1, none⟩ = some t3 := by rw [show j * 5 + 2 + 1 = j * 5 + 3 from rfl, ho.cell, List.getElem?_append_right (by omega), hA]; simp
      have f3 := ho.free (j * 5 + 2 + 1)
      have d4 : w1.cell? ⟨g, j * 5 + 2 + 2, none⟩ = some t4 := by rw [show j * 5 + 2 + 2 = j * 5 + 4 from rfl, ho.cell, List.getElem?_append_right (by omega), hA]; simp
      have f4 := ho.free (j * 5 + 2 + 2)
      have HB1 := Lib.hid b1; clear b1
      have HO1 := Lib.hid ho; clear ho hA
      have hOo : Hid (Own _ g 62 _) := Lib.hid ((((((HO1.out.set (j * 5) (.string (markT (q).toNat))).set (j * 5 + 1) (.int .i64 (q + 1))).set (j * 5 + 2) (.int .i64 (q + 1 + 1))).set (j * 5 + 2 + 1) (.int .i64 (q + 1 + 1 + 1))).set (j * 5 + 2 + 2) (.int .i64 (q + 1 + 1 + 1 + 1))))
      have hTt : Hid (Turn lo hi w _) := Lib.hid ((Turn.set (Turn.set (Turn.set (Turn.set (Turn.set (HT.out.trans (Turn.of_below HB1.out)) hlo hhi (j * 5) (.string (markT (q).toNat))) hlo hhi (j * 5 + 1) (.int .i64 (q + 1))) hlo hhi (j * 5 + 2) (.int .i64 (q + 1 + 1))) hlo hhi (j * 5 + 2 + 1) (.int .i64 (q + 1 + 1 + 1))) hlo hhi (j * 5 + 2 + 2) (.int .i64 (q + 1 + 1 + 1 + 1))))
      rw [set5 _ _ t0 t1 t2 t3 t4 (.string (markT (q).toNat)) (.int .i64 (q + 1)) (.int .i64 (q + 1 + 1)) (.int .i64 (q + 1 + 1 + 1)) (.int .i64 (q + 1 + 1 + 1 + 1)) _ HA.out, ← ES.out] at hOo
      clear HO HT
      go_wp2_with fail
      go_roundw
      case rel => exact ⟨j + 1, by omega, by go_num, by rw [e2.out] <;> go_num, hTt.out, fun _ => ⟨V, by have := HV2.out; omega, hOo.out⟩⟩
      case measure => simp [intOf]; omega
    · have hjn : j = n := by omega
      subst hjn
      have hlen := (marksIngot_succ k j).2
      have HT := Lib.hid ht; clear ht
      have HO := Lib.hid hO; clear hO
      go_wp2
      go_ret
      refine ⟨rfl, HT.out, hlen, ao, cap, rfl, hcap, hmax, HN.out, fun h0 => ?_⟩
      obtain ⟨e, hlo, hhi, _⟩ := HG.out h0
      obtain ⟨V, _, h⟩ := HO.out h0
      exact ⟨g, V, e, hlo, hhi, h⟩

theorem marksIngot_get (k : Int) (n j : Nat) (h : j < n) (x : Nat) (hx : x < 5) : (marksIngot k n)[j * 5 + x]? = ([.string (markT (k + 5 * (j : Nat)).toNat), .int .i64 (k + 5 * (j : Nat) + 1), .int .i64 (k + 5 * (j : Nat) + 1 + 1), .int .i64 (k + 5 * (j : Nat) + 1 + 1 + 1), .int .i64 (k + 5 * (j : Nat) + 1 + 1 + 1 + 1)] : List Value)[x]? := by
  unfold marksIngot
  rw [flat_get (s := 5) (List.range n) (fun _ _ => rfl) hx j]
  simp [List.getElem?_range h]
end Go.Proofs.Ytdliabgdgjboiaa
