/- Contracts and plain facts, joined: MarkCut. -/
import Derived.Test.YtcjekailcljaaaaGreatRows
import Derived.Test.YtcjekailcljaaaaGreatZFnExactGreedyPlanI
import Derived.Test.YtcjekailcljaaaaGreatZFnExactGreedyPlanR
namespace Go.Proofs.YtcjekailcljaaaaGreat
open Go.ChangeShapes Go.WideShapes Go.ChangeAt Go.RowKit Go.Deep Go.Joins
set_option linter.unusedVariables false
set_option maxRecDepth 100000
set_option linter.unusedSimpArgs false
def marksCut (k : Int) (n : Nat) : List Value := (List.range n).flatMap fun i => [.int .i64 (k + 2 * (i : Nat)), .int .i64 (k + 2 * (i : Nat) + 1)]
theorem marksCut_succ (k : Int) (j : Nat) : marksCut k (j + 1) = marksCut k j ++ [.int .i64 (k + 2 * (j : Nat)), .int .i64 (k + 2 * (j : Nat) + 1)] ∧ (marksCut k j).length = j * 2 := marks_succ (s := 2) _ (fun _ => rfl) j
set_option maxHeartbeats 2000000 in
theorem markCutS (k : Int) (w : World) (lo hi : Nat) (v : Value) (n : Nat) (L : List Value) (h : Held lo hi w 80 2 v n L) (hn : n ≤ 1048576) (h1 : 1 ≤ k) (hk : k ≤ 536870912) :
    Calls Tryz.prog 20 #[v, .int .i64 k] w fun e w' => e = .returned (.int .i64 (k + 2 * (n : Int))) ∧ Turn lo hi w w' ∧ Held lo hi w' 80 2 v n (marksCut k n) := by
  obtain ⟨hL, ao, cap, rfl, hcap, hmax, hnil, hsome⟩ := h
  obtain ⟨g, U, hg⟩ : ∃ g U, 0 < n → ao = some ⟨g, 0, none⟩ ∧ lo ≤ g ∧ g < hi ∧ Own w g 80 (L ++ U) := by
    by_cases h0 : 0 < n
    · obtain ⟨g, U, h⟩ := hsome h0; exact ⟨g, U, fun _ => h⟩
    · exact ⟨0, [], fun h => absurd h h0⟩
  have HG := Lib.hid hg; clear hg hsome
  have HN := Lib.hid hnil; clear hnil
  go_enter Tryz.func20, Tryz.ntmps20
  go_wp2
  go_loopw [1, 5] (fun q i wr => ∃ (j : Nat), j ≤ n ∧ i = .int .i64 j ∧ q = .int .i64 (k + 2 * (j : Int)) ∧ Turn lo hi w wr ∧ (0 < n → ∃ V, V.length = n * 2 + U.length - j * 2 ∧ Own wr g 80 (marksCut k j ++ V))) (fun _ i _ => n - (intOf i).toNat)
  case atStart => exact ⟨0, Nat.zero_le _, rfl, by simp, Turn.refl _ _ _, fun h0 => ⟨L ++ U, by simp [hL], (HG.out h0).2.2.2⟩⟩
  case round =>
    obtain ⟨j, hj, rfl, rfl, ht, hO⟩ := hrel
    by_cases hlt : j < n
    · obtain ⟨rfl, hlo, hhi, _⟩ := HG.out (by omega)
      obtain ⟨V, hV, ho⟩ := hO (by omega)
      obtain ⟨t0, t1, V, rfl, hV2⟩ := cons2 hV (by omega)
      obtain ⟨es, hA⟩ := marksCut_succ k j
      obtain ⟨q, hq, hq1, hq2⟩ : ∃ q : Int, k + 2 * (j : Int) = q ∧ 1 ≤ q ∧ q ≤ 1073741000 := ⟨_, rfl, by omega, by omega⟩
      rw [hq] at es ⊢
      have e2 : Hid (k + 2 * ((j + 1 : Nat) : Int) = q + 2) := (by omega : k + 2 * ((j + 1 : Nat) : Int) = q + 2)
      have ES := Lib.hid es; clear es hq hV HG
      have HV2 := Lib.hid hV2; clear hV2
      have HT := Lib.hid ht; clear ht
      have HO := Lib.hid ho
      clear hO

      have d0 : wr.cell? ⟨g, j * 2, none⟩ = some t0 := by rw [ho.cell, List.getElem?_append_right (by omega), hA]; simp
      have f0 := ho.free (j * 2)
      have d1 : wr.cell? ⟨g, j * 2 + 1, none⟩ = some t1 := by rw [ho.cell, List.getElem?_append_right (by omega), hA]; simp
      have f1 := ho.free (j * 2 + 1)
      have HA := Lib.hid hA; clear ho hA
      have hOo : Hid (Own _ g 80 _) := Lib.hid (((HO.out.set (j * 2) (.int .i64 (q))).set (j * 2 + 1) (.int .i64 (q + 1))))
      have hTt : Hid (Turn lo hi w _) := Lib.hid ((Turn.set (Turn.set HT.out hlo hhi (j * 2) (.int .i64 (q))) hlo hhi (j * 2 + 1) (.int .i64 (q + 1))))
      rw [set2 _ _ t0 t1 (.int .i64 (q)) (.int .i64 (q + 1)) _ HA.out, ← ES.out] at hOo
      clear HO HT
      go_wp2_with fail
      go_roundw
      case rel => exact ⟨j + 1, by omega, by go_num, by rw [e2.out] <;> go_num, hTt.out, fun _ => ⟨V, by have := HV2.out; omega, hOo.out⟩⟩
      case measure => simp [intOf]; omega
    · have hjn : j = n := by omega
      subst hjn
      have hlen := (marksCut_succ k j).2
      have HT := Lib.hid ht; clear ht
      have HO := Lib.hid hO; clear hO
      go_wp2
      go_ret
      refine ⟨rfl, HT.out, hlen, ao, cap, rfl, hcap, hmax, HN.out, fun h0 => ?_⟩
      obtain ⟨e, hlo, hhi, _⟩ := HG.out h0
      obtain ⟨V, _, h⟩ := HO.out h0
      exact ⟨g, V, e, hlo, hhi, h⟩

theorem marksCut_get (k : Int) (n j : Nat) (h : j < n) (x : Nat) (hx : x < 2) : (marksCut k n)[j * 2 + x]? = ([.int .i64 (k + 2 * (j : Nat)), .int .i64 (k + 2 * (j : Nat) + 1)] : List Value)[x]? := by
  unfold marksCut
  rw [flat_get (s := 2) (List.range n) (fun _ _ => rfl) hx j]
  simp [List.getElem?_range h]

set_option maxHeartbeats 2000000 in
theorem heldCutS (k : Int) (w : World) (v : Value) (n : Nat) (h : Rd w.heap.size w v 2 n (marksCut k n)) (hn : n ≤ 1048576) (h1 : 1 ≤ k) (hk : k ≤ 536870912) :
    Calls Tryz.prog 25 #[v, .int .i64 k] w fun e w' => e = .returned (.int .i64 (k + 2 * (n : Int))) ∧ Below w.heap.size w w' := by
  obtain ⟨hL, ao, cap, rfl, hcap, hmax, hnil, hsome⟩ := h
  clear hnil
  go_enter Tryz.func25, Tryz.ntmps25
  go_wp2
  go_loopw [1, 5] (fun q i wr => ∃ (j : Nat), j ≤ n ∧ i = .int .i64 j ∧ q = .int .i64 (k + 2 * (j : Int)) ∧ Below w.heap.size w wr) (fun _ i _ => n - (intOf i).toNat)
  case atStart => exact ⟨0, Nat.zero_le _, rfl, by simp, Below.refl _ _⟩
  case round =>
    obtain ⟨j, hj, rfl, rfl, hb⟩ := hrel
    by_cases hlt : j < n
    · obtain ⟨b, off, rfl, hbB, hc⟩ := hsome (by omega)
      obtain ⟨q, hq, hq1, hq2⟩ : ∃ q : Int, k + 2 * (j : Int) = q ∧ 1 ≤ q ∧ q ≤ 1073741000 := ⟨_, rfl, by omega, by omega⟩
      have c0 : wr.cell? ⟨b, off + j * 2, none⟩ = some (.int .i64 (q)) := by
        rw [show off + j * 2 = off + (j * 2 + 0) from by omega, hb.cell (p := ⟨b, off + (j * 2 + 0), none⟩) hbB, hc (j * 2 + 0) (by omega), marksCut_get k n j hlt 0 (by omega), hq]; try rfl
      have c1 : wr.cell? ⟨b, off + j * 2 + 1, none⟩ = some (.int .i64 (q + 1)) := by
        rw [show off + j * 2 + 1 = off + (j * 2 + 1) from by omega, hb.cell (p := ⟨b, off + (j * 2 + 1), none⟩) hbB, hc (j * 2 + 1) (by omega), marksCut_get k n j hlt 1 (by omega), hq]; try rfl
      rw [hq]
      have e2 : Hid (k + 2 * ((j + 1 : Nat) : Int) = q + 2) := (by omega : k + 2 * ((j + 1 : Nat) : Int) = q + 2)
      have hbr : b < wr.heap.size := Nat.lt_of_lt_of_le hbB hb.size
      have HB := Lib.hid hb
      clear hc hsome hb hq hL

      go_wp2_with fail
      go_roundw
      case rel => exact ⟨j + 1, by omega, by go_num, by rw [e2.out] <;> go_num, HB.out⟩
      case measure => simp [intOf]; omega
    · have hjn : j = n := by omega
      subst hjn
      have HB := Lib.hid hb; clear hb hsome
      go_wp2
      go_ret
      exact ⟨rfl, HB.out⟩
end Go.Proofs.YtcjekailcljaaaaGreat
