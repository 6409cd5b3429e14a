/- Contracts and plain facts, joined: MarkRing, MarkModel. -/
import Derived.Test.YtcjekailcljaaaaGreatRows
import Derived.Test.YtcjekailcljaaaaGreatZFnExactDeviationsAfterK
import Derived.Test.YtcjekailcljaaaaGreatZFnExactDeviationsAfterL
namespace Go.Proofs.YtcjekailcljaaaaGreat
open Go.ChangeShapes Go.WideShapes Go.ChangeAt Go.RowKit Go.Deep Go.Joins
set_option linter.unusedVariables false
set_option maxRecDepth 100000
set_option linter.unusedSimpArgs false
def marksRing (k : Int) (n : Nat) : List Value := (List.range n).flatMap fun i => [.int .i64 (k + 3 * (i : Nat)), .int .i64 (k + 3 * (i : Nat) + 1), .int .i64 (k + 3 * (i : Nat) + 1 + 1)]
theorem marksRing_succ (k : Int) (j : Nat) : marksRing k (j + 1) = marksRing k j ++ [.int .i64 (k + 3 * (j : Nat)), .int .i64 (k + 3 * (j : Nat) + 1), .int .i64 (k + 3 * (j : Nat) + 1 + 1)] ∧ (marksRing k j).length = j * 3 := marks_succ (s := 3) _ (fun _ => rfl) j
set_option maxHeartbeats 2000000 in
theorem markRingS (k : Int) (w : World) (lo hi : Nat) (v : Value) (n : Nat) (L : List Value) (h : Held lo hi w 123 3 v n L) (hn : n ≤ 1048576) (h1 : 1 ≤ k) (hk : k ≤ 536870912) :
    Calls Tryz.prog 48 #[v, .int .i64 k] w fun e w' => e = .returned (.int .i64 (k + 3 * (n : Int))) ∧ Turn lo hi w w' ∧ Held lo hi w' 123 3 v n (marksRing k n) := by
  obtain ⟨hL, ao, cap, rfl, hcap, hmax, hnil, hsome⟩ := h
  obtain ⟨g, U, hg⟩ : ∃ g U, 0 < n → ao = some ⟨g, 0, none⟩ ∧ lo ≤ g ∧ g < hi ∧ Own w g 123 (L ++ U) := by
    by_cases h0 : 0 < n
    · obtain ⟨g, U, h⟩ := hsome h0; exact ⟨g, U, fun _ => h⟩
    · exact ⟨0, [], fun h => absurd h h0⟩
  have HG := Lib.hid hg; clear hg hsome
  have HN := Lib.hid hnil; clear hnil
  go_enter Tryz.func48, Tryz.ntmps48
  go_wp2
  go_loopw [1, 5] (fun q i wr => ∃ (j : Nat), j ≤ n ∧ i = .int .i64 j ∧ q = .int .i64 (k + 3 * (j : Int)) ∧ Turn lo hi w wr ∧ (0 < n → ∃ V, V.length = n * 3 + U.length - j * 3 ∧ Own wr g 123 (marksRing k j ++ V))) (fun _ i _ => n - (intOf i).toNat)
  case atStart => exact ⟨0, Nat.zero_le _, rfl, by simp, Turn.refl _ _ _, fun h0 => ⟨L ++ U, by simp [hL], (HG.out h0).2.2.2⟩⟩
  case round =>
    obtain ⟨j, hj, rfl, rfl, ht, hO⟩ := hrel
    by_cases hlt : j < n
    · obtain ⟨rfl, hlo, hhi, _⟩ := HG.out (by omega)
      obtain ⟨V, hV, ho⟩ := hO (by omega)
      obtain ⟨t0, t1, t2, V, rfl, hV2⟩ := cons3 hV (by omega)
      obtain ⟨es, hA⟩ := marksRing_succ k j
      obtain ⟨q, hq, hq1, hq2⟩ : ∃ q : Int, k + 3 * (j : Int) = q ∧ 1 ≤ q ∧ q ≤ 1073741000 := ⟨_, rfl, by omega, by omega⟩
      rw [hq] at es ⊢
      have e2 : Hid (k + 3 * ((j + 1 : Nat) : Int) = q + 3) := (by omega : k + 3 * ((j + 1 : Nat) : Int) = q + 3)
      have ES := Lib.hid es; clear es hq hV HG
      have HV2 := Lib.hid hV2; clear hV2
      have HT := Lib.hid ht; clear ht
      have HO := Lib.hid ho
      clear hO

      have d0 : wr.cell? ⟨g, j * 3, none⟩ = some t0 := by rw [ho.cell, List.getElem?_append_right (by omega), hA]; simp
      have f0 := ho.free (j * 3)
      have d1 : wr.cell? ⟨g, j * 3 + 1, none⟩ = some t1 := by rw [ho.cell, List.getElem?_append_right (by omega), hA]; simp
      have f1 := ho.free (j * 3 + 1)
      have d2 : wr.cell? ⟨g, j * 3 + 2, none⟩ = some t2 := by rw [ho.cell, List.getElem?_append_right (by omega), hA]; simp
      have f2 := ho.free (j * 3 + 2)
      have HA := Lib.hid hA; clear ho hA
      have hOo : Hid (Own _ g 123 _) := Lib.hid ((((HO.out.set (j * 3) (.int .i64 (q))).set (j * 3 + 1) (.int .i64 (q + 1))).set (j * 3 + 2) (.int .i64 (q + 1 + 1))))
      have hTt : Hid (Turn lo hi w _) := Lib.hid ((Turn.set (Turn.set (Turn.set HT.out hlo hhi (j * 3) (.int .i64 (q))) hlo hhi (j * 3 + 1) (.int .i64 (q + 1))) hlo hhi (j * 3 + 2) (.int .i64 (q + 1 + 1))))
      rw [set3 _ _ t0 t1 t2 (.int .i64 (q)) (.int .i64 (q + 1)) (.int .i64 (q + 1 + 1)) _ HA.out, ← ES.out] at hOo
      clear HO HT
      go_wp2_with fail
      go_roundw
      case rel => exact ⟨j + 1, by omega, by go_num, by rw [e2.out] <;> go_num, hTt.out, fun _ => ⟨V, by have := HV2.out; omega, hOo.out⟩⟩
      case measure => simp [intOf]; omega
    · have hjn : j = n := by omega
      subst hjn
      have hlen := (marksRing_succ k j).2
      have HT := Lib.hid ht; clear ht
      have HO := Lib.hid hO; clear hO
      go_wp2
      go_ret
      refine ⟨rfl, HT.out, hlen, ao, cap, rfl, hcap, hmax, HN.out, fun h0 => ?_⟩
      obtain ⟨e, hlo, hhi, _⟩ := HG.out h0
      obtain ⟨V, _, h⟩ := HO.out h0
      exact ⟨g, V, e, hlo, hhi, h⟩

theorem marksRing_get (k : Int) (n j : Nat) (h : j < n) (x : Nat) (hx : x < 3) : (marksRing k n)[j * 3 + x]? = ([.int .i64 (k + 3 * (j : Nat)), .int .i64 (k + 3 * (j : Nat) + 1), .int .i64 (k + 3 * (j : Nat) + 1 + 1)] : List Value)[x]? := by
  unfold marksRing
  rw [flat_get (s := 3) (List.range n) (fun _ _ => rfl) hx j]
  simp [List.getElem?_range h]
end Go.Proofs.YtcjekailcljaaaaGreat
namespace Go.Proofs.YtcjekailcljaaaaGreat
open Go.ChangeShapes Go.WideShapes Go.ChangeAt Go.RowKit Go.Deep Go.Joins
set_option linter.unusedVariables false
set_option maxRecDepth 100000
set_option linter.unusedSimpArgs false
set_option maxHeartbeats 500000 in
theorem markProfileR (k : Int) (w : World) (lo hi : Nat) (s : ByteArray) (po : Option Addr) (pc n : Nat) (L : List Value) (h : Held lo hi w 123 3 (.slice po n pc) n L) (hhi : hi ≤ w.heap.size) (hn : n ≤ 1048576) (h1 : 1 ≤ k) (hk : k ≤ 536870912) :
    Calls Tryz.prog 19 #[.agg #[.string s, .slice po n pc], .int .i64 k] w fun e w' => e = .returned (.int .i64 (k + 3 * (n : Int))) ∧ Turn lo hi w w' := by
  obtain ⟨W1, hW1⟩ : ∃ W1, w.alloc (.cells #[.string s, .slice po n pc] 43) = W1 := ⟨_, rfl⟩
  have b1 : Below w.heap.size w W1 := hW1 ▸ (Below.refl _ _).alloc (Nat.le_refl _) _
  have X1 : Own W1 w.heap.size 43 [.string s, .slice po n pc] := hW1 ▸ Own.new w _ _
  have x1 : W1.cell? ⟨w.heap.size, 1, none⟩ = some (.slice po n pc) := X1.cell 1
  have xl := X1.lt
  have T1 := Lib.hid (Turn.of_below (lo := lo) (hi := hi) b1)
  have HM := Lib.hid (markRingS k W1 lo hi _ n L (h.below b1) hn h1 hk)
  clear h b1 X1
  go_enter Tryz.func19, Tryz.ntmps19
  go_wp2_with fail
  refine HM.out.mono ?_; rintro e w2 ⟨rfl, t2, _⟩
  have T2 := Lib.hid (T1.out.trans t2)
  clear t2 x1 xl hW1 HM
  go_wp2_with fail
  go_ret
  exact ⟨rfl, T2.out⟩
set_option maxHeartbeats 500000 in
theorem markModel (k : Int) (w : World) (lo hi gz gw gb : Nat) (Z B : List Int) (ys xs : List Row) (hz : Own w gz 2 (Z.flatMap putI)) (hr : RowsIn gw gb w gw ys xs) (hb : Own w gb 2 (B.flatMap putI)) (hlo : lo ≤ gz) (hzw : gz < gw) (hbh : gb < hi) (hhi : hi ≤ w.heap.size)
    (hZ : Z.length ≤ 1048576) (hn : xs.length ≤ 1048576) (hc : wtRows xs ≤ 1048576) (hB : B.length ≤ 1048576) (h1 : 1 ≤ k) (hk : k ≤ 134217728) :
    Calls Tryz.prog 18 #[.agg #[.slice (some ⟨gz, 0, none⟩) Z.length Z.length, .slice (some ⟨gw, 0, none⟩) xs.length xs.length, .slice (some ⟨gb, 0, none⟩) B.length B.length], .int .i64 k] w fun e w' => e = .returned (.int .i64 (k + 1 * (Z.length : Int) + (wtRows xs : Int) + 1 * (B.length : Int))) ∧ Turn lo hi w w' := by
  obtain ⟨W1, hW1⟩ : ∃ W1, w.alloc (.cells #[.slice (some ⟨gz, 0, none⟩) Z.length Z.length, .slice (some ⟨gw, 0, none⟩) xs.length xs.length, .slice (some ⟨gb, 0, none⟩) B.length B.length] 39) = W1 := ⟨_, rfl⟩
  have b1 : Below w.heap.size w W1 := hW1 ▸ (Below.refl _ _).alloc (Nat.le_refl _) _
  have X1 : Own W1 w.heap.size 39 [.slice (some ⟨gz, 0, none⟩) Z.length Z.length, .slice (some ⟨gw, 0, none⟩) xs.length xs.length, .slice (some ⟨gb, 0, none⟩) B.length B.length] := hW1 ▸ Own.new w _ _
  have HX1 := Lib.hid X1
  have hwb : gw < gb := hr.2.2.1
  have T1 := Lib.hid (Turn.of_below (lo := lo) (hi := hi) b1)
  have x0 : W1.cell? ⟨w.heap.size, 0, none⟩ = some (.slice (some ⟨gz, 0, none⟩) Z.length Z.length) := X1.cell 0
  have xl := X1.lt
  have HZ := Lib.hid (hz.below b1 hz.lt)
  have HR := Lib.hid (hr.turn (Turn.of_below (lo := gb) (hi := gb) b1) (.inl (Nat.le_refl _)))
  have HB := Lib.hid (hb.below b1 hb.lt)
  have HM1 := Lib.hid (markInt64S k W1 gz (gz + 1) _ Z.length _ (Held.of_own (n := Z.length) (s := 1) HZ.out (putI_len _) (by unfold maxLen; omega)) hZ h1 (by omega))
  obtain ⟨k2, hk2⟩ : ∃ q, k + 1 * (Z.length : Int) = q := ⟨_, rfl⟩
  obtain ⟨k3, hk3⟩ : ∃ q, k2 + (wtRows xs : Int) = q := ⟨_, rfl⟩
  obtain ⟨k4, hk4⟩ : ∃ q, k3 + 1 * (B.length : Int) = q := ⟨_, rfl⟩
  have bk2 : 1 ≤ k2 ∧ k2 ≤ 268435456 := by omega
  have bk3 : 1 ≤ k3 ∧ k3 ≤ 536870912 := by omega
  rw [hk2] at HM1
  have HK3 := Lib.hid hk3
  have HK4 := Lib.hid hk4
  rw [hk2, hk3, hk4]
  clear hz hr hb b1 X1 hk2 hk3 hk4
  go_enter Tryz.func18, Tryz.ntmps18
  go_wp2_with fail
  refine HM1.out.mono ?_; rintro e w2 ⟨rfl, t2, _⟩
  have X2 := HX1.out.turn t2 (.inr (by omega))
  have HX2 := Lib.hid X2
  have T2 := Lib.hid (T1.out.trans (t2.wide (by omega) (by omega)))
  have HR2 := Lib.hid (HR.out.turn t2 (.inr (by omega)))
  have HB2 := Lib.hid (HB.out.turn t2 (.inr (by omega)))
  have x1 : w2.cell? ⟨w.heap.size, 1, none⟩ = some (.slice (some ⟨gw, 0, none⟩) xs.length xs.length) := X2.cell 1
  have xl2 := X2.lt
  have HM2 := Lib.hid (markRows k2 w2 gw gb gw ys xs HR2.out hn hc bk2.1 bk2.2)
  rw [HK3.out] at HM2
  clear t2 X2 HX1 HM1 HR HB HZ x0 xl T1 hW1
  go_wp2_with fail
  refine HM2.out.mono ?_; rintro e w3 ⟨rfl, t3⟩
  have X3 := HX2.out.turn t3 (.inr (by omega))
  have T3 := Lib.hid (T2.out.trans (t3.wide (by omega) (by omega)))
  have HB3 := HB2.out.turn t3 (.inr (Nat.le_refl _))
  have x2 : w3.cell? ⟨w.heap.size, 2, none⟩ = some (.slice (some ⟨gb, 0, none⟩) B.length B.length) := X3.cell 2
  have xl3 := X3.lt
  have HM3 := Lib.hid (markInt64S k3 w3 gb (gb + 1) _ B.length _ (Held.of_own (n := B.length) (s := 1) HB3 (putI_len _) (by unfold maxLen; omega)) hB bk3.1 bk3.2)
  rw [HK4.out] at HM3
  clear t3 X3 HX2 HM2 HR2 HB2 x1 xl2 T2 HB3
  go_wp2_with fail
  refine HM3.out.mono ?_; rintro e w4 ⟨rfl, t4, _⟩
  have T4 := Lib.hid (T3.out.trans (t4.wide (by omega) (by omega)))
  clear t4 x2 xl3 HM3
  go_wp2_with fail
  go_ret
  exact ⟨rfl, T4.out⟩
end Go.Proofs.YtcjekailcljaaaaGreat
