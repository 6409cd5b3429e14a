/- The marks of the laws at lists of melts. -/
import Derived.Test.YtdliabgdgjboiaaRows
import Derived.Test.YtdliabgdgjboiaaRdM
import Derived.Test.YtdliabgdgjboiaaMarkString
namespace Go.Proofs.Ytdliabgdgjboiaa
open Go.ChangeShapes Go.WideShapes Go.ChangeAt Go.RowKit Go.Deep Go.Joins
set_option linter.unusedVariables false
set_option maxRecDepth 100000
set_option linter.unusedSimpArgs false
/-- how many ingots melts name -/
def cntM (xs : List Melt) : Nat := (xs.map fun x => x.ingots.length).sum
theorem cntM_succ (xs : List Melt) (k : Nat) (hk : k < xs.length) : cntM (xs.take (k + 1)) = cntM (xs.take k) + xs[k].ingots.length := by
  unfold cntM
  rw [List.take_succ_eq_append_getElem hk, List.map_append, List.sum_append]
  simp
theorem cntM_take (xs : List Melt) (k : Nat) : cntM (xs.take k) ≤ cntM xs := by
  have h : cntM xs = cntM (xs.take k) + cntM (xs.drop k) := by
    unfold cntM
    rw [← List.sum_append, ← List.map_append, List.take_append_drop]
  omega
theorem cntM_said {ys xs : List Melt} (h : ys.map Melt.said = xs.map Melt.said) : cntM ys = cntM xs := by
  have e : ∀ zs : List Melt, cntM zs = ((zs.map Melt.said).map fun t => t.2.1.length).sum := fun zs => by unfold cntM; rw [List.map_map]; rfl
  rw [e, e, h]

/-- melts in blocks of lo .. hi -/
def MeltsIn (lo hi : Nat) (w : World) (g : Nat) (ys xs : List Melt) : Prop := MeltsAt w g ys xs ∧ lo ≤ g ∧ g < hi ∧ ∀ y ∈ ys, ∀ b n c, y.list = .slice (some ⟨b, 0, none⟩) n c → b < hi
theorem MeltsIn.of {lo : Nat} {w : World} {g : Nat} {ys xs : List Melt} (h : MeltsAt w g ys xs) (hl : lo ≤ g) : MeltsIn lo w.heap.size w g ys xs := by
  refine ⟨h, hl, h.lt, fun y hy b n c e => ?_⟩
  obtain ⟨g', h1, h2, h3⟩ := h.2.2 y hy
  rw [h1] at e
  cases e
  exact h3.lt
theorem MeltsIn.turn {lo hi lo' hi' : Nat} {w w' : World} {g : Nat} {ys xs : List Melt} (h : MeltsIn lo hi w g ys xs) (t : Turn lo' hi' w w') (hd : hi ≤ lo' ∨ hi' ≤ lo) : MeltsIn lo hi w' g ys xs := by
  obtain ⟨⟨h1, h2, h3⟩, h4, h5, h6⟩ := h
  refine ⟨⟨h1.turn t (by omega), h2, fun y hy => ?_⟩, h4, h5, h6⟩
  obtain ⟨g', e1, e2, e3⟩ := h3 y hy
  have := h6 y hy _ _ _ e1
  exact ⟨g', e1, e2, e3.turn t (by omega)⟩

theorem MeltsIn.below {lo hi : Nat} {w w' : World} {g : Nat} {ys xs : List Melt} (h : MeltsIn lo hi w g ys xs) (b : Below w.heap.size w w') (_ : g < w.heap.size) : MeltsIn lo hi w' g ys xs := h.turn (Turn.of_below (lo := hi) (hi := hi) b) (.inl (Nat.le_refl _))
theorem MeltsIn.lt {lo hi : Nat} {w : World} {g : Nat} {ys xs : List Melt} (h : MeltsIn lo hi w g ys xs) : g < w.heap.size := h.1.lt
theorem cntM_wt : ∀ (xs : List Melt), cntM xs ≤ wtMelt xs
  | [] => by simp [cntM]
  | x :: xs => by
    have h := cntM_wt xs
    have e : cntM (x :: xs) = x.ingots.length + cntM xs := by simp [cntM]
    rw [e]
    simp only [wtMelt, Melt.wt, List.map_cons, List.sum_cons] at *
    omega

set_option maxHeartbeats 4000000 in
theorem markMeltS (k : Int) (w : World) (lo hi g : Nat) (ys xs : List Melt) (h : MeltsIn lo hi w g ys xs) (hn : xs.length ≤ 1048576) (hc : cntM xs ≤ 1048576) (h1 : 1 ≤ k) (hk : k ≤ 268435456) :
    Calls Try.prog 31 #[.slice (some ⟨g, 0, none⟩) xs.length xs.length, .int .i64 k] w fun e w' => e = .returned (.int .i64 (k + 2 * (xs.length : Int) + (cntM xs : Int))) ∧ Turn lo hi w w' := by
  obtain ⟨⟨ho, hs, hm⟩, hlo, hhi, hin⟩ := h
  have hl := said_len hs
  have hcs := cntM_said hs
  rw [← hl]
  rw [← hcs] at hc ⊢
  have hn' : ys.length ≤ 1048576 := by omega
  clear hl hcs hs hn
  have HM := Lib.hid hm; clear hm
  have HIN := Lib.hid hin; clear hin
  have HO0 := Lib.hid ho; clear ho
  go_enter Try.func31, Try.ntmps31
  go_wp2
  go_loopw [1, 5] (fun q i wr => ∃ (j : Nat) (A : List Value), j ≤ ys.length ∧ i = .int .i64 j ∧ q = .int .i64 (k + 2 * (j : Int) + (cntM (ys.take j) : Int)) ∧ A.length = j * 3 ∧ Own wr g 34 (A ++ (ys.drop j).flatMap Melt.put) ∧ Turn lo hi w wr) (fun _ i _ => ys.length - (intOf i).toNat)
  case atStart => exact ⟨0, [], Nat.zero_le _, rfl, by simp [cntM], rfl, by simpa using HO0.out, Turn.refl _ _ _⟩
  case round =>
    obtain ⟨j, A, hj, rfl, rfl, hA, ho, ht⟩ := hrel
    by_cases hlt : j < ys.length
    · have hct := cntM_take ys j
      have hcn := cntM_take ys (j + 1)
      have hcs := cntM_succ ys j hlt
      obtain ⟨gy, y1, y2, y3⟩ := HM.out ys[j] (List.getElem_mem hlt)
      have y4 := HIN.out ys[j] (List.getElem_mem hlt) _ _ _ y1
      obtain ⟨L1, hL1, o1⟩ := ht.shape y3
      rw [putStr_len] at hL1
      obtain ⟨q, hq, hq1, hq2⟩ : ∃ q : Int, k + 2 * (j : Int) + (cntM (ys.take j) : Int) = q ∧ 1 ≤ q ∧ q ≤ 300000000 := ⟨_, rfl, by omega, by omega⟩
      have e2 : Hid (k + 2 * ((j + 1 : Nat) : Int) + (cntM (ys.take (j + 1)) : Int) = q + 1 + (ys[j].ingots.length : Int) + 1) := (by omega : k + 2 * ((j + 1 : Nat) : Int) + (cntM (ys.take (j + 1)) : Int) = q + 1 + (ys[j].ingots.length : Int) + 1)
      have hni : ys[j].ingots.length ≤ 1048576 := by omega
      rw [hq]
      have ed : ys.drop j = ys[j] :: ys.drop (j + 1) := List.drop_eq_getElem_cons hlt
      rw [ed, List.flatMap_cons] at ho
      have HO : Hid (Own wr g 34 (A ++ .string ys[j].id :: .slice (some ⟨gy, 0, none⟩) ys[j].ingots.length ys[j].ingots.length :: .int .i64 ys[j].mass :: (ys.drop (j + 1)).flatMap Melt.put)) := (by rw [← y1]; exact ho : Own wr g 34 (A ++ .string ys[j].id :: .slice (some ⟨gy, 0, none⟩) ys[j].ingots.length ys[j].ingots.length :: .int .i64 ys[j].mass :: (ys.drop (j + 1)).flatMap Melt.put))
      have HT := Lib.hid ht
      have HA := Lib.hid hA
      have HL := Lib.hid (Held.of_own (n := ys[j].ingots.length) (s := 1) o1 (by omega) (by unfold maxLen; omega))
      have Y2 := y2
      clear ho ht hA ed hq hcs hcn hct y1 y2 y3 o1 hL1 HO0
      go_wp2_with fail
      refine (markTextI q _ (by omega) (by omega)).mono ?_; rintro e w1 ⟨rfl, b1⟩
      have ho1 := HO.out.below b1 HO.out.lt
      have hA := HA.out
      have d0 : w1.cell? ⟨g, j * 3, none⟩ = some (.string ys[j].id) := by rw [ho1.cell, List.getElem?_append_right (by omega), hA]; simp
      have d1 : w1.cell? ⟨g, j * 3 + 1, none⟩ = some (.slice (some ⟨gy, 0, none⟩) ys[j].ingots.length ys[j].ingots.length) := by rw [ho1.cell, List.getElem?_append_right (by omega), hA]; simp
      have f0 := ho1.free (j * 3)
      have hO2 := Lib.hid (ho1.set (j * 3) (.string (markT q.toNat)))
      have hT2 := Lib.hid (Turn.set (HT.out.trans (Turn.of_below b1)) hlo hhi (j * 3) (.string (markT q.toNat)))
      have hL2 := Lib.hid ((HL.out.below b1).turn (Turn.set (Turn.refl g (g + 1) _) (Nat.le_refl _) (Nat.lt_succ_self _) (j * 3) (.string (markT q.toNat))) (.inr (by omega)))
      clear HO HT HL b1 ho1 hA
      go_wp2_with fail
      refine (markStringS (q + 1) _ gy (gy + 1) _ _ L1 hL2.out hni (by omega) (by omega)).mono ?_; rintro e w2 ⟨rfl, t2, _⟩
      have hT3 := Lib.hid (hT2.out.trans (t2.wide (by omega) (by omega)))
      have hO3' := hO2.out.turn t2 (.inl Y2)
      rw [List.set_append_right _ _ (by have := HA.out; omega), show j * 3 - A.length = 0 from by have := HA.out; omega] at hO3'
      have hO3 := Lib.hid hO3'
      have d2 : w2.cell? ⟨g, j * 3 + 2, none⟩ = some (.int .i64 ys[j].mass) := by rw [hO3'.cell, List.getElem?_append_right (by have := HA.out; omega), HA.out]; simp
      have f2 := hO3'.free (j * 3 + 2)
      have hO4' := hO3'.set (j * 3 + 2) (.int .i64 (q + 1 + (ys[j].ingots.length : Int)))
      have hT4 := Lib.hid (Turn.set hT3.out hlo hhi (j * 3 + 2) (.int .i64 (q + 1 + (ys[j].ingots.length : Int))))
      rw [List.set_append_right _ _ (by have := HA.out; omega), show j * 3 + 2 - A.length = 2 from by have := HA.out; omega] at hO4'
      have hO4 := Lib.hid hO4'
      clear hO4' hO3' hO3 hT3 hO2 hT2 hL2 t2 d0 d1 f0
      go_wp2_with fail
      go_roundw
      case rel => exact ⟨j + 1, A ++ [.string (markT q.toNat), .slice (some ⟨gy, 0, none⟩) ys[j].ingots.length ys[j].ingots.length, .int .i64 (q + 1 + (ys[j].ingots.length : Int))], by omega, by go_num, by rw [e2.out] <;> go_num, by have := HA.out; simp; omega, by have := hO4.out; simpa using this, hT4.out⟩
      case measure => simp [intOf]; omega
    · have hjn : j = ys.length := by omega
      subst hjn
      have e1 : Hid (ys.take ys.length = ys) := (List.take_length : ys.take ys.length = ys)
      have HT := Lib.hid ht; clear ht ho hA HO0
      go_wp2
      go_ret
      exact ⟨by rw [e1.out]; rfl, HT.out⟩
end Go.Proofs.Ytdliabgdgjboiaa
