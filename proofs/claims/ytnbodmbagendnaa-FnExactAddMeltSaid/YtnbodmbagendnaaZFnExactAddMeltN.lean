/- Contracts and plain facts, joined: MarkMelt, MarkNest, AddMX, MarkIngot, MarkMel1. -/
import Derived.Test.YtnbodmbagendnaaRows
import Derived.Test.YtnbodmbagendnaaZFnExactAddMeltM
namespace Go.Proofs.Ytnbodmbagendnaa
open Go.ChangeShapes Go.WideShapes Go.ChangeAt Go.RowKit Go.Deep Go.Joins
set_option linter.unusedVariables false
set_option maxRecDepth 100000
set_option linter.unusedSimpArgs false
/-- how many ingots melts name -/
def cntM (xs : List Melt) : Nat := (xs.map fun x => x.ingots.length).sum
theorem cntM_succ (xs : List Melt) (k : Nat) (hk : k < xs.length) : cntM (xs.take (k + 1)) = cntM (xs.take k) + xs[k].ingots.length := by
  unfold cntM
  rw [List.take_succ_eq_append_getElem hk, List.map_append, List.sum_append]
  simp
theorem cntM_take (xs : List Melt) (k : Nat) : cntM (xs.take k) ≤ cntM xs := by
  have h : cntM xs = cntM (xs.take k) + cntM (xs.drop k) := by
    unfold cntM
    rw [← List.sum_append, ← List.map_append, List.take_append_drop]
  omega
theorem cntM_said {ys xs : List Melt} (h : ys.map Melt.said = xs.map Melt.said) : cntM ys = cntM xs := by
  have e : ∀ zs : List Melt, cntM zs = ((zs.map Melt.said).map fun t => t.2.1.length).sum := fun zs => by unfold cntM; rw [List.map_map]; rfl
  rw [e, e, h]

/-- melts in blocks of lo .. hi -/
def MeltsIn (lo hi : Nat) (w : World) (g : Nat) (ys xs : List Melt) : Prop := MeltsAt w g ys xs ∧ lo ≤ g ∧ g < hi ∧ ∀ y ∈ ys, ∀ b n c, y.list = .slice (some ⟨b, 0, none⟩) n c → b < hi
theorem MeltsIn.of {lo : Nat} {w : World} {g : Nat} {ys xs : List Melt} (h : MeltsAt w g ys xs) (hl : lo ≤ g) : MeltsIn lo w.heap.size w g ys xs := by
  refine ⟨h, hl, h.lt, fun y hy b n c e => ?_⟩
  obtain ⟨g', h1, h2, h3⟩ := h.2.2 y hy
  rw [h1] at e
  cases e
  exact h3.lt
theorem MeltsIn.turn {lo hi lo' hi' : Nat} {w w' : World} {g : Nat} {ys xs : List Melt} (h : MeltsIn lo hi w g ys xs) (t : Turn lo' hi' w w') (hd : hi ≤ lo' ∨ hi' ≤ lo) : MeltsIn lo hi w' g ys xs := by
  obtain ⟨⟨h1, h2, h3⟩, h4, h5, h6⟩ := h
  refine ⟨⟨h1.turn t (by omega), h2, fun y hy => ?_⟩, h4, h5, h6⟩
  obtain ⟨g', e1, e2, e3⟩ := h3 y hy
  have := h6 y hy _ _ _ e1
  exact ⟨g', e1, e2, e3.turn t (by omega)⟩

theorem MeltsIn.below {lo hi : Nat} {w w' : World} {g : Nat} {ys xs : List Melt} (h : MeltsIn lo hi w g ys xs) (b : Below w.heap.size w w') (_ : g < w.heap.size) : MeltsIn lo hi w' g ys xs := h.turn (Turn.of_below (lo := hi) (hi := hi) b) (.inl (Nat.le_refl _))
theorem MeltsIn.lt {lo hi : Nat} {w : World} {g : Nat} {ys xs : List Melt} (h : MeltsIn lo hi w g ys xs) : g < w.heap.size := h.1.lt
theorem cntM_wt : ∀ (xs : List Melt), cntM xs ≤ wtMelt xs
  | [] => by simp [cntM]
  | x :: xs => by
    have h := cntM_wt xs
    have e : cntM (x :: xs) = x.ingots.length + cntM xs := by simp [cntM]
    rw [e]
    simp only [wtMelt, Melt.wt, List.map_cons, List.sum_cons] at *
    omega

set_option maxHeartbeats 4000000 in
theorem markMeltS (k : Int) (w : World) (lo hi g : Nat) (ys xs : List Melt) (h : MeltsIn lo hi w g ys xs) (hn : xs.length ≤ 1048576) (hc : cntM xs ≤ 1048576) (h1 : 1 ≤ k) (hk : k ≤ 268435456) :
    Calls Try.prog 35 #[.slice (some ⟨g, 0, none⟩) xs.length xs.length, .int .i64 k] w fun e w' => e = .returned (.int .i64 (k + 2 * (xs.length : Int) + (cntM xs : Int))) ∧ Turn lo hi w w' := by
  obtain ⟨⟨ho, hs, hm⟩, hlo, hhi, hin⟩ := h
  have hl := said_len hs
  have hcs := cntM_said hs
  rw [← hl]
  rw [← hcs] at hc ⊢
  have hn' : ys.length ≤ 1048576 := by omega
  clear hl hcs hs hn
  have HM := Lib.hid hm; clear hm
  have HIN := Lib.hid hin; clear hin
  have HO0 := Lib.hid ho; clear ho
  go_enter Try.func35, Try.ntmps35
  go_wp2
  go_loopw [1, 5] (fun q i wr => ∃ (j : Nat) (A : List Value), j ≤ ys.length ∧ i = .int .i64 j ∧ q = .int .i64 (k + 2 * (j : Int) + (cntM (ys.take j) : Int)) ∧ A.length = j * 3 ∧ Own wr g 63 (A ++ (ys.drop j).flatMap Melt.put) ∧ Turn lo hi w wr) (fun _ i _ => ys.length - (intOf i).toNat)
  case atStart => exact ⟨0, [], Nat.zero_le _, rfl, by simp [cntM], rfl, by simpa using HO0.out, Turn.refl _ _ _⟩
  case round =>
    obtain ⟨j, A, hj, rfl, rfl, hA, ho, ht⟩ := hrel
    by_cases hlt : j < ys.length
    · have hct := cntM_take ys j
      have hcn := cntM_take ys (j + 1)
      have hcs := cntM_succ ys j hlt
      obtain ⟨gy, y1, y2, y3⟩ := HM.out ys[j] (List.getElem_mem hlt)
      have y4 := HIN.out ys[j] (List.getElem_mem hlt) _ _ _ y1
      obtain ⟨L1, hL1, o1⟩ := ht.shape y3
      rw [putStr_len] at hL1
      obtain ⟨q, hq, hq1, hq2⟩ : ∃ q : Int, k + 2 * (j : Int) + (cntM (ys.take j) : Int) = q ∧ 1 ≤ q ∧ q ≤ 300000000 := ⟨_, rfl, by omega, by omega⟩
      have e2 : Hid (k + 2 * ((j + 1 : Nat) : Int) + (cntM (ys.take (j + 1)) : Int) = q + 1 + (ys[j].ingots.length : Int) + 1) := (by omega : k + 2 * ((j + 1 : Nat) : Int) + (cntM (ys.take (j + 1)) : Int) = q + 1 + (ys[j].ingots.length : Int) + 1)
      have hni : ys[j].ingots.length ≤ 1048576 := by omega
      rw [hq]
      have ed : ys.drop j = ys[j] :: ys.drop (j + 1) := List.drop_eq_getElem_cons hlt
      rw [ed, List.flatMap_cons] at ho
      have HO : Hid (Own wr g 63 (A ++ .string ys[j].id :: .slice (some ⟨gy, 0, none⟩) ys[j].ingots.length ys[j].ingots.length :: .int .i64 ys[j].mass :: (ys.drop (j + 1)).flatMap Melt.put)) := (by rw [← y1]; exact ho : Own wr g 63 (A ++ .string ys[j].id :: .slice (some ⟨gy, 0, none⟩) ys[j].ingots.length ys[j].ingots.length :: .int .i64 ys[j].mass :: (ys.drop (j + 1)).flatMap Melt.put))
      have HT := Lib.hid ht
      have HA := Lib.hid hA
      have HL := Lib.hid (Held.of_own (n := ys[j].ingots.length) (s := 1) o1 (by omega) (by unfold maxLen; omega))
      have Y2 := y2
      clear ho ht hA ed hq hcs hcn hct y1 y2 y3 o1 hL1 HO0
      go_wp2_with fail
      refine (markTextI q _ (by omega) (by omega)).mono ?_; rintro e w1 ⟨rfl, b1⟩
      have ho1 := HO.out.below b1 HO.out.lt
      have hA := HA.out
      have d0 : w1.cell? ⟨g, j * 3, none⟩ = some (.string ys[j].id) := by rw [ho1.cell, List.getElem?_append_right (by omega), hA]; simp
      have d1 : w1.cell? ⟨g, j * 3 + 1, none⟩ = some (.slice (some ⟨gy, 0, none⟩) ys[j].ingots.length ys[j].ingots.length) := by rw [ho1.cell, List.getElem?_append_right (by omega), hA]; simp
      have f0 := ho1.free (j * 3)
      have hO2 := Lib.hid (ho1.set (j * 3) (.string (markT q.toNat)))
      have hT2 := Lib.hid (Turn.set (HT.out.trans (Turn.of_below b1)) hlo hhi (j * 3) (.string (markT q.toNat)))
      have hL2 := Lib.hid ((HL.out.below b1).turn (Turn.set (Turn.refl g (g + 1) _) (Nat.le_refl _) (Nat.lt_succ_self _) (j * 3) (.string (markT q.toNat))) (.inr (by omega)))
      clear HO HT HL b1 ho1 hA
      go_wp2_with fail
      refine (markStringS (q + 1) _ gy (gy + 1) _ _ L1 hL2.out hni (by omega) (by omega)).mono ?_; rintro e w2 ⟨rfl, t2, _⟩
      have hT3 := Lib.hid (hT2.out.trans (t2.wide (by omega) (by omega)))
      have hO3' := hO2.out.turn t2 (.inl Y2)
      rw [List.set_append_right _ _ (by have := HA.out; omega), show j * 3 - A.length = 0 from by have := HA.out; omega] at hO3'
      have hO3 := Lib.hid hO3'
      have d2 : w2.cell? ⟨g, j * 3 + 2, none⟩ = some (.int .i64 ys[j].mass) := by rw [hO3'.cell, List.getElem?_append_right (by have := HA.out; omega), HA.out]; simp
      have f2 := hO3'.free (j * 3 + 2)
      have hO4' := hO3'.set (j * 3 + 2) (.int .i64 (q + 1 + (ys[j].ingots.length : Int)))
      have hT4 := Lib.hid (Turn.set hT3.out hlo hhi (j * 3 + 2) (.int .i64 (q + 1 + (ys[j].ingots.length : Int))))
      rw [List.set_append_right _ _ (by have := HA.out; omega), show j * 3 + 2 - A.length = 2 from by have := HA.out; omega] at hO4'
      have hO4 := Lib.hid hO4'
      clear hO4' hO3' hO3 hT3 hO2 hT2 hL2 t2 d0 d1 f0
      go_wp2_with fail
      go_roundw
      case rel => exact ⟨j + 1, A ++ [.string (markT q.toNat), .slice (some ⟨gy, 0, none⟩) ys[j].ingots.length ys[j].ingots.length, .int .i64 (q + 1 + (ys[j].ingots.length : Int))], by omega, by go_num, by rw [e2.out] <;> go_num, by have := HA.out; simp; omega, by have := hO4.out; simpa using this, hT4.out⟩
      case measure => simp [intOf]; omega
    · have hjn : j = ys.length := by omega
      subst hjn
      have e1 : Hid (ys.take ys.length = ys) := (List.take_length : ys.take ys.length = ys)
      have HT := Lib.hid ht; clear ht ho hA HO0
      go_wp2
      go_ret
      exact ⟨by rw [e1.out]; rfl, HT.out⟩
end Go.Proofs.Ytnbodmbagendnaa
namespace Go.Proofs.Ytnbodmbagendnaa
open Go.ChangeShapes Go.WideShapes Go.ChangeAt Go.RowKit Go.Deep Go.Joins
set_option linter.unusedVariables false
set_option maxRecDepth 100000
set_option linter.unusedSimpArgs false
def marksTs (q : Int) (n : Nat) : List ByteArray := (List.range n).map fun i => markT (q + 1 * (i : Nat)).toNat
theorem marksTs_put (q : Int) (n : Nat) : (marksTs q n).flatMap putStr = marksString q n := by
  unfold marksTs marksString
  rw [List.flatMap_map]
  rfl
theorem marksTs_len (q : Int) (n : Nat) : (marksTs q n).length = n := by simp [marksTs]
def markM1 (q : Int) (x : Melt) : Melt := ⟨markT q.toNat, x.list, marksTs (q + 1) x.ingots.length, q + 1 + (x.ingots.length : Int)⟩
def markedM (k : Int) : List Melt → List Melt
  | [] => []
  | x :: xs => markM1 k x :: markedM (k + 2 + (x.ingots.length : Int)) xs
theorem cntM_cons (x : Melt) (xs : List Melt) : cntM (x :: xs) = x.ingots.length + cntM xs := by simp [cntM]
theorem markedM_append : ∀ (ps qs : List Melt) (k : Int), markedM k (ps ++ qs) = markedM k ps ++ markedM (k + 2 * (ps.length : Int) + (cntM ps : Int)) qs
  | [], qs, k => by simp [markedM, cntM]
  | a :: ps, qs, k => by
    simp only [List.cons_append, markedM]
    rw [markedM_append ps qs, cntM_cons, List.length_cons]
    congr 3
    push_cast
    omega
theorem markedM_snoc (k : Int) (xs : List Melt) (j : Nat) (h : j < xs.length) : markedM k (xs.take (j + 1)) = markedM k (xs.take j) ++ [markM1 (k + 2 * (j : Int) + (cntM (xs.take j) : Int)) xs[j]] := by
  have hl : (xs.take j).length = j := by rw [List.length_take]; omega
  rw [List.take_succ_eq_append_getElem h, markedM_append, hl]
  rfl
theorem markedM_len : ∀ (xs : List Melt) (k : Int), (markedM k xs).length = xs.length
  | [], _ => rfl
  | x :: xs, k => by simp only [markedM, List.length_cons, markedM_len xs]
theorem markedM_cnt : ∀ (xs : List Melt) (k : Int), cntM (markedM k xs) = cntM xs
  | [], _ => rfl
  | x :: xs, k => by simp only [markedM, cntM_cons, markedM_cnt xs]; simp [markM1, marksTs_len]
theorem Kids.step {base : Nat} {w w' : World} {A B : List Melt} {x y : Melt} {gs : List Nat} (h : Kids base w (A ++ x :: B) gs) (hj : A.length < gs.length) (hk : ∀ b L, b ≠ gs[A.length] → Own w b 9 L → Own w' b 9 L)
    (hy : Held gs[A.length] (gs[A.length] + 1) w' 9 1 x.list x.ingots.length (y.ingots.flatMap putStr)) (h0 : 0 < x.ingots.length) (hl : y.list = x.list) (hn : y.ingots.length = x.ingots.length) : Kids base w' (A ++ y :: B) gs := by
  obtain ⟨h1, h2, h3⟩ := h
  refine ⟨by simpa using h1, h2, fun i hi hi' => ?_⟩
  by_cases q : i = A.length
  · subst q
    obtain ⟨V, c, e1, e2, e3, e4, e5⟩ := h3 A.length (by simp) hi'
    have a1 : (A ++ x :: B)[A.length]'(by simp) = x := by simp
    have a2 : (A ++ y :: B)[A.length] = y := by simp
    rw [a1] at e1 e2
    rw [a2]
    obtain ⟨_, ao, cap, q1, q2, q3, q4, q5⟩ := hy
    obtain ⟨g, U, q6, q7, q8, q9⟩ := q5 h0
    rw [e1] at q1
    cases q1
    cases q6
    exact ⟨U, c, by rw [hl, e1, hn], by omega, e3, e4, q9⟩
  · have hi2 : i < (A ++ x :: B).length := by simpa using hi
    obtain ⟨V, c, e1, e2, e3, e4, e5⟩ := h3 i hi2 hi'
    have a1 : (A ++ y :: B)[i] = (A ++ x :: B)[i] := by
      rcases Nat.lt_or_ge i A.length with z | z
      · rw [List.getElem_append_left z, List.getElem_append_left z]
      · obtain ⟨m, hm⟩ : ∃ m, i = A.length + (m + 1) := ⟨i - A.length - 1, by omega⟩
        subst hm
        rw [List.getElem_append_right (by omega), List.getElem_append_right (by omega)]
        simp
    rw [a1]
    refine ⟨V, c, e1, e2, e3, e4, hk _ _ (fun e => ?_) e5⟩
    exact q ((List.getElem_inj h2).1 e)
theorem own_ne {w : World} {a b : Nat} {E E' : TypeId} {L L' : List Value} (h : Own w a E L) (h' : Own w b E' L') (hne : E ≠ E') : a ≠ b := by
  rintro rfl
  unfold Own at h h'
  rw [h] at h'
  injection h' with h'
  injection h' with _ q _
  exact hne q

set_option maxHeartbeats 4000000 in
theorem markMeltN (k : Int) (w : World) (lo hi : Nat) (v : Value) (xs : List Melt) (h : Nest lo hi w v xs) (hn : xs.length ≤ 1048576) (hc : cntM xs ≤ 1048576) (h0 : ∀ x ∈ xs, 1 ≤ x.ingots.length) (h1 : 1 ≤ k) (hk : k ≤ 268435456) :
    Calls Try.prog 35 #[v, .int .i64 k] w fun e w' => e = .returned (.int .i64 (k + 2 * (xs.length : Int) + (cntM xs : Int))) ∧ Turn lo hi w w' ∧ Nest lo hi w' v (markedM k xs) := by
  obtain ⟨hH, gs, hK, hgs⟩ := h
  obtain ⟨hL, ao, cap, rfl, hcap, hmax, hnil, hsome⟩ := hH
  obtain ⟨g, U, hg⟩ : ∃ g U, 0 < xs.length → ao = some ⟨g, 0, none⟩ ∧ lo ≤ g ∧ g < hi ∧ Own w g 63 (xs.flatMap Melt.put ++ U) := by
    by_cases h0 : 0 < xs.length
    · obtain ⟨g, U, h⟩ := hsome h0; exact ⟨g, U, fun _ => h⟩
    · exact ⟨0, [], fun h => absurd h h0⟩
  have HG := Lib.hid hg; clear hg hsome
  have HN := Lib.hid hnil; clear hnil
  have HK0 := Lib.hid hK; clear hK
  have HGS := Lib.hid hgs; clear hgs
  have H0 := Lib.hid h0; clear h0
  go_enter Try.func35, Try.ntmps35
  go_wp2
  go_loopw [1, 5] (fun q i wr => ∃ (j : Nat), j ≤ xs.length ∧ i = .int .i64 j ∧ q = .int .i64 (k + 2 * (j : Int) + (cntM (xs.take j) : Int)) ∧ Turn lo hi w wr ∧ Kids lo wr (markedM k (xs.take j) ++ xs.drop j) gs ∧ (0 < xs.length → Own wr g 63 ((markedM k (xs.take j) ++ xs.drop j).flatMap Melt.put ++ U))) (fun _ i _ => xs.length - (intOf i).toNat)
  case atStart => exact ⟨0, Nat.zero_le _, rfl, by simp [cntM], Turn.refl _ _ _, HK0.out, fun h0 => (HG.out h0).2.2.2⟩
  case round =>
    obtain ⟨j, hj, rfl, rfl, ht, hkd, hO⟩ := hrel
    by_cases hlt : j < xs.length
    · obtain ⟨rfl, hlo, hhi, _⟩ := HG.out (by omega)
      have ho := hO (by omega)
      have hct := cntM_take xs j
      have hcn := cntM_take xs (j + 1)
      have hcs := cntM_succ xs j hlt
      have hx0 := H0.out xs[j] (List.getElem_mem hlt)
      have hsn := Lib.hid (markedM_snoc k xs j hlt)
      have hAl : (markedM k (xs.take j)).length = j := by rw [markedM_len, List.length_take]; omega
      obtain ⟨A, hA⟩ : ∃ A, markedM k (xs.take j) = A := ⟨_, rfl⟩
      rw [hA] at hkd ho hsn hAl
      have ed : xs.drop j = xs[j] :: xs.drop (j + 1) := List.drop_eq_getElem_cons hlt
      rw [ed] at hkd ho
      have hgl := hkd.1
      rw [List.length_append, List.length_cons] at hgl
      have hjg : A.length < gs.length := by omega
      obtain ⟨V, c, y1, y2, y3, y4, y5⟩ := hkd.2.2 A.length (by simp; omega) hjg
      have ea : (A ++ xs[j] :: xs.drop (j + 1))[A.length]'(by simp; omega) = xs[j] := by simp
      rw [ea] at y1 y2 y5
      have y6 := HGS.out gs[A.length] (List.getElem_mem hjg)
      obtain ⟨gy, hgy⟩ : ∃ gy, gs[A.length] = gy := ⟨_, rfl⟩
      have HGY := Lib.hid hgy
      rw [hgy] at y1 y4 y5 y6
      have hgne : g ≠ gy := own_ne ho y5 (by decide)
      have hAL : (A.flatMap Melt.put).length = j * 3 := by rw [Melt_len, hAl]
      rw [List.flatMap_append, List.flatMap_cons, List.append_assoc, List.append_assoc] at ho
      obtain ⟨AV, hAV⟩ : ∃ AV, A.flatMap Melt.put = AV := ⟨_, rfl⟩
      obtain ⟨R, hR⟩ : ∃ R, (xs.drop (j + 1)).flatMap Melt.put ++ U = R := ⟨_, rfl⟩
      rw [hAV] at ho hAL
      rw [hR] at ho
      obtain ⟨q, hq, hq1, hq2⟩ : ∃ q : Int, k + 2 * (j : Int) + (cntM (xs.take j) : Int) = q ∧ 1 ≤ q ∧ q ≤ 300000000 := ⟨_, rfl, by omega, by omega⟩
      have e2 : Hid (k + 2 * ((j + 1 : Nat) : Int) + (cntM (xs.take (j + 1)) : Int) = q + 1 + (xs[j].ingots.length : Int) + 1) := (by omega : k + 2 * ((j + 1 : Nat) : Int) + (cntM (xs.take (j + 1)) : Int) = q + 1 + (xs[j].ingots.length : Int) + 1)
      have hni : xs[j].ingots.length ≤ 1048576 := by omega
      rw [hq] at hsn ⊢
      have HO : Hid (Own wr g 63 (AV ++ .string xs[j].id :: .slice (some ⟨gy, 0, none⟩) xs[j].ingots.length c :: .int .i64 xs[j].mass :: R)) := (by rw [← y1]; exact ho : Own wr g 63 (AV ++ .string xs[j].id :: .slice (some ⟨gy, 0, none⟩) xs[j].ingots.length c :: .int .i64 xs[j].mass :: R))
      have HT := Lib.hid ht
      have HKD := Lib.hid hkd
      have HAL := Lib.hid hAL
      have HY1 := Lib.hid y1
      have HL : Hid (Held gy (gy + 1) wr 9 1 (.slice (some ⟨gy, 0, none⟩) xs[j].ingots.length c) xs[j].ingots.length (xs[j].ingots.flatMap putStr)) := Lib.hid ⟨putStr_len _, _, _, rfl, y2, y3, (fun q => by cases q), fun _ => ⟨gy, V, rfl, Nat.le_refl _, Nat.lt_succ_self _, y5⟩⟩
      have HPK := Lib.hid ((And.intro hA (And.intro hAV hR)))
      clear ho ht hkd hAL ed hq hcs hcn hct y1 y2 y3 y5 hO hgy hA hAV hR HK0 HG ea
      go_wp2_with fail
      refine (markTextI q _ (by omega) (by omega)).mono ?_; rintro e w1 ⟨rfl, b1⟩
      have ho1 := HO.out.below b1 HO.out.lt
      have hA := HAL.out
      have d0 : w1.cell? ⟨g, j * 3, none⟩ = some (.string xs[j].id) := by rw [ho1.cell, List.getElem?_append_right (by omega), hA]; simp <;> omega
      have d1 : w1.cell? ⟨g, j * 3 + 1, none⟩ = some (.slice (some ⟨gy, 0, none⟩) xs[j].ingots.length c) := by rw [ho1.cell, List.getElem?_append_right (by omega), hA]; simp <;> omega
      have f0 := ho1.free (j * 3)
      have hO2 := Lib.hid (ho1.set (j * 3) (.string (markT q.toNat)))
      have hT2 := Lib.hid (Turn.set (HT.out.trans (Turn.of_below b1)) hlo hhi (j * 3) (.string (markT q.toNat)))
      have hL2 := Lib.hid ((HL.out.below b1).turn (Turn.set (Turn.refl g (g + 1) _) (Nat.le_refl _) (Nat.lt_succ_self _) (j * 3) (.string (markT q.toNat))) (by omega))
      have hK2 : Hid (Kids lo (w1.setCell ⟨g, j * 3, none⟩ (.string (markT q.toNat))) (A ++ xs[j] :: xs.drop (j + 1)) gs) := Lib.hid ((HKD.out.below b1).kept fun b L o => o.other (a := ⟨g, j * 3, none⟩) (own_ne ho1 o (by decide)) _)
      clear HO HT HL HKD b1 ho1 hA
      go_wp2_with fail
      refine (markStringS (q + 1) _ gy (gy + 1) _ _ _ hL2.out hni (by omega) (by omega)).mono ?_; rintro e w2 ⟨rfl, t2, hl2⟩
      have hT3 := Lib.hid (hT2.out.trans (t2.wide (by omega) (by omega)))
      have hO3' := hO2.out.turn t2 (by omega)
      have hK3 : Hid (Kids lo w2 (A ++ markM1 q xs[j] :: xs.drop (j + 1)) gs) := Lib.hid (by
        refine hK2.out.step hjg (fun b L hb o => o.turn t2 (by have := HGY.out; omega)) ?_ (by omega) rfl (marksTs_len _ _)
        rw [HGY.out, HY1.out]
        show Held gy (gy + 1) w2 _ 1 _ _ ((marksTs (q + 1) xs[j].ingots.length).flatMap putStr)
        rw [marksTs_put]; exact hl2)
      rw [List.set_append_right _ _ (by have := HAL.out; omega), show j * 3 - AV.length = 0 from by have := HAL.out; omega] at hO3'
      have hO3 := Lib.hid hO3'
      have d2 : w2.cell? ⟨g, j * 3 + 2, none⟩ = some (.int .i64 xs[j].mass) := by rw [hO3'.cell, List.getElem?_append_right (by have := HAL.out; omega), HAL.out]; simp <;> omega
      have f2 := hO3'.free (j * 3 + 2)
      have hO4' := hO3'.set (j * 3 + 2) (.int .i64 (q + 1 + (xs[j].ingots.length : Int)))
      have hT4 := Lib.hid (Turn.set hT3.out hlo hhi (j * 3 + 2) (.int .i64 (q + 1 + (xs[j].ingots.length : Int))))
      have hK4 : Hid (Kids lo (w2.setCell ⟨g, j * 3 + 2, none⟩ (.int .i64 (q + 1 + (xs[j].ingots.length : Int)))) (A ++ markM1 q xs[j] :: xs.drop (j + 1)) gs) := Lib.hid (hK3.out.kept fun b L o => o.other (a := ⟨g, j * 3 + 2, none⟩) (own_ne hO3' o (by decide)) _)
      rw [List.set_append_right _ _ (by have := HAL.out; omega), show j * 3 + 2 - AV.length = 2 from by have := HAL.out; omega] at hO4'
      have hO4 := Lib.hid hO4'
      clear hO4' hO3' hO3 hT3 hO2 hT2 hL2 t2 d0 d1 f0 hK2 hK3 hl2
      go_wp2_with fail
      go_roundw
      case rel =>
        refine ⟨j + 1, by omega, by go_num, by rw [e2.out] <;> go_num, hT4.out, ?_, fun _ => ?_⟩
        · rw [hsn.out, List.append_assoc]; exact hK4.out
        · rw [hsn.out, List.append_assoc, List.flatMap_append, HPK.out.2.1]
          show Own _ _ _ (AV ++ (Melt.put (markM1 q xs[j]) ++ (xs.drop (j + 1)).flatMap Melt.put) ++ U)
          rw [List.append_assoc, List.append_assoc, HPK.out.2.2]
          have := hO4.out
          rw [← HY1.out] at this
          exact this
      case measure => simp [intOf]; omega
    · have hjn : j = xs.length := by omega
      subst hjn
      have e1 : Hid (xs.take xs.length = xs) := (List.take_length : xs.take xs.length = xs)
      have HT := Lib.hid ht; clear ht
      have HKD := Lib.hid hkd
      have HO := Lib.hid hO
      rw [e1.out, List.drop_length, List.append_nil] at HKD HO
      clear hkd hO HK0
      go_wp2
      go_ret
      refine ⟨by rw [e1.out]; rfl, HT.out, ⟨?_, ao, cap, ?_, ?_, hmax, ?_, fun hp => ?_⟩, gs, HKD.out, HGS.out⟩
      · rw [Melt_len]
      · rw [markedM_len]
      · rw [markedM_len]; exact hcap
      · rw [markedM_len]; exact HN.out
      · rw [markedM_len] at hp
        obtain ⟨q1, q2, q3, _⟩ := HG.out hp
        exact ⟨g, U, q1, q2, q3, HO.out hp⟩

theorem markedM_get (k : Int) (xs : List Melt) (j : Nat) (h : j < (markedM k xs).length) (hx : j < xs.length) : (markedM k xs)[j] = markM1 (k + 2 * (j : Int) + (cntM (xs.take j) : Int)) xs[j] := by
  have e : markedM k xs = markedM k (xs.take (j + 1)) ++ markedM (k + 2 * ((xs.take (j + 1)).length : Int) + (cntM (xs.take (j + 1)) : Int)) (xs.drop (j + 1)) := by rw [← markedM_append, List.take_append_drop]
  have hl : (markedM k (xs.take j)).length = j := by rw [markedM_len, List.length_take]; omega
  rw [List.getElem_of_eq e, List.getElem_append_left (by rw [markedM_len, List.length_take]; omega), List.getElem_of_eq (markedM_snoc k xs j hx), List.getElem_append_right (by omega)]
  simp [hl]
set_option maxHeartbeats 4000000 in
theorem heldMeltN (k : Int) (w : World) (lo hi : Nat) (v : Value) (xs : List Melt) (h : Nest lo hi w v (markedM k xs)) (hn : xs.length ≤ 1048576) (hc : cntM xs ≤ 1048576) (h1 : 1 ≤ k) (hk : k ≤ 268435456) :
    Calls Try.prog 37 #[v, .int .i64 k] w fun e w' => e = .returned (.int .i64 (k + 2 * (xs.length : Int) + (cntM xs : Int))) ∧ Below w.heap.size w w' := by
  have hkids := h.kids
  obtain ⟨hL, ao, cap, rfl, hcap, hmax, hnil, hsome⟩ := h.rd
  clear hnil h
  have HKS := Lib.hid hkids; clear hkids
  have hml := markedM_len xs k
  rw [hml] at hcap hsome ⊢
  go_enter Try.func37, Try.ntmps37
  go_wp2
  go_loopw [1, 5] (fun q i wr => ∃ (j : Nat), j ≤ xs.length ∧ i = .int .i64 j ∧ q = .int .i64 (k + 2 * (j : Int) + (cntM (xs.take j) : Int)) ∧ Below w.heap.size w wr) (fun _ i _ => xs.length - (intOf i).toNat)
  case atStart => exact ⟨0, Nat.zero_le _, rfl, by simp [cntM], Below.refl _ _⟩
  case round =>
    obtain ⟨j, hj, rfl, rfl, hb⟩ := hrel
    by_cases hlt : j < xs.length
    · obtain ⟨b, off, rfl, hbB, hcl⟩ := hsome (by omega)
      have hjm : j < (markedM k xs).length := by omega
      have hge := markedM_get k xs j hjm hlt
      have hkd := HKS.out (markedM k xs)[j] (List.getElem_mem hjm)
      have hct := cntM_take xs j
      have hcn := cntM_take xs (j + 1)
      have hcs := cntM_succ xs j hlt
      obtain ⟨q, hq, hq1, hq2⟩ : ∃ q : Int, k + 2 * (j : Int) + (cntM (xs.take j) : Int) = q ∧ 1 ≤ q ∧ q ≤ 300000000 := ⟨_, rfl, by omega, by omega⟩
      have e2 : Hid (k + 2 * ((j + 1 : Nat) : Int) + (cntM (xs.take (j + 1)) : Int) = q + 1 + (xs[j].ingots.length : Int) + 1) := (by omega : k + 2 * ((j + 1 : Nat) : Int) + (cntM (xs.take (j + 1)) : Int) = q + 1 + (xs[j].ingots.length : Int) + 1)
      have hni : xs[j].ingots.length ≤ 1048576 := by omega
      have g0 := Melt_get0 (markedM k xs) j hjm
      have g1 := Melt_get1 (markedM k xs) j hjm
      have g2 := Melt_get2 (markedM k xs) j hjm
      rw [hge] at g0 g1 g2 hkd
      rw [hq] at g0 g1 g2 hkd ⊢
      have hkd2 : Rd w.heap.size w xs[j].list 1 xs[j].ingots.length (marksString (q + 1) xs[j].ingots.length) := by
        have := hkd
        unfold markM1 at this
        simp only [marksTs_len, marksTs_put] at this
        exact this
      obtain ⟨lo', lc, el⟩ := hkd2.form
      have c0 : wr.cell? ⟨b, off + j * 3, none⟩ = some (.string (markT q.toNat)) := by
        rw [hb.cell (p := ⟨b, off + j * 3, none⟩) hbB, show off + j * 3 = off + (j * 3 + 0) from rfl, hcl (j * 3 + 0) (by omega), g0]; rfl
      have c1 : wr.cell? ⟨b, off + j * 3 + 1, none⟩ = some (.slice lo' xs[j].ingots.length lc) := by
        rw [hb.cell (p := ⟨b, off + j * 3 + 1, none⟩) hbB, Nat.add_assoc, hcl (j * 3 + 1) (by omega), g1, ← el]; rfl
      have c2 : wr.cell? ⟨b, off + j * 3 + 2, none⟩ = some (.int .i64 (q + 1 + (xs[j].ingots.length : Int))) := by
        rw [hb.cell (p := ⟨b, off + j * 3 + 2, none⟩) hbB, Nat.add_assoc, hcl (j * 3 + 2) (by omega), g2]; rfl
      have hbr : b < wr.heap.size := Nat.lt_of_lt_of_le hbB hb.size
      have HR : Hid (Rd wr.heap.size wr (.slice lo' xs[j].ingots.length lc) 1 xs[j].ingots.length (marksString (q + 1) xs[j].ingots.length)) := Lib.hid (by rw [← el]; exact hkd2.up hb)
      have HB := Lib.hid hb
      clear hcl hsome hb hq hL g0 g1 g2 hkd hkd2 hge el hcs hcn hct
      go_wp2_with fail
      refine wp_region_above (by kernel_rfl) (by kernel_rfl) ?_
      repeat (go_big_quiet_step (((go_at_call 89; exact aboveC (markTextI q _ (by omega) (by omega))))))
      refine wpQuiet_nil ?_
      intro w1 b1
      have HB1 := Lib.hid (HB.out.trans (b1.mono HB.out.size))
      have C1 := (b1.cell (p := ⟨b, off + j * 3 + 1, none⟩) hbr).trans c1
      have C2 := (b1.cell (p := ⟨b, off + j * 3 + 2, none⟩) hbr).trans c2
      have HR1 := Lib.hid (HR.out.up b1)
      have hbr1 := Nat.lt_of_lt_of_le hbr b1.size
      clear c0 c1 c2 b1 HR HB
      go_wp2_with fail
      refine (heldStringS (q + 1) _ _ _ HR1.out hni (by omega) (by omega)).mono ?_; rintro e w2 ⟨rfl, b2⟩
      have HB2 := Lib.hid (bnext HB1.out b2)
      have C2' := (b2.cell (p := ⟨b, off + j * 3 + 2, none⟩) hbr1).trans C2
      clear C1 C2 b2 HB1
      go_wp2_with fail
      go_roundw
      case rel => exact ⟨j + 1, by omega, by go_num, by rw [e2.out] <;> go_num, HB2.out⟩
      case measure => simp [intOf]; omega
    · have hjn : j = xs.length := by omega
      subst hjn
      have e1 : Hid (xs.take xs.length = xs) := (List.take_length : xs.take xs.length = xs)
      have HB := Lib.hid hb; clear hb hsome
      go_wp2
      go_ret
      exact ⟨by rw [e1.out]; rfl, HB.out⟩
end Go.Proofs.Ytnbodmbagendnaa
namespace Go.Proofs.Ytnbodmbagendnaa
open Go.ChangeShapes Go.WideShapes Go.ChangeAt Go.RowKit Go.Deep Go.Joins
set_option linter.unusedVariables false
set_option maxRecDepth 100000
set_option linter.unusedSimpArgs false
theorem nest_sizes {os R : List Melt} (h : os.map Melt.said = R.map Melt.said) (h12 : R.length ≤ 13) (hi : ∀ x ∈ R, 1 ≤ x.ingots.length ∧ x.ingots.length ≤ 16) : os.length = R.length ∧ cntM os = cntM R ∧ (∀ x ∈ os, x.ingots.length ≤ 1048576) ∧ (∀ x ∈ os, 1 ≤ x.ingots.length) ∧ cntM R ≤ 208 := by
  have hc : ∀ (zs : List Melt), (∀ x ∈ zs, x.ingots.length ≤ 16) → cntM zs ≤ 16 * zs.length := by
    intro zs
    induction zs with
    | nil => intro _; simp [cntM]
    | cons z zs ih =>
      intro hz
      have := ih (fun x hx => hz x (List.mem_cons_of_mem _ hx))
      have h1 := hz z (List.mem_cons_self ..)
      rw [cntM_cons, List.length_cons]; omega
  refine ⟨said_len h, cntM_said h, ?_, ?_, ?_⟩
  · exact said_lens h (fun n => n ≤ 1048576) (fun x hx => by have := (hi x hx).2; omega)
  · exact said_lens h (fun n => 1 ≤ n) (fun x hx => (hi x hx).1)
  · have := hc R (fun x hx => (hi x hx).2); omega
theorem nest_bounds {os R : List Melt} (h : os.map Melt.said = R.map Melt.said) (h12 : R.length ≤ 13) (hi : ∀ x ∈ R, 1 ≤ x.ingots.length ∧ x.ingots.length ≤ 16) : os.length ≤ 13 ∧ cntM os ≤ 208 ∧ (∀ x ∈ os, x.ingots.length ≤ 1048576) ∧ ∀ x ∈ os, 1 ≤ x.ingots.length := by
  obtain ⟨h1, h2, h3, h4, h5⟩ := nest_sizes h h12 hi
  exact ⟨by omega, by omega, h3, h4⟩
theorem addM_fine (xs : List Ingot) (ms : List Melt) (x : Melt) : (addM xs ms x).1.length ≤ 12 ∧ ∀ y ∈ (addM xs ms x).1, 1 ≤ y.ingots.length ∧ y.ingots.length ≤ 16 := by
  unfold addM
  split
  case isFalse => exact ⟨by simp, fun y hy => by simp at hy⟩
  case isTrue hV =>
    split
    case isFalse => exact ⟨by simp, fun y hy => by simp at hy⟩
    case isTrue =>
      split
      · exact ⟨by simp, fun y hy => by simp at hy⟩
      · split
        · exact ⟨by simp, fun y hy => by simp at hy⟩
        · split
          · exact ⟨by simp, fun y hy => by simp at hy⟩
          · split
            · exact ⟨by simp, fun y hy => by simp at hy⟩
            · simp only [Bool.and_eq_true] at hV
              obtain ⟨h12, hall⟩ := meltsB_all hV.2.1
              have hp := posM_le ms x.id
              refine ⟨?_, fun y hy => ?_⟩
              · simp only [insM, List.length_append, List.length_cons, List.length_take, List.length_drop]; omega
              · have hb : meltB y = true := by
                  simp only [insM] at hy
                  rcases List.mem_append.1 hy with h | h
                  · exact hall y (List.mem_of_mem_take h)
                  · rcases List.mem_cons.1 h with h | h
                    · rw [h]; exact hV.2.2
                    · exact hall y (List.mem_of_mem_drop h)
                have := meltB_parts hb
                exact ⟨this.2.1, this.2.2.1⟩
theorem addM_said (xs : List Ingot) (ms : List Melt) (x : Melt) (v : Value) : (addM xs ms ⟨x.id, v, x.ingots, x.mass⟩).2 = (addM xs ms x).2 ∧ (addM xs ms ⟨x.id, v, x.ingots, x.mass⟩).1.map Melt.said = (addM xs ms x).1.map Melt.said := by
  have hb : meltB ⟨x.id, v, x.ingots, x.mass⟩ = meltB x := rfl
  have hi : (insM ⟨x.id, v, x.ingots, x.mass⟩ ms).map Melt.said = (insM x ms).map Melt.said := ins_said (os := ms) (ms := ms) (x := x) (y := ⟨x.id, v, x.ingots, x.mass⟩) rfl rfl (posM ms x.id)
  unfold addM
  simp only [hb]
  split
  · split
    · split
      · exact ⟨rfl, rfl⟩
      · split
        · exact ⟨rfl, rfl⟩
        · split
          · exact ⟨rfl, rfl⟩
          · split
            · exact ⟨rfl, rfl⟩
            · exact ⟨rfl, hi⟩
    · exact ⟨rfl, rfl⟩
  · exact ⟨rfl, rfl⟩
theorem spec_AddMelt2 (w : World) (v u : Value) (xs : List Ingot) (ms : List Melt) (x : Melt) (lo : Option Addr) (lc : Nat) (h : Rd w.heap.size w v 5 xs.length (xs.flatMap Ingot.put)) (hn : xs.length ≤ 1048576) (hok : ∀ x ∈ xs, x.ok) (h2 : RdM w.heap.size w u ms) (hn2 : ms.length ≤ 1048576) (hf : ∀ m ∈ ms, m.fine) (hx : Rd w.heap.size w (.slice lo x.ingots.length lc) 1 x.ingots.length (x.ingots.flatMap putStr)) (hxf : x.fine) :
    Calls Try.prog 26 #[v, u, .agg #[.string x.id, .slice lo x.ingots.length lc, .int .i64 x.mass]] w fun e w' => ∃ r os, e = .returned (.tuple #[r, .int .i64 (addM xs ms x).2]) ∧ Nest w.heap.size w'.heap.size w' r os ∧ os.map Melt.said = (addM xs ms x).1.map Melt.said ∧ Below w.heap.size w w' := by
  have q := spec_AddMelt w v u xs ms ⟨x.id, .slice lo x.ingots.length lc, x.ingots, x.mass⟩ lo lc h hn hok h2 hn2 hf rfl hx hxf
  obtain ⟨e1, e2⟩ := addM_said xs ms x (.slice lo x.ingots.length lc)
  rw [e1, e2] at q
  exact q
end Go.Proofs.Ytnbodmbagendnaa
namespace Go.Proofs.Ytnbodmbagendnaa
open Go.ChangeShapes Go.WideShapes Go.ChangeAt Go.RowKit Go.Deep Go.Joins
set_option linter.unusedVariables false
set_option maxRecDepth 100000
set_option linter.unusedSimpArgs false
def marksIngot (k : Int) (n : Nat) : List Value := (List.range n).flatMap fun i => [.string (markT (k + 5 * (i : Nat)).toNat), .int .i64 (k + 5 * (i : Nat) + 1), .int .i64 (k + 5 * (i : Nat) + 1 + 1), .int .i64 (k + 5 * (i : Nat) + 1 + 1 + 1), .int .i64 (k + 5 * (i : Nat) + 1 + 1 + 1 + 1)]
theorem marksIngot_succ (k : Int) (j : Nat) : marksIngot k (j + 1) = marksIngot k j ++ [.string (markT (k + 5 * (j : Nat)).toNat), .int .i64 (k + 5 * (j : Nat) + 1), .int .i64 (k + 5 * (j : Nat) + 1 + 1), .int .i64 (k + 5 * (j : Nat) + 1 + 1 + 1), .int .i64 (k + 5 * (j : Nat) + 1 + 1 + 1 + 1)] ∧ (marksIngot k j).length = j * 5 := marks_succ (s := 5) _ (fun _ => rfl) j
set_option maxHeartbeats 2000000 in
theorem markIngotS (k : Int) (w : World) (lo hi : Nat) (v : Value) (n : Nat) (L : List Value) (h : Held lo hi w 85 5 v n L) (hn : n ≤ 1048576) (h1 : 1 ≤ k) (hk : k ≤ 536870912) :
    Calls Try.prog 34 #[v, .int .i64 k] w fun e w' => e = .returned (.int .i64 (k + 5 * (n : Int))) ∧ Turn lo hi w w' ∧ Held lo hi w' 85 5 v n (marksIngot k n) := by
  obtain ⟨hL, ao, cap, rfl, hcap, hmax, hnil, hsome⟩ := h
  obtain ⟨g, U, hg⟩ : ∃ g U, 0 < n → ao = some ⟨g, 0, none⟩ ∧ lo ≤ g ∧ g < hi ∧ Own w g 85 (L ++ U) := by
    by_cases h0 : 0 < n
    · obtain ⟨g, U, h⟩ := hsome h0; exact ⟨g, U, fun _ => h⟩
    · exact ⟨0, [], fun h => absurd h h0⟩
  have HG := Lib.hid hg; clear hg hsome
  have HN := Lib.hid hnil; clear hnil
  go_enter Try.func34, Try.ntmps34
  go_wp2
  go_loopw [1, 5] (fun q i wr => ∃ (j : Nat), j ≤ n ∧ i = .int .i64 j ∧ q = .int .i64 (k + 5 * (j : Int)) ∧ Turn lo hi w wr ∧ (0 < n → ∃ V, V.length = n * 5 + U.length - j * 5 ∧ Own wr g 85 (marksIngot k j ++ V))) (fun _ i _ => n - (intOf i).toNat)
  case atStart => exact ⟨0, Nat.zero_le _, rfl, by simp, Turn.refl _ _ _, fun h0 => ⟨L ++ U, by simp [hL], (HG.out h0).2.2.2⟩⟩
  case round =>
    obtain ⟨j, hj, rfl, rfl, ht, hO⟩ := hrel
    by_cases hlt : j < n
    · obtain ⟨rfl, hlo, hhi, _⟩ := HG.out (by omega)
      obtain ⟨V, hV, ho⟩ := hO (by omega)
      obtain ⟨t0, t1, t2, t3, t4, V, rfl, hV2⟩ := cons5 hV (by omega)
      obtain ⟨es, hA⟩ := marksIngot_succ k j
      obtain ⟨q, hq, hq1, hq2⟩ : ∃ q : Int, k + 5 * (j : Int) = q ∧ 1 ≤ q ∧ q ≤ 1073741000 := ⟨_, rfl, by omega, by omega⟩
      rw [hq] at es ⊢
      have e2 : Hid (k + 5 * ((j + 1 : Nat) : Int) = q + 5) := (by omega : k + 5 * ((j + 1 : Nat) : Int) = q + 5)
      have ES := Lib.hid es; clear es hq hV HG
      have HV2 := Lib.hid hV2; clear hV2
      have HT := Lib.hid ht; clear ht
      have HO := Lib.hid ho
      clear hO

      have HA := Lib.hid hA; clear ho hA
      go_wp2_with fail
      refine (markTextI q _ (by omega) (by omega)).mono ?_; rintro e w1 ⟨rfl, b1⟩
      have ho := HO.out.below b1 HO.out.lt
      have hA := HA.out
      have d0 : w1.cell? ⟨g, j * 5, none⟩ = some t0 := by rw [ho.cell, List.getElem?_append_right (by omega), hA]; simp
      have f0 := ho.free (j * 5)
      have d1 : w1.cell? ⟨g, j * 5 + 1, none⟩ = some t1 := by rw [ho.cell, List.getElem?_append_right (by omega), hA]; simp
      have f1 := ho.free (j * 5 + 1)
      have d2 : w1.cell? ⟨g, j * 5 + 2, none⟩ = some t2 := by rw [ho.cell, List.getElem?_append_right (by omega), hA]; simp
      have f2 := ho.free (j * 5 + 2)
      have d3 : w1.cell? ⟨g, j * 5 + 2 + 1, none⟩ = some t3 := by rw [show j * 5 + 2 + 1 = j * 5 + 3 from rfl, ho.cell, List.getElem?_append_right (by omega), hA]; simp
      have f3 := ho.free (j * 5 + 2 + 1)
      have d4 : w1.cell? ⟨g, j * 5 + 2 + 2, none⟩ = some t4 := by rw [show j * 5 + 2 + 2 = j * 5 + 4 from rfl, ho.cell, List.getElem?_append_right (by omega), hA]; simp
      have f4 := ho.free (j * 5 + 2 + 2)
      have HB1 := Lib.hid b1; clear b1
      have HO1 := Lib.hid ho; clear ho hA
      have hOo : Hid (Own _ g 85 _) := Lib.hid ((((((HO1.out.set (j * 5) (.string (markT (q).toNat))).set (j * 5 + 1) (.int .i64 (q + 1))).set (j * 5 + 2) (.int .i64 (q + 1 + 1))).set (j * 5 + 2 + 1) (.int .i64 (q + 1 + 1 + 1))).set (j * 5 + 2 + 2) (.int .i64 (q + 1 + 1 + 1 + 1))))
      have hTt : Hid (Turn lo hi w _) := Lib.hid ((Turn.set (Turn.set (Turn.set (Turn.set (Turn.set (HT.out.trans (Turn.of_below HB1.out)) hlo hhi (j * 5) (.string (markT (q).toNat))) hlo hhi (j * 5 + 1) (.int .i64 (q + 1))) hlo hhi (j * 5 + 2) (.int .i64 (q + 1 + 1))) hlo hhi (j * 5 + 2 + 1) (.int .i64 (q + 1 + 1 + 1))) hlo hhi (j * 5 + 2 + 2) (.int .i64 (q + 1 + 1 + 1 + 1))))
      rw [set5 _ _ t0 t1 t2 t3 t4 (.string (markT (q).toNat)) (.int .i64 (q + 1)) (.int .i64 (q + 1 + 1)) (.int .i64 (q + 1 + 1 + 1)) (.int .i64 (q + 1 + 1 + 1 + 1)) _ HA.out, ← ES.out] at hOo
      clear HO HT
      go_wp2_with fail
      go_roundw
      case rel => exact ⟨j + 1, by omega, by go_num, by rw [e2.out] <;> go_num, hTt.out, fun _ => ⟨V, by have := HV2.out; omega, hOo.out⟩⟩
      case measure => simp [intOf]; omega
    · have hjn : j = n := by omega
      subst hjn
      have hlen := (marksIngot_succ k j).2
      have HT := Lib.hid ht; clear ht
      have HO := Lib.hid hO; clear hO
      go_wp2
      go_ret
      refine ⟨rfl, HT.out, hlen, ao, cap, rfl, hcap, hmax, HN.out, fun h0 => ?_⟩
      obtain ⟨e, hlo, hhi, _⟩ := HG.out h0
      obtain ⟨V, _, h⟩ := HO.out h0
      exact ⟨g, V, e, hlo, hhi, h⟩

theorem marksIngot_get (k : Int) (n j : Nat) (h : j < n) (x : Nat) (hx : x < 5) : (marksIngot k n)[j * 5 + x]? = ([.string (markT (k + 5 * (j : Nat)).toNat), .int .i64 (k + 5 * (j : Nat) + 1), .int .i64 (k + 5 * (j : Nat) + 1 + 1), .int .i64 (k + 5 * (j : Nat) + 1 + 1 + 1), .int .i64 (k + 5 * (j : Nat) + 1 + 1 + 1 + 1)] : List Value)[x]? := by
  unfold marksIngot
  rw [flat_get (s := 5) (List.range n) (fun _ _ => rfl) hx j]
  simp [List.getElem?_range h]
end Go.Proofs.Ytnbodmbagendnaa
namespace Go.Proofs.Ytnbodmbagendnaa
open Go.ChangeShapes Go.WideShapes Go.ChangeAt Go.RowKit Go.Deep Go.Joins
set_option linter.unusedVariables false
set_option maxRecDepth 100000
set_option linter.unusedSimpArgs false
theorem markMelt1 (k : Int) (w : World) (lo hi : Nat) (id : ByteArray) (v : Value) (m : Int) (n : Nat) (L : List Value) (h : Held lo hi w 9 1 v n L) (hhi : hi ≤ w.heap.size) (hn : n ≤ 1048576) (h1 : 1 ≤ k) (hk : k ≤ 536870912) :
    Calls Try.prog 36 #[.agg #[.string id, v, .int .i64 m], .int .i64 k] w fun e w' => e = .returned (.int .i64 (k + 1 * (n : Int))) ∧ Turn lo hi w w' ∧ Held lo hi w' 9 1 v n (marksString k n) := by
  obtain ⟨ao, cap, rfl⟩ := h.form
  have HB : Hid (Below w.heap.size w (w.alloc (.cells #[.string id, .slice ao n cap, .int .i64 m] 63))) := Lib.hid ((Below.refl _ _).alloc (Nat.le_refl _) _)
  have H := Lib.hid (h.below HB.out)
  clear h
  obtain ⟨q, hq⟩ : ∃ q : Int, k + 1 * (n : Int) = q := ⟨_, rfl⟩
  rw [hq]
  have HQ := Lib.hid hq
  clear hq
  go_enter Try.func36, Try.ntmps36
  go_wp2_with fail
  refine (toM (markStringS k _ lo hi _ n L H.out hn h1 hk) HQ.out).mono ?_; rintro e w1 ⟨rfl, t1, o1⟩
  have T1 := Lib.hid ((Turn.of_below (lo := lo) (hi := hi) HB.out).trans t1)
  have O1 := Lib.hid o1
  clear t1 o1 HB H
  go_wp2_with fail
  go_ret
  exact ⟨rfl, T1.out, O1.out⟩
end Go.Proofs.Ytnbodmbagendnaa
