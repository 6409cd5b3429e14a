/- Contracts and plain facts, joined: WarbL. -/
import Derived.Test.YtockglfoeagahaaGreatDoorRows
import Derived.Test.YtockglfoeagahaaGreatDoorZFnWarbleK
import Derived.Test.YtockglfoeagahaaGreatDoorZFnWarbleU
import Derived.Test.YtockglfoeagahaaGreatDoorZFnWarbleV
import Derived.Test.YtockglfoeagahaaGreatDoorZFnWarbleW
import Derived.Test.YtockglfoeagahaaGreatDoorZFnWarbleZG
namespace Go.Proofs.YtockglfoeagahaaGreatDoor
open Go.ChangeShapes Go.WideShapes Go.ChangeAt Go.RowKit Go.Deep Go.Joins
set_option linter.unusedVariables false
set_option maxRecDepth 100000
set_option linter.unusedSimpArgs false
theorem root_ex : ∀ n : Nat, ∃ r, IsRoot (n : Int) r
  | 0 => ⟨0, by omega, by omega, by omega⟩
  | n + 1 => by
    obtain ⟨r, h1, h2, h3⟩ := root_ex n
    by_cases h : ((n + 1 : Nat) : Int) < (r + 1) * (r + 1)
    · exact ⟨r, h1, by push_cast; omega, h⟩
    · have e : (r + 1 + 1) * (r + 1 + 1) = (r + 1) * (r + 1) + 2 * r + 3 := by grind
      exact ⟨r + 1, by omega, by omega, by push_cast at *; omega⟩
theorem rootS_is {n : Int} (h : 0 ≤ n) : IsRoot n (rootS n) := by
  obtain ⟨r, hr⟩ := root_ex n.toNat
  rw [Int.toNat_of_nonneg h] at hr
  rw [rootS_eq hr]
  exact hr
theorem split_map (n d : Int) {xs : List Spot} (h : ∀ x ∈ xs, spotB x = true) (hl : xs.length ≤ 16) : splitN n (xs.map (tA d)) ≤ splitN n xs + 40 := by
  obtain ⟨w1, w2⟩ := wsum_turn n d xs h
  obtain ⟨hcs, h1, h2⟩ := rot_bd (n * d)
  have hp := divR_near (wsum cosS n xs)
  have hq := divR_near (wsum sineS n xs)
  have hP := divR_near (wsum cosS n (xs.map (tA d)))
  have hQ := divR_near (wsum sineS n (xs.map (tA d)))
  have b1 := wsum_bd cosS cosS_bd n xs h
  have b2 := wsum_bd sineS sineS_bd n xs h
  have c1 := sq_abs (divR_thou (a := wsum cosS n xs) (by omega))
  have c2 := sq_abs (divR_thou (a := wsum sineS n xs) (by omega))
  unfold splitN
  have r0 := rootS_is (n := divR (wsum cosS n xs) 1000 * divR (wsum cosS n xs) 1000 + divR (wsum sineS n xs) 1000 * divR (wsum sineS n xs) 1000) (by omega)
  have r1 := rootS_is (n := divR (wsum cosS n (xs.map (tA d))) 1000 * divR (wsum cosS n (xs.map (tA d))) 1000 + divR (wsum sineS n (xs.map (tA d))) 1000 * divR (wsum sineS n (xs.map (tA d))) 1000) (Int.add_nonneg (sq_nn _) (sq_nn _))
  have hb := low_bd r0.1 r0.2.1 (by omega)
  refine len_rot r0 r1 (by omega) hcs (near_rot hp hq h1 h2 hP (by omega)) ?_
  have k := near_rot (c := cT (n * d)) (s := -sT (n * d)) hq hp (by omega) (by omega) hQ (by rw [Int.mul_neg]; omega)
  rw [Int.mul_neg, Int.sub_neg] at k
  exact k
theorem tA_spot {x : Spot} (d : Int) (h : spotB x = true) : spotB (tA d x) = true :=
  spotB_mk (x := tA d x) (by show inB ((x.angle + d % 360) % 360) 0 359 = true; unfold inB; simp only [Bool.and_eq_true, decide_eq_true_eq]; omega) (spotB_inB h).2
theorem turn_goodW {xs : List Spot} (d : Int) (h : validSpotS xs = true) : turnC xs = 0 ∧ turnS xs d = turnF d xs xs.length := by
  unfold turnC turnS
  rw [h]
  exact ⟨rfl, rfl⟩
theorem turn_facts {xs : List Spot} (d : Int) (hv : validSpotS xs = true) : turnC xs = 0 ∧ SortedA (turnS xs d) ∧ (turnS xs d).Perm (xs.map (tA d)) ∧ validSpotS (turnS xs d) = true := by
  obtain ⟨e1, e2⟩ := turn_goodW d hv
  obtain ⟨h1, h2⟩ := turnF_is (d := d) hv xs.length (Nat.le_refl _)
  rw [List.take_length] at h2
  obtain ⟨h16, hb⟩ := validSpotS_true hv
  rw [e2]
  refine ⟨e1, h1, h2, validSpotS_mk (by rw [h2.length_eq, List.length_map]; exact h16) h1 fun x hx => ?_⟩
  obtain ⟨y, hy, rfl⟩ := List.mem_map.1 (h2.mem_iff.1 hx)
  exact tA_spot d (hb y hy)
theorem tA_back (d : Int) {x : Spot} (h : spotB x = true) : tA (-d) (tA d x) = x := by
  have := (spotB_nums h).1
  cases x with
  | mk a w =>
    have h2 : 0 ≤ a ∧ a ≤ 359 := this
    show Spot.mk (((a + d % 360) % 360 + -d % 360) % 360) w = ⟨a, w⟩
    rw [show ((a + d % 360) % 360 + -d % 360) % 360 = a by omega]
theorem turn_back {xs : List Spot} (d : Int) (hv : validSpotS xs = true) : turnS (turnS xs d) (-d) = xs := by
  obtain ⟨_, h1, h2, h3⟩ := turn_facts d hv
  obtain ⟨_, k1, k2, k3⟩ := turn_facts (-d) h3
  refine sorted_unique k1 (validSpotS_sorted hv) (k2.trans ((h2.map _).trans ?_))
  have e : (xs.map (tA d)).map (tA (-d)) = xs := by
    rw [List.map_map]
    have q : xs.map (tA (-d) ∘ tA d) = xs.map id := List.map_congr_left fun x hx => tA_back d ((validSpotS_true hv).2 x hx)
    rw [q, List.map_id]
  rw [e]
/-- a turn keeps the split, nearly -/
theorem split_turn {xs : List Spot} (n d : Int) (hv : validSpotS xs = true) : splitN n (turnS xs d) - splitN n xs ≤ 40 ∧ splitN n xs - splitN n (turnS xs d) ≤ 40 := by
  have key : ∀ (ys : List Spot) (e : Int), validSpotS ys = true → splitN n (turnS ys e) ≤ splitN n ys + 40 := fun ys e hy => by
    obtain ⟨_, h1, h2, h3⟩ := turn_facts e hy
    obtain ⟨h16, hb⟩ := validSpotS_true hy
    have k := split_map n e hb h16
    unfold splitN at k ⊢
    rw [wsum_perm _ _ h2, wsum_perm _ _ h2]
    exact k
  have a := key xs d hv
  have b := key (turnS xs d) (-d) (turn_facts d hv).2.2.2
  rw [turn_back d hv] at b
  omega
theorem same_refl (xs : List Spot) : sameSpotsS xs xs = true := by
  unfold sameSpotsS
  rw [Bool.and_eq_true]
  refine ⟨by simp, allK_mk fun k hk => ?_⟩
  rw [atB_eq hk hk]
  exact spotEq_iff.2 rfl
theorem best_min {xs : List Spot} {n m : Int} : ∀ (D a : Nat), a < D → (addL ⟨a, m⟩ xs).2 = 0 → ¬ (bestA xs n m D).1 < 0 ∧ (bestA xs n m D).2 ≤ splitN n (addL ⟨a, m⟩ xs).1
  | 0, _, h, _ => by omega
  | D + 1, a, ha, h0 => by
    by_cases hD : (addL ⟨D, m⟩ xs).2 = 0
    · by_cases h2 : (bestA xs n m D).1 < 0 ∨ splitN n (addL ⟨D, m⟩ xs).1 < (bestA xs n m D).2
      · rw [bestA_take hD h2]
        refine ⟨by show ¬ (D : Int) < 0; omega, ?_⟩
        show splitN n (addL ⟨D, m⟩ xs).1 ≤ _
        rcases Nat.lt_or_eq_of_le (Nat.le_of_lt_succ ha) with q | q
        · have ih := best_min (n := n) D a q h0
          rcases h2 with h2 | h2
          · exact absurd h2 ih.1
          · omega
        · subst q; exact Int.le_refl _
      · rw [bestA_keep hD h2]
        rcases Nat.lt_or_eq_of_le (Nat.le_of_lt_succ ha) with q | q
        · exact best_min D a q h0
        · subst q; omega
    · rw [bestA_bad hD]
      rcases Nat.lt_or_eq_of_le (Nat.le_of_lt_succ ha) with q | q
      · exact best_min D a q h0
      · subst q; exact absurd h0 hD
theorem quiet_le {n m lim : Int} (hm : weightB m = true) : ∀ (q : Nat) (xs : List Spot) (nw : Int), validSpotS xs = true → nw = splitN n xs → splitN n (quietF n m lim q xs nw) ≤ nw
  | 0, xs, nw, _, e => by rw [e]; exact Int.le_refl _
  | q + 1, xs, nw, hv, e => by
    by_cases h2 : lim < nw
    · by_cases h : (bestA xs n m 360).1 < 0 ∨ nw ≤ (bestA xs n m 360).2
      · rw [quietF_break h, ← e]; exact Int.le_refl _
      · rw [quietF_go h2 h]
        obtain ⟨p1, p2, p3⟩ := bestA_pos (n := n) hv hm (fun z => h (.inl z))
        have ih := quiet_le (lim := lim) hm q _ _ p1 p2
        have h3 : ¬ nw ≤ (bestA xs n m 360).2 := fun z => h (.inr z)
        omega
    · rw [quietF_stop h2, ← e]; exact Int.le_refl _
/-- what QuietSpots gives -/
theorem quiet_facts {xs : List Spot} {n m lim : Int} (h : quietC xs n m lim = 0) : validSpotS xs = true ∧ inB n 2 6 = true ∧ validSpotS (quietS xs n m lim) = true ∧ splitN n (quietS xs n m lim) ≤ splitN n xs ∧ (lim < splitN n xs ∨ quietS xs n m lim = xs) := by
  by_cases hc : codeW xs n = 0
  · obtain ⟨hv, hn⟩ := codeW_zero hc
    cases hm : weightB m && inB lim 0 100000000
    · rw [(quiet_range hc hm).1] at h; cases h
    · rw [Bool.and_eq_true] at hm
      rw [(quiet_good hc hm.1 hm.2).2]
      refine ⟨hv, hn, quietF_valid hm.1 _ _ _ hv, quiet_le hm.1 _ _ _ hv rfl, ?_⟩
      by_cases q : lim < splitN n xs
      · exact .inl q
      · exact .inr (quietF_stop q)
  · rw [(quiet_code hc).1] at h; exact absurd h hc
/-- what BestSpot gives -/
theorem best_facts {xs : List Spot} {n m : Int} (h : bestC xs n m = 0) : validSpotS xs = true ∧ inB n 2 6 = true ∧ weightB m = true ∧ (0 ≤ (bestS xs n m).1 ∧ (bestS xs n m).1 ≤ 359) ∧
    addC xs ⟨(bestS xs n m).1, m⟩ = 0 ∧ validSpotS (addR xs ⟨(bestS xs n m).1, m⟩) = true ∧ (bestS xs n m).2 = splitN n (addR xs ⟨(bestS xs n m).1, m⟩) ∧
    ∀ a : Int, 0 ≤ a ∧ a ≤ 359 → addC xs ⟨a, m⟩ = 0 → validSpotS (addR xs ⟨a, m⟩) = true ∧ (bestS xs n m).2 ≤ splitN n (addR xs ⟨a, m⟩) := by
  by_cases hc : codeW xs n = 0
  · obtain ⟨hv, hn⟩ := codeW_zero hc
    cases hm : weightB m
    · rw [(best_weight hc hm).1] at h; cases h
    · by_cases hb : (bestA xs n m 360).1 < 0
      · rw [(best_full hc hm hb).1] at h; cases h
      · rw [(best_good hc hm hb).2]
        have hsp : ∀ a : Int, 0 ≤ a ∧ a ≤ 359 → spotB ⟨a, m⟩ = true := fun a ha => spotB_mk (x := ⟨a, m⟩) (by show inB a 0 359 = true; unfold inB; simp only [Bool.and_eq_true, decide_eq_true_eq]; omega) hm
        rcases bestA_is (xs := xs) (n := n) (m := m) 360 with e | ⟨a, h1, h2, h3⟩
        · rw [e] at hb; exact absurd (by show (-1 : Int) < 0; omega) hb
        · have g := add_good hv (hsp a (by omega))
          rw [h3]
          show _ ∧ _ ∧ _ ∧ (0 ≤ (a : Int) ∧ (a : Int) ≤ 359) ∧ addC xs ⟨(a : Int), m⟩ = 0 ∧ validSpotS (addR xs ⟨(a : Int), m⟩) = true ∧ splitN n (addL ⟨a, m⟩ xs).1 = splitN n (addR xs ⟨(a : Int), m⟩) ∧ ∀ b : Int, 0 ≤ b ∧ b ≤ 359 → addC xs ⟨b, m⟩ = 0 → validSpotS (addR xs ⟨b, m⟩) = true ∧ splitN n (addL ⟨a, m⟩ xs).1 ≤ splitN n (addR xs ⟨b, m⟩)
          refine ⟨hv, hn, rfl, by omega, by rw [g.1]; exact h2, by rw [g.2]; exact addL_valid hv (hsp a (by omega)) h2, by rw [g.2], fun b hb2 hb0 => ?_⟩
          have gb := add_good hv (hsp b hb2)
          rw [gb.1] at hb0
          rw [gb.2]
          refine ⟨addL_valid hv (hsp b hb2) hb0, ?_⟩
          obtain ⟨c, hc2, rfl⟩ : ∃ c : Nat, c < 360 ∧ b = c := ⟨b.toNat, by omega, by omega⟩
          have k := (best_min (xs := xs) (n := n) (m := m) 360 c hc2 hb0).2
          rw [h3] at k
          exact k
  · unfold bestC at h
    rw [if_pos hc] at h
    exact absurd h hc
/-- the text of spots is read back -/
theorem spots_back {xs : List Spot} (hv : validSpotS xs = true) : readR (spotsT xs) = some xs := by
  obtain ⟨h16, hb⟩ := validSpotS_parts hv
  by_cases h0 : xs.length = 0
  · have e : spotsT xs = ⟨#[45]⟩ := by unfold spotsT; rw [if_pos hv, if_pos h0]
    rw [e, readR_dash, List.eq_nil_of_length_eq_zero h0]
  · have e : spotsT xs = joinT 32 (xs.map spotT) := by unfold spotsT; rw [if_pos hv, if_neg h0]
    have hne : xs.map spotT ≠ [] := fun q => h0 (by simpa using congrArg List.length q)
    have hp := parts_joinT 32 (xs.map spotT) hne (fun x hx => by
      obtain ⟨y, _, rfl⟩ := List.mem_map.1 hx
      exact spotT_free y)
    rw [e]
    have hd : joinT 32 (xs.map spotT) ≠ ⟨#[45]⟩ := fun q => by
      rw [q] at hp
      have hp2 : partsS 32 ⟨#[45]⟩ = [⟨#[45]⟩] := by decide +kernel
      rw [hp2] at hp
      cases xs with
      | nil => exact h0 rfl
      | cons x r =>
        have h1 : spotT x = ⟨#[45]⟩ := by
          rw [List.map_cons] at hp
          exact (List.cons.inj hp).1.symm
        have h2 : (58 : UInt8) ∈ (spotT x).data.toList := by
          unfold spotT
          rw [ByteArray.data_append, ByteArray.data_append]
          simp
        rw [h1] at h2
        simp at h2
    rw [readR_word hd, hp, readW_texts hb]
    show (if validSpotS xs = true then some xs else none) = _
    rw [if_pos hv]
theorem spots_size {xs : List Spot} (hv : validSpotS xs = true) : (spotsT xs).size ≤ 1048576 := by
  obtain ⟨h16, hb⟩ := validSpotS_parts hv
  by_cases h0 : xs.length = 0
  · have e : spotsT xs = ⟨#[45]⟩ := by unfold spotsT; rw [if_pos hv, if_pos h0]
    rw [e]; decide
  · have e : spotsT xs = joinT 32 (xs.map spotT) := by unfold spotsT; rw [if_pos hv, if_neg h0]
    rw [e]
    have h4 := joinT_size 32 43 (xs.map spotT) (fun s hs => by
      obtain ⟨y, hy, rfl⟩ := List.mem_map.1 hs
      exact spotT_size y (hb y hy))
    rw [List.length_map] at h4
    omega
end Go.Proofs.YtockglfoeagahaaGreatDoor
