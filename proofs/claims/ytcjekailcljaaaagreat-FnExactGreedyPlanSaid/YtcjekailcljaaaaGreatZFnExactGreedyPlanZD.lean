/- Contracts and plain facts, joined: GrdL. -/
import Derived.Test.YtcjekailcljaaaaGreatRows
import Derived.Test.YtcjekailcljaaaaGreatZFnExactGreedyPlanY
import Derived.Test.YtcjekailcljaaaaGreatZFnExactGreedyPlanZB
import Derived.Test.YtcjekailcljaaaaGreatZFnExactGreedyPlanZC
namespace Go.Proofs.YtcjekailcljaaaaGreat
open Go.ChangeShapes Go.WideShapes Go.ChangeAt Go.RowKit Go.Deep Go.Joins
set_option linter.unusedVariables false
set_option maxRecDepth 100000
set_option linter.unusedSimpArgs false
/-- a profile after steps of zones -/
def turnX (x : Profile) (zs st : List Int) : Profile := ⟨x.name, .slice none 0 0, turnedS zs st x.rings⟩
theorem turnedS_len (zs st : List Int) (rs : List Ring) : (turnedS zs st rs).length = rs.length := midT_len ..
theorem turnedS_at (zs st : List Int) (rs : List Ring) (i : Nat) (h : i < (turnedS zs st rs).length) (hi : i < rs.length) : (turnedS zs st rs)[i] = turnR st (zoneOf zs i) rs[i] := by
  show (midT zs st rs rs.length)[i] = _
  rw [midT_get zs st rs rs.length i h hi, if_pos hi]
theorem turnR_congr {st st' : List Int} {z : Nat} (h : st.getD z 0 = st'.getD z 0) (r : Ring) : turnR st z r = turnR st' z r := by unfold turnR; rw [h]
theorem turnedS_congr {zs st st' : List Int} (rs : List Ring) (h1 : 1 ≤ zs.length) (h : ∀ z, z < zs.length → st.getD z 0 = st'.getD z 0) : turnedS zs st rs = turnedS zs st' rs := by
  refine List.ext_getElem (by rw [turnedS_len, turnedS_len]) fun i h2 h3 => ?_
  have hi : i < rs.length := by rw [turnedS_len] at h2; exact h2
  rw [turnedS_at zs st rs i h2 hi, turnedS_at zs st' rs i h3 hi]
  exact turnR_congr (h _ (zoneOf_lt _ h1)) _
/-- n steps in zone z -/
def oneZ (k z : Nat) (n : Int) : List Int := (List.replicate k 0).set z n
theorem oneZ_len (k z : Nat) (n : Int) : (oneZ k z n).length = k := by simp [oneZ]
theorem oneZ_at {k z : Nat} {n : Int} {j : Nat} (hz : z < k) (hj : j < k) : (oneZ k z n).getD j 0 = if j = z then n else 0 := by
  rw [List.getD_eq_getElem?_getD, List.getElem?_eq_getElem (by rw [oneZ_len]; exact hj)]
  simp only [oneZ, List.getElem_set, List.getElem_replicate, Option.getD_some]
  by_cases h : j = z
  · rw [if_pos h, if_pos h.symm]
  · rw [if_neg h, if_neg (fun q => h q.symm)]
theorem oneZ_set {z : Nat} (n m : Int) (k : Nat) : (oneZ k z n).set z m = oneZ k z m := by simp [oneZ]
theorem one_congr {zs : List Int} {k k' z : Nat} (n : Int) (rs : List Ring) (h1 : 1 ≤ zs.length) (hz : z < zs.length) (hk : zs.length ≤ k) (hk' : zs.length ≤ k') : turnedS zs (oneZ k z n) rs = turnedS zs (oneZ k' z n) rs :=
  turnedS_congr rs h1 fun j hj => by rw [oneZ_at (by omega) (by omega), oneZ_at (by omega) (by omega)]
/-- how far p holds behind n -/
def mostF (p : Nat → Bool) : Nat → Nat → Nat
  | 0, n => n
  | f + 1, n => if p (n + 1) = true then mostF p f (n + 1) else n
theorem mostF_bd (p : Nat → Bool) : ∀ f n, n ≤ mostF p f n ∧ mostF p f n ≤ n + f
  | 0, n => ⟨Nat.le_refl _, Nat.le_refl _⟩
  | f + 1, n => by
    have ih := mostF_bd p f (n + 1)
    show n ≤ (if p (n + 1) = true then mostF p f (n + 1) else n) ∧ (if p (n + 1) = true then mostF p f (n + 1) else n) ≤ n + (f + 1)
    split <;> omega
theorem mostF_all (p : Nat → Bool) : ∀ f n j, n < j → j ≤ mostF p f n → p j = true
  | 0, n, j, h1, h2 => by have h3 : j ≤ n := h2; omega
  | f + 1, n, j, h1, h2 => by
    have h3 : j ≤ (if p (n + 1) = true then mostF p f (n + 1) else n) := h2
    split at h3
    · rename_i hp
      by_cases hj : j = n + 1
      · rw [hj]; exact hp
      · exact mostF_all p f (n + 1) j (by omega) h3
    · omega
def validN (x : Profile) (zs : List Int) (z n : Nat) : Bool := profB (turnX x zs (oneZ zs.length z n))
def mostZ (x : Profile) (zs : List Int) (z : Nat) : Nat := mostF (validN x zs z) 20 0
theorem mostZ_le (x : Profile) (zs : List Int) (z : Nat) : mostZ x zs z ≤ 20 := by have := (mostF_bd (validN x zs z) 20 0).2; unfold mostZ; omega
/-- the rings of a valid profile -/
theorem prof_at {x : Profile} (h : profB x = true) {i : Nat} (hi : i < x.rings.length) : ringB x.rings[i] = true ∧ (0 < i → joinB x.rings[i - 1] x.rings[i] = true) := by
  simp only [profB, Bool.and_eq_true, decide_eq_true_eq] at h
  exact stepB_parts hi (allK_true h.2.2.2.1 i hi)
theorem turn_high (zs st : List Int) (rs : List Ring) : heightS (turnedS zs st rs) = heightS rs := by
  unfold heightS
  congr 1
  refine List.ext_getElem (by rw [List.length_map, List.length_map, turnedS_len]) fun i h1 h2 => ?_
  rw [List.getElem_map, List.getElem_map]
  have hi : i < rs.length := by rw [List.length_map] at h2; exact h2
  rw [turnedS_at zs st rs i _ hi]
  rfl
theorem turn_zero {x : Profile} {zs st : List Int} (h1 : 1 ≤ zs.length) (h : ∀ z, z < zs.length → st.getD z 0 = 0) : turnedS zs st x.rings = x.rings := by
  refine List.ext_getElem (turnedS_len ..) fun i h2 h3 => ?_
  rw [turnedS_at zs st x.rings i h2 h3]
  unfold turnR
  rw [h _ (zoneOf_lt _ h1)]
  simp
theorem one_valid {x : Profile} {zs : List Int} (hx : profB x = true) (h1 : 1 ≤ zs.length) {z n : Nat} (hz : z < zs.length) (hn : n ≤ mostZ x zs z) : profB (turnX x zs (oneZ zs.length z n)) = true := by
  by_cases h0 : n = 0
  · subst h0
    have e : turnedS zs (oneZ zs.length z ((0 : Nat) : Int)) x.rings = x.rings := turn_zero h1 fun j hj => by
      rw [oneZ_at hz hj]; split <;> rfl
    unfold turnX
    rw [e]
    exact hx
  · exact mostF_all (validN x zs z) 20 0 n (by omega) hn
theorem turn_valid {x : Profile} {zs st : List Int} (hx : profB x = true) (h1 : 1 ≤ zs.length) (hs : ∀ z, z < zs.length → 0 ≤ st.getD z 0 ∧ st.getD z 0 ≤ mostZ x zs z) : profB (turnX x zs st) = true := by
  have key : ∀ i (hi : i < x.rings.length), ∃ n : Nat, st.getD (zoneOf zs i) 0 = n ∧ profB (turnX x zs (oneZ zs.length (zoneOf zs i) n)) = true ∧ (oneZ zs.length (zoneOf zs i) n).getD (zoneOf zs i) 0 = n := fun i hi => by
    have hz := zoneOf_lt (zs := zs) (i : Int) h1
    obtain ⟨a, b⟩ := hs _ hz
    refine ⟨(st.getD (zoneOf zs i) 0).toNat, by omega, one_valid hx h1 hz (by omega), ?_⟩
    rw [oneZ_at hz hz, if_pos rfl]
  have h := hx
  simp only [profB, Bool.and_eq_true, decide_eq_true_eq] at h
  obtain ⟨n1, n2, n3, n4, n5⟩ := h
  simp only [profB, Bool.and_eq_true, decide_eq_true_eq]
  have hl : (turnX x zs st).rings.length = x.rings.length := turnedS_len ..
  refine ⟨n1, by omega, by omega, ?_, by show heightS (turnedS zs st x.rings) ≤ 300000; rw [turn_high]; exact n5⟩
  refine allK_intro fun i hi => ?_
  have hi2 : i < x.rings.length := by omega
  -- ring i and its own zone alone
  have one : ∀ j (hj : j < x.rings.length) (hj2 : j < (turnX x zs st).rings.length), ∃ y : Profile, profB y = true ∧ ∃ hl : y.rings.length = x.rings.length, (turnX x zs st).rings[j] = y.rings[j] ∧ ∀ k (hk : k < x.rings.length), (y.rings[k]'(by omega)).outer = x.rings[k].outer := fun j hj hj2 => by
    obtain ⟨n, e1, e2, e3⟩ := key j hj
    refine ⟨_, e2, turnedS_len .., ?_, fun k hk => ?_⟩
    · show (turnedS zs st x.rings)[j]'(by rw [turnedS_len]; exact hj) = (turnedS zs (oneZ zs.length (zoneOf zs j) n) x.rings)[j]'(by rw [turnedS_len]; exact hj)
      rw [turnedS_at zs st x.rings j _ hj, turnedS_at zs _ x.rings j _ hj]
      exact turnR_congr (by rw [e1, e3]) _
    · show ((turnedS zs (oneZ zs.length (zoneOf zs j) n) x.rings)[k]'(by rw [turnedS_len]; exact hk)).outer = _
      rw [turnedS_at zs _ x.rings k _ hk]
      rfl
  have outer : ∀ j (hj : j < x.rings.length) (hj2 : j < (turnX x zs st).rings.length), ((turnX x zs st).rings[j]).outer = x.rings[j].outer := fun j hj hj2 => by
    show ((turnedS zs st x.rings)[j]'(by rw [turnedS_len]; exact hj)).outer = _
    rw [turnedS_at zs st x.rings j _ hj]; rfl
  obtain ⟨y, y1, y2, y3, y4⟩ := one i hi2 hi
  have ri := prof_at y1 (i := i) (by omega)
  have hr : ringB (turnX x zs st).rings[i] = true := by rw [y3]; exact ri.1
  by_cases hp : 0 < i
  · refine stepB_yes hi hp hr ?_
    obtain ⟨u, u1, u2, u3, u4⟩ := one (i - 1) (by omega) (by omega)
    have rj := (prof_at u1 (i := i) (by omega)).2 hp
    have r2 := ri.2 hp
    unfold joinB at rj r2 ⊢
    simp only [Bool.and_eq_true, decide_eq_true_eq] at rj r2 ⊢
    rw [u4 i hi2] at rj
    rw [y4 (i - 1) (by omega)] at r2
    rw [outer i hi2 hi, outer (i - 1) (by omega) (by omega), u3, y3]
    exact ⟨rj.1, r2.2⟩
  · exact stepB_k0 hi (by omega) hr

/-- the greatest absolute value -/
def absZ (d : Int) : Int := if d < 0 then -d else d
def grtZ (L : List Int) : Int := L.foldl (fun a d => max a (absZ d)) 0
theorem grtZ_succ {L : List Int} {k : Nat} (h : k < L.length) : grtZ (L.take (k + 1)) = max (grtZ (L.take k)) (absZ L[k]) := by
  unfold grtZ
  rw [List.take_succ_eq_append_getElem h, List.foldl_append]
  rfl
theorem grtF (a : Int) : ∀ (L : List Int), a ≤ L.foldl (fun a d => max a (absZ d)) a ∧ (∀ x ∈ L, absZ x ≤ L.foldl (fun a d => max a (absZ d)) a) ∧ (L.foldl (fun a d => max a (absZ d)) a = a ∨ ∃ x ∈ L, L.foldl (fun a d => max a (absZ d)) a = absZ x) := by
  intro L
  induction L generalizing a with
  | nil => exact ⟨Int.le_refl _, (fun y hy => by cases hy), .inl rfl⟩
  | cons y ys ih =>
    obtain ⟨i1, i2, i3⟩ := ih (max a (absZ y))
    rw [List.foldl_cons]
    refine ⟨by omega, fun x hx => ?_, ?_⟩
    · rcases List.mem_cons.1 hx with rfl | hx
      · omega
      · exact i2 x hx
    · rcases i3 with e | ⟨x, hx, e⟩
      · by_cases hm : absZ y ≤ a
        · exact .inl (by rw [e]; omega)
        · exact .inr ⟨y, List.mem_cons_self .., by rw [e]; omega⟩
      · exact .inr ⟨x, List.mem_cons_of_mem _ hx, e⟩
theorem absZ_nn (d : Int) : 0 ≤ absZ d := by unfold absZ; split <;> omega
theorem grtZ_is {L : List Int} {a : Nat} (ha : a < L.length) (h : ∀ j (hj : j < L.length), absZ L[j] ≤ absZ L[a]) : grtZ L = absZ L[a] := by
  obtain ⟨i1, i2, i3⟩ := grtF 0 L
  have e1 := i2 L[a] (List.getElem_mem ha)
  unfold grtZ
  rcases i3 with e | ⟨x, hx, e⟩
  · have := absZ_nn L[a]; omega
  · obtain ⟨j, hj, rfl⟩ := List.mem_iff_getElem.1 hx
    have := h j hj; omega
theorem grtZ_bd {L : List Int} {B : Int} (hB : 0 ≤ B) (h : ∀ x ∈ L, -B ≤ x ∧ x ≤ B) : 0 ≤ grtZ L ∧ grtZ L ≤ B := by
  obtain ⟨i1, i2, i3⟩ := grtF 0 L
  refine ⟨i1, ?_⟩
  unfold grtZ
  rcases i3 with e | ⟨x, hx, e⟩
  · omega
  · rw [e]; have := h x hx; unfold absZ; split <;> omega
theorem devZ_bd {W R : List Int} (hw : ∀ z ∈ W, 10000 ≤ z ∧ z ≤ 20000000) (hr : ∀ z ∈ R, 10000 ≤ z ∧ z ≤ 20000000) : ∀ x ∈ devZ W R, -312000 ≤ x ∧ x ≤ 312000 := fun x hx => by
  obtain ⟨i, hi, rfl⟩ := List.mem_iff_getElem.1 hx
  unfold devZ at hi ⊢
  rw [List.getElem_zipWith]
  exact centI_bd _ _ (hw _ (List.getElem_mem ..)) (hr _ (List.getElem_mem ..))
/-- the greatest deviation after steps, or -1 -/
def worstZ (g : GoalX) (m : Mdl) (x : Profile) (st : List Int) : Int :=
  if sndL (rawZ m (turnedS m.zones st x.rings)) = true then grtZ (devZ (goalL g) (rawZ m (turnedS m.zones st x.rings))) else -1
theorem worstZ_bd {g : GoalX} (hg : goalB g = true) (m : Mdl) (x : Profile) (st : List Int) : -1 ≤ worstZ g m x st ∧ worstZ g m x st ≤ 312000 := by
  unfold worstZ
  cases h : sndL (rawZ m (turnedS m.zones st x.rings))
  · rw [if_neg (by intro q; cases q)]; omega
  · rw [if_pos rfl]
    have := grtZ_bd (B := 312000) (by omega) (devZ_bd (goalL_all hg) (sndL_all (rawZ_len ..) h))
    omega
/-- the best zone so far, as the reference finds it, and as the program does -/
def spS (f : Nat → Int) (skip : Nat → Bool) : Nat → Int × Int
  | 0 => (-1, 0)
  | j + 1 => if skip j = true then spS f skip j else if 0 ≤ f j ∧ ((spS f skip j).1 < 0 ∨ f j < (spS f skip j).2) then ((j : Int), f j) else spS f skip j
def spI (f : Nat → Int) (skip : Nat → Bool) (now : Int) : Nat → Int × Int
  | 0 => (-1, now)
  | j + 1 => if skip j = true then spI f skip now j else if 0 ≤ f j ∧ f j < (spI f skip now j).2 then ((j : Int), f j) else spI f skip now j
theorem spS_bd (f : Nat → Int) (skip : Nat → Bool) : ∀ j, ((spS f skip j).1 = -1 ∧ (spS f skip j).2 = 0) ∨ (0 ≤ (spS f skip j).1 ∧ (spS f skip j).1 < j ∧ 0 ≤ (spS f skip j).2 ∧ (spS f skip j).2 = f (spS f skip j).1.toNat ∧ skip (spS f skip j).1.toNat = false)
  | 0 => .inl ⟨rfl, rfl⟩
  | j + 1 => by
    have ih := spS_bd f skip j
    cases hs : skip j
    · by_cases hc : 0 ≤ f j ∧ ((spS f skip j).1 < 0 ∨ f j < (spS f skip j).2)
      · have e : spS f skip (j + 1) = ((j : Int), f j) := by
          show (if skip j = true then spS f skip j else _) = _
          rw [hs, if_neg (by intro q; cases q), if_pos hc]
        rw [e]
        refine .inr ⟨by omega, by show (j : Int) < _; push_cast; omega, hc.1, ?_, ?_⟩
        · show f j = f ((j : Int)).toNat; rw [Int.toNat_natCast]
        · show skip ((j : Int)).toNat = false; rw [Int.toNat_natCast]; exact hs
      · have e : spS f skip (j + 1) = spS f skip j := by
          show (if skip j = true then spS f skip j else _) = _
          rw [hs, if_neg (by intro q; cases q), if_neg hc]
        rw [e]
        rcases ih with h | ⟨a, b, c, d⟩
        · exact .inl h
        · exact .inr ⟨a, by push_cast; omega, c, d⟩
    · have e : spS f skip (j + 1) = spS f skip j := by
        show (if skip j = true then spS f skip j else _) = _
        rw [hs, if_pos rfl]
      rw [e]
      rcases ih with h | ⟨a, b, c, d⟩
      · exact .inl h
      · exact .inr ⟨a, by push_cast; omega, c, d⟩
theorem spI_eq (f : Nat → Int) (skip : Nat → Bool) (now : Int) : ∀ j, spI f skip now j = if (spS f skip j).1 < 0 ∨ now ≤ (spS f skip j).2 then (-1, now) else spS f skip j
  | 0 => by show (-1, now) = _; rw [if_pos (.inl (by show (-1 : Int) < 0; omega))]
  | j + 1 => by
    have ih := spI_eq f skip now j
    have bd := spS_bd f skip j
    show (if skip j = true then spI f skip now j else if 0 ≤ f j ∧ f j < (spI f skip now j).2 then ((j : Int), f j) else spI f skip now j) = _
    have es : spS f skip (j + 1) = if skip j = true then spS f skip j else if 0 ≤ f j ∧ ((spS f skip j).1 < 0 ∨ f j < (spS f skip j).2) then ((j : Int), f j) else spS f skip j := rfl
    cases hs : skip j
    · rw [hs, if_neg (by intro q; cases q)] at es
      rw [if_neg (by intro q; cases q), es, ih]
      generalize spS f skip j = c at *
      obtain ⟨c1, c2⟩ := c
      simp only [] at bd ⊢
      by_cases q1 : c1 < 0 ∨ now ≤ c2
      · rw [if_pos q1]
        by_cases q2 : 0 ≤ f j ∧ f j < now
        · rw [if_pos q2, if_pos (show 0 ≤ f j ∧ (c1 < 0 ∨ f j < c2) from ⟨q2.1, by omega⟩), if_neg (by show ¬ ((j : Int) < 0 ∨ now ≤ f j); omega)]
        · rw [if_neg q2]
          by_cases q3 : 0 ≤ f j ∧ (c1 < 0 ∨ f j < c2)
          · rw [if_pos q3, if_pos (by show (j : Int) < 0 ∨ now ≤ f j; omega)]
          · rw [if_neg q3, if_pos q1]
      · rw [if_neg q1]
        show (if 0 ≤ f j ∧ f j < c2 then ((j : Int), f j) else (c1, c2)) = _
        by_cases q2 : 0 ≤ f j ∧ f j < c2
        · rw [if_pos q2, if_pos (show 0 ≤ f j ∧ (c1 < 0 ∨ f j < c2) from ⟨q2.1, .inr q2.2⟩), if_neg (by show ¬ ((j : Int) < 0 ∨ now ≤ f j); omega)]
        · rw [if_neg q2, if_neg (show ¬ (0 ≤ f j ∧ (c1 < 0 ∨ f j < c2)) by omega), if_neg q1]
    · rw [hs, if_pos rfl] at es
      rw [if_pos rfl, es]
      exact ih
/-- the zones that have room, and what one step more in a zone gives -/
def roomZ (g : GoalX) (m : Mdl) (x : Profile) (z : Nat) : Int := min (mostZ x m.zones z : Int) g.most
def moreZ (g : GoalX) (m : Mdl) (x : Profile) (st : List Int) (z : Nat) : Int := worstZ g m x (st.set z (st.getD z 0 + 1))
def fullZ (g : GoalX) (m : Mdl) (x : Profile) (st : List Int) (z : Nat) : Bool := decide (st.getD z 0 = roomZ g m x z)
def pickS (g : GoalX) (m : Mdl) (x : Profile) (st : List Int) : Int × Int := spS (moreZ g m x st) (fullZ g m x st) m.zones.length
def incZ (st : List Int) (z : Nat) : List Int := st.set z (st.getD z 0 + 1)
def runG (g : GoalX) (m : Mdl) (x : Profile) : Nat → List Int → Int → List Int × Int
  | 0, st, _ => (st, 6)
  | f + 1, st, now => if now ≤ g.tol then (st, 0) else if (pickS g m x st).1 < 0 ∨ now ≤ (pickS g m x st).2 then (st, 6) else runG g m x f (incZ st (pickS g m x st).1.toNat) (pickS g m x st).2
/-- steps that are within their room -/
def StepsB (g : GoalX) (m : Mdl) (x : Profile) (st : List Int) : Prop := st.length = m.zones.length ∧ ∀ z, z < m.zones.length → 0 ≤ st.getD z 0 ∧ st.getD z 0 ≤ roomZ g m x z
theorem StepsB.most {g : GoalX} {m : Mdl} {x : Profile} {st : List Int} (h : StepsB g m x st) : ∀ z, z < m.zones.length → 0 ≤ st.getD z 0 ∧ st.getD z 0 ≤ mostZ x m.zones z := fun z hz => by
  have := h.2 z hz
  unfold roomZ at this
  omega
theorem StepsB.valid {g : GoalX} {m : Mdl} {x : Profile} {st : List Int} (h : StepsB g m x st) (hx : profB x = true) (h1 : 1 ≤ m.zones.length) : profB (turnX x m.zones st) = true := turn_valid hx h1 h.most
theorem incZ_len (st : List Int) (z : Nat) : (incZ st z).length = st.length := by simp [incZ]
theorem incZ_at {st : List Int} {z : Nat} (hz : z < st.length) (j : Nat) : (incZ st z).getD j 0 = if j = z then st.getD z 0 + 1 else st.getD j 0 := by
  unfold incZ
  rw [List.getD_eq_getElem?_getD, List.getElem?_set, List.getD_eq_getElem?_getD, List.getD_eq_getElem?_getD]
  by_cases h : z = j
  · subst h; rw [if_pos rfl, if_pos hz, if_pos rfl]; rfl
  · rw [if_neg h, if_neg (fun q => h q.symm)]
theorem StepsB.inc {g : GoalX} {m : Mdl} {x : Profile} {st : List Int} (h : StepsB g m x st) {z : Nat} (hz : z < m.zones.length) (hf : fullZ g m x st z = false) : StepsB g m x (incZ st z) := by
  refine ⟨by rw [incZ_len]; exact h.1, fun j hj => ?_⟩
  rw [incZ_at (by rw [h.1]; exact hz)]
  have a := h.2 j hj
  by_cases e : j = z
  · subst e
    rw [if_pos rfl]
    have : st.getD j 0 ≠ roomZ g m x j := of_decide_eq_false hf
    omega
  · rw [if_neg e]; exact a
theorem StepsB.bd {g : GoalX} {m : Mdl} {x : Profile} {st : List Int} (h : StepsB g m x st) : ∀ n ∈ st, 0 ≤ n ∧ n ≤ 20 := fun n hn => by
  obtain ⟨i, hi, rfl⟩ := List.mem_iff_getElem.1 hn
  have := h.most i (by rw [← h.1]; exact hi)
  rw [getD_at hi] at this
  have := mostZ_le x m.zones i
  omega
/-- the zone that is picked -/
theorem pick_ok {g : GoalX} {m : Mdl} {x : Profile} {st : List Int} (h : StepsB g m x st) (hp : ¬ (pickS g m x st).1 < 0) : ∃ z : Nat, (pickS g m x st).1 = z ∧ z < m.zones.length ∧ StepsB g m x (incZ st z) ∧ 0 ≤ (pickS g m x st).2 ∧ (pickS g m x st).2 = worstZ g m x (incZ st z) := by
  rcases spS_bd (moreZ g m x st) (fullZ g m x st) m.zones.length with ⟨a, _⟩ | ⟨a, b, c, d, e⟩
  · exact absurd (show (pickS g m x st).1 < 0 by rw [show (pickS g m x st).1 = -1 from a]; omega) hp
  · refine ⟨(pickS g m x st).1.toNat, ?_, ?_, h.inc ?_ e, c, d⟩
    · have : 0 ≤ (pickS g m x st).1 := a
      omega
    · have : (pickS g m x st).1 < m.zones.length := b
      have : 0 ≤ (pickS g m x st).1 := a
      omega
    · have : (pickS g m x st).1 < m.zones.length := b
      have : 0 ≤ (pickS g m x st).1 := a
      omega
/-- one round -/
theorem runG_stop {g : GoalX} {m : Mdl} {x : Profile} {f : Nat} {st : List Int} {now : Int} (h : now ≤ g.tol) : runG g m x (f + 1) st now = (st, 0) := by
  show (if now ≤ g.tol then (st, 0) else _) = _
  rw [if_pos h]
theorem runG_lost {g : GoalX} {m : Mdl} {x : Profile} {f : Nat} {st : List Int} {now : Int} (h : ¬ now ≤ g.tol) (h2 : (pickS g m x st).1 < 0 ∨ now ≤ (pickS g m x st).2) : runG g m x (f + 1) st now = (st, 6) := by
  show (if now ≤ g.tol then (st, 0) else if (pickS g m x st).1 < 0 ∨ now ≤ (pickS g m x st).2 then (st, 6) else _) = _
  rw [if_neg h, if_pos h2]
theorem runG_next {g : GoalX} {m : Mdl} {x : Profile} {f : Nat} {st : List Int} {now : Int} (h : ¬ now ≤ g.tol) (h2 : ¬ ((pickS g m x st).1 < 0 ∨ now ≤ (pickS g m x st).2)) : runG g m x (f + 1) st now = runG g m x f (incZ st (pickS g m x st).1.toNat) (pickS g m x st).2 := by
  show (if now ≤ g.tol then (st, 0) else if (pickS g m x st).1 < 0 ∨ now ≤ (pickS g m x st).2 then (st, 6) else runG g m x f (incZ st (pickS g m x st).1.toNat) (pickS g m x st).2) = _
  rw [if_neg h, if_neg h2]
def pickI (g : GoalX) (m : Mdl) (x : Profile) (st : List Int) (now : Int) : Int × Int := spI (moreZ g m x st) (fullZ g m x st) now m.zones.length
theorem pickI_no {g : GoalX} {m : Mdl} {x : Profile} {st : List Int} {now : Int} (h : (pickI g m x st now).1 < 0) : (pickS g m x st).1 < 0 ∨ now ≤ (pickS g m x st).2 := by
  unfold pickI at h
  rw [spI_eq] at h
  by_cases q : (spS (moreZ g m x st) (fullZ g m x st) m.zones.length).1 < 0 ∨ now ≤ (spS (moreZ g m x st) (fullZ g m x st) m.zones.length).2
  · exact q
  · rw [if_neg q] at h; exact .inl h
theorem pickI_yes {g : GoalX} {m : Mdl} {x : Profile} {st : List Int} {now : Int} (h : ¬ (pickI g m x st now).1 < 0) : ¬ ((pickS g m x st).1 < 0 ∨ now ≤ (pickS g m x st).2) ∧ pickI g m x st now = pickS g m x st := by
  unfold pickI at h ⊢
  rw [spI_eq] at h ⊢
  by_cases q : (spS (moreZ g m x st) (fullZ g m x st) m.zones.length).1 < 0 ∨ now ≤ (spS (moreZ g m x st) (fullZ g m x st) m.zones.length).2
  · rw [if_pos q] at h; exact absurd (show (-1 : Int) < 0 by omega) h
  · rw [if_neg q] at h ⊢
    exact ⟨q, rfl⟩
/-- the cuts of steps -/
def cutsK (st : List Int) : Nat → List Cut
  | 0 => []
  | z + 1 => cutsK st z ++ (if 0 < st.getD z 0 then [(⟨z, st.getD z 0⟩ : Cut)] else [])
def cutsZ (st : List Int) : List Cut := cutsK st st.length
theorem cutsK_len (st : List Int) : ∀ z, (cutsK st z).length ≤ z
  | 0 => Nat.le_refl _
  | z + 1 => by
    have ih := cutsK_len st z
    show (cutsK st z ++ (if 0 < st.getD z 0 then [(⟨z, st.getD z 0⟩ : Cut)] else [])).length ≤ _
    rw [List.length_append]
    split <;> simp <;> omega
/-- the answer -/
def zeroZ (m : Mdl) : List Int := List.replicate m.zones.length 0
def grdR (g : GoalX) (m : Mdl) (x : Profile) : List Int × Int := if worstZ g m x (zeroZ m) < 0 then (zeroZ m, 6) else runG g m x ((worstZ g m x (zeroZ m)).toNat + 1) (zeroZ m) (worstZ g m x (zeroZ m))
def grdC (g : GoalX) (m : Mdl) (x : Profile) : Int := if aimC g m x = 0 then (grdR g m x).2 else aimC g m x
def grdL (g : GoalX) (m : Mdl) (x : Profile) : List Cut := if grdC g m x = 0 then cutsZ (grdR g m x).1 else []
theorem goalB_most {g : GoalX} (h : goalB g = true) : 0 ≤ g.most ∧ g.most ≤ 20 ∧ 0 ≤ g.tol ∧ g.tol ≤ 20000 := by
  obtain ⟨_, h2, h3⟩ := goalB_parts h
  omega
theorem zero_ok {g : GoalX} (hg : goalB g = true) (m : Mdl) (x : Profile) : StepsB g m x (zeroZ m) := by
  refine ⟨by simp [zeroZ], fun z hz => ?_⟩
  have e : (zeroZ m).getD z 0 = 0 := by
    unfold zeroZ
    rw [List.getD_eq_getElem?_getD, List.getElem?_eq_getElem (by rw [List.length_replicate]; exact hz), List.getElem_replicate]; rfl
  rw [e]
  have := goalB_most hg
  unfold roomZ
  omega
end Go.Proofs.YtcjekailcljaaaaGreat
