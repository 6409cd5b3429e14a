/- Contracts and plain facts, joined: PartsL, NumT, FreeT. -/
import Derived.Test.YtnbodmbagendnaaGreatDoorRows
import Derived.Test.YtnbodmbagendnaaGreatDoorZFnMeltsE
import Derived.Test.YtnbodmbagendnaaGreatDoorZFnMeltsZL
import Derived.Test.YtnbodmbagendnaaGreatDoorZFnMeltsZM
import Derived.Lib.Split
import Derived.Lib.SplitLaws
import Derived.Lib.IndexMore
namespace Go.Proofs.YtnbodmbagendnaaGreatDoor
open Go.ChangeShapes Go.WideShapes Go.ChangeAt Go.RowKit Go.Deep Go.Joins
set_option linter.unusedVariables false
set_option maxRecDepth 100000
set_option linter.unusedSimpArgs false
/-- the parts of a row of bytes at each c -/
def partsL (c : UInt8) : List UInt8 → List (List UInt8)
  | [] => [[]]
  | b :: l => if b = c then [] :: partsL c l else match partsL c l with
    | p :: ps => (b :: p) :: ps
    | [] => [[b]]
theorem partsL_ne (c : UInt8) : ∀ l, partsL c l ≠ []
  | [] => by simp [partsL]
  | b :: l => by
    unfold partsL
    split
    · simp
    · split <;> simp
theorem partsL_hit {c b : UInt8} {l : List UInt8} (h : b = c) : partsL c (b :: l) = [] :: partsL c l := if_pos h
theorem partsL_miss {c b : UInt8} {l p : List UInt8} {ps : List (List UInt8)} (h : b ≠ c) (hp : partsL c l = p :: ps) : partsL c (b :: l) = (b :: p) :: ps := by
  unfold partsL
  rw [if_neg h, hp]
theorem partsL_none {c : UInt8} : ∀ {l : List UInt8}, c ∉ l → partsL c l = [l]
  | [], _ => rfl
  | b :: l, h => partsL_miss (fun e => h (by rw [e]; exact List.mem_cons_self ..)) (partsL_none fun q => h (List.mem_cons_of_mem _ q))
theorem partsL_cut {c : UInt8} : ∀ {l : List UInt8} (r : List UInt8), c ∉ l → partsL c (l ++ c :: r) = l :: partsL c r
  | [], r, _ => partsL_hit rfl
  | b :: l, r, h => partsL_miss (fun e => h (by rw [e]; exact List.mem_cons_self ..)) (partsL_cut r fun q => h (List.mem_cons_of_mem _ q))
theorem partsL_join (c : UInt8) : ∀ (a : List UInt8) (xs : List (List UInt8)), (∀ x ∈ a :: xs, c ∉ x) → partsL c (Lib.join (a :: xs) [c]) = a :: xs
  | a, [], h => by rw [Lib.join_one]; exact partsL_none (h a (List.mem_cons_self ..))
  | a, x :: xs, h => by
    have ih := partsL_join c x xs fun y hy => h y (List.mem_cons_of_mem _ hy)
    have e : Lib.join (a :: x :: xs) [c] = a ++ c :: Lib.join (x :: xs) [c] := by
      rw [Lib.join_cons, Lib.join_cons]
      simp [Lib.joinTail]
    rw [e, partsL_cut _ (h a (List.mem_cons_self ..)), ih]
theorem partsL_back (c : UInt8) : ∀ (l : List UInt8), Lib.join (partsL c l) [c] = l
  | [] => by rw [show partsL c [] = [[]] from rfl, Lib.join_one]
  | b :: l => by
    have ih := partsL_back c l
    match hp : partsL c l with
    | [] => exact absurd hp (partsL_ne c l)
    | p :: ps =>
      rw [hp] at ih
      by_cases h : b = c
      · rw [partsL_hit h, hp]
        have e : Lib.join ([] :: p :: ps) [c] = c :: Lib.join (p :: ps) [c] := by
          rw [Lib.join_cons, Lib.join_cons]
          simp [Lib.joinTail]
        rw [e, ih, h]
      · rw [partsL_miss h hp, Lib.join_cons]
        rw [Lib.join_cons] at ih
        rw [List.cons_append, ih]
theorem partsL_free {c : UInt8} : ∀ {l : List UInt8}, ∀ x ∈ partsL c l, c ∉ x
  | [], x, hx => by
    obtain rfl : x = [] := by simpa [partsL] using hx
    simp
  | b :: l, x, hx => by
    match hp : partsL c l with
    | [] => exact absurd hp (partsL_ne c l)
    | p :: ps =>
      have ih := fun y (hy : y ∈ p :: ps) => partsL_free (c := c) (l := l) y (by rw [hp]; exact hy)
      by_cases h : b = c
      · rw [partsL_hit h, hp] at hx
        rcases List.mem_cons.1 hx with rfl | hx
        · simp
        · exact ih x hx
      · rw [partsL_miss h hp] at hx
        rcases List.mem_cons.1 hx with rfl | hx
        · intro q
          rcases List.mem_cons.1 q with q | q
          · exact h q.symm
          · exact ih p (List.mem_cons_self ..) q
        · exact ih x (List.mem_cons_of_mem _ hx)
theorem partsL_len (c : UInt8) : ∀ (l : List UInt8), (partsL c l).length ≤ l.length + 1
  | [] => by simp [partsL]
  | b :: l => by
    have ih := partsL_len c l
    match hp : partsL c l with
    | [] => exact absurd hp (partsL_ne c l)
    | p :: ps =>
      rw [hp] at ih
      by_cases h : b = c
      · rw [partsL_hit h, hp]; simp at ih ⊢; omega
      · rw [partsL_miss h hp]; simp at ih ⊢; omega
/-- one byte more -/
theorem partsL_snoc {c b : UInt8} : ∀ {l : List UInt8} {o : List (List UInt8)} {p : List UInt8}, partsL c l = o ++ [p] → partsL c (l ++ [b]) = if b = c then o ++ [p] ++ [[]] else o ++ [p ++ [b]]
  | [], o, p, h => by
    have h' : [[]] = o ++ [p] := h
    match o, h' with
    | [], h' =>
      obtain rfl : p = [] := by simpa using h'.symm
      by_cases hb : b = c
      · rw [if_pos hb]; show partsL c [b] = _; rw [partsL_hit hb]; rfl
      · rw [if_neg hb]; show partsL c [b] = _; rw [partsL_miss hb (show partsL c [] = [] :: [] from rfl)]; rfl
    | x :: o, h' => simp at h'
  | a :: l, o, p, h => by
    match hp : partsL c l with
    | [] => exact absurd hp (partsL_ne c l)
    | q :: qs =>
      obtain ⟨o', p', e⟩ : ∃ o' p', q :: qs = o' ++ [p'] := ⟨_, _, (List.dropLast_concat_getLast (List.cons_ne_nil q qs)).symm⟩
      have ih := partsL_snoc (b := b) (hp.trans e)
      by_cases ha : a = c
      · rw [partsL_hit ha, hp, e] at h
        have h2 : ([] :: o') ++ [p'] = o ++ [p] := h
        obtain ⟨rfl, rfl⟩ : [] :: o' = o ∧ p' = p := by
          have := List.append_inj' h2 rfl
          exact ⟨this.1, by simpa using this.2⟩
        rw [List.cons_append, partsL_hit ha, ih]
        split <;> rfl
      · rw [partsL_miss ha hp] at h
        rw [List.cons_append]
        match o', e with
        | [], e =>
          obtain ⟨rfl, rfl⟩ : q = p' ∧ qs = [] := by simpa using e
          have h2 : ([] : List (List UInt8)) ++ [a :: q] = o ++ [p] := h
          obtain ⟨rfl, rfl⟩ : [] = o ∧ a :: q = p := by
            have := List.append_inj' h2 rfl
            exact ⟨this.1, by simpa using this.2⟩
          by_cases hb : b = c
          · rw [if_pos hb] at ih ⊢
            exact partsL_miss ha ih
          · rw [if_neg hb] at ih ⊢
            exact partsL_miss ha ih
        | x :: o', e =>
          obtain ⟨rfl, rfl⟩ : q = x ∧ qs = o' ++ [p'] := by simpa using e
          have h2 : ((a :: q) :: o') ++ [p'] = o ++ [p] := h
          obtain ⟨rfl, rfl⟩ : (a :: q) :: o' = o ∧ p' = p := by
            have := List.append_inj' h2 rfl
            exact ⟨this.1, by simpa using this.2⟩
          by_cases hb : b = c
          · rw [if_pos hb] at ih ⊢
            exact partsL_miss ha ih
          · rw [if_neg hb] at ih ⊢
            exact partsL_miss ha ih
theorem index_cons (b c : UInt8) (l : List UInt8) : Lib.index (b :: l) [c] = if b = c then 0 else if Lib.index l [c] = -1 then -1 else Lib.index l [c] + 1 := by
  simp only [Lib.index]
  by_cases h : b = c
  · subst h
    rw [if_pos rfl, if_pos (by simp)]
  · rw [if_neg h, if_neg (by simpa using fun q => h q.symm)]
    by_cases h2 : Lib.index l [c] = -1
    · rw [if_pos h2, if_pos (by rw [h2]; rfl)]
    · rw [if_neg h2, if_neg (by simpa using h2)]
theorem index_count {c : UInt8} : ∀ {l : List UInt8}, 0 < l.count c → Lib.index l [c] ≠ -1
  | [], h => by simp at h
  | b :: l, h => by
    rw [index_cons]
    by_cases hb : b = c
    · rw [if_pos hb]; decide
    · rw [if_neg hb]
      have hc : 0 < l.count c := by rwa [List.count_cons_of_ne (by simpa using hb)] at h
      have := index_count hc
      rw [if_neg this]
      have := Lib.index_ge l [c]
      omega
theorem splitK_parts (c : UInt8) : ∀ (l : List UInt8), Lib.splitK [c] 0 (l.count c) l = partsL c l
  | [] => rfl
  | b :: l => by
    have ih := splitK_parts c l
    by_cases h : b = c
    · subst h
      rw [List.count_cons_self, partsL_hit rfl, ← ih]
      simp only [Lib.splitK]
      rw [index_cons, if_pos rfl, if_neg (by decide)]
      simp
    · rw [List.count_cons_of_ne (by simpa using h)]
      match hk : l.count c with
      | 0 =>
        rw [hk] at ih
        have e : partsL c l = [l] := ih.symm
        rw [partsL_miss h e]; rfl
      | k + 1 =>
        rw [hk] at ih
        have hi := index_count (c := c) (l := l) (by omega)
        have hg := Lib.index_ge l [c]
        simp only [Lib.splitK] at ih ⊢
        rw [if_neg (by simpa using hi)] at ih
        rw [index_cons, if_neg h, if_neg hi, if_neg (by simp; omega)]
        rw [partsL_miss h ih.symm]
        have e1 : (Lib.index l [c] + 1).toNat = (Lib.index l [c]).toNat + 1 := by omega
        rw [e1]
        simp only [Nat.add_zero, List.take_succ_cons, List.length_cons, List.length_nil, Nat.zero_add, List.drop_succ_cons]
/-- the parts of a text -/
def partsS (c : UInt8) (s : ByteArray) : List ByteArray := (partsL c s.data.toList).map fun l => ⟨l.toArray⟩
theorem partsS_split (c : UInt8) (s : ByteArray) : Lib.splitB ⟨#[c]⟩ 0 (Lib.countB s ⟨#[c]⟩) s = partsS c s := by
  have h := Lib.splitB_data ⟨#[c]⟩ 0 (Lib.countB s ⟨#[c]⟩) s
  have e2 : Lib.countB s ⟨#[c]⟩ = s.data.toList.count c := by
    have := Lib.count_one c s.data.toList
    rw [← this]
  rw [e2] at h ⊢
  have e1 : (⟨#[c]⟩ : ByteArray).data.toList = [c] := rfl
  rw [e1, splitK_parts] at h
  unfold partsS
  rw [← h, List.map_map]
  conv => lhs; rw [← List.map_id (Lib.splitB ⟨#[c]⟩ 0 (s.data.toList.count c) s)]
  refine List.map_congr_left fun x _ => ?_
  cases x; rfl
theorem partsS_len (c : UInt8) (s : ByteArray) : 0 < (partsS c s).length ∧ (partsS c s).length ≤ s.size + 1 := by
  unfold partsS
  rw [List.length_map]
  have h1 := partsL_len c s.data.toList
  have h2 : (partsL c s.data.toList).length ≠ 0 := fun q => partsL_ne c _ (List.eq_nil_of_length_eq_zero q)
  have h3 : s.data.toList.length = s.size := by simp
  omega
theorem partsS_size {c : UInt8} {s : ByteArray} : ∀ x ∈ partsS c s, x.size ≤ s.size := by
  intro x hx
  obtain ⟨l, hl, rfl⟩ := List.mem_map.1 hx
  have : ∀ (m : List UInt8), ∀ y ∈ partsL c m, y.length ≤ m.length := by
    intro m
    induction m with
    | nil => intro y hy; obtain rfl : y = [] := by simpa [partsL] using hy
             simp
    | cons b m ih =>
      intro y hy
      match hp : partsL c m with
      | [] => exact absurd hp (partsL_ne c m)
      | p :: ps =>
        rw [hp] at ih
        by_cases h : b = c
        · rw [partsL_hit h, hp] at hy
          rcases List.mem_cons.1 hy with rfl | hy
          · simp
          · have := ih y hy; simp; omega
        · rw [partsL_miss h hp] at hy
          rcases List.mem_cons.1 hy with rfl | hy
          · have := ih p (List.mem_cons_self ..); simp; omega
          · have := ih y (List.mem_cons_of_mem _ hy); simp; omega
  have h1 := this _ l hl
  have h2 : s.data.toList.length = s.size := by simp
  show (⟨l.toArray⟩ : ByteArray).size ≤ s.size
  have h3 : (⟨l.toArray⟩ : ByteArray).size = l.length := by show l.toArray.size = _; simp
  omega
/-- joined again -/
theorem partsS_join (c : UInt8) (s : ByteArray) : joinT c (partsS c s) = s := by
  unfold joinT partsS
  rw [List.map_map]
  have e : ((fun x : ByteArray => x.data.toList) ∘ fun l : List UInt8 => (⟨l.toArray⟩ : ByteArray)) = id := by funext l; simp
  rw [e, List.map_id, partsL_back]
/-- what was joined comes apart again -/
theorem parts_joinT (c : UInt8) (xs : List ByteArray) (h0 : xs ≠ []) (h : ∀ x ∈ xs, c ∉ x.data.toList) : partsS c (joinT c xs) = xs := by
  match xs, h0 with
  | a :: r, _ =>
    unfold partsS joinT
    have e : (⟨(Lib.join ((a :: r).map (·.data.toList)) [c]).toArray⟩ : ByteArray).data.toList = Lib.join (a.data.toList :: r.map (·.data.toList)) [c] := by simp
    rw [e, partsL_join c _ _ (fun x hx => by
      rw [← List.map_cons (f := fun x : ByteArray => x.data.toList)] at hx
      obtain ⟨y, hy, rfl⟩ := List.mem_map.1 hx
      exact h y hy), ← List.map_cons (f := fun x : ByteArray => x.data.toList), List.map_map]
    conv => rhs; rw [← List.map_id (a :: r)]
    refine List.map_congr_left fun x _ => ?_
    cases x; simp
end Go.Proofs.YtnbodmbagendnaaGreatDoor
namespace Go.Proofs.YtnbodmbagendnaaGreatDoor
open Go.ChangeShapes Go.WideShapes Go.ChangeAt Go.RowKit Go.Deep Go.Joins
set_option linter.unusedVariables false
set_option maxRecDepth 100000
set_option linter.unusedSimpArgs false
theorem num_text {s : ByteArray} {v : Int} (h : numS s = some v) : decT v = s ∧ (-1000000000000000000 < v ∧ v < 1000000000000000000) := by
  by_cases hb : badN s
  · rw [numS_bad hb] at h; cases h
  · have h1 : ¬ s.size ≤ atN s := fun q => hb (.inl q)
    have h2 : ¬ 18 < s.size - atN s := fun q => hb (.inr (.inl q))
    rcases parse_num (s := s) (by omega) (by omega) with ⟨v', _, hbd, ⟨h3, h4⟩ | ⟨_, h4⟩⟩ | ⟨_, h4⟩
    · rw [h] at h4
      obtain rfl : v = v' := by simpa using h4
      exact ⟨h3, hbd⟩
    · rw [h] at h4; cases h4
    · rw [h] at h4; cases h4
theorem decFrom_digits : ∀ (u : Nat), Lib.decFrom 0 (Lib.decDigits u) = some u := by
  intro u
  induction u using Nat.strongRecOn with
  | _ u ih =>
    have hd : ∀ d, d < 10 → Lib.digitVal (UInt8.ofNat (48 + d)) = some d := fun d h => by
      unfold Lib.digitVal
      rw [UInt8.toNat_ofNat_of_lt' (by show 48 + d < 256; omega), if_pos ⟨by omega, by omega⟩]
      congr 1; omega
    by_cases h : u < 10
    · rw [Lib.decDigits, dif_pos h]
      simp only [Lib.decFrom, hd u h]
      simp
    · rw [Lib.decDigits, dif_neg h, decFrom_snoc, ih (u / 10) (by omega), Option.bind_some, hd (u % 10) (by omega)]
      simp only [Option.map_some]
      congr 1; omega
theorem nDigits_le : ∀ (k u : Nat), u < 10 ^ (k + 1) → Lib.nDigits u ≤ k + 1
  | 0, u, h => by rw [Lib.nDigits_small (by simpa using h)]; exact Nat.le_refl _
  | k + 1, u, h => by
    by_cases h10 : u < 10
    · rw [Lib.nDigits_small h10]; omega
    · rw [Lib.nDigits_big h10]
      have := nDigits_le k (u / 10) (by rw [Nat.pow_succ] at h; omega)
      omega
theorem digits_mem : ∀ (u : Nat), ∀ c ∈ Lib.decDigits u, 48 ≤ c.toNat ∧ c.toNat ≤ 57 := by
  intro u
  induction u using Nat.strongRecOn with
  | _ u ih =>
    have hd : ∀ d, d < 10 → 48 ≤ (UInt8.ofNat (48 + d)).toNat ∧ (UInt8.ofNat (48 + d)).toNat ≤ 57 := fun d h => by
      rw [UInt8.toNat_ofNat_of_lt' (by show 48 + d < 256; omega)]; omega
    intro c hc
    by_cases h : u < 10
    · rw [Lib.decDigits, dif_pos h] at hc
      obtain rfl : c = UInt8.ofNat (48 + u) := by simpa using hc
      exact hd u h
    · rw [Lib.decDigits, dif_neg h] at hc
      rcases List.mem_append.1 hc with hc | hc
      · exact ih (u / 10) (by omega) c hc
      · obtain rfl : c = UInt8.ofNat (48 + u % 10) := by simpa using hc
        exact hd _ (by omega)
theorem itoa_mem (n : Int) : ∀ c ∈ Lib.itoa n, c = 45 ∨ (48 ≤ c.toNat ∧ c.toNat ≤ 57) := by
  intro c hc
  unfold Lib.itoa at hc
  split at hc
  · rcases List.mem_cons.1 hc with rfl | hc
    · exact .inl rfl
    · exact .inr (digits_mem _ c hc)
  · exact .inr (digits_mem _ c hc)
theorem decT_free {n : Int} {c : UInt8} (h1 : c ≠ 45) (h2 : ¬ (48 ≤ c.toNat ∧ c.toNat ≤ 57)) : c ∉ (decT n).data.toList := by
  intro hc
  have hc' : c ∈ Lib.itoa n := by simpa [decT] using hc
  exact (itoa_mem n c hc').elim h1 h2
/-- the number of a decimal text -/
theorem num_decT {n : Int} (h1 : -1000000000000000000 < n) (h2 : n < 1000000000000000000) : numS (decT n) = some n := by
  have hl : (decT n).data.toList = Lib.itoa n := by simp [decT]
  have hs : (decT n).size = (Lib.itoa n).length := by rw [← hl]; simp
  by_cases hn : n < 0
  · obtain ⟨u, rfl⟩ : ∃ u : Nat, n = -(u : Int) := ⟨n.natAbs, by omega⟩
    have e := itoa_neg' (u := u) (by omega)
    have ha : atN (decT (-(u : Int))) = 1 := by unfold atN; rw [hl, e]; rfl
    have hd : (decT (-(u : Int))).data.toList.drop (atN (decT (-(u : Int)))) = Lib.decDigits u := by rw [ha, hl, e]; rfl
    have hdl := Lib.decDigits_length u
    have h3 := nDigits_le 17 u (by omega)
    have h4 := Lib.nDigits_pos u
    rw [e, List.length_cons] at hs
    have := numS_ok (s := decT (-(u : Int))) (u := u) (fun q => by
      rcases q with q | q | q
      · omega
      · omega
      · rw [hd] at q; exact decDigits_head u (by omega) q.1) (by rw [hd]; exact decFrom_digits u)
    rw [this, if_pos ha]
  · obtain ⟨u, rfl⟩ : ∃ u : Nat, n = (u : Int) := ⟨n.toNat, by omega⟩
    have e := itoa_nonneg' u
    have ha : atN (decT (u : Int)) = 0 := by
      unfold atN
      rw [hl, e, if_neg]
      intro q
      obtain ⟨c, q1, q2, q3⟩ := decDigits_hd u
      rw [q1] at q
      obtain rfl : c = 45 := by simpa using q
      have e45 : (45 : UInt8).toNat = 45 := rfl
      omega
    have hd : (decT (u : Int)).data.toList.drop (atN (decT (u : Int))) = Lib.decDigits u := by rw [ha, hl, e]; rfl
    have hdl := Lib.decDigits_length u
    have h3 := nDigits_le 17 u (by omega)
    have h4 := Lib.nDigits_pos u
    rw [e] at hs
    have hne : Lib.decDigits u ≠ [] := fun q => by rw [q] at hdl; simp at hdl; omega
    have := numS_ok (s := decT (u : Int)) (u := u) (fun q => by
      rcases q with q | q | q
      · omega
      · omega
      · rw [hd] at q
        exact (canon_iff hne (decFrom_digits u)).1 rfl ⟨q.1, by omega⟩) (by rw [hd]; exact decFrom_digits u)
    rw [this, if_neg (by omega)]
theorem num_iff {s : ByteArray} {v : Int} (h1 : -1000000000000000000 < v) (h2 : v < 1000000000000000000) : numS s = some v ↔ decT v = s :=
  ⟨fun h => (num_text h).1, fun h => by rw [← h]; exact num_decT h1 h2⟩
theorem numV_bd (s : ByteArray) : -1000000000000000000 < numV s ∧ numV s < 1000000000000000000 := by
  cases h : numS s with
  | none => rw [(num_none h).1]; decide
  | some v => rw [(num_some h).1]; exact (num_text h).2
/-- what is cut at the first c -/
theorem index_at {c : UInt8} : ∀ {a : List UInt8} (r : List UInt8), c ∉ a → Lib.index (a ++ c :: r) [c] = a.length
  | [], r, _ => by rw [List.nil_append, index_cons, if_pos rfl]; rfl
  | b :: a, r, h => by
    rw [List.cons_append, index_cons, if_neg (fun e => h (by rw [e]; exact List.mem_cons_self ..)), index_at r fun q => h (List.mem_cons_of_mem _ q), if_neg (by omega)]
    simp
theorem cut_two {c : UInt8} {a r : List UInt8} (h : c ∉ a) : Lib.cut (a ++ c :: r) [c] = (a, r, true) := by
  unfold Lib.cut
  rw [index_at r h, if_pos (by omega)]
  have e : (a.length : Int).toNat = a.length := by omega
  rw [e, List.take_left]
  simp
def cutA (c : UInt8) (w : ByteArray) : ByteArray := ⟨(Lib.cut w.data.toList [c]).1.toArray⟩
def cutB (c : UInt8) (w : ByteArray) : ByteArray := ⟨(Lib.cut w.data.toList [c]).2.1.toArray⟩
def cutF (c : UInt8) (w : ByteArray) : Bool := (Lib.cut w.data.toList [c]).2.2
theorem cut_joined {c : UInt8} {a b : ByteArray} (h : c ∉ a.data.toList) : cutA c (a ++ ⟨#[c]⟩ ++ b) = a ∧ cutB c (a ++ ⟨#[c]⟩ ++ b) = b := by
  have e : (a ++ ⟨#[c]⟩ ++ b).data.toList = a.data.toList ++ c :: b.data.toList := by
    rw [ByteArray.data_append, ByteArray.data_append]; simp
  unfold cutA cutB
  rw [e, cut_two h]
  exact ⟨by cases a; simp, by cases b; simp⟩
theorem cut_sizes (c : UInt8) (w : ByteArray) : (cutA c w).size ≤ w.size ∧ (cutB c w).size ≤ w.size := by
  have hw : w.data.toList.length = w.size := by simp
  have e1 : (cutA c w).size = (Lib.cut w.data.toList [c]).1.length := by unfold cutA; show (Array.size _) = _; simp
  have e2 : (cutB c w).size = (Lib.cut w.data.toList [c]).2.1.length := by unfold cutB; show (Array.size _) = _; simp
  rw [e1, e2]
  unfold Lib.cut
  split
  · simp only [List.length_take, List.length_drop]; omega
  · simp only [List.length_nil]; omega
theorem joinT_two (c : UInt8) (a b : ByteArray) : joinT c [a, b] = a ++ ⟨#[c]⟩ ++ b := by
  have := joinT_snoc c a [] b
  rw [joinT_one] at this
  exact this
theorem parts_two {c : UInt8} {w a b : ByteArray} (h : partsS c w = [a, b]) : w = a ++ ⟨#[c]⟩ ++ b ∧ c ∉ a.data.toList ∧ c ∉ b.data.toList := by
  have h1 := partsS_join c w
  rw [h, joinT_two] at h1
  have hf : ∀ x ∈ partsS c w, c ∉ x.data.toList := fun x hx => by
    obtain ⟨l, hl, rfl⟩ := List.mem_map.1 hx
    simpa using partsL_free l hl
  exact ⟨h1.symm, hf a (by rw [h]; simp), hf b (by rw [h]; simp)⟩
theorem parts_of_two {c : UInt8} {a b : ByteArray} (h1 : c ∉ a.data.toList) (h2 : c ∉ b.data.toList) : partsS c (a ++ ⟨#[c]⟩ ++ b) = [a, b] := by
  rw [← joinT_two]
  refine parts_joinT c [a, b] (by simp) fun x hx => ?_
  rcases List.mem_cons.1 hx with rfl | hx
  · exact h1
  · obtain rfl : x = b := by simpa using hx
    exact h2
end Go.Proofs.YtnbodmbagendnaaGreatDoor
namespace Go.Proofs.YtnbodmbagendnaaGreatDoor
open Go.ChangeShapes Go.WideShapes Go.ChangeAt Go.RowKit Go.Deep Go.Joins
set_option linter.unusedVariables false
set_option maxRecDepth 100000
set_option linter.unusedSimpArgs false
theorem joinT_free {c d : UInt8} (hcd : c ≠ d) : ∀ (xs : List ByteArray), (∀ x ∈ xs, c ∉ x.data.toList) → c ∉ (joinT d xs).data.toList := by
  intro xs h
  unfold joinT
  cases xs with
  | nil => simp [Lib.join, List.intercalate]
  | cons a r =>
    rw [List.map_cons, Lib.join_cons]
    intro q
    have q' : c ∈ a.data.toList ++ Lib.joinTail [d] (r.map (·.data.toList)) := by simpa using q
    rcases List.mem_append.1 q' with q1 | q1
    · exact h a (List.mem_cons_self ..) q1
    · unfold Lib.joinTail at q1
      obtain ⟨l, hl, hc⟩ := List.mem_flatten.1 q1
      rw [List.map_map] at hl
      obtain ⟨x, hx, rfl⟩ := List.mem_map.1 hl
      rcases List.mem_append.1 hc with q2 | q2
      · exact hcd (by simpa using q2)
      · exact h x (List.mem_cons_of_mem _ hx) q2
theorem nameB_free {s : ByteArray} (h : nameB s = true) : (32 : UInt8) ∉ s.data.toList := by
  intro q
  unfold nameB nameL at h
  simp only [Bool.and_eq_true, decide_eq_true_eq] at h
  have hr := h.2.2.2
  have hh := h.2.2.1
  have := List.all_eq_true.1 hr 32 q
  exact absurd this (by decide)
theorem joinT_three (c : UInt8) (a b d : ByteArray) : joinT c [a, b, d] = a ++ ⟨#[c]⟩ ++ b ++ ⟨#[c]⟩ ++ d := by
  apply bytes_inj
  unfold joinT
  simp [Lib.join, List.intercalate]
theorem parts_three {c : UInt8} {w a b d : ByteArray} (h : partsS c w = [a, b, d]) : w = a ++ ⟨#[c]⟩ ++ b ++ ⟨#[c]⟩ ++ d := by
  have := partsS_join c w
  rw [h, joinT_three] at this
  exact this.symm
theorem app_cancel {a b c : ByteArray} (h : a ++ b = a ++ c) : b = c := by
  apply bytes_inj
  have := congrArg (fun x : ByteArray => x.data.toList) h
  simpa using this
theorem three_of {α : Type} {l : List α} (h : l.length = 3) : ∃ a b c, l = [a, b, c] := by
  match l, h with
  | [a, b, c], _ => exact ⟨a, b, c, rfl⟩
end Go.Proofs.YtnbodmbagendnaaGreatDoor
