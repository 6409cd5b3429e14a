/- Contracts and plain facts, joined: PartsL. -/
import Derived.Test.YtockglfoeagahaaGreatDoorRows
import Derived.Test.YtockglfoeagahaaGreatDoorZFnWarbleX
import Derived.Test.YtockglfoeagahaaGreatDoorZFnWarbleZ
import Derived.Lib.Split
import Derived.Lib.SplitLaws
import Derived.Lib.IndexMore
namespace Go.Proofs.YtockglfoeagahaaGreatDoor
open Go.ChangeShapes Go.WideShapes Go.ChangeAt Go.RowKit Go.Deep Go.Joins
set_option linter.unusedVariables false
set_option maxRecDepth 100000
set_option linter.unusedSimpArgs false
/-- the parts of a row of bytes at each c -/
def partsL (c : UInt8) : List UInt8 → List (List UInt8)
  | [] => [[]]
  | b :: l => if b = c then [] :: partsL c l else match partsL c l with
    | p :: ps => (b :: p) :: ps
    | [] => [[b]]
theorem partsL_ne (c : UInt8) : ∀ l, partsL c l ≠ []
  | [] => by simp [partsL]
  | b :: l => by
    unfold partsL
    split
    · simp
    · split <;> simp
theorem partsL_hit {c b : UInt8} {l : List UInt8} (h : b = c) : partsL c (b :: l) = [] :: partsL c l := if_pos h
theorem partsL_miss {c b : UInt8} {l p : List UInt8} {ps : List (List UInt8)} (h : b ≠ c) (hp : partsL c l = p :: ps) : partsL c (b :: l) = (b :: p) :: ps := by
  unfold partsL
  rw [if_neg h, hp]
theorem partsL_none {c : UInt8} : ∀ {l : List UInt8}, c ∉ l → partsL c l = [l]
  | [], _ => rfl
  | b :: l, h => partsL_miss (fun e => h (by rw [e]; exact List.mem_cons_self ..)) (partsL_none fun q => h (List.mem_cons_of_mem _ q))
theorem partsL_cut {c : UInt8} : ∀ {l : List UInt8} (r : List UInt8), c ∉ l → partsL c (l ++ c :: r) = l :: partsL c r
  | [], r, _ => partsL_hit rfl
  | b :: l, r, h => partsL_miss (fun e => h (by rw [e]; exact List.mem_cons_self ..)) (partsL_cut r fun q => h (List.mem_cons_of_mem _ q))
theorem partsL_join (c : UInt8) : ∀ (a : List UInt8) (xs : List (List UInt8)), (∀ x ∈ a :: xs, c ∉ x) → partsL c (Lib.join (a :: xs) [c]) = a :: xs
  | a, [], h => by rw [Lib.join_one]; exact partsL_none (h a (List.mem_cons_self ..))
  | a, x :: xs, h => by
    have ih := partsL_join c x xs fun y hy => h y (List.mem_cons_of_mem _ hy)
    have e : Lib.join (a :: x :: xs) [c] = a ++ c :: Lib.join (x :: xs) [c] := by
      rw [Lib.join_cons, Lib.join_cons]
      simp [Lib.joinTail]
    rw [e, partsL_cut _ (h a (List.mem_cons_self ..)), ih]
theorem partsL_back (c : UInt8) : ∀ (l : List UInt8), Lib.join (partsL c l) [c] = l
  | [] => by rw [show partsL c [] = [[]] from rfl, Lib.join_one]
  | b :: l => by
    have ih := partsL_back c l
    match hp : partsL c l with
    | [] => exact absurd hp (partsL_ne c l)
    | p :: ps =>
      rw [hp] at ih
      by_cases h : b = c
      · rw [partsL_hit h, hp]
        have e : Lib.join ([] :: p :: ps) [c] = c :: Lib.join (p :: ps) [c] := by
          rw [Lib.join_cons, Lib.join_cons]
          simp [Lib.joinTail]
        rw [e, ih, h]
      · rw [partsL_miss h hp, Lib.join_cons]
        rw [Lib.join_cons] at ih
        rw [List.cons_append, ih]
theorem partsL_free {c : UInt8} : ∀ {l : List UInt8}, ∀ x ∈ partsL c l, c ∉ x
  | [], x, hx => by
    obtain rfl : x = [] := by simpa [partsL] using hx
    simp
  | b :: l, x, hx => by
    match hp : partsL c l with
    | [] => exact absurd hp (partsL_ne c l)
    | p :: ps =>
      have ih := fun y (hy : y ∈ p :: ps) => partsL_free (c := c) (l := l) y (by rw [hp]; exact hy)
      by_cases h : b = c
      · rw [partsL_hit h, hp] at hx
        rcases List.mem_cons.1 hx with rfl | hx
        · simp
        · exact ih x hx
      · rw [partsL_miss h hp] at hx
        rcases List.mem_cons.1 hx with rfl | hx
        · intro q
          rcases List.mem_cons.1 q with q | q
          · exact h q.symm
          · exact ih p (List.mem_cons_self ..) q
        · exact ih x (List.mem_cons_of_mem _ hx)
theorem partsL_len (c : UInt8) : ∀ (l : List UInt8), (partsL c l).length ≤ l.length + 1
  | [] => by simp [partsL]
  | b :: l => by
    have ih := partsL_len c l
    match hp : partsL c l with
    | [] => exact absurd hp (partsL_ne c l)
    | p :: ps =>
      rw [hp] at ih
      by_cases h : b = c
      · rw [partsL_hit h, hp]; simp at ih ⊢; omega
      · rw [partsL_miss h hp]; simp at ih ⊢; omega
/-- one byte more -/
theorem partsL_snoc {c b : UInt8} : ∀ {l : List UInt8} {o : List (List UInt8)} {p : List UInt8}, partsL c l = o ++ [p] → partsL c (l ++ [b]) = if b = c then o ++ [p] ++ [[]] else o ++ [p ++ [b]]
  | [], o, p, h => by
    have h' : [[]] = o ++ [p] := h
    match o, h' with
    | [], h' =>
      obtain rfl : p = [] := by simpa using h'.symm
      by_cases hb : b = c
      · rw [if_pos hb]; show partsL c [b] = _; rw [partsL_hit hb]; rfl
      · rw [if_neg hb]; show partsL c [b] = _; rw [partsL_miss hb (show partsL c [] = [] :: [] from rfl)]; rfl
    | x :: o, h' => simp at h'
  | a :: l, o, p, h => by
    match hp : partsL c l with
    | [] => exact absurd hp (partsL_ne c l)
    | q :: qs =>
      obtain ⟨o', p', e⟩ : ∃ o' p', q :: qs = o' ++ [p'] := ⟨_, _, (List.dropLast_concat_getLast (List.cons_ne_nil q qs)).symm⟩
      have ih := partsL_snoc (b := b) (hp.trans e)
      by_cases ha : a = c
      · rw [partsL_hit ha, hp, e] at h
        have h2 : ([] :: o') ++ [p'] = o ++ [p] := h
        obtain ⟨rfl, rfl⟩ : [] :: o' = o ∧ p' = p := by
          have := List.append_inj' h2 rfl
          exact ⟨this.1, by simpa using this.2⟩
        rw [List.cons_append, partsL_hit ha, ih]
        split <;> rfl
      · rw [partsL_miss ha hp] at h
        rw [List.cons_append]
        match o', e with
        | [], e =>
          obtain ⟨rfl, rfl⟩ : q = p' ∧ qs = [] := by simpa using e
          have h2 : ([] : List (List UInt8)) ++ [a :: q] = o ++ [p] := h
          obtain ⟨rfl, rfl⟩ : [] = o ∧ a :: q = p := by
            have := List.append_inj' h2 rfl
            exact ⟨this.1, by simpa using this.2⟩
          by_cases hb : b = c
          · rw [if_pos hb] at ih ⊢
            exact partsL_miss ha ih
          · rw [if_neg hb] at ih ⊢
            exact partsL_miss ha ih
        | x :: o', e =>
          obtain ⟨rfl, rfl⟩ : q = x ∧ qs = o' ++ [p'] := by simpa using e
          have h2 : ((a :: q) :: o') ++ [p'] = o ++ [p] := h
          obtain ⟨rfl, rfl⟩ : (a :: q) :: o' = o ∧ p' = p := by
            have := List.append_inj' h2 rfl
            exact ⟨this.1, by simpa using this.2⟩
          by_cases hb : b = c
          · rw [if_pos hb] at ih ⊢
            exact partsL_miss ha ih
          · rw [if_neg hb] at ih ⊢
            exact partsL_miss ha ih
theorem index_cons (b c : UInt8) (l : List UInt8) : Lib.index (b :: l) [c] = if b = c then 0 else if Lib.index l [c] = -1 then -1 else Lib.index l [c] + 1 := by
  simp only [Lib.index]
  by_cases h : b = c
  · subst h
    rw [if_pos rfl, if_pos (by simp)]
  · rw [if_neg h, if_neg (by simpa using fun q => h q.symm)]
    by_cases h2 : Lib.index l [c] = -1
    · rw [if_pos h2, if_pos (by rw [h2]; rfl)]
    · rw [if_neg h2, if_neg (by simpa using h2)]
theorem index_count {c : UInt8} : ∀ {l : List UInt8}, 0 < l.count c → Lib.index l [c] ≠ -1
  | [], h => by simp at h
  | b :: l, h => by
    rw [index_cons]
    by_cases hb : b = c
    · rw [if_pos hb]; decide
    · rw [if_neg hb]
      have hc : 0 < l.count c := by rwa [List.count_cons_of_ne (by simpa using hb)] at h
      have := index_count hc
      rw [if_neg this]
      have := Lib.index_ge l [c]
      omega
theorem splitK_parts (c : UInt8) : ∀ (l : List UInt8), Lib.splitK [c] 0 (l.count c) l = partsL c l
  | [] => rfl
  | b :: l => by
    have ih := splitK_parts c l
    by_cases h : b = c
    · subst h
      rw [List.count_cons_self, partsL_hit rfl, ← ih]
      simp only [Lib.splitK]
      rw [index_cons, if_pos rfl, if_neg (by decide)]
      simp
    · rw [List.count_cons_of_ne (by simpa using h)]
      match hk : l.count c with
      | 0 =>
        rw [hk] at ih
        have e : partsL c l = [l] := ih.symm
        rw [partsL_miss h e]; rfl
      | k + 1 =>
        rw [hk] at ih
        have hi := index_count (c := c) (l := l) (by omega)
        have hg := Lib.index_ge l [c]
        simp only [Lib.splitK] at ih ⊢
        rw [if_neg (by simpa using hi)] at ih
        rw [index_cons, if_neg h, if_neg hi, if_neg (by simp; omega)]
        rw [partsL_miss h ih.symm]
        have e1 : (Lib.index l [c] + 1).toNat = (Lib.index l [c]).toNat + 1 := by omega
        rw [e1]
        simp only [Nat.add_zero, List.take_succ_cons, List.length_cons, List.length_nil, Nat.zero_add, List.drop_succ_cons]
/-- the parts of a text -/
def partsS (c : UInt8) (s : ByteArray) : List ByteArray := (partsL c s.data.toList).map fun l => ⟨l.toArray⟩
theorem partsS_split (c : UInt8) (s : ByteArray) : Lib.splitB ⟨#[c]⟩ 0 (Lib.countB s ⟨#[c]⟩) s = partsS c s := by
  have h := Lib.splitB_data ⟨#[c]⟩ 0 (Lib.countB s ⟨#[c]⟩) s
  have e2 : Lib.countB s ⟨#[c]⟩ = s.data.toList.count c := by
    have := Lib.count_one c s.data.toList
    rw [← this]
  rw [e2] at h ⊢
  have e1 : (⟨#[c]⟩ : ByteArray).data.toList = [c] := rfl
  rw [e1, splitK_parts] at h
  unfold partsS
  rw [← h, List.map_map]
  conv => lhs; rw [← List.map_id (Lib.splitB ⟨#[c]⟩ 0 (s.data.toList.count c) s)]
  refine List.map_congr_left fun x _ => ?_
  cases x; rfl
theorem partsS_len (c : UInt8) (s : ByteArray) : 0 < (partsS c s).length ∧ (partsS c s).length ≤ s.size + 1 := by
  unfold partsS
  rw [List.length_map]
  have h1 := partsL_len c s.data.toList
  have h2 : (partsL c s.data.toList).length ≠ 0 := fun q => partsL_ne c _ (List.eq_nil_of_length_eq_zero q)
  have h3 : s.data.toList.length = s.size := by simp
  omega
theorem partsS_size {c : UInt8} {s : ByteArray} : ∀ x ∈ partsS c s, x.size ≤ s.size := by
  intro x hx
  obtain ⟨l, hl, rfl⟩ := List.mem_map.1 hx
  have : ∀ (m : List UInt8), ∀ y ∈ partsL c m, y.length ≤ m.length := by
    intro m
    induction m with
    | nil => intro y hy; obtain rfl : y = [] := by simpa [partsL] using hy
             simp
    | cons b m ih =>
      intro y hy
      match hp : partsL c m with
      | [] => exact absurd hp (partsL_ne c m)
      | p :: ps =>
        rw [hp] at ih
        by_cases h : b = c
        · rw [partsL_hit h, hp] at hy
          rcases List.mem_cons.1 hy with rfl | hy
          · simp
          · have := ih y hy; simp; omega
        · rw [partsL_miss h hp] at hy
          rcases List.mem_cons.1 hy with rfl | hy
          · have := ih p (List.mem_cons_self ..); simp; omega
          · have := ih y (List.mem_cons_of_mem _ hy); simp; omega
  have h1 := this _ l hl
  have h2 : s.data.toList.length = s.size := by simp
  show (⟨l.toArray⟩ : ByteArray).size ≤ s.size
  have h3 : (⟨l.toArray⟩ : ByteArray).size = l.length := by show l.toArray.size = _; simp
  omega
/-- joined again -/
theorem partsS_join (c : UInt8) (s : ByteArray) : joinT c (partsS c s) = s := by
  unfold joinT partsS
  rw [List.map_map]
  have e : ((fun x : ByteArray => x.data.toList) ∘ fun l : List UInt8 => (⟨l.toArray⟩ : ByteArray)) = id := by funext l; simp
  rw [e, List.map_id, partsL_back]
/-- what was joined comes apart again -/
theorem parts_joinT (c : UInt8) (xs : List ByteArray) (h0 : xs ≠ []) (h : ∀ x ∈ xs, c ∉ x.data.toList) : partsS c (joinT c xs) = xs := by
  match xs, h0 with
  | a :: r, _ =>
    unfold partsS joinT
    have e : (⟨(Lib.join ((a :: r).map (·.data.toList)) [c]).toArray⟩ : ByteArray).data.toList = Lib.join (a.data.toList :: r.map (·.data.toList)) [c] := by simp
    rw [e, partsL_join c _ _ (fun x hx => by
      rw [← List.map_cons (f := fun x : ByteArray => x.data.toList)] at hx
      obtain ⟨y, hy, rfl⟩ := List.mem_map.1 hx
      exact h y hy), ← List.map_cons (f := fun x : ByteArray => x.data.toList), List.map_map]
    conv => rhs; rw [← List.map_id (a :: r)]
    refine List.map_congr_left fun x _ => ?_
    cases x; simp
end Go.Proofs.YtockglfoeagahaaGreatDoor
