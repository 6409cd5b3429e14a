/- Contracts and plain facts, joined: Join, PartsL, NumT, FreeT, Hertz, HertzL. -/
import Derived.Test.YtklgkbiobggbiaaGreatDoorRows
import Derived.Test.YtklgkbiobggbiaaGreatDoorZFnMeasuresD
import Derived.Shelf.Strings.OnBuilder
import Derived.Lib.Split
import Derived.Lib.SplitLaws
import Derived.Lib.IndexMore
import Derived.Shelf.Strings.Repeat
namespace Go.Proofs.YtklgkbiobggbiaaGreatDoor
open Go.ChangeShapes Go.WideShapes Go.ChangeAt Go.RowKit Go.Deep Go.Joins
set_option linter.unusedVariables false
set_option maxRecDepth 100000
set_option linter.unusedSimpArgs false
def joinT (c : UInt8) (xs : List ByteArray) : ByteArray := ⟨(Lib.join (xs.map (·.data.toList)) [c]).toArray⟩
theorem ba_ext {a b : ByteArray} (h : a.data = b.data) : a = b := by cases a; cases b; cases h; rfl
theorem ba_nil (x : ByteArray) : (⟨#[]⟩ : ByteArray) ++ x = x := ba_ext (by rw [ByteArray.data_append]; simp)
theorem joinTail_snoc (s : List UInt8) (r : List (List UInt8)) (x : List UInt8) : Lib.joinTail s (r ++ [x]) = Lib.joinTail s r ++ (s ++ x) := by
  unfold Lib.joinTail; simp
theorem joinT_one (c : UInt8) (x : ByteArray) : joinT c [x] = x := by
  unfold joinT
  refine ba_ext ?_
  simp only [List.map_cons, List.map_nil, Lib.join_one, Array.toArray_toList]
theorem joinT_snoc (c : UInt8) (a : ByteArray) (r : List ByteArray) (x : ByteArray) : joinT c ((a :: r) ++ [x]) = joinT c (a :: r) ++ ⟨#[c]⟩ ++ x := by
  unfold joinT
  refine ba_ext ?_
  rw [ByteArray.data_append, ByteArray.data_append]
  simp only [List.map_cons, List.map_append, List.map_nil, List.cons_append, Lib.join_cons, joinTail_snoc]
  simp
theorem joinT_take0 (c : UInt8) (xs : List ByteArray) (h : 0 < xs.length) : joinT c (xs.take 1) = xs[0] := by
  rw [List.take_succ_eq_append_getElem h]
  exact joinT_one c xs[0]
theorem joinT_take (c : UInt8) (xs : List ByteArray) (k : Nat) (h0 : 0 < k) (h : k < xs.length) : joinT c (xs.take (k + 1)) = joinT c (xs.take k) ++ ⟨#[c]⟩ ++ xs[k] := by
  rw [List.take_succ_eq_append_getElem h]
  match hx : xs.take k with
  | [] => have := congrArg List.length hx; rw [List.length_take, List.length_nil] at this; omega
  | a :: r => exact joinT_snoc c a r xs[k]
theorem joinTail_len (s : List UInt8) (m : Nat) : ∀ r : List (List UInt8), (∀ x ∈ r, x.length ≤ m) → (Lib.joinTail s r).length ≤ (s.length + m) * r.length
  | [], _ => by simp [Lib.joinTail]
  | x :: r, h => by
    have ih := joinTail_len s m r (fun y hy => h y (List.mem_cons_of_mem _ hy))
    have hx := h x (List.mem_cons_self ..)
    unfold Lib.joinTail at ih ⊢
    simp only [List.map_cons, List.flatten_cons, List.length_append, List.length_cons]
    rw [Nat.mul_succ]
    omega
theorem joinT_size (c : UInt8) (m : Nat) (xs : List ByteArray) (h : ∀ x ∈ xs, x.size ≤ m) : (joinT c xs).size ≤ (1 + m) * xs.length := by
  have e : (joinT c xs).size = (Lib.join (xs.map (·.data.toList)) [c]).length := by unfold joinT ByteArray.size; simp
  rw [e]
  cases xs with
  | nil => simp [Lib.join, List.intercalate]
  | cons a r =>
    rw [List.map_cons, Lib.join_cons, List.length_append]
    have h1 := joinTail_len [c] m (r.map (·.data.toList)) (fun y hy => by
      obtain ⟨x, hx, rfl⟩ := List.mem_map.1 hy
      exact h x (List.mem_cons_of_mem _ hx))
    have h2 : a.data.toList.length ≤ m := h a (List.mem_cons_self ..)
    rw [List.length_map] at h1
    simp only [List.length_cons, List.length_nil, Nat.zero_add] at h1 ⊢
    rw [Nat.mul_succ]
    omega
theorem joinT_size_take (c : UInt8) (m : Nat) (xs : List ByteArray) (h : ∀ x ∈ xs, x.size ≤ m) (k : Nat) (hk : k ≤ xs.length) : (joinT c (xs.take k)).size ≤ (1 + m) * k := by
  have := joinT_size c m (xs.take k) (fun x hx => h x (List.mem_of_mem_take hx))
  rw [List.length_take, Nat.min_eq_left hk] at this
  exact this
def Tryz.layJoin_ren : Go.Shelf.Ren := ⟨fun | 156 => 67 | 165 => 117 | 166 => 118 | 169 => 119 | 240 => 158 | 241 => 159 | 276 => 200 | 277 => 201 | n => n, fun | 31 => 37 | 9 => 9 | 3 => 3 | 4 => 4 | 0 => 0 | 20 => 20 | 72 => 141 | 76 => 143 | 70 => 139 | 37 => 22 | 75 => 136 | 127 => 169 | 164 => 202 | 5 => 5 | 80 => 145 | n => n, fun | n => n⟩
theorem Tryz.layJoin : Go.Proofs.Lays.n156 Tryz.prog Tryz.layJoin_ren := {
  mixed := by kernel_rfl
  f156 := Tryz.func67.trans (congrArg some (by kernel_rfl))
  f165 := Tryz.func117.trans (congrArg some (by kernel_rfl))
  f166 := Tryz.func118.trans (congrArg some (by kernel_rfl))
  f169 := Tryz.func119.trans (congrArg some (by kernel_rfl))
  f240 := Tryz.func158.trans (congrArg some (by kernel_rfl))
  f241 := Tryz.func159.trans (congrArg some (by kernel_rfl))
  f276 := Tryz.func200.trans (congrArg some (by kernel_rfl))
  f277 := Tryz.func201.trans (congrArg some (by kernel_rfl))
  t0 := Tryz.underlying0
  a0 := Tryz.isAgg0
  z0 := Tryz.sizeOf0
  v0 := Tryz.zeroValue0
  t3 := Tryz.underlying3
  a3 := Tryz.isAgg3
  z3 := Tryz.sizeOf3
  v3 := Tryz.zeroValue3
  t4 := Tryz.underlying4
  a4 := Tryz.isAgg4
  z4 := Tryz.sizeOf4
  v4 := Tryz.zeroValue4
  t9 := Tryz.underlying9
  a9 := Tryz.isAgg9
  z9 := Tryz.sizeOf9
  v9 := Tryz.zeroValue9
  t20 := Tryz.underlying20
  a20 := Tryz.isAgg20
  z20 := Tryz.sizeOf20
  v20 := Tryz.zeroValue20
  t31 := Tryz.underlying37
  a31 := Tryz.isAgg37
  z31 := Tryz.sizeOf37
  v31 := Tryz.zeroValue37
  t37 := Tryz.underlying22
  a37 := Tryz.isAgg22
  z37 := Tryz.sizeOf22
  v37 := Tryz.zeroValue22
  t70 := Tryz.underlying139
  a70 := Tryz.isAgg139
  z70 := Tryz.sizeOf139
  v70 := Tryz.zeroValue139
  t72 := Tryz.underlying141
  a72 := Tryz.isAgg141
  z72 := Tryz.sizeOf141
  v72 := Tryz.zeroValue141
  t75 := Tryz.underlying136
  a75 := Tryz.isAgg136
  z75 := Tryz.sizeOf136
  v75 := Tryz.zeroValue136
  t76 := Tryz.underlying143
  a76 := Tryz.isAgg143
  z76 := Tryz.sizeOf143
  v76 := Tryz.zeroValue143
  t127 := Tryz.underlying169
  a127 := Tryz.isAgg169
  z127 := Tryz.sizeOf169
  v127 := Tryz.zeroValue169
  t164 := Tryz.underlying202
  a164 := Tryz.isAgg202
  z164 := Tryz.sizeOf202
  v164 := Tryz.zeroValue202 }
open Go.Shelf in
theorem extraJoin : Builder.Extra Tryz.prog Tryz.layJoin_ren where
  sizeBuilder := by kernel_rfl
  liesBuilder := by kernel_rfl
  t5 := Tryz.fmtInt.t5
  a5 := Tryz.fmtInt.a5
  z5 := Tryz.fmtInt.z5
  v5 := Tryz.fmtInt.v5
  infoByte := by kernel_rfl
  cellsByte := by kernel_rfl
  sizeByte := by kernel_rfl
  neB5 := by decide
theorem impl_join (c : UInt8) (w : World) (v : Value) (xs : List ByteArray) (h : Rd w.heap.size w v 1 xs.length (xs.flatMap putStr)) (h0 : 0 < xs.length) (hn : xs.length ≤ 1048576) (m : Nat) (hm : m ≤ 1000) (hs : ∀ x ∈ xs, x.size ≤ m) :
    Calls Tryz.prog 67 #[v, .string ⟨#[c]⟩] w fun e w' => e = .returned (.string (joinT c xs)) ∧ Below w.heap.size w w' := by
  obtain ⟨hL, ao, cap, rfl, hcap, hmax, hnil, hsome⟩ := h
  obtain ⟨b, off, rfl, hb, hc⟩ := hsome h0
  refine Any.strings_Join Tryz.layJoin extraJoin b off cap xs ⟨#[c]⟩ w (fun j x hx => ?_) hb (by omega) hcap ?_
  · have hj := (List.getElem?_eq_some_iff.1 hx).1
    rw [hc j (by omega), putStr_get xs j hj]
    have := (List.getElem?_eq_some_iff.1 hx).2
    rw [this]
  · have h1 := joinT_size c m xs hs
    have e : (joinT c xs).size = (Lib.join (xs.map (·.data.toList)) [c]).length := by unfold joinT ByteArray.size; simp
    have h2 : (1 + m) * xs.length ≤ 1001 * 1048576 := Nat.mul_le_mul (by omega) hn
    have e2 : (⟨#[c]⟩ : ByteArray).data.toList = [c] := rfl
    rw [e2]
    omega
end Go.Proofs.YtklgkbiobggbiaaGreatDoor
namespace Go.Proofs.YtklgkbiobggbiaaGreatDoor
open Go.ChangeShapes Go.WideShapes Go.ChangeAt Go.RowKit Go.Deep Go.Joins
set_option linter.unusedVariables false
set_option maxRecDepth 100000
set_option linter.unusedSimpArgs false
/-- the parts of a row of bytes at each c -/
def partsL (c : UInt8) : List UInt8 → List (List UInt8)
  | [] => [[]]
  | b :: l => if b = c then [] :: partsL c l else match partsL c l with
    | p :: ps => (b :: p) :: ps
    | [] => [[b]]
theorem partsL_ne (c : UInt8) : ∀ l, partsL c l ≠ []
  | [] => by simp [partsL]
  | b :: l => by
    unfold partsL
    split
    · simp
    · split <;> simp
theorem partsL_hit {c b : UInt8} {l : List UInt8} (h : b = c) : partsL c (b :: l) = [] :: partsL c l := if_pos h
theorem partsL_miss {c b : UInt8} {l p : List UInt8} {ps : List (List UInt8)} (h : b ≠ c) (hp : partsL c l = p :: ps) : partsL c (b :: l) = (b :: p) :: ps := by
  unfold partsL
  rw [if_neg h, hp]
theorem partsL_none {c : UInt8} : ∀ {l : List UInt8}, c ∉ l → partsL c l = [l]
  | [], _ => rfl
  | b :: l, h => partsL_miss (fun e => h (by rw [e]; exact List.mem_cons_self ..)) (partsL_none fun q => h (List.mem_cons_of_mem _ q))
theorem partsL_cut {c : UInt8} : ∀ {l : List UInt8} (r : List UInt8), c ∉ l → partsL c (l ++ c :: r) = l :: partsL c r
  | [], r, _ => partsL_hit rfl
  | b :: l, r, h => partsL_miss (fun e => h (by rw [e]; exact List.mem_cons_self ..)) (partsL_cut r fun q => h (List.mem_cons_of_mem _ q))
theorem partsL_join (c : UInt8) : ∀ (a : List UInt8) (xs : List (List UInt8)), (∀ x ∈ a :: xs, c ∉ x) → partsL c (Lib.join (a :: xs) [c]) = a :: xs
  | a, [], h => by rw [Lib.join_one]; exact partsL_none (h a (List.mem_cons_self ..))
  | a, x :: xs, h => by
    have ih := partsL_join c x xs fun y hy => h y (List.mem_cons_of_mem _ hy)
    have e : Lib.join (a :: x :: xs) [c] = a ++ c :: Lib.join (x :: xs) [c] := by
      rw [Lib.join_cons, Lib.join_cons]
      simp [Lib.joinTail]
    rw [e, partsL_cut _ (h a (List.mem_cons_self ..)), ih]
theorem partsL_back (c : UInt8) : ∀ (l : List UInt8), Lib.join (partsL c l) [c] = l
  | [] => by rw [show partsL c [] = [[]] from rfl, Lib.join_one]
  | b :: l => by
    have ih := partsL_back c l
    match hp : partsL c l with
    | [] => exact absurd hp (partsL_ne c l)
    | p :: ps =>
      rw [hp] at ih
      by_cases h : b = c
      · rw [partsL_hit h, hp]
        have e : Lib.join ([] :: p :: ps) [c] = c :: Lib.join (p :: ps) [c] := by
          rw [Lib.join_cons, Lib.join_cons]
          simp [Lib.joinTail]
        rw [e, ih, h]
      · rw [partsL_miss h hp, Lib.join_cons]
        rw [Lib.join_cons] at ih
        rw [List.cons_append, ih]
theorem partsL_free {c : UInt8} : ∀ {l : List UInt8}, ∀ x ∈ partsL c l, c ∉ x
  | [], x, hx => by
    obtain rfl : x = [] := by simpa [partsL] using hx
    simp
  | b :: l, x, hx => by
    match hp : partsL c l with
    | [] => exact absurd hp (partsL_ne c l)
    | p :: ps =>
      have ih := fun y (hy : y ∈ p :: ps) => partsL_free (c := c) (l := l) y (by rw [hp]; exact hy)
      by_cases h : b = c
      · rw [partsL_hit h, hp] at hx
        rcases List.mem_cons.1 hx with rfl | hx
        · simp
        · exact ih x hx
      · rw [partsL_miss h hp] at hx
        rcases List.mem_cons.1 hx with rfl | hx
        · intro q
          rcases List.mem_cons.1 q with q | q
          · exact h q.symm
          · exact ih p (List.mem_cons_self ..) q
        · exact ih x (List.mem_cons_of_mem _ hx)
theorem partsL_len (c : UInt8) : ∀ (l : List UInt8), (partsL c l).length ≤ l.length + 1
  | [] => by simp [partsL]
  | b :: l => by
    have ih := partsL_len c l
    match hp : partsL c l with
    | [] => exact absurd hp (partsL_ne c l)
    | p :: ps =>
      rw [hp] at ih
      by_cases h : b = c
      · rw [partsL_hit h, hp]; simp at ih ⊢; omega
      · rw [partsL_miss h hp]; simp at ih ⊢; omega
/-- one byte more -/
theorem partsL_snoc {c b : UInt8} : ∀ {l : List UInt8} {o : List (List UInt8)} {p : List UInt8}, partsL c l = o ++ [p] → partsL c (l ++ [b]) = if b = c then o ++ [p] ++ [[]] else o ++ [p ++ [b]]
  | [], o, p, h => by
    have h' : [[]] = o ++ [p] := h
    match o, h' with
    | [], h' =>
      obtain rfl : p = [] := by simpa using h'.symm
      by_cases hb : b = c
      · rw [if_pos hb]; show partsL c [b] = _; rw [partsL_hit hb]; rfl
      · rw [if_neg hb]; show partsL c [b] = _; rw [partsL_miss hb (show partsL c [] = [] :: [] from rfl)]; rfl
    | x :: o, h' => simp at h'
  | a :: l, o, p, h => by
    match hp : partsL c l with
    | [] => exact absurd hp (partsL_ne c l)
    | q :: qs =>
      obtain ⟨o', p', e⟩ : ∃ o' p', q :: qs = o' ++ [p'] := ⟨_, _, (List.dropLast_concat_getLast (List.cons_ne_nil q qs)).symm⟩
      have ih := partsL_snoc (b := b) (hp.trans e)
      by_cases ha : a = c
      · rw [partsL_hit ha, hp, e] at h
        have h2 : ([] :: o') ++ [p'] = o ++ [p] := h
        obtain ⟨rfl, rfl⟩ : [] :: o' = o ∧ p' = p := by
          have := List.append_inj' h2 rfl
          exact ⟨this.1, by simpa using this.2⟩
        rw [List.cons_append, partsL_hit ha, ih]
        split <;> rfl
      · rw [partsL_miss ha hp] at h
        rw [List.cons_append]
        match o', e with
        | [], e =>
          obtain ⟨rfl, rfl⟩ : q = p' ∧ qs = [] := by simpa using e
          have h2 : ([] : List (List UInt8)) ++ [a :: q] = o ++ [p] := h
          obtain ⟨rfl, rfl⟩ : [] = o ∧ a :: q = p := by
            have := List.append_inj' h2 rfl
            exact ⟨this.1, by simpa using this.2⟩
          by_cases hb : b = c
          · rw [if_pos hb] at ih ⊢
            exact partsL_miss ha ih
          · rw [if_neg hb] at ih ⊢
            exact partsL_miss ha ih
        | x :: o', e =>
          obtain ⟨rfl, rfl⟩ : q = x ∧ qs = o' ++ [p'] := by simpa using e
          have h2 : ((a :: q) :: o') ++ [p'] = o ++ [p] := h
          obtain ⟨rfl, rfl⟩ : (a :: q) :: o' = o ∧ p' = p := by
            have := List.append_inj' h2 rfl
            exact ⟨this.1, by simpa using this.2⟩
          by_cases hb : b = c
          · rw [if_pos hb] at ih ⊢
            exact partsL_miss ha ih
          · rw [if_neg hb] at ih ⊢
            exact partsL_miss ha ih
theorem index_cons (b c : UInt8) (l : List UInt8) : Lib.index (b :: l) [c] = if b = c then 0 else if Lib.index l [c] = -1 then -1 else Lib.index l [c] + 1 := by
  simp only [Lib.index]
  by_cases h : b = c
  · subst h
    rw [if_pos rfl, if_pos (by simp)]
  · rw [if_neg h, if_neg (by simpa using fun q => h q.symm)]
    by_cases h2 : Lib.index l [c] = -1
    · rw [if_pos h2, if_pos (by rw [h2]; rfl)]
    · rw [if_neg h2, if_neg (by simpa using h2)]
theorem index_count {c : UInt8} : ∀ {l : List UInt8}, 0 < l.count c → Lib.index l [c] ≠ -1
  | [], h => by simp at h
  | b :: l, h => by
    rw [index_cons]
    by_cases hb : b = c
    · rw [if_pos hb]; decide
    · rw [if_neg hb]
      have hc : 0 < l.count c := by rwa [List.count_cons_of_ne (by simpa using hb)] at h
      have := index_count hc
      rw [if_neg this]
      have := Lib.index_ge l [c]
      omega
theorem splitK_parts (c : UInt8) : ∀ (l : List UInt8), Lib.splitK [c] 0 (l.count c) l = partsL c l
  | [] => rfl
  | b :: l => by
    have ih := splitK_parts c l
    by_cases h : b = c
    · subst h
      rw [List.count_cons_self, partsL_hit rfl, ← ih]
      simp only [Lib.splitK]
      rw [index_cons, if_pos rfl, if_neg (by decide)]
      simp
    · rw [List.count_cons_of_ne (by simpa using h)]
      match hk : l.count c with
      | 0 =>
        rw [hk] at ih
        have e : partsL c l = [l] := ih.symm
        rw [partsL_miss h e]; rfl
      | k + 1 =>
        rw [hk] at ih
        have hi := index_count (c := c) (l := l) (by omega)
        have hg := Lib.index_ge l [c]
        simp only [Lib.splitK] at ih ⊢
        rw [if_neg (by simpa using hi)] at ih
        rw [index_cons, if_neg h, if_neg hi, if_neg (by simp; omega)]
        rw [partsL_miss h ih.symm]
        have e1 : (Lib.index l [c] + 1).toNat = (Lib.index l [c]).toNat + 1 := by omega
        rw [e1]
        simp only [Nat.add_zero, List.take_succ_cons, List.length_cons, List.length_nil, Nat.zero_add, List.drop_succ_cons]
/-- the parts of a text -/
def partsS (c : UInt8) (s : ByteArray) : List ByteArray := (partsL c s.data.toList).map fun l => ⟨l.toArray⟩
theorem partsS_split (c : UInt8) (s : ByteArray) : Lib.splitB ⟨#[c]⟩ 0 (Lib.countB s ⟨#[c]⟩) s = partsS c s := by
  have h := Lib.splitB_data ⟨#[c]⟩ 0 (Lib.countB s ⟨#[c]⟩) s
  have e2 : Lib.countB s ⟨#[c]⟩ = s.data.toList.count c := by
    have := Lib.count_one c s.data.toList
    rw [← this]
  rw [e2] at h ⊢
  have e1 : (⟨#[c]⟩ : ByteArray).data.toList = [c] := rfl
  rw [e1, splitK_parts] at h
  unfold partsS
  rw [← h, List.map_map]
  conv => lhs; rw [← List.map_id (Lib.splitB ⟨#[c]⟩ 0 (s.data.toList.count c) s)]
  refine List.map_congr_left fun x _ => ?_
  cases x; rfl
theorem partsS_len (c : UInt8) (s : ByteArray) : 0 < (partsS c s).length ∧ (partsS c s).length ≤ s.size + 1 := by
  unfold partsS
  rw [List.length_map]
  have h1 := partsL_len c s.data.toList
  have h2 : (partsL c s.data.toList).length ≠ 0 := fun q => partsL_ne c _ (List.eq_nil_of_length_eq_zero q)
  have h3 : s.data.toList.length = s.size := by simp
  omega
theorem partsS_size {c : UInt8} {s : ByteArray} : ∀ x ∈ partsS c s, x.size ≤ s.size := by
  intro x hx
  obtain ⟨l, hl, rfl⟩ := List.mem_map.1 hx
  have : ∀ (m : List UInt8), ∀ y ∈ partsL c m, y.length ≤ m.length := by
    intro m
    induction m with
    | nil => intro y hy; obtain rfl : y = [] := by simpa [partsL] using hy
             simp
    | cons b m ih =>
      intro y hy
      match hp : partsL c m with
      | [] => exact absurd hp (partsL_ne c m)
      | p :: ps =>
        rw [hp] at ih
        by_cases h : b = c
        · rw [partsL_hit h, hp] at hy
          rcases List.mem_cons.1 hy with rfl | hy
          · simp
          · have := ih y hy; simp; omega
        · rw [partsL_miss h hp] at hy
          rcases List.mem_cons.1 hy with rfl | hy
          · have := ih p (List.mem_cons_self ..); simp; omega
          · have := ih y (List.mem_cons_of_mem _ hy); simp; omega
  have h1 := this _ l hl
  have h2 : s.data.toList.length = s.size := by simp
  show (⟨l.toArray⟩ : ByteArray).size ≤ s.size
  have h3 : (⟨l.toArray⟩ : ByteArray).size = l.length := by show l.toArray.size = _; simp
  omega
/-- joined again -/
theorem partsS_join (c : UInt8) (s : ByteArray) : joinT c (partsS c s) = s := by
  unfold joinT partsS
  rw [List.map_map]
  have e : ((fun x : ByteArray => x.data.toList) ∘ fun l : List UInt8 => (⟨l.toArray⟩ : ByteArray)) = id := by funext l; simp
  rw [e, List.map_id, partsL_back]
/-- what was joined comes apart again -/
theorem parts_joinT (c : UInt8) (xs : List ByteArray) (h0 : xs ≠ []) (h : ∀ x ∈ xs, c ∉ x.data.toList) : partsS c (joinT c xs) = xs := by
  match xs, h0 with
  | a :: r, _ =>
    unfold partsS joinT
    have e : (⟨(Lib.join ((a :: r).map (·.data.toList)) [c]).toArray⟩ : ByteArray).data.toList = Lib.join (a.data.toList :: r.map (·.data.toList)) [c] := by simp
    rw [e, partsL_join c _ _ (fun x hx => by
      rw [← List.map_cons (f := fun x : ByteArray => x.data.toList)] at hx
      obtain ⟨y, hy, rfl⟩ := List.mem_map.1 hx
      exact h y hy), ← List.map_cons (f := fun x : ByteArray => x.data.toList), List.map_map]
    conv => rhs; rw [← List.map_id (a :: r)]
    refine List.map_congr_left fun x _ => ?_
    cases x; simp
end Go.Proofs.YtklgkbiobggbiaaGreatDoor
namespace Go.Proofs.YtklgkbiobggbiaaGreatDoor
open Go.ChangeShapes Go.WideShapes Go.ChangeAt Go.RowKit Go.Deep Go.Joins
set_option linter.unusedVariables false
set_option maxRecDepth 100000
set_option linter.unusedSimpArgs false
theorem num_text {s : ByteArray} {v : Int} (h : numS s = some v) : decT v = s ∧ (-1000000000000000000 < v ∧ v < 1000000000000000000) := by
  by_cases hb : badN s
  · rw [numS_bad hb] at h; cases h
  · have h1 : ¬ s.size ≤ atN s := fun q => hb (.inl q)
    have h2 : ¬ 18 < s.size - atN s := fun q => hb (.inr (.inl q))
    rcases parse_num (s := s) (by omega) (by omega) with ⟨v', _, hbd, ⟨h3, h4⟩ | ⟨_, h4⟩⟩ | ⟨_, h4⟩
    · rw [h] at h4
      obtain rfl : v = v' := by simpa using h4
      exact ⟨h3, hbd⟩
    · rw [h] at h4; cases h4
    · rw [h] at h4; cases h4
theorem decFrom_digits : ∀ (u : Nat), Lib.decFrom 0 (Lib.decDigits u) = some u := by
  intro u
  induction u using Nat.strongRecOn with
  | _ u ih =>
    have hd : ∀ d, d < 10 → Lib.digitVal (UInt8.ofNat (48 + d)) = some d := fun d h => by
      unfold Lib.digitVal
      rw [UInt8.toNat_ofNat_of_lt' (by show 48 + d < 256; omega), if_pos ⟨by omega, by omega⟩]
      congr 1; omega
    by_cases h : u < 10
    · rw [Lib.decDigits, dif_pos h]
      simp only [Lib.decFrom, hd u h]
      simp
    · rw [Lib.decDigits, dif_neg h, decFrom_snoc, ih (u / 10) (by omega), Option.bind_some, hd (u % 10) (by omega)]
      simp only [Option.map_some]
      congr 1; omega
theorem nDigits_le : ∀ (k u : Nat), u < 10 ^ (k + 1) → Lib.nDigits u ≤ k + 1
  | 0, u, h => by rw [Lib.nDigits_small (by simpa using h)]; exact Nat.le_refl _
  | k + 1, u, h => by
    by_cases h10 : u < 10
    · rw [Lib.nDigits_small h10]; omega
    · rw [Lib.nDigits_big h10]
      have := nDigits_le k (u / 10) (by rw [Nat.pow_succ] at h; omega)
      omega
theorem digits_mem : ∀ (u : Nat), ∀ c ∈ Lib.decDigits u, 48 ≤ c.toNat ∧ c.toNat ≤ 57 := by
  intro u
  induction u using Nat.strongRecOn with
  | _ u ih =>
    have hd : ∀ d, d < 10 → 48 ≤ (UInt8.ofNat (48 + d)).toNat ∧ (UInt8.ofNat (48 + d)).toNat ≤ 57 := fun d h => by
      rw [UInt8.toNat_ofNat_of_lt' (by show 48 + d < 256; omega)]; omega
    intro c hc
    by_cases h : u < 10
    · rw [Lib.decDigits, dif_pos h] at hc
      obtain rfl : c = UInt8.ofNat (48 + u) := by simpa using hc
      exact hd u h
    · rw [Lib.decDigits, dif_neg h] at hc
      rcases List.mem_append.1 hc with hc | hc
      · exact ih (u / 10) (by omega) c hc
      · obtain rfl : c = UInt8.ofNat (48 + u % 10) := by simpa using hc
        exact hd _ (by omega)
theorem itoa_mem (n : Int) : ∀ c ∈ Lib.itoa n, c = 45 ∨ (48 ≤ c.toNat ∧ c.toNat ≤ 57) := by
  intro c hc
  unfold Lib.itoa at hc
  split at hc
  · rcases List.mem_cons.1 hc with rfl | hc
    · exact .inl rfl
    · exact .inr (digits_mem _ c hc)
  · exact .inr (digits_mem _ c hc)
theorem decT_free {n : Int} {c : UInt8} (h1 : c ≠ 45) (h2 : ¬ (48 ≤ c.toNat ∧ c.toNat ≤ 57)) : c ∉ (decT n).data.toList := by
  intro hc
  have hc' : c ∈ Lib.itoa n := by simpa [decT] using hc
  exact (itoa_mem n c hc').elim h1 h2
/-- the number of a decimal text -/
theorem num_decT {n : Int} (h1 : -1000000000000000000 < n) (h2 : n < 1000000000000000000) : numS (decT n) = some n := by
  have hl : (decT n).data.toList = Lib.itoa n := by simp [decT]
  have hs : (decT n).size = (Lib.itoa n).length := by rw [← hl]; simp
  by_cases hn : n < 0
  · obtain ⟨u, rfl⟩ : ∃ u : Nat, n = -(u : Int) := ⟨n.natAbs, by omega⟩
    have e := itoa_neg' (u := u) (by omega)
    have ha : atN (decT (-(u : Int))) = 1 := by unfold atN; rw [hl, e]; rfl
    have hd : (decT (-(u : Int))).data.toList.drop (atN (decT (-(u : Int)))) = Lib.decDigits u := by rw [ha, hl, e]; rfl
    have hdl := Lib.decDigits_length u
    have h3 := nDigits_le 17 u (by omega)
    have h4 := Lib.nDigits_pos u
    rw [e, List.length_cons] at hs
    have := numS_ok (s := decT (-(u : Int))) (u := u) (fun q => by
      rcases q with q | q | q
      · omega
      · omega
      · rw [hd] at q; exact decDigits_head u (by omega) q.1) (by rw [hd]; exact decFrom_digits u)
    rw [this, if_pos ha]
  · obtain ⟨u, rfl⟩ : ∃ u : Nat, n = (u : Int) := ⟨n.toNat, by omega⟩
    have e := itoa_nonneg' u
    have ha : atN (decT (u : Int)) = 0 := by
      unfold atN
      rw [hl, e, if_neg]
      intro q
      obtain ⟨c, q1, q2, q3⟩ := decDigits_hd u
      rw [q1] at q
      obtain rfl : c = 45 := by simpa using q
      have e45 : (45 : UInt8).toNat = 45 := rfl
      omega
    have hd : (decT (u : Int)).data.toList.drop (atN (decT (u : Int))) = Lib.decDigits u := by rw [ha, hl, e]; rfl
    have hdl := Lib.decDigits_length u
    have h3 := nDigits_le 17 u (by omega)
    have h4 := Lib.nDigits_pos u
    rw [e] at hs
    have hne : Lib.decDigits u ≠ [] := fun q => by rw [q] at hdl; simp at hdl; omega
    have := numS_ok (s := decT (u : Int)) (u := u) (fun q => by
      rcases q with q | q | q
      · omega
      · omega
      · rw [hd] at q
        exact (canon_iff hne (decFrom_digits u)).1 rfl ⟨q.1, by omega⟩) (by rw [hd]; exact decFrom_digits u)
    rw [this, if_neg (by omega)]
theorem num_iff {s : ByteArray} {v : Int} (h1 : -1000000000000000000 < v) (h2 : v < 1000000000000000000) : numS s = some v ↔ decT v = s :=
  ⟨fun h => (num_text h).1, fun h => by rw [← h]; exact num_decT h1 h2⟩
theorem numV_bd (s : ByteArray) : -1000000000000000000 < numV s ∧ numV s < 1000000000000000000 := by
  cases h : numS s with
  | none => rw [(num_none h).1]; decide
  | some v => rw [(num_some h).1]; exact (num_text h).2
/-- what is cut at the first c -/
theorem index_at {c : UInt8} : ∀ {a : List UInt8} (r : List UInt8), c ∉ a → Lib.index (a ++ c :: r) [c] = a.length
  | [], r, _ => by rw [List.nil_append, index_cons, if_pos rfl]; rfl
  | b :: a, r, h => by
    rw [List.cons_append, index_cons, if_neg (fun e => h (by rw [e]; exact List.mem_cons_self ..)), index_at r fun q => h (List.mem_cons_of_mem _ q), if_neg (by omega)]
    simp
theorem cut_two {c : UInt8} {a r : List UInt8} (h : c ∉ a) : Lib.cut (a ++ c :: r) [c] = (a, r, true) := by
  unfold Lib.cut
  rw [index_at r h, if_pos (by omega)]
  have e : (a.length : Int).toNat = a.length := by omega
  rw [e, List.take_left]
  simp
def cutA (c : UInt8) (w : ByteArray) : ByteArray := ⟨(Lib.cut w.data.toList [c]).1.toArray⟩
def cutB (c : UInt8) (w : ByteArray) : ByteArray := ⟨(Lib.cut w.data.toList [c]).2.1.toArray⟩
def cutF (c : UInt8) (w : ByteArray) : Bool := (Lib.cut w.data.toList [c]).2.2
theorem cut_joined {c : UInt8} {a b : ByteArray} (h : c ∉ a.data.toList) : cutA c (a ++ ⟨#[c]⟩ ++ b) = a ∧ cutB c (a ++ ⟨#[c]⟩ ++ b) = b := by
  have e : (a ++ ⟨#[c]⟩ ++ b).data.toList = a.data.toList ++ c :: b.data.toList := by
    rw [ByteArray.data_append, ByteArray.data_append]; simp
  unfold cutA cutB
  rw [e, cut_two h]
  exact ⟨by cases a; simp, by cases b; simp⟩
theorem cut_sizes (c : UInt8) (w : ByteArray) : (cutA c w).size ≤ w.size ∧ (cutB c w).size ≤ w.size := by
  have hw : w.data.toList.length = w.size := by simp
  have e1 : (cutA c w).size = (Lib.cut w.data.toList [c]).1.length := by unfold cutA; show (Array.size _) = _; simp
  have e2 : (cutB c w).size = (Lib.cut w.data.toList [c]).2.1.length := by unfold cutB; show (Array.size _) = _; simp
  rw [e1, e2]
  unfold Lib.cut
  split
  · simp only [List.length_take, List.length_drop]; omega
  · simp only [List.length_nil]; omega
theorem joinT_two (c : UInt8) (a b : ByteArray) : joinT c [a, b] = a ++ ⟨#[c]⟩ ++ b := by
  have := joinT_snoc c a [] b
  rw [joinT_one] at this
  exact this
theorem parts_two {c : UInt8} {w a b : ByteArray} (h : partsS c w = [a, b]) : w = a ++ ⟨#[c]⟩ ++ b ∧ c ∉ a.data.toList ∧ c ∉ b.data.toList := by
  have h1 := partsS_join c w
  rw [h, joinT_two] at h1
  have hf : ∀ x ∈ partsS c w, c ∉ x.data.toList := fun x hx => by
    obtain ⟨l, hl, rfl⟩ := List.mem_map.1 hx
    simpa using partsL_free l hl
  exact ⟨h1.symm, hf a (by rw [h]; simp), hf b (by rw [h]; simp)⟩
theorem parts_of_two {c : UInt8} {a b : ByteArray} (h1 : c ∉ a.data.toList) (h2 : c ∉ b.data.toList) : partsS c (a ++ ⟨#[c]⟩ ++ b) = [a, b] := by
  rw [← joinT_two]
  refine parts_joinT c [a, b] (by simp) fun x hx => ?_
  rcases List.mem_cons.1 hx with rfl | hx
  · exact h1
  · obtain rfl : x = b := by simpa using hx
    exact h2
end Go.Proofs.YtklgkbiobggbiaaGreatDoor
namespace Go.Proofs.YtklgkbiobggbiaaGreatDoor
open Go.ChangeShapes Go.WideShapes Go.ChangeAt Go.RowKit Go.Deep Go.Joins
set_option linter.unusedVariables false
set_option maxRecDepth 100000
set_option linter.unusedSimpArgs false
theorem joinT_free {c d : UInt8} (hcd : c ≠ d) : ∀ (xs : List ByteArray), (∀ x ∈ xs, c ∉ x.data.toList) → c ∉ (joinT d xs).data.toList := by
  intro xs h
  unfold joinT
  cases xs with
  | nil => simp [Lib.join, List.intercalate]
  | cons a r =>
    rw [List.map_cons, Lib.join_cons]
    intro q
    have q' : c ∈ a.data.toList ++ Lib.joinTail [d] (r.map (·.data.toList)) := by simpa using q
    rcases List.mem_append.1 q' with q1 | q1
    · exact h a (List.mem_cons_self ..) q1
    · unfold Lib.joinTail at q1
      obtain ⟨l, hl, hc⟩ := List.mem_flatten.1 q1
      rw [List.map_map] at hl
      obtain ⟨x, hx, rfl⟩ := List.mem_map.1 hl
      rcases List.mem_append.1 hc with q2 | q2
      · exact hcd (by simpa using q2)
      · exact h x (List.mem_cons_of_mem _ hx) q2
theorem nameB_free {s : ByteArray} (h : nameB s = true) : (32 : UInt8) ∉ s.data.toList := by
  intro q
  unfold nameB nameL at h
  simp only [Bool.and_eq_true, decide_eq_true_eq] at h
  have hr := h.2.2.2
  have hh := h.2.2.1
  have := List.all_eq_true.1 hr 32 q
  exact absurd this (by decide)
theorem joinT_three (c : UInt8) (a b d : ByteArray) : joinT c [a, b, d] = a ++ ⟨#[c]⟩ ++ b ++ ⟨#[c]⟩ ++ d := by
  apply bytes_inj
  unfold joinT
  simp [Lib.join, List.intercalate]
theorem parts_three {c : UInt8} {w a b d : ByteArray} (h : partsS c w = [a, b, d]) : w = a ++ ⟨#[c]⟩ ++ b ++ ⟨#[c]⟩ ++ d := by
  have := partsS_join c w
  rw [h, joinT_three] at this
  exact this.symm
theorem app_cancel {a b c : ByteArray} (h : a ++ b = a ++ c) : b = c := by
  apply bytes_inj
  have := congrArg (fun x : ByteArray => x.data.toList) h
  simpa using this
theorem three_of {α : Type} {l : List α} (h : l.length = 3) : ∃ a b c, l = [a, b, c] := by
  match l, h with
  | [a, b, c], _ => exact ⟨a, b, c, rfl⟩
end Go.Proofs.YtklgkbiobggbiaaGreatDoor
namespace Go.Proofs.YtklgkbiobggbiaaGreatDoor
open Go.ChangeShapes Go.WideShapes Go.ChangeAt Go.RowKit Go.Deep Go.Joins
set_option linter.unusedVariables false
set_option maxRecDepth 100000
set_option linter.unusedSimpArgs false
def partT (k : Int) : ByteArray := if k = 1 then ⟨#[104, 117, 109]⟩ else if k = 2 then ⟨#[112, 114, 105, 109, 101]⟩ else if k = 3 then ⟨#[116, 105, 101, 114, 99, 101]⟩ else if k = 4 then ⟨#[113, 117, 105, 110, 116]⟩ else if k = 5 then ⟨#[110, 111, 109, 105, 110, 97, 108]⟩ else ⟨#[]⟩
theorem partT_size (k : Int) (h : 1 ≤ k ∧ k ≤ 5) : (partT k).size ≤ 7 := by
  have : k = 1 ∨ k = 2 ∨ k = 3 ∨ k = 4 ∨ k = 5 := by omega
  rcases this with rfl | rfl | rfl | rfl | rfl <;> decide

theorem impl_PartialName (k : Int) (w : World) (h : 1 ≤ k ∧ k ≤ 5) : Calls Tryz.prog 44 #[.int .i64 k] w fun e w' => e = .returned (.string (partT k)) ∧ Below w.heap.size w w' := by
  have : k = 1 ∨ k = 2 ∨ k = 3 ∨ k = 4 ∨ k = 5 := by omega
  rcases this with rfl | rfl | rfl | rfl | rfl
  · have hb : inB 1 1 5 = true := by decide
    clear h
    go_enter Tryz.func44, Tryz.ntmps44
    go_wp2_with (go_at_call 34; refine (impl_isPartial_is _ _ hb).mono ?_; rintro e w' ⟨rfl, rfl⟩)
    go_ret
    exact ⟨rfl, by (repeat' (first | (with_reducible exact Below.refl _ _) | (with_reducible assumption) | (with_reducible refine below_dn ?_ _) | (with_reducible refine Below.drew ?_) | (with_reducible refine Below.alloc ?_ ?_ _) | (with_reducible refine Below.setCell ?_ ?_ _) | go_size))⟩
  · have hb : inB 2 1 5 = true := by decide
    clear h
    go_enter Tryz.func44, Tryz.ntmps44
    go_wp2_with (go_at_call 34; refine (impl_isPartial_is _ _ hb).mono ?_; rintro e w' ⟨rfl, rfl⟩)
    go_ret
    exact ⟨rfl, by (repeat' (first | (with_reducible exact Below.refl _ _) | (with_reducible assumption) | (with_reducible refine below_dn ?_ _) | (with_reducible refine Below.drew ?_) | (with_reducible refine Below.alloc ?_ ?_ _) | (with_reducible refine Below.setCell ?_ ?_ _) | go_size))⟩
  · have hb : inB 3 1 5 = true := by decide
    clear h
    go_enter Tryz.func44, Tryz.ntmps44
    go_wp2_with (go_at_call 34; refine (impl_isPartial_is _ _ hb).mono ?_; rintro e w' ⟨rfl, rfl⟩)
    go_ret
    exact ⟨rfl, by (repeat' (first | (with_reducible exact Below.refl _ _) | (with_reducible assumption) | (with_reducible refine below_dn ?_ _) | (with_reducible refine Below.drew ?_) | (with_reducible refine Below.alloc ?_ ?_ _) | (with_reducible refine Below.setCell ?_ ?_ _) | go_size))⟩
  · have hb : inB 4 1 5 = true := by decide
    clear h
    go_enter Tryz.func44, Tryz.ntmps44
    go_wp2_with (go_at_call 34; refine (impl_isPartial_is _ _ hb).mono ?_; rintro e w' ⟨rfl, rfl⟩)
    go_ret
    exact ⟨rfl, by (repeat' (first | (with_reducible exact Below.refl _ _) | (with_reducible assumption) | (with_reducible refine below_dn ?_ _) | (with_reducible refine Below.drew ?_) | (with_reducible refine Below.alloc ?_ ?_ _) | (with_reducible refine Below.setCell ?_ ?_ _) | go_size))⟩
  · have hb : inB 5 1 5 = true := by decide
    clear h
    go_enter Tryz.func44, Tryz.ntmps44
    go_wp2_with (go_at_call 34; refine (impl_isPartial_is _ _ hb).mono ?_; rintro e w' ⟨rfl, rfl⟩)
    go_ret
    exact ⟨rfl, by (repeat' (first | (with_reducible exact Below.refl _ _) | (with_reducible assumption) | (with_reducible refine below_dn ?_ _) | (with_reducible refine Below.drew ?_) | (with_reducible refine Below.alloc ?_ ?_ _) | (with_reducible refine Below.setCell ?_ ?_ _) | go_size))⟩
theorem decD3 (r : Nat) (h : r < 1000) : Lib.decDigits (r + 1000) = [UInt8.ofNat 49, UInt8.ofNat (48 + r / 100), UInt8.ofNat (48 + r / 10 % 10), UInt8.ofNat (48 + r % 10)] := by
  have e1 : (r + 1000) / 10 / 10 / 10 = 1 := by omega
  have e2 : (r + 1000) / 10 / 10 % 10 = r / 100 := by omega
  have e3 : (r + 1000) / 10 % 10 = r / 10 % 10 := by omega
  have e4 : (r + 1000) % 10 = r % 10 := by omega
  rw [Lib.decDigits, dif_neg (by omega), Lib.decDigits, dif_neg (by omega), Lib.decDigits, dif_neg (by omega), Lib.decDigits, dif_pos (by omega), e1, e2, e3, e4]
  rfl
theorem decT_nat (u : Nat) : decT (u : Int) = ⟨(Lib.decDigits u).toArray⟩ := by
  unfold decT Lib.itoa
  rw [if_neg (by omega)]; rfl
/-- three digits -/
def pad3 (r : Nat) : ByteArray := ⟨#[UInt8.ofNat (48 + r / 100), UInt8.ofNat (48 + r / 10 % 10), UInt8.ofNat (48 + r % 10)]⟩
def hertzT (f : Int) : ByteArray := decT (f / 1000) ++ ⟨#[46]⟩ ++ pad3 (f % 1000).toNat
theorem decT1000 (r : Nat) (h : r < 1000) : decT ((r : Int) + 1000) = ⟨#[UInt8.ofNat 49, UInt8.ofNat (48 + r / 100), UInt8.ofNat (48 + r / 10 % 10), UInt8.ofNat (48 + r % 10)]⟩ := by
  have e : (r : Int) + 1000 = ((r + 1000 : Nat) : Int) := by push_cast; rfl
  rw [e, decT_nat, decD3 r h]
theorem decT_lt10 (r : Nat) (h : r < 10) : decT (r : Int) = ⟨#[UInt8.ofNat (48 + r % 10)]⟩ := by
  rw [decT_nat, Lib.decDigits, dif_pos h, Nat.mod_eq_of_lt h]
theorem decT_lt100 (r : Nat) (h0 : 10 ≤ r) (h : r < 100) : decT (r : Int) = ⟨#[UInt8.ofNat (48 + r / 10 % 10), UInt8.ofNat (48 + r % 10)]⟩ := by
  rw [decT_nat, Lib.decDigits, dif_neg (by omega), Lib.decDigits, dif_pos (by omega), Nat.mod_eq_of_lt (show r / 10 < 10 by omega)]
  rfl
theorem decT_lt1000 (r : Nat) (h0 : 100 ≤ r) (h : r < 1000) : decT (r : Int) = pad3 r := by
  rw [decT_nat, Lib.decDigits, dif_neg (by omega), Lib.decDigits, dif_neg (by omega), Lib.decDigits, dif_pos (by omega), show r / 10 / 10 = r / 100 by omega]
  rfl
def Tryz.layRep_ren : Go.Shelf.Ren := ⟨fun | 105 => 142 | 212 => 180 | 99 => 181 | 165 => 117 | 166 => 118 | 170 => 182 | 169 => 119 | 263 => 216 | 264 => 217 | 206 => 194 | 240 => 158 | 241 => 159 | 276 => 200 | 277 => 201 | n => n, fun | 9 => 9 | 3 => 3 | 4 => 4 | 20 => 20 | 0 => 0 | 46 => 106 | 109 => 186 | 5 => 5 | 72 => 141 | 76 => 143 | 51 => 159 | 146 => 216 | 53 => 96 | 148 => 218 | 70 => 139 | 37 => 22 | 75 => 136 | 127 => 169 | 164 => 202 | 80 => 145 | n => n, fun | n => n⟩
theorem Tryz.layRep : Go.Proofs.Lays.n105 Tryz.prog Tryz.layRep_ren := {
  mixed := by kernel_rfl
  f99 := Tryz.func181.trans (congrArg some (by kernel_rfl))
  f105 := Tryz.func142.trans (congrArg some (by kernel_rfl))
  f165 := Tryz.func117.trans (congrArg some (by kernel_rfl))
  f166 := Tryz.func118.trans (congrArg some (by kernel_rfl))
  f169 := Tryz.func119.trans (congrArg some (by kernel_rfl))
  f170 := Tryz.func182.trans (congrArg some (by kernel_rfl))
  f206 := Tryz.func194.trans (congrArg some (by kernel_rfl))
  f212 := Tryz.func180.trans (congrArg some (by kernel_rfl))
  f240 := Tryz.func158.trans (congrArg some (by kernel_rfl))
  f241 := Tryz.func159.trans (congrArg some (by kernel_rfl))
  f263 := Tryz.func216.trans (congrArg some (by kernel_rfl))
  f264 := Tryz.func217.trans (congrArg some (by kernel_rfl))
  f276 := Tryz.func200.trans (congrArg some (by kernel_rfl))
  f277 := Tryz.func201.trans (congrArg some (by kernel_rfl))
  t0 := Tryz.underlying0
  a0 := Tryz.isAgg0
  z0 := Tryz.sizeOf0
  v0 := Tryz.zeroValue0
  t3 := Tryz.underlying3
  a3 := Tryz.isAgg3
  z3 := Tryz.sizeOf3
  v3 := Tryz.zeroValue3
  t4 := Tryz.underlying4
  a4 := Tryz.isAgg4
  z4 := Tryz.sizeOf4
  v4 := Tryz.zeroValue4
  t5 := Tryz.underlying5
  a5 := Tryz.isAgg5
  z5 := Tryz.sizeOf5
  v5 := Tryz.zeroValue5
  t9 := Tryz.underlying9
  a9 := Tryz.isAgg9
  z9 := Tryz.sizeOf9
  v9 := Tryz.zeroValue9
  t20 := Tryz.underlying20
  a20 := Tryz.isAgg20
  z20 := Tryz.sizeOf20
  v20 := Tryz.zeroValue20
  t37 := Tryz.underlying22
  a37 := Tryz.isAgg22
  z37 := Tryz.sizeOf22
  v37 := Tryz.zeroValue22
  t46 := Tryz.underlying106
  a46 := Tryz.isAgg106
  z46 := Tryz.sizeOf106
  v46 := Tryz.zeroValue106
  t51 := Tryz.underlying159
  a51 := Tryz.isAgg159
  z51 := Tryz.sizeOf159
  v51 := Tryz.zeroValue159
  t53 := Tryz.underlying96
  a53 := Tryz.isAgg96
  z53 := Tryz.sizeOf96
  v53 := Tryz.zeroValue96
  t70 := Tryz.underlying139
  a70 := Tryz.isAgg139
  z70 := Tryz.sizeOf139
  v70 := Tryz.zeroValue139
  t72 := Tryz.underlying141
  a72 := Tryz.isAgg141
  z72 := Tryz.sizeOf141
  v72 := Tryz.zeroValue141
  t75 := Tryz.underlying136
  a75 := Tryz.isAgg136
  z75 := Tryz.sizeOf136
  v75 := Tryz.zeroValue136
  t76 := Tryz.underlying143
  a76 := Tryz.isAgg143
  z76 := Tryz.sizeOf143
  v76 := Tryz.zeroValue143
  t109 := Tryz.underlying186
  a109 := Tryz.isAgg186
  z109 := Tryz.sizeOf186
  v109 := Tryz.zeroValue186
  t127 := Tryz.underlying169
  a127 := Tryz.isAgg169
  z127 := Tryz.sizeOf169
  v127 := Tryz.zeroValue169
  t146 := Tryz.underlying216
  a146 := Tryz.isAgg216
  z146 := Tryz.sizeOf216
  v146 := Tryz.zeroValue216
  t148 := Tryz.underlying218
  a148 := Tryz.isAgg218
  z148 := Tryz.sizeOf218
  v148 := Tryz.zeroValue218
  t164 := Tryz.underlying202
  a164 := Tryz.isAgg202
  z164 := Tryz.sizeOf202
  v164 := Tryz.zeroValue202 }
open Go.Shelf in
theorem extraRep : Builder.Extra Tryz.prog Tryz.layRep_ren where
  sizeBuilder := by kernel_rfl
  liesBuilder := by kernel_rfl
  t5 := Tryz.fmtInt.t5
  a5 := Tryz.fmtInt.a5
  z5 := Tryz.fmtInt.z5
  v5 := Tryz.fmtInt.v5
  infoByte := by kernel_rfl
  cellsByte := by kernel_rfl
  sizeByte := by kernel_rfl
  neB5 := by decide
theorem impl_rep (c : Nat) (w : World) (hc : c ≤ 3) : Calls Tryz.prog 142 #[.string ⟨#[48]⟩, .int .i64 c] w fun e w' => e = .returned (.string ⟨(List.replicate c (48 : UInt8)).toArray⟩) ∧ Below w.heap.size w w' := by
  have h := Any.strings_Repeat Tryz.layRep extraRep ⟨#[48]⟩ c w (by omega) (by have h1 : (⟨#[48]⟩ : ByteArray).size = 1 := rfl; rw [h1]; omega)
  have e : Lib.repeatL (⟨#[48]⟩ : ByteArray).data.toList c = List.replicate c 48 := by
    have : c = 0 ∨ c = 1 ∨ c = 2 ∨ c = 3 := by omega
    rcases this with rfl | rfl | rfl | rfl <;> rfl
  rw [e] at h
  exact h
theorem impl_padded (r : Nat) (w : World) (hr : r < 1000) (hp : Pow10 w) : Calls Tryz.prog 91 #[.int .i64 r, .int .i64 3] w fun e w' => e = .returned (.string (pad3 r)) ∧ Below w.heap.size w w' := by
  have HD := Lib.hid (impl_Decimal r w (by omega) (by omega) hp)
  clear hp
  rcases (show r < 10 ∨ (10 ≤ r ∧ r < 100) ∨ 100 ≤ r from by omega) with h | ⟨h0, h⟩ | h
  · have ed := decT_lt10 r h
    rw [ed] at HD
    have hs : ((⟨#[UInt8.ofNat (48 + r % 10)]⟩ : ByteArray) : ByteArray).size = 1 := rfl
    have HR := Lib.hid (fun w' => impl_rep 2 w' (by omega))
    have er : Hid (pad3 r = ⟨(List.replicate 2 (48 : UInt8)).toArray⟩ ++ (⟨#[UInt8.ofNat (48 + r % 10)]⟩ : ByteArray)) := Lib.hid (by
      refine ba_ext ?_
      rw [ByteArray.data_append]
      unfold pad3
      rw [show r / 100 = 0 by omega, show r / 10 % 10 = 0 by omega]; rfl)
    have hs2 : (⟨(List.replicate 2 (48 : UInt8)).toArray⟩ : ByteArray).size = 2 := rfl
    generalize hX : (⟨(List.replicate 2 (48 : UInt8)).toArray⟩ : ByteArray) = X at *
    generalize hY : (⟨#[UInt8.ofNat (48 + r % 10)]⟩ : ByteArray) = Y at *
    clear hX hY ed
    go_enter Tryz.func91, Tryz.ntmps91
    go_wp2_with fail
    refine HD.out.mono ?_; rintro e1 w1 ⟨rfl, b1⟩
    go_wp2_with fail
    refine (HR.out _).mono ?_; rintro e2 w2 ⟨rfl, b2⟩
    have B2 := bnext b1 b2
    clear b1 b2
    go_wp2_with fail
    go_ret
    exact ⟨congrArg (fun z => Ending.returned (.string z)) er.out.symm, B2⟩
  · have ed := decT_lt100 r h0 h
    rw [ed] at HD
    have hs : ((⟨#[UInt8.ofNat (48 + r / 10 % 10), UInt8.ofNat (48 + r % 10)]⟩ : ByteArray) : ByteArray).size = 2 := rfl
    have HR := Lib.hid (fun w' => impl_rep 1 w' (by omega))
    have er : Hid (pad3 r = ⟨(List.replicate 1 (48 : UInt8)).toArray⟩ ++ (⟨#[UInt8.ofNat (48 + r / 10 % 10), UInt8.ofNat (48 + r % 10)]⟩ : ByteArray)) := Lib.hid (by
      refine ba_ext ?_
      rw [ByteArray.data_append]
      unfold pad3
      rw [show r / 100 = 0 by omega]; rfl)
    have hs2 : (⟨(List.replicate 1 (48 : UInt8)).toArray⟩ : ByteArray).size = 1 := rfl
    generalize hX : (⟨(List.replicate 1 (48 : UInt8)).toArray⟩ : ByteArray) = X at *
    generalize hY : (⟨#[UInt8.ofNat (48 + r / 10 % 10), UInt8.ofNat (48 + r % 10)]⟩ : ByteArray) = Y at *
    clear hX hY ed
    go_enter Tryz.func91, Tryz.ntmps91
    go_wp2_with fail
    refine HD.out.mono ?_; rintro e1 w1 ⟨rfl, b1⟩
    go_wp2_with fail
    refine (HR.out _).mono ?_; rintro e2 w2 ⟨rfl, b2⟩
    have B2 := bnext b1 b2
    clear b1 b2
    go_wp2_with fail
    go_ret
    exact ⟨congrArg (fun z => Ending.returned (.string z)) er.out.symm, B2⟩
  · have ed := decT_lt1000 r h hr
    rw [ed] at HD
    have hs : ((pad3 r) : ByteArray).size = 3 := rfl
    have HR := Lib.hid (fun w' => impl_rep 0 w' (by omega))
    have er : Hid (pad3 r = ⟨(List.replicate 0 (48 : UInt8)).toArray⟩ ++ (pad3 r)) := Lib.hid (by
      refine ba_ext ?_
      rw [ByteArray.data_append]
      unfold pad3
      rfl)
    have hs2 : (⟨(List.replicate 0 (48 : UInt8)).toArray⟩ : ByteArray).size = 0 := rfl
    generalize hX : (⟨(List.replicate 0 (48 : UInt8)).toArray⟩ : ByteArray) = X at *
    generalize hY : (pad3 r) = Y at *
    clear hX hY ed
    go_enter Tryz.func91, Tryz.ntmps91
    go_wp2_with fail
    refine HD.out.mono ?_; rintro e1 w1 ⟨rfl, b1⟩
    go_wp2_with fail
    refine (HR.out _).mono ?_; rintro e2 w2 ⟨rfl, b2⟩
    have B2 := bnext b1 b2
    clear b1 b2
    go_wp2_with fail
    go_ret
    exact ⟨congrArg (fun z => Ending.returned (.string z)) er.out.symm, B2⟩
theorem decT_size20 (n : Int) (h0 : 0 < n) (h1 : n ≤ 9223372036854775807) : (decT n).size ≤ 20 := by
  obtain ⟨N, rfl⟩ : ∃ N : Nat, n = (N : Int) := ⟨n.toNat, by omega⟩
  have hd := decD_len N (by omega)
  unfold decD at hd
  rw [if_neg (by omega)] at hd
  rw [decT_nat]
  show (Lib.decDigits N).toArray.size ≤ 20
  simpa using hd
set_option maxHeartbeats 2000000 in
theorem impl_HertzText (f : Int) (w : World) (h : 10000 ≤ f ∧ f ≤ 20000000) (hp : Pow10 w) : Calls Tryz.prog 47 #[.int .i64 f] w fun e w' => e = .returned (.string (hertzT f)) ∧ Below w.heap.size w w' := by
  have hb : inB f 10000 20000000 = true := inB_mk h
  have hsz := decT_size20 (f / 1000) (by omega) (by omega)
  have HD := Lib.hid (impl_Decimal (f / 1000) w (by omega) (by omega) hp)
  have HQ := Lib.hid (fun w' (h' : Below w.heap.size w w') => impl_padded (f % 1000).toNat w' (by omega) (hp.below h'))
  have e : Hid (hertzT f = decT (f / 1000) ++ ⟨#[46]⟩ ++ pad3 (f % 1000).toNat) := (rfl : hertzT f = decT (f / 1000) ++ ⟨#[46]⟩ ++ pad3 (f % 1000).toNat)
  rw [show (((f % 1000).toNat : Nat) : Int) = f % 1000 from by omega] at HQ
  have s1 : (pad3 (f % 1000).toNat).size = 3 := rfl
  have s2 : (decT (f / 1000) ++ ⟨#[46]⟩).size = (decT (f / 1000)).size + 1 := by rw [ByteArray.size_append]; rfl
  have s3 : (⟨#[46]⟩ : ByteArray).size = 1 := rfl
  generalize decT (f / 1000) = D at *
  generalize pad3 (f % 1000).toNat = P at *
  clear hp
  go_enter Tryz.func47, Tryz.ntmps47
  go_wp2_with (first | (go_at_call 90; refine (impl_IsFrequency_is _ _ hb).mono ?_; rintro e w' ⟨rfl, rfl⟩))
  refine HD.out.mono ?_; rintro e1 w1 ⟨rfl, b1⟩
  have B1 := Lib.hid b1; clear b1
  go_wp2_with fail
  refine (HQ.out _ B1.out).mono ?_; rintro e2 w2 ⟨rfl, b2⟩
  have B2 := Lib.hid (bnext B1.out b2); clear b2
  go_wp2_with fail
  go_ret
  exact ⟨by rw [e.out]; try rfl, B2.out⟩
end Go.Proofs.YtklgkbiobggbiaaGreatDoor
namespace Go.Proofs.YtklgkbiobggbiaaGreatDoor
open Go.ChangeShapes Go.WideShapes Go.ChangeAt Go.RowKit Go.Deep Go.Joins
set_option linter.unusedVariables false
set_option maxRecDepth 100000
set_option linter.unusedSimpArgs false
def hzB (f : Int) : Bool := inB f 10000 20000000
/-- a frequency read from its text -/
def hertzR (s : ByteArray) : Option Int := (numS (cutA 46 s ++ cutB 46 s)).bind fun f => if hzB f = true ∧ hertzT f = s then some f else none
def hertzV (s : ByteArray) : Int := (hertzR s).getD 0
theorem hertzV_some {s : ByteArray} {f : Int} (h : hertzR s = some f) : hertzV s = f ∧ (hertzR s).isSome = true := by unfold hertzV; rw [h]; exact ⟨rfl, rfl⟩
theorem hertzV_none {s : ByteArray} (h : hertzR s = none) : hertzV s = 0 ∧ (hertzR s).isSome = false := by unfold hertzV; rw [h]; exact ⟨rfl, rfl⟩
theorem digit_free {b : UInt8} {d : Nat} (hd : d < 10) (hb : 48 ≤ b.toNat ∧ b.toNat ≤ 57 → False) : b ≠ UInt8.ofNat (48 + d) := by
  rintro rfl
  have : (UInt8.ofNat (48 + d)).toNat = 48 + d := UInt8.toNat_ofNat_of_lt' (by show 48 + d < 256; omega)
  exact hb (by omega)
theorem pad3_free {r : Nat} (h : r < 1000) : (46 : UInt8) ∉ (pad3 r).data.toList := by
  intro q
  have q : (46 : UInt8) = UInt8.ofNat (48 + r / 100) ∨ (46 : UInt8) = UInt8.ofNat (48 + r / 10 % 10) ∨ (46 : UInt8) = UInt8.ofNat (48 + r % 10) := by simpa [pad3] using q
  have e : (46 : UInt8).toNat = 46 := rfl
  rcases q with q | q | q
  · exact digit_free (d := r / 100) (by omega) (by omega) q
  · exact digit_free (d := r / 10 % 10) (by omega) (by omega) q
  · exact digit_free (d := r % 10) (by omega) (by omega) q
theorem hertzT_free {f : Int} {c : UInt8} (h0 : 0 ≤ f) (h1 : c ≠ 45) (h2 : ¬ (48 ≤ c.toNat ∧ c.toNat ≤ 57)) (h3 : c ≠ 46) : c ∉ (hertzT f).data.toList := by
  intro q
  have q' : c ∈ (decT (f / 1000)).data.toList ++ ([46] ++ (pad3 (f % 1000).toNat).data.toList) := by simpa [hertzT] using q
  rcases List.mem_append.1 q' with q | q
  · exact decT_free h1 h2 q
  · rcases List.mem_append.1 q with q | q
    · exact h3 (by simpa using q)
    · have hp : ∀ d, d < 10 → c ≠ UInt8.ofNat (48 + d) := fun d hd => digit_free hd h2
      have q2 : c = UInt8.ofNat (48 + (f % 1000).toNat / 100) ∨ c = UInt8.ofNat (48 + (f % 1000).toNat / 10 % 10) ∨ c = UInt8.ofNat (48 + (f % 1000).toNat % 10) := by simpa [pad3] using q
      rcases q2 with q | q | q
      · exact hp _ (by omega) q
      · exact hp _ (by omega) q
      · exact hp _ (by omega) q
theorem digits_pad : ∀ (u : Nat), 1000 ≤ u → Lib.decDigits u = Lib.decDigits (u / 1000) ++ [UInt8.ofNat (48 + u % 1000 / 100), UInt8.ofNat (48 + u % 1000 / 10 % 10), UInt8.ofNat (48 + u % 1000 % 10)] := by
  intro u hu
  rw [Lib.decDigits, dif_neg (by omega), Lib.decDigits, dif_neg (by omega), Lib.decDigits, dif_neg (by omega)]
  rw [show u / 10 / 10 / 10 = u / 1000 from by omega, show u / 10 / 10 % 10 = u % 1000 / 100 from by omega, show u / 10 % 10 = u % 1000 / 10 % 10 from by omega, show u % 10 = u % 1000 % 10 from by omega]
  simp
theorem decT_pad {f : Int} (h : 1000 ≤ f) : decT (f / 1000) ++ pad3 (f % 1000).toNat = decT f := by
  obtain ⟨u, rfl⟩ : ∃ u : Nat, f = (u : Int) := ⟨f.toNat, by omega⟩
  rw [show ((u : Int) / 1000) = ((u / 1000 : Nat) : Int) from by omega, show ((u : Int) % 1000).toNat = u % 1000 from by omega, decT_nat, decT_nat, digits_pad u (by omega)]
  apply bytes_inj
  simp [pad3]
theorem hertz_cut {f : Int} (h : hzB f = true) : partsS 46 (hertzT f) = [decT (f / 1000), pad3 (f % 1000).toNat] ∧ cutA 46 (hertzT f) = decT (f / 1000) ∧ cutB 46 (hertzT f) = pad3 (f % 1000).toNat := by
  have hb := inB_true h
  have h1 : (46 : UInt8) ∉ (decT (f / 1000)).data.toList := decT_free (by decide) (by decide)
  have h2 : (46 : UInt8) ∉ (pad3 (f % 1000).toNat).data.toList := pad3_free (by omega)
  exact ⟨parts_of_two h1 h2, cut_joined h1⟩
theorem hertzR_text {f : Int} (h : hzB f = true) : hertzR (hertzT f) = some f := by
  have hb := inB_true h
  obtain ⟨_, e1, e2⟩ := hertz_cut h
  unfold hertzR
  rw [e1, e2, decT_pad (by omega), num_decT (by omega) (by omega), Option.bind_some, if_pos ⟨h, rfl⟩]
theorem hertzR_some {s : ByteArray} {f : Int} (h : hertzR s = some f) : hzB f = true ∧ hertzT f = s := by
  unfold hertzR at h
  cases hn : numS (cutA 46 s ++ cutB 46 s) with
  | none => rw [hn] at h; cases h
  | some g =>
    rw [hn, Option.bind_some] at h
    by_cases hc : hzB g = true ∧ hertzT g = s
    · rw [if_pos hc] at h
      obtain rfl : g = f := by simpa using h
      exact hc
    · rw [if_neg hc] at h; cases h
theorem hertzR_parts {s : ByteArray} {f : Int} (h : hertzR s = some f) : partsS 46 s = [decT (f / 1000), pad3 (f % 1000).toNat] := by
  obtain ⟨h1, rfl⟩ := hertzR_some h
  exact (hertz_cut h1).1
theorem hertzR_not2 {s : ByteArray} (h : (partsS 46 s).length ≠ 2) : hertzR s = none := by
  cases hr : hertzR s with
  | none => rfl
  | some f => rw [hertzR_parts hr] at h; exact absurd rfl h
theorem hertzR_two {s a b : ByteArray} (h : partsS 46 s = [a, b]) {f : Int} (hr : hertzR s = some f) : a = decT (f / 1000) ∧ b = pad3 (f % 1000).toNat ∧ 10000 ≤ f ∧ f ≤ 20000000 := by
  have := hertzR_parts hr
  rw [h] at this
  have hb := inB_true (hertzR_some hr).1
  exact ⟨by simpa using congrArg (fun l => l.headD ⟨#[]⟩) this, by simpa using congrArg (fun l => (l.drop 1).headD ⟨#[]⟩) this, hb.1, hb.2⟩
theorem hertzR_size {s a b : ByteArray} (h : partsS 46 s = [a, b]) (hb : b.size ≠ 3) : hertzR s = none := by
  cases hr : hertzR s with
  | none => rfl
  | some f => exact absurd (by rw [(hertzR_two h hr).2.1]; rfl) hb
theorem hertzR_num {s a b : ByteArray} (h : partsS 46 s = [a, b]) (hn : numS a = none) : hertzR s = none := by
  cases hr : hertzR s with
  | none => rfl
  | some f =>
    obtain ⟨e, _, h1, h2⟩ := hertzR_two h hr
    rw [e, num_decT (by omega) (by omega)] at hn
    cases hn
theorem hertzR_range {s a b : ByteArray} {n : Int} (h : partsS 46 s = [a, b]) (hn : numS a = some n) (ho : n < 0 ∨ 1000000 < n) : hertzR s = none := by
  cases hr : hertzR s with
  | none => rfl
  | some f =>
    obtain ⟨e, _, h1, h2⟩ := hertzR_two h hr
    rw [e, num_decT (by omega) (by omega)] at hn
    obtain rfl : f / 1000 = n := by simpa using hn
    omega
/-- the digit of a byte -/
def hdigB (c : UInt8) : Bool := inB c.toNat 48 57
theorem hdigB_of {d : Nat} (h : d < 10) : hdigB (UInt8.ofNat (48 + d)) = true := by
  have : (UInt8.ofNat (48 + d)).toNat = 48 + d := UInt8.toNat_ofNat_of_lt' (by show 48 + d < 256; omega)
  unfold hdigB
  rw [this]
  exact inB_mk ⟨by omega, by omega⟩
theorem pad3_dig {r : Nat} (h : r < 1000) (i : Nat) (hi : i < (pad3 r).size) : hdigB (pad3 r)[i] = true := by
  have h3 : (pad3 r).size = 3 := rfl
  match i, hi with
  | 0, _ => exact hdigB_of (d := r / 100) (by omega)
  | 1, _ => exact hdigB_of (d := r / 10 % 10) (by omega)
  | 2, _ => exact hdigB_of (d := r % 10) (by omega)
  | i + 3, hi => omega
theorem hertzR_digit {s a b : ByteArray} (h : partsS 46 s = [a, b]) {i : Nat} (hi : i < b.size) (hd : hdigB b[i] = false) : hertzR s = none := by
  cases hr : hertzR s with
  | none => rfl
  | some f =>
    obtain ⟨_, e, h1, h2⟩ := hertzR_two h hr
    subst e
    rw [pad3_dig (by omega) i hi] at hd
    cases hd
/-- the value so far: n, and i digits behind it -/
def digV (n : Int) (b : ByteArray) : Nat → Int
  | 0 => n
  | i + 1 => 10 * digV n b i + (((b.data.toList[i]?).getD 48).toNat - 48 : Int)
theorem digV_succ (n : Int) (b : ByteArray) (i : Nat) (h : i < b.size) : digV n b (i + 1) = 10 * digV n b i + ((b[i].toNat : Int) - 48) := by
  have e : b.data.toList[i]? = some b[i] := by
    rw [List.getElem?_eq_getElem (by simpa using h)]; rfl
  show 10 * digV n b i + _ = _
  rw [e]; rfl
theorem hdigB_bd {c : UInt8} (h : hdigB c = true) : 48 ≤ c.toNat ∧ c.toNat ≤ 57 := by
  have := inB_true h
  omega
theorem digV_bd {n : Int} {b : ByteArray} (h0 : 0 ≤ n) : ∀ i, i ≤ b.size → (∀ j (hj : j < b.size), j < i → hdigB b[j] = true) → n ≤ digV n b i ∧ digV n b i + 1 ≤ (n + 1) * 10 ^ i
  | 0, _, _ => ⟨Int.le_refl _, by simp [digV]⟩
  | i + 1, hi, h => by
    have ih := digV_bd (b := b) h0 i (by omega) (fun j hj hji => h j hj (by omega))
    have hd := hdigB_bd (h i (by omega) (by omega))
    rw [digV_succ n b i (by omega), Int.pow_succ, ← Int.mul_assoc]
    omega
/-- three digits are read back -/
theorem hertzR_good {s a b : ByteArray} {n : Int} (h : partsS 46 s = [a, b]) (hn : numS a = some n) (h0 : 0 ≤ n) (h3 : b.size = 3) (hd : ∀ j (hj : j < b.size), hdigB b[j] = true) : hertzR s = if hzB (digV n b 3) = true then some (digV n b 3) else none := by
  have e1 : digV n b 1 = 10 * digV n b 0 + ((b[0].toNat : Int) - 48) := digV_succ n b 0 (by omega)
  have e2 : digV n b 2 = 10 * digV n b 1 + ((b[1].toNat : Int) - 48) := digV_succ n b 1 (by omega)
  have e3 : digV n b 3 = 10 * digV n b 2 + ((b[2].toNat : Int) - 48) := digV_succ n b 2 (by omega)
  have e0 : digV n b 0 = n := rfl
  have d0 := hdigB_bd (hd 0 (by omega))
  have d1 := hdigB_bd (hd 1 (by omega))
  have d2 := hdigB_bd (hd 2 (by omega))
  obtain ⟨F, hF⟩ : ∃ F, digV n b 3 = F := ⟨_, rfl⟩
  rw [hF]
  have ef : F = 1000 * n + (100 * ((b[0].toNat : Int) - 48) + 10 * ((b[1].toNat : Int) - 48) + ((b[2].toNat : Int) - 48)) := by omega
  have q1 : F / 1000 = n := by omega
  have q2 : (F % 1000).toNat = 100 * (b[0].toNat - 48) + 10 * (b[1].toNat - 48) + (b[2].toNat - 48) := by omega
  have hb : pad3 (F % 1000).toNat = b := by
    rw [q2]
    have u : ∀ (c : UInt8), 48 ≤ c.toNat → UInt8.ofNat (48 + (c.toNat - 48)) = c := fun c hc => by
      rw [show 48 + (c.toNat - 48) = c.toNat from by omega]; simp
    apply bytes_inj
    have el : b.data.toList = [b[0], b[1], b[2]] := by
      have hl : b.data.toList.length = 3 := by simpa using h3
      refine List.ext_getElem (by rw [hl]; rfl) fun i hi1 hi2 => ?_
      match i, hi2 with
      | 0, _ => rfl
      | 1, _ => rfl
      | 2, _ => rfl
    rw [el]
    unfold pad3
    simp only
    rw [show (100 * (b[0].toNat - 48) + 10 * (b[1].toNat - 48) + (b[2].toNat - 48)) / 100 = b[0].toNat - 48 from by omega,
      show (100 * (b[0].toNat - 48) + 10 * (b[1].toNat - 48) + (b[2].toNat - 48)) / 10 % 10 = b[1].toNat - 48 from by omega,
      show (100 * (b[0].toNat - 48) + 10 * (b[1].toNat - 48) + (b[2].toNat - 48)) % 10 = b[2].toNat - 48 from by omega, u _ d0.1, u _ d1.1, u _ d2.1]
  have hs : hertzT F = s := by
    unfold hertzT
    rw [q1, hb, (num_text hn).1, (parts_two h).1]
  by_cases hz : hzB F = true
  · rw [if_pos hz, ← hs, hertzR_text hz]
  · rw [if_neg hz]
    cases hr : hertzR s with
    | none => rfl
    | some f =>
      obtain ⟨g1, g2⟩ := hertzR_some hr
      obtain ⟨g3, g4, g5, g6⟩ := hertzR_two h hr
      rw [g3, num_decT (by omega) (by omega)] at hn
      have g7 : f / 1000 = n := by simpa using hn
      have g8 : f % 1000 = F % 1000 := by
        have hp : pad3 (f % 1000).toNat = pad3 (F % 1000).toNat := by rw [hb, g4]
        have hv : ∀ r : Nat, r < 1000 → (decT ((r : Int) + 1000)) = ⟨(UInt8.ofNat 49 :: (pad3 r).data.toList).toArray⟩ := fun r hr => by rw [decT1000 r hr]; rfl
        have a1 := hv (f % 1000).toNat (by omega)
        have a2 := hv (F % 1000).toNat (by omega)
        rw [hp, ← a2] at a1
        have b1 := num_decT (n := (((f % 1000).toNat : Nat) : Int) + 1000) (by omega) (by omega)
        have b2 := num_decT (n := (((F % 1000).toNat : Nat) : Int) + 1000) (by omega) (by omega)
        rw [a1, b2] at b1
        have := Option.some.inj b1
        omega
      have : f = F := by omega
      subst this
      exact absurd g1 hz
/-- the program's tests say what the reference finds -/
theorem hertz_tests (s : ByteArray) : (numS (cutA 46 s ++ cutB 46 s) = none → hertzR s = none) ∧ ∀ f, numS (cutA 46 s ++ cutB 46 s) = some f → (hzB f = true → hertzT f = s → hertzR s = some f) ∧ (hzB f = true → hertzT f ≠ s → hertzR s = none) ∧ (hzB f = false → hertzR s = none ∧ s ≠ ⟨#[]⟩) := by
  refine ⟨fun h => by unfold hertzR; rw [h]; rfl, fun f h => ⟨fun h1 h2 => ?_, fun h1 h2 => ?_, fun h1 => ⟨?_, ?_⟩⟩⟩
  · unfold hertzR; rw [h, Option.bind_some, if_pos ⟨h1, h2⟩]
  · unfold hertzR; rw [h, Option.bind_some, if_neg (fun q => h2 q.2)]
  · unfold hertzR; rw [h, Option.bind_some, if_neg (fun q => by rw [h1] at q; cases q.1)]
  · rintro rfl
    have e : cutA 46 ⟨#[]⟩ ++ cutB 46 ⟨#[]⟩ = ⟨#[]⟩ := rfl
    rw [e, numS_bad (s := ⟨#[]⟩) (.inl (Nat.zero_le _))] at h
    cases h
end Go.Proofs.YtklgkbiobggbiaaGreatDoor
