/- Contracts and plain facts, joined: NumT, Dec0, DecZ, StepApp. -/
import Derived.Test.YtockglfoeagahaaGreatDoorRows
import Derived.Test.YtockglfoeagahaaGreatDoorZFnWarbleD
import Derived.Test.YtockglfoeagahaaGreatDoorZFnWarbleX
import Derived.Test.YtockglfoeagahaaGreatDoorZFnWarbleY
import Derived.Test.YtockglfoeagahaaGreatDoorZFnWarbleZA
namespace Go.Proofs.YtockglfoeagahaaGreatDoor
open Go.ChangeShapes Go.WideShapes Go.ChangeAt Go.RowKit Go.Deep Go.Joins
set_option linter.unusedVariables false
set_option maxRecDepth 100000
set_option linter.unusedSimpArgs false
theorem num_text {s : ByteArray} {v : Int} (h : numS s = some v) : decT v = s ∧ (-1000000000000000000 < v ∧ v < 1000000000000000000) := by
  by_cases hb : badN s
  · rw [numS_bad hb] at h; cases h
  · have h1 : ¬ s.size ≤ atN s := fun q => hb (.inl q)
    have h2 : ¬ 18 < s.size - atN s := fun q => hb (.inr (.inl q))
    rcases parse_num (s := s) (by omega) (by omega) with ⟨v', _, hbd, ⟨h3, h4⟩ | ⟨_, h4⟩⟩ | ⟨_, h4⟩
    · rw [h] at h4
      obtain rfl : v = v' := by simpa using h4
      exact ⟨h3, hbd⟩
    · rw [h] at h4; cases h4
    · rw [h] at h4; cases h4
theorem decFrom_digits : ∀ (u : Nat), Lib.decFrom 0 (Lib.decDigits u) = some u := by
  intro u
  induction u using Nat.strongRecOn with
  | _ u ih =>
    have hd : ∀ d, d < 10 → Lib.digitVal (UInt8.ofNat (48 + d)) = some d := fun d h => by
      unfold Lib.digitVal
      rw [UInt8.toNat_ofNat_of_lt' (by show 48 + d < 256; omega), if_pos ⟨by omega, by omega⟩]
      congr 1; omega
    by_cases h : u < 10
    · rw [Lib.decDigits, dif_pos h]
      simp only [Lib.decFrom, hd u h]
      simp
    · rw [Lib.decDigits, dif_neg h, decFrom_snoc, ih (u / 10) (by omega), Option.bind_some, hd (u % 10) (by omega)]
      simp only [Option.map_some]
      congr 1; omega
theorem nDigits_le : ∀ (k u : Nat), u < 10 ^ (k + 1) → Lib.nDigits u ≤ k + 1
  | 0, u, h => by rw [Lib.nDigits_small (by simpa using h)]; exact Nat.le_refl _
  | k + 1, u, h => by
    by_cases h10 : u < 10
    · rw [Lib.nDigits_small h10]; omega
    · rw [Lib.nDigits_big h10]
      have := nDigits_le k (u / 10) (by rw [Nat.pow_succ] at h; omega)
      omega
theorem digits_mem : ∀ (u : Nat), ∀ c ∈ Lib.decDigits u, 48 ≤ c.toNat ∧ c.toNat ≤ 57 := by
  intro u
  induction u using Nat.strongRecOn with
  | _ u ih =>
    have hd : ∀ d, d < 10 → 48 ≤ (UInt8.ofNat (48 + d)).toNat ∧ (UInt8.ofNat (48 + d)).toNat ≤ 57 := fun d h => by
      rw [UInt8.toNat_ofNat_of_lt' (by show 48 + d < 256; omega)]; omega
    intro c hc
    by_cases h : u < 10
    · rw [Lib.decDigits, dif_pos h] at hc
      obtain rfl : c = UInt8.ofNat (48 + u) := by simpa using hc
      exact hd u h
    · rw [Lib.decDigits, dif_neg h] at hc
      rcases List.mem_append.1 hc with hc | hc
      · exact ih (u / 10) (by omega) c hc
      · obtain rfl : c = UInt8.ofNat (48 + u % 10) := by simpa using hc
        exact hd _ (by omega)
theorem itoa_mem (n : Int) : ∀ c ∈ Lib.itoa n, c = 45 ∨ (48 ≤ c.toNat ∧ c.toNat ≤ 57) := by
  intro c hc
  unfold Lib.itoa at hc
  split at hc
  · rcases List.mem_cons.1 hc with rfl | hc
    · exact .inl rfl
    · exact .inr (digits_mem _ c hc)
  · exact .inr (digits_mem _ c hc)
theorem decT_free {n : Int} {c : UInt8} (h1 : c ≠ 45) (h2 : ¬ (48 ≤ c.toNat ∧ c.toNat ≤ 57)) : c ∉ (decT n).data.toList := by
  intro hc
  have hc' : c ∈ Lib.itoa n := by simpa [decT] using hc
  exact (itoa_mem n c hc').elim h1 h2
/-- the number of a decimal text -/
theorem num_decT {n : Int} (h1 : -1000000000000000000 < n) (h2 : n < 1000000000000000000) : numS (decT n) = some n := by
  have hl : (decT n).data.toList = Lib.itoa n := by simp [decT]
  have hs : (decT n).size = (Lib.itoa n).length := by rw [← hl]; simp
  by_cases hn : n < 0
  · obtain ⟨u, rfl⟩ : ∃ u : Nat, n = -(u : Int) := ⟨n.natAbs, by omega⟩
    have e := itoa_neg' (u := u) (by omega)
    have ha : atN (decT (-(u : Int))) = 1 := by unfold atN; rw [hl, e]; rfl
    have hd : (decT (-(u : Int))).data.toList.drop (atN (decT (-(u : Int)))) = Lib.decDigits u := by rw [ha, hl, e]; rfl
    have hdl := Lib.decDigits_length u
    have h3 := nDigits_le 17 u (by omega)
    have h4 := Lib.nDigits_pos u
    rw [e, List.length_cons] at hs
    have := numS_ok (s := decT (-(u : Int))) (u := u) (fun q => by
      rcases q with q | q | q
      · omega
      · omega
      · rw [hd] at q; exact decDigits_head u (by omega) q.1) (by rw [hd]; exact decFrom_digits u)
    rw [this, if_pos ha]
  · obtain ⟨u, rfl⟩ : ∃ u : Nat, n = (u : Int) := ⟨n.toNat, by omega⟩
    have e := itoa_nonneg' u
    have ha : atN (decT (u : Int)) = 0 := by
      unfold atN
      rw [hl, e, if_neg]
      intro q
      obtain ⟨c, q1, q2, q3⟩ := decDigits_hd u
      rw [q1] at q
      obtain rfl : c = 45 := by simpa using q
      have e45 : (45 : UInt8).toNat = 45 := rfl
      omega
    have hd : (decT (u : Int)).data.toList.drop (atN (decT (u : Int))) = Lib.decDigits u := by rw [ha, hl, e]; rfl
    have hdl := Lib.decDigits_length u
    have h3 := nDigits_le 17 u (by omega)
    have h4 := Lib.nDigits_pos u
    rw [e] at hs
    have hne : Lib.decDigits u ≠ [] := fun q => by rw [q] at hdl; simp at hdl; omega
    have := numS_ok (s := decT (u : Int)) (u := u) (fun q => by
      rcases q with q | q | q
      · omega
      · omega
      · rw [hd] at q
        exact (canon_iff hne (decFrom_digits u)).1 rfl ⟨q.1, by omega⟩) (by rw [hd]; exact decFrom_digits u)
    rw [this, if_neg (by omega)]
theorem num_iff {s : ByteArray} {v : Int} (h1 : -1000000000000000000 < v) (h2 : v < 1000000000000000000) : numS s = some v ↔ decT v = s :=
  ⟨fun h => (num_text h).1, fun h => by rw [← h]; exact num_decT h1 h2⟩
theorem numV_bd (s : ByteArray) : -1000000000000000000 < numV s ∧ numV s < 1000000000000000000 := by
  cases h : numS s with
  | none => rw [(num_none h).1]; decide
  | some v => rw [(num_some h).1]; exact (num_text h).2
/-- what is cut at the first c -/
theorem index_at {c : UInt8} : ∀ {a : List UInt8} (r : List UInt8), c ∉ a → Lib.index (a ++ c :: r) [c] = a.length
  | [], r, _ => by rw [List.nil_append, index_cons, if_pos rfl]; rfl
  | b :: a, r, h => by
    rw [List.cons_append, index_cons, if_neg (fun e => h (by rw [e]; exact List.mem_cons_self ..)), index_at r fun q => h (List.mem_cons_of_mem _ q), if_neg (by omega)]
    simp
theorem cut_two {c : UInt8} {a r : List UInt8} (h : c ∉ a) : Lib.cut (a ++ c :: r) [c] = (a, r, true) := by
  unfold Lib.cut
  rw [index_at r h, if_pos (by omega)]
  have e : (a.length : Int).toNat = a.length := by omega
  rw [e, List.take_left]
  simp
def cutA (c : UInt8) (w : ByteArray) : ByteArray := ⟨(Lib.cut w.data.toList [c]).1.toArray⟩
def cutB (c : UInt8) (w : ByteArray) : ByteArray := ⟨(Lib.cut w.data.toList [c]).2.1.toArray⟩
def cutF (c : UInt8) (w : ByteArray) : Bool := (Lib.cut w.data.toList [c]).2.2
theorem cut_joined {c : UInt8} {a b : ByteArray} (h : c ∉ a.data.toList) : cutA c (a ++ ⟨#[c]⟩ ++ b) = a ∧ cutB c (a ++ ⟨#[c]⟩ ++ b) = b := by
  have e : (a ++ ⟨#[c]⟩ ++ b).data.toList = a.data.toList ++ c :: b.data.toList := by
    rw [ByteArray.data_append, ByteArray.data_append]; simp
  unfold cutA cutB
  rw [e, cut_two h]
  exact ⟨by cases a; simp, by cases b; simp⟩
theorem cut_sizes (c : UInt8) (w : ByteArray) : (cutA c w).size ≤ w.size ∧ (cutB c w).size ≤ w.size := by
  have hw : w.data.toList.length = w.size := by simp
  have e1 : (cutA c w).size = (Lib.cut w.data.toList [c]).1.length := by unfold cutA; show (Array.size _) = _; simp
  have e2 : (cutB c w).size = (Lib.cut w.data.toList [c]).2.1.length := by unfold cutB; show (Array.size _) = _; simp
  rw [e1, e2]
  unfold Lib.cut
  split
  · simp only [List.length_take, List.length_drop]; omega
  · simp only [List.length_nil]; omega
theorem joinT_two (c : UInt8) (a b : ByteArray) : joinT c [a, b] = a ++ ⟨#[c]⟩ ++ b := by
  have := joinT_snoc c a [] b
  rw [joinT_one] at this
  exact this
theorem parts_two {c : UInt8} {w a b : ByteArray} (h : partsS c w = [a, b]) : w = a ++ ⟨#[c]⟩ ++ b ∧ c ∉ a.data.toList ∧ c ∉ b.data.toList := by
  have h1 := partsS_join c w
  rw [h, joinT_two] at h1
  have hf : ∀ x ∈ partsS c w, c ∉ x.data.toList := fun x hx => by
    obtain ⟨l, hl, rfl⟩ := List.mem_map.1 hx
    simpa using partsL_free l hl
  exact ⟨h1.symm, hf a (by rw [h]; simp), hf b (by rw [h]; simp)⟩
theorem parts_of_two {c : UInt8} {a b : ByteArray} (h1 : c ∉ a.data.toList) (h2 : c ∉ b.data.toList) : partsS c (a ++ ⟨#[c]⟩ ++ b) = [a, b] := by
  rw [← joinT_two]
  refine parts_joinT c [a, b] (by simp) fun x hx => ?_
  rcases List.mem_cons.1 hx with rfl | hx
  · exact h1
  · obtain rfl : x = b := by simpa using hx
    exact h2
end Go.Proofs.YtockglfoeagahaaGreatDoor
namespace Go.Proofs.YtockglfoeagahaaGreatDoor
open Go.ChangeShapes Go.WideShapes Go.ChangeAt Go.RowKit Go.Deep Go.Joins
set_option linter.unusedVariables false
set_option maxRecDepth 100000
set_option linter.unusedSimpArgs false
theorem decT_sizeN (n : Int) (h0 : 0 ≤ n) (h1 : n ≤ 9223372036854775807) : (decT n).size ≤ 20 := by
  obtain ⟨N, rfl⟩ : ∃ N : Nat, n = (N : Int) := ⟨n.toNat, by omega⟩
  have e : (decT (N : Int)).size = (Lib.decDigits N).length := by
    unfold decT Lib.itoa ByteArray.size
    rw [if_neg (by omega)]
    simp
  rw [e]
  by_cases h : N = 0
  · subst h
    rw [Lib.decDigits, dif_pos (by decide)]; simp
  · have hd := decD_len N (by omega)
    unfold decD at hd
    rwa [if_neg h] at hd
end Go.Proofs.YtockglfoeagahaaGreatDoor
namespace Go.Proofs.YtockglfoeagahaaGreatDoor
open Go.ChangeShapes Go.WideShapes Go.ChangeAt Go.RowKit Go.Deep Go.Joins
set_option linter.unusedVariables false
set_option maxRecDepth 100000
set_option linter.unusedSimpArgs false
theorem tmod_neg (u : Nat) : Int.tmod (-(u : Int)) 10 = -((u : Int) % 10) := by
  rw [Int.neg_tmod, Int.tmod_eq_emod_of_nonneg (by omega)]
theorem tdiv_neg (u : Nat) : Int.tdiv (-(u : Int)) 10 = -((u / 10 : Nat) : Int) := by
  rw [Int.neg_tdiv, Int.tdiv_eq_ediv_of_nonneg (by omega)]; rfl
end Go.Proofs.YtockglfoeagahaaGreatDoor
namespace Go.Proofs.YtockglfoeagahaaGreatDoor
open Go.ChangeShapes Go.WideShapes Go.ChangeAt Go.RowKit Go.Deep Go.Joins
set_option linter.unusedVariables false
set_option maxRecDepth 100000
set_option linter.unusedSimpArgs false
theorem stp_el {P : Program} {o : Oper} {a : Act} {K : Act → World → Prop} {Q : Exit → Act → World → Prop} {w1 : World} (s x : Operand) (T E : TypeId) (i : TypeInfo) (z : Value) (sz bytes : Nat)
    (hT : P.underlying T = some (.slice E)) (hi : P.info? E = some i) (hz : i.zero = some z) (h1 : i.size = sz) (h2 : i.bytes = bytes) (hzs : z.cells.size = sz) (hsz : 0 < sz)
    (ho : o.op = .call { callee := .builtin .append, args := #[s, x], argTypes := #[T, T] }) (w0 : World) (base : Nat) (v : Value) (n : Nat) (L : List Value) (hs : a.eval s = v) (hown : w0.ownsRow base E sz v n L)
    (cs : List Value) (hcs : cs.length = sz) (hone : ∀ u ∈ cs, u.oneCell' = true) (hx : a.eval x = .slice (some ⟨w0.heap.size, 0, none⟩) 1 1) (hn : n + 1 ≤ 2097152) (hby : bytes ≤ 64) (hbase : base ≤ w0.heap.size) (hw : w1 = w0.alloc (.cells cs.toArray E))
    (h : ∀ g cap w', w'.ownsRow base E sz (.slice (some ⟨g, 0, none⟩) (n + 1) cap) (n + 1) (L ++ cs) → (∀ W, Below base W w0 → Below base W w') → (∀ b E' L', Own w0 b E' L' → (∀ g', v.ownBlock = some g' → g' ≠ b) → Own w' b E' L') → K (a.put o.dst (.slice (some ⟨g, 0, none⟩) (n + 1) cap)) w') :
    Oper.wp P o a w1 K Q := by
  subst hw
  have hb : (n + 1) * bytes ≤ 140737488355328 := by
    have := Nat.mul_le_mul hn hby
    omega
  refine wp_append_lies _ s x T ho base E i z sz bytes hT hi hz h1 h2 hzs hsz v n L hs (hown.alloc _) ⟨w0.heap.size, 0, none⟩ 1 1 cs hx (by omega) (World.news_of_block (Own.new w0 E cs)) hone (by omega) (by unfold maxLen; omega) hb (by simp; omega) _ rfl ?_
  intro g cap w' hown' hgrow _ _
  refine h g cap w' hown' (fun W hW => ?_) (fun b E' L' hO hne => ?_)
  · exact grown_below (hW.alloc hbase _) (hown.alloc _) (by simp; omega) hgrow
  · have hO2 : Own (w0.alloc (.cells cs.toArray E)) b E' L' := hO.alloc _
    exact (hgrow.block b hO2.lt (fun e => hne b e.symm rfl)).trans hO2
end Go.Proofs.YtockglfoeagahaaGreatDoor
