/- Contracts and plain facts, joined: MetLaw. -/
import Derived.Test.YtnbodmbagendnaaRows
import Derived.Test.YtnbodmbagendnaaZFnMetalL
import Derived.Test.YtnbodmbagendnaaZFnMetalZP
import Derived.Test.YtnbodmbagendnaaZFnMetalZQ
import Derived.Test.YtnbodmbagendnaaZFnMetalZR
namespace Go.Proofs.Ytnbodmbagendnaa
open Go.ChangeShapes Go.WideShapes Go.ChangeAt Go.RowKit Go.Deep Go.Joins
set_option linter.unusedVariables false
set_option maxRecDepth 100000
set_option linter.unusedSimpArgs false
/-- the mass of those ingots that p picks -/
def sumP (p : Ingot → Bool) (xs : List Ingot) : Int := (xs.map fun x => if p x = true then x.mass else 0).sum
theorem sumP_cons (p : Ingot → Bool) (x : Ingot) (xs : List Ingot) : sumP p (x :: xs) = (if p x = true then x.mass else 0) + sumP p xs := by simp [sumP]
theorem sumP_append (p : Ingot → Bool) (xs ys : List Ingot) : sumP p (xs ++ ys) = sumP p xs + sumP p ys := by simp [sumP]
theorem sumP_add {p q r : Ingot → Bool} : ∀ {xs : List Ingot}, (∀ x ∈ xs, (p x = true → q x = false) ∧ r x = (p x || q x)) → sumP r xs = sumP p xs + sumP q xs
  | [], _ => rfl
  | x :: xs, h => by
    have ih := sumP_add (p := p) (q := q) (r := r) (xs := xs) (fun y hy => h y (List.mem_cons_of_mem _ hy))
    obtain ⟨h1, h2⟩ := h x (List.mem_cons_self ..)
    rw [sumP_cons, sumP_cons, sumP_cons, ih, h2]
    cases hp : p x
    · cases q x <;> simp <;> omega
    · rw [h1 hp]; simp; omega
theorem sumP_none {p : Ingot → Bool} : ∀ {xs : List Ingot}, (∀ x ∈ xs, p x = false) → sumP p xs = 0
  | [], _ => rfl
  | x :: xs, h => by
    rw [sumP_cons, sumP_none (fun y hy => h y (List.mem_cons_of_mem _ hy)), h x (List.mem_cons_self ..)]; rfl
theorem sumP_one {xs : List Ingot} (hr : Rises xs) {a : ByteArray} {j : Nat} (hj : idK xs a = some j) : sumP (fun x => strEq x.id a) xs = (xs[j]?).elim 0 massF := by
  obtain ⟨hl, he⟩ := idK_some hj
  have e : xs = xs.take j ++ xs[j] :: xs.drop (j + 1) := by rw [← List.drop_eq_getElem_cons hl, List.take_append_drop]
  have z1 : sumP (fun x => strEq x.id a) (xs.take j) = 0 := sumP_none fun x hx => by
    obtain ⟨i, hi, rfl⟩ := List.mem_take_iff_getElem.1 hx
    rw [← Bool.not_eq_true]
    intro q
    have := rises_inj hr (i := i) (j := j) (by omega) hl (by rw [strEq_iff.1 q, he])
    omega
  have z2 : sumP (fun x => strEq x.id a) (xs.drop (j + 1)) = 0 := sumP_none fun x hx => by
    obtain ⟨i, hi, rfl⟩ := List.mem_drop_iff_getElem.1 hx
    rw [← Bool.not_eq_true]
    intro q
    have := rises_inj hr (i := j + 1 + i) (j := j) (by omega) hl (by rw [strEq_iff.1 q, he])
    omega
  conv => lhs; rw [e]
  rw [sumP_append, sumP_cons, z1, z2, List.getElem?_eq_getElem hl]
  have : strEq xs[j].id a = true := strEq_iff.2 he
  simp [this, massF]
theorem hasB_iff {ys : List ByteArray} {a : ByteArray} : hasB ys a = true ↔ a ∈ ys := by
  unfold hasB
  rw [List.any_eq_true]
  constructor
  · rintro ⟨y, hy, e⟩
    rw [strEq_iff.1 e]; exact hy
  · exact fun h => ⟨a, h, strEq_iff.2 rfl⟩
theorem metal_names {xs : List Ingot} (hr : Rises xs) {ids : List ByteArray} (hi : RisesT ids) : ∀ (k : Nat) (cs : List Int), k ≤ ids.length → chosenL xs (ids.take k) = some cs → sumK massF xs cs = sumP (fun x => hasB (ids.take k) x.id) xs
  | 0, cs, _, h => by
    have e : chosenL xs (ids.take 0) = some [] := rfl
    rw [e] at h
    obtain rfl : [] = cs := by simpa using h
    rw [sumP_none (fun x _ => by simp [hasB])]
    simp [sumK]
  | k + 1, cs, hk, h => by
    rw [chosen_succ xs ids k hk] at h
    cases e : chosenL xs (ids.take k) with
    | none => rw [e] at h; cases h
    | some l =>
      rw [e] at h
      cases e2 : idK xs ids[k] with
      | none => rw [e2] at h; cases h
      | some j =>
        rw [e2] at h
        obtain rfl : l ++ [(j : Int)] = cs := by simpa using h
        have ih := metal_names hr hi k l (by omega) e
        have s1 : sumK massF xs (l ++ [(j : Int)]) = sumK massF xs l + (xs[j]?).elim 0 massF := by
          unfold sumK; rw [List.map_append, List.sum_append]; simp
        rw [s1, ih, ← sumP_one hr e2]
        refine (sumP_add fun x _ => ⟨fun q => ?_, ?_⟩).symm
        · rw [← Bool.not_eq_true]
          intro q2
          obtain ⟨i, hi1, hi2⟩ := List.mem_take_iff_getElem.1 (hasB_iff.1 q)
          have hlt := hi i k (by omega) hk
          rw [hi2, strEq_iff.1 q2, ltName_irrefl] at hlt
          cases hlt
        · rw [List.take_succ_eq_append_getElem hk]
          unfold hasB
          rw [List.any_append]
          simp
theorem metal_sum {xs : List Ingot} (hr : Rises xs) {ids : List ByteArray} (hi : RisesT ids) {cs : List Int} (h : chosenL xs ids = some cs) : metalS xs ids = sumP (fun x => hasB ids x.id) xs := by
  rw [metalS_some h]
  have := metal_names hr hi ids.length cs (Nat.le_refl _) (by rw [List.take_length]; exact h)
  rw [List.take_length] at this
  exact this
/-- the metal of the first melts -/
def metSum (xs : List Ingot) (ms : List Melt) : Int := (ms.map fun m => metalS xs m.ingots).sum
theorem melts_sum {xs : List Ingot} (hr : Rises xs) {ms : List Melt} (hM : meltsB ms = true) (hE : ∀ m ∈ ms, ∃ cs, chosenL xs m.ingots = some cs) : ∀ k, k ≤ ms.length → metSum xs (ms.take k) = sumP (fun x => (ms.take k).any (namesB x.id)) xs
  | 0, _ => by
    rw [sumP_none (fun x _ => by simp)]
    simp [metSum]
  | k + 1, hk => by
    have ih := melts_sum hr hM hE k (by omega)
    have hmk : meltsAt ms k = true := by
      unfold meltsB at hM
      rw [Bool.and_eq_true] at hM
      exact allK_true hM.1 k hk
    rw [meltsAt_eq hk, Bool.and_eq_true, Bool.and_eq_true] at hmk
    obtain ⟨h1, _, h3⟩ := hmk
    have h3 : ((ms.take k).any fun y => commonB y.ingots ms[k].ingots) = false := by simpa using h3
    obtain ⟨cs, hc⟩ := hE ms[k] (List.getElem_mem hk)
    have s1 : metSum xs (ms.take (k + 1)) = metSum xs (ms.take k) + metalS xs ms[k].ingots := by
      unfold metSum; rw [List.take_succ_eq_append_getElem hk, List.map_append, List.sum_append]; simp
    rw [s1, ih, metal_sum hr (risesT_of (meltB_parts h1).2.2.2.1) hc]
    refine (sumP_add fun x _ => ⟨fun q => ?_, ?_⟩).symm
    · rw [← Bool.not_eq_true]
      intro q2
      obtain ⟨y, hy, hn⟩ := List.any_eq_true.1 q
      rw [namesB_has] at hn
      have : ((ms.take k).any fun y => commonB y.ingots ms[k].ingots) = true := by
        rw [List.any_eq_true]
        refine ⟨y, hy, ?_⟩
        unfold commonB
        rw [List.any_eq_true]
        exact ⟨x.id, hasB_iff.1 hn, q2⟩
      rw [h3] at this; cases this
    · rw [List.take_succ_eq_append_getElem hk, List.any_append]
      simp [namesB_has]
theorem sumP_all (xs : List Ingot) : sumP (fun _ => true) xs = (xs.map massF).sum := by simp [sumP]; rfl
theorem lossV_met (xs : List Ingot) : ∀ (ms : List Melt), lossV xs ms + (ms.map Melt.mass).sum = metSum xs ms
  | [] => rfl
  | m :: ms => by
    have := lossV_met xs ms
    unfold lossV metSum at *
    simp only [List.map_cons, List.sum_cons]
    omega
theorem all_parts {xs : List Ingot} {ms : List Melt} (h : allS xs ms = 0) : Rises xs ∧ (∀ x ∈ xs, ingotB x = true) ∧ xs.length ≤ 16 ∧ ms.length ≤ 12 ∧ (∀ m ∈ ms, meltB m = true) ∧ ∀ m ∈ ms, ∃ cs, chosenL xs m.ingots = some cs := by
  obtain ⟨hV, hM, hE⟩ := allS_zero h
  exact ⟨rises_of hV, (validIngotS_true hV).2, (validIngotS_true hV).1, (meltsB_true hM).1, (meltsB_true hM).2, exist_all hE⟩
/-- what is poured, lost and left is all of the metal -/
theorem metal_law {xs : List Ingot} {ms : List Melt} (h : allS xs ms = 0) : lossV xs ms + (ms.map Melt.mass).sum + sumP (fun x => !(ms.any (namesB x.id))) xs = (xs.map massF).sum := by
  obtain ⟨hR, _, _, _, _, hE⟩ := all_parts h
  obtain ⟨_, hM, _⟩ := allS_zero h
  have h1 := melts_sum hR hM hE ms.length (Nat.le_refl _)
  rw [List.take_length] at h1
  rw [lossV_met, h1, ← sumP_all]
  refine (sumP_add fun x _ => ⟨fun q => by rw [q]; rfl, ?_⟩).symm
  cases ms.any (namesB x.id) <;> rfl
/-- an ingot is unused just if no melt names it -/
theorem free_has {xs : List Ingot} {ms : List Melt} {x : Ingot} (hx : x ∈ xs) : hasB (freeL xs ms) x.id = !(ms.any (namesB x.id)) := by
  rw [Bool.eq_iff_iff, hasB_iff]
  unfold freeL
  rw [List.mem_map]
  constructor
  · rintro ⟨y, hy, e⟩
    rw [List.mem_filter] at hy
    rw [← e]; exact hy.2
  · intro q
    exact ⟨x, List.mem_filter.2 ⟨hx, q⟩, rfl⟩
/-- of each melt: its metal is enough, and its alloy is one -/
theorem metal_each {xs : List Ingot} {ms : List Melt} (h : allS xs ms = 0) (hP : mayAll xs ms = true) {m : Melt} (hm : m ∈ ms) :
    metalOfS xs m = (metalS xs m.ingots, 0) ∧ m.mass ≤ metalS xs m.ingots ∧ metalS xs m.ingots ≤ 320000000 ∧ (alloyOfS xs m).2 = 0 ∧ alloyB (alloyOfS xs m).1 = true ∧ 1 ≤ m.mass := by
  obtain ⟨hR, hv, h16, _, hMB, hE⟩ := all_parts h
  obtain ⟨hV, _, _⟩ := allS_zero h
  obtain ⟨cs, hc⟩ := hE m hm
  have hB := hMB m hm
  have ha : askS xs m = 0 := by unfold askS; rw [hV, hB, hc]; rfl
  have hch := ask_choice2 hR hB hc
  have hmb := meltB_parts hB
  have hl : cs.length = m.ingots.length := chosen_len (Nat.le_refl _) (by rw [List.take_length]; exact hc)
  have h1 := mass_posM hv hch (by omega)
  have h2 := metal_bd h16 hv hch
  have h3 := (most_pos ⟨h1, h2.2⟩).2
  have hmay : mayB xs m = true := by
    unfold mayAll at hP
    rw [Bool.not_eq_true', List.any_eq_false] at hP
    have := hP m hm
    simpa using this
  rw [mayB_some hc, decide_eq_true_eq] at hmay
  refine ⟨if_pos ha, ?_, ?_, ?_, ?_, hmb.2.2.2.2.1⟩
  · rw [metalS_some hc]; omega
  · rw [metalS_some hc]; exact h2.2
  · unfold alloyOfS; rw [if_pos ha]
  · unfold alloyOfS; rw [if_pos ha, hc]
    exact mix_valid hv hch (by omega)
end Go.Proofs.Ytnbodmbagendnaa
