/- Ingots chosen by their ids: plain facts. -/
import Derived.Test.YtdliabgdgjboiaaRows
import Derived.Test.YtdliabgdgjboiaaCmpStr
import Derived.Test.YtdliabgdgjboiaaSearchIngot
import Derived.Test.YtdliabgdgjboiaaMixS
namespace Go.Proofs.Ytdliabgdgjboiaa
open Go.ChangeShapes Go.WideShapes Go.ChangeAt Go.RowKit Go.Deep Go.Joins
set_option linter.unusedVariables false
set_option maxRecDepth 100000
set_option linter.unusedSimpArgs false
def idK (xs : List Ingot) (a : ByteArray) : Option Nat := xs.findIdx? fun x => strEq x.id a
theorem idK_some {xs : List Ingot} {a : ByteArray} {k : Nat} (h : idK xs a = some k) : ∃ hk : k < xs.length, xs[k].id = a := by
  obtain ⟨hk, h1, _⟩ := List.findIdx?_eq_some_iff_getElem.1 h
  exact ⟨hk, strEq_iff.1 h1⟩
theorem idK_none {xs : List Ingot} {a : ByteArray} (h : idK xs a = none) (k : Nat) (hk : k < xs.length) : xs[k].id ≠ a := by
  intro e
  have := List.findIdx?_eq_none_iff.1 h xs[k] (List.getElem_mem hk)
  rw [e, strEq_iff.2 rfl] at this
  cases this
/-- the ids rise -/
def Rises (xs : List Ingot) : Prop := ∀ i j (hij : i < j) (hj : j < xs.length), ltName xs[i].id xs[j].id = true
theorem rises_of {xs : List Ingot} (h : validIngotS xs = true) : Rises xs := by
  simp only [validIngotS, Bool.and_eq_true] at h
  have step : ∀ k (hk : k + 1 < xs.length), ltName xs[k].id xs[k + 1].id = true := fun k hk => by
    have h1 := allK_true h.1 (k + 1) hk
    have h2 := (validIngotS_true (xs := xs) (by simp only [validIngotS, Bool.and_eq_true]; exact h)).2 xs[k + 1] (List.getElem_mem hk)
    rw [stepB_pos hk (by omega) h2] at h1
    exact h1
  intro i j hij hj
  induction j with
  | zero => omega
  | succ j ih =>
    rcases Nat.lt_or_ge i j with h1 | h1
    · exact ltName_trans (ih h1 (by omega)) (step j hj)
    · obtain rfl : i = j := by omega
      exact step i hj
theorem rises_inj {xs : List Ingot} (h : Rises xs) {i j : Nat} (hi : i < xs.length) (hj : j < xs.length) (e : xs[i].id = xs[j].id) : i = j := by
  rcases Nat.lt_trichotomy i j with h1 | h1 | h1
  · have := h i j h1 hj; rw [e, ltName_irrefl] at this; cases this
  · exact h1
  · have := h j i h1 hi; rw [e, ltName_irrefl] at this; cases this
theorem idK_at {xs : List Ingot} (h : Rises xs) {k : Nat} (hk : k < xs.length) : idK xs xs[k].id = some k := by
  cases e : idK xs xs[k].id with
  | none => exact absurd rfl (idK_none e k hk)
  | some j =>
    obtain ⟨hj, e2⟩ := idK_some e
    rw [rises_inj h hj hk e2]
theorem falls_of {xs : List Ingot} (h : Rises xs) (t : ByteArray) : Falls (cmpIngot xs t) xs.length := by
  intro a b hab hb hc
  rw [cmpIngot_at hb] at hc
  rw [cmpIngot_at (by omega)]
  rw [cmpS_lt] at *
  rcases Nat.lt_or_ge a b with h1 | h1
  · exact ltName_trans (h a b h1 hb) hc
  · obtain rfl : a = b := by omega
    exact hc
theorem found_idK {xs : List Ingot} (h : Rises xs) {t : ByteArray} {i : Nat} (hf : Found (cmpIngot xs t) xs.length i) :
    (decide (i < xs.length) && decide (cmpIngot xs t i = 0)) = (idK xs t).isSome ∧ ∀ k, idK xs t = some k → i = k := by
  obtain ⟨hi, hp⟩ := hf
  obtain ⟨h1, h2⟩ := hp (falls_of h t)
  have key : ∀ k, idK xs t = some k → i = k := by
    intro k hk
    obtain ⟨hkl, e⟩ := idK_some hk
    have e0 : cmpIngot xs t k = 0 := by rw [cmpIngot_at hkl]; exact cmpS_zero.2 e
    have hik : i ≤ k := by
      rcases Nat.lt_or_ge k i with h3 | h3
      · have := h1 k h3; omega
      · exact h3
    rcases Nat.lt_or_ge i k with h3 | h3
    · have h4 := h2 i (Nat.le_refl _) (by omega)
      rw [cmpIngot_at (by omega)] at h4
      have h5 : cmpS xs[i].id t < 0 := cmpS_lt.2 (by rw [← e]; exact h i k h3 hkl)
      simp only at h4; omega
    · omega
  refine ⟨?_, key⟩
  cases e : idK xs t with
  | none =>
    by_cases hl : i < xs.length
    · have : cmpIngot xs t i ≠ 0 := by
        rw [cmpIngot_at hl]
        exact fun h0 => idK_none e i hl (cmpS_zero.1 h0)
      simp [this]
    · simp [hl]
  | some k =>
    obtain rfl := key k e
    obtain ⟨hl, e2⟩ := idK_some e
    have : cmpIngot xs t i = 0 := by rw [cmpIngot_at hl]; exact cmpS_zero.2 e2
    simp [hl, this]

def chosenL (xs : List Ingot) (ids : List ByteArray) : Option (List Int) := ids.foldl (fun acc a => acc.bind fun l => (idK xs a).map fun k => l ++ [(k : Int)]) (some [])
theorem chosen_succ (xs : List Ingot) (ids : List ByteArray) (k : Nat) (hk : k < ids.length) : chosenL xs (ids.take (k + 1)) = (chosenL xs (ids.take k)).bind fun l => (idK xs ids[k]).map fun j => l ++ [(j : Int)] := by
  unfold chosenL
  rw [List.take_succ_eq_append_getElem hk, List.foldl_append]
  rfl
theorem chosen_dead (xs : List Ingot) (l : List ByteArray) : l.foldl (fun acc a => acc.bind fun l => (idK xs a).map fun k => l ++ [(k : Int)]) (none : Option (List Int)) = none := by
  induction l with
  | nil => rfl
  | cons a l ih => exact ih
theorem chosen_none {xs : List Ingot} {ids : List ByteArray} {k : Nat} (h : chosenL xs (ids.take k) = none) : chosenL xs ids = none := by
  have e : ids = ids.take k ++ ids.drop k := (List.take_append_drop k ids).symm
  unfold chosenL at *
  rw [e, List.foldl_append, h]
  exact chosen_dead xs _
theorem chosen_no {xs : List Ingot} {ids : List ByteArray} {k : Nat} (hk : k < ids.length) (h : idK xs ids[k] = none) : chosenL xs ids = none := by
  refine chosen_none (k := k + 1) ?_
  rw [chosen_succ xs ids k hk, h]
  cases chosenL xs (ids.take k) <;> rfl
theorem chosen_yes {xs : List Ingot} {ids : List ByteArray} {k : Nat} {cs : List Int} (hk : k < ids.length) (h0 : chosenL xs (ids.take k) = some cs) {j : Nat} (h : idK xs ids[k] = some j) : chosenL xs (ids.take (k + 1)) = some (cs ++ [(j : Int)]) := by
  rw [chosen_succ xs ids k hk, h0, h]; rfl
theorem chosen_len {xs : List Ingot} {ids : List ByteArray} : ∀ {k : Nat} {cs : List Int}, k ≤ ids.length → chosenL xs (ids.take k) = some cs → cs.length = k
  | 0, cs, _, h => by
    have : chosenL xs (ids.take 0) = some [] := rfl
    rw [this] at h; cases h; rfl
  | k + 1, cs, hk, h => by
    rw [chosen_succ xs ids k hk] at h
    cases e : chosenL xs (ids.take k) with
    | none => rw [e] at h; cases h
    | some l =>
      rw [e] at h
      cases e2 : idK xs ids[k] with
      | none => rw [e2] at h; cases h
      | some j =>
        rw [e2] at h
        cases h
        rw [List.length_append, chosen_len (by omega) e]; rfl
theorem putI_snoc (cs : List Int) (j : Int) : (cs ++ [j]).flatMap putI = cs.flatMap putI ++ [.int .i64 j] := by
  rw [List.flatMap_append]; rfl
end Go.Proofs.Ytdliabgdgjboiaa
