/- What a list of melts must be: plain facts. -/
import Derived.Test.YtdliabgdgjboiaaRows
import Derived.Test.YtdliabgdgjboiaaCommon
import Derived.Test.YtdliabgdgjboiaaVMelt
namespace Go.Proofs.Ytdliabgdgjboiaa
open Go.ChangeShapes Go.WideShapes Go.ChangeAt Go.RowKit Go.Deep Go.Joins
set_option linter.unusedVariables false
set_option maxRecDepth 100000
set_option linter.unusedSimpArgs false
/-- what the program may ask of a melt's parts -/
def Melt.fine (x : Melt) : Prop := x.id.size ≤ maxLen ∧ (∀ s ∈ x.ingots, s.size ≤ maxLen) ∧ I64 x.mass ∧ x.ingots.length ≤ 1048576
/-- the id before it is less -/
def ltPrev (xs : List Melt) (k : Nat) : Bool :=
  match k with
  | 0 => true
  | j + 1 => match xs[j]?, xs[j + 1]? with
    | some y, some x => ltName y.id x.id
    | _, _ => true
def meltsAt (xs : List Melt) (k : Nat) : Bool :=
  match xs[k]? with
  | none => true
  | some x => meltB x && (ltPrev xs k && !((xs.take k).any fun y => commonB y.ingots x.ingots))
def meltsB (xs : List Melt) : Bool := allK (meltsAt xs) xs.length && decide (xs.length ≤ 12)
section
variable {xs : List Melt} {k : Nat}
theorem ltPrev_zero (h : k = 0) : ltPrev xs k = true := by subst h; rfl
theorem ltPrev_pos (hk : k < xs.length) (h : 0 < k) : ltPrev xs k = ltName xs[k - 1].id xs[k].id := by
  match k, h with
  | j + 1, _ =>
    unfold ltPrev
    simp [List.getElem?_eq_getElem hk, List.getElem?_eq_getElem (show j < xs.length by omega)]
theorem ltPrev_no (hk : k < xs.length) (h : 0 < k) (hT : ltName xs[k - 1].id xs[k].id = false) : ltPrev xs k = false := by rw [ltPrev_pos hk h, hT]
theorem ltPrev_yes (hk : k < xs.length) (h : 0 < k) (hT : ltName xs[k - 1].id xs[k].id = true) : ltPrev xs k = true := by rw [ltPrev_pos hk h, hT]
theorem meltsAt_eq (hk : k < xs.length) : meltsAt xs k = (meltB xs[k] && (ltPrev xs k && !((xs.take k).any fun y => commonB y.ingots xs[k].ingots))) := by
  unfold meltsAt
  rw [List.getElem?_eq_getElem hk]
theorem meltsAt_no (hk : k < xs.length) (h : meltB xs[k] = false) : meltsAt xs k = false := by rw [meltsAt_eq hk, h]; rfl
theorem meltsAt_lt (hk : k < xs.length) (h : ltPrev xs k = false) : meltsAt xs k = false := by rw [meltsAt_eq hk, h]; simp
theorem meltsAt_com (hk : k < xs.length) (h : ((xs.take k).any fun y => commonB y.ingots xs[k].ingots) = true) : meltsAt xs k = false := by rw [meltsAt_eq hk, h]; simp
theorem meltsAt_yes (hk : k < xs.length) (h1 : meltB xs[k] = true) (h2 : ltPrev xs k = true) (h3 : ((xs.take k).any fun y => commonB y.ingots xs[k].ingots) = false) : meltsAt xs k = true := by rw [meltsAt_eq hk, h1, h2, h3]; rfl
theorem meltsB_no (h : allK (meltsAt xs) xs.length = false) : meltsB xs = false := by unfold meltsB; rw [h]; rfl
theorem any_upto {α : Type} {p : α → Bool} {xs : List α} {m k : Nat} (hm : m < xs.length) (hk : m < k) (h : p xs[m] = true) : (xs.take k).any p = true := by
  rw [List.any_eq_true]
  exact ⟨xs[m], by rw [List.mem_take_iff_getElem]; exact ⟨m, by omega, rfl⟩, h⟩
end
theorem RdM.take {B : Nat} {w : World} {b off cap k n : Nat} {xs : List Melt} (h : RdM B w (.slice (some ⟨b, off, none⟩) n cap) xs) (hk : k ≤ xs.length) : RdM B w (.slice (some ⟨b, off, none⟩) k cap) (xs.take k) := by
  obtain ⟨ao, cap', e, hcap, hmax, hsome⟩ := h
  obtain ⟨rfl, rfl, rfl⟩ : ao = some ⟨b, off, none⟩ ∧ n = xs.length ∧ cap' = cap := by cases e; exact ⟨rfl, rfl, rfl⟩
  have hl : (xs.take k).length = k := by rw [List.length_take]; omega
  refine ⟨_, _, by rw [hl], by omega, hmax, fun hp => ?_⟩
  obtain ⟨b', off', e2, hB, hc⟩ := hsome (by omega)
  refine ⟨b', off', e2, hB, fun m hm => ?_⟩
  have hm2 : m < xs.length := by omega
  have ht : (xs.take k)[m] = xs[m] := List.getElem_take
  obtain ⟨l, c0, c1, c2, hr⟩ := hc m hm2
  exact ⟨l, by rw [ht]; exact c0, c1, by rw [ht]; exact c2, by rw [ht]; exact hr⟩
end Go.Proofs.Ytdliabgdgjboiaa
