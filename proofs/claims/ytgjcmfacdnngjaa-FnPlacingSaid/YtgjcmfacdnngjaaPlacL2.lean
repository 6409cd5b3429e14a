/- FnPlacing: a placement in numbers: the plain law. -/
import Derived.Test.YtgjcmfacdnngjaaRows
import Derived.Test.YtgjcmfacdnngjaaPlacL
import Derived.Test.YtgjcmfacdnngjaaFitsHole
import Derived.Test.YtgjcmfacdnngjaaCount
namespace Go.Proofs.Ytgjcmfacdnngjaa
open Go.ChangeShapes Go.WideShapes Go.ChangeAt Go.RowKit Go.Deep Go.Joins
set_option linter.unusedVariables false
set_option maxRecDepth 100000
set_option linter.unusedSimpArgs false
theorem okP_len : ∀ (cs : List (List Nat)) (u : Nat) (p : List (Option Nat)), okP cs u p → p.length = cs.length
  | [], _, [], _ => rfl
  | _ :: cs, u, none :: p, h => by simpa using okP_len cs u p h
  | _ :: cs, u, some k :: p, h => by simpa using okP_len cs (setU u k) p h.2.2
theorem okP_at : ∀ (cs : List (List Nat)) (u : Nat) (p : List (Option Nat)) (i k : Nat), okP cs u p → p[i]? = some (some k) → ∃ c, cs[i]? = some c ∧ k ∈ c ∧ bitU (endU u (p.take i)) k = false
  | [], _, [], i, _, _, h => by simp at h
  | _ :: cs, u, none :: p, 0, k, _, h1 => by simp at h1
  | c :: cs, u, some j :: p, 0, k, h, h1 => by
    simp at h1; subst h1
    exact ⟨c, rfl, h.1, h.2.1⟩
  | _ :: cs, u, none :: p, i + 1, k, h, h1 => by
    obtain ⟨c, a, b, d⟩ := okP_at cs u p i k h (by simpa using h1)
    exact ⟨c, by simpa using a, b, d⟩
  | _ :: cs, u, some j :: p, i + 1, k, h, h1 => by
    obtain ⟨c, a, b, d⟩ := okP_at cs (setU u j) p i k h.2.2 (by simpa using h1)
    exact ⟨c, by simpa using a, b, d⟩
theorem endU_app : ∀ (p q : List (Option Nat)) (u : Nat), endU u (p ++ q) = endU (endU u p) q
  | [], _, _ => rfl
  | none :: p, q, u => endU_app p q u
  | some k :: p, q, u => endU_app p q (setU u k)
theorem cntP_app : ∀ (p q : List (Option Nat)), cntP (p ++ q) = cntP p + cntP q
  | [], _ => by simp [cntP]
  | none :: p, q => cntP_app p q
  | some k :: p, q => by
    have := cntP_app p q
    show 1 + cntP (p ++ q) = 1 + cntP p + cntP q
    omega
theorem endU_lt : ∀ (cs : List (List Nat)) (u : Nat) (p : List (Option Nat)), u < 16 → (∀ c ∈ cs, ∀ k ∈ c, k < 4) → okP cs u p → endU u p < 16
  | [], _, [], h, _, _ => h
  | _ :: cs, u, none :: p, hu, hc, h => endU_lt cs u p hu (fun c' h' => hc c' (List.mem_cons_of_mem _ h')) h
  | c :: cs, u, some k :: p, hu, hc, h => endU_lt cs (setU u k) p (setU_lt u hu k (hc c (List.mem_cons_self ..) k h.1)) (fun c' h' => hc c' (List.mem_cons_of_mem _ h')) h.2.2
theorem okP_take : ∀ (cs : List (List Nat)) (u : Nat) (p : List (Option Nat)) (i : Nat), okP cs u p → okP (cs.take i) u (p.take i)
  | [], _, [], i, _ => by simp [okP]
  | _ :: _, _, _ :: _, 0, _ => by simp [okP]
  | c :: cs, u, none :: p, i + 1, h => by simpa [okP] using okP_take cs u p i h
  | c :: cs, u, some k :: p, i + 1, h => by
    have := okP_take cs (setU u k) p i h.2.2
    exact ⟨h.1, h.2.1, by simpa using this⟩
/-- a place as the program writes it -/
def numP : Option Nat → Int
  | none => -1
  | some k => k
theorem cntS_numP : ∀ p : List (Option Nat), cntS (p.map numP) = cntP p
  | [] => rfl
  | none :: p => by
    have := cntS_numP p
    unfold cntS at *
    simp [numP, cntP, List.filter_cons]
    exact this
  | some k :: p => by
    have := cntS_numP p
    unfold cntS at *
    have h : decide (0 ≤ (k : Int)) = true := by simp
    simp only [List.map_cons, numP, cntP, List.filter_cons, h, if_true, List.length_cons]
    push_cast
    omega
/-- the indices of the holes into which a mould fits -/
def fitsN (x : Profile) (wall : Int) (hs : List Hole) (n : Nat) : List Nat := (List.range n).filter fun k => match hs[k]? with | some h => fitsHoleB x wall h | none => false
theorem fitsN_succ (x : Profile) (wall : Int) (hs : List Hole) (n : Nat) (h : n < hs.length) : fitsN x wall hs (n + 1) = fitsN x wall hs n ++ if fitsHoleB x wall hs[n] then [n] else [] := by
  unfold fitsN
  rw [List.range_succ, List.filter_append]
  congr 1
  rw [List.filter_cons, List.getElem?_eq_getElem h]
  rfl
theorem fitsN_mem {x : Profile} {wall : Int} {hs : List Hole} {n k : Nat} (h : k ∈ fitsN x wall hs n) : k < n := by
  unfold fitsN at h
  exact List.mem_range.1 (List.mem_filter.1 h).1
theorem fitsN_fits {x : Profile} {wall : Int} {hs : List Hole} {k : Nat} (h : k ∈ fitsN x wall hs hs.length) : ∃ hk : k < hs.length, fitsHoleB x wall hs[k] = true := by
  have hk := fitsN_mem h
  unfold fitsN at h
  have := (List.mem_filter.1 h).2
  rw [List.getElem?_eq_getElem hk] at this
  exact ⟨hk, this⟩
theorem fitsN_len (x : Profile) (wall : Int) (hs : List Hole) (n : Nat) : (fitsN x wall hs n).length ≤ n := by
  unfold fitsN
  have := List.length_filter_le (fun k => match hs[k]? with | some h => fitsHoleB x wall h | none => false) (List.range n)
  rwa [List.length_range] at this
/-- the numbers of a list of indices -/
def intsN (c : List Nat) : List Int := c.map fun (k : Nat) => (k : Int)
theorem intsN_len (c : List Nat) : (intsN c).length = c.length := by simp [intsN]
theorem intsN_get (c : List Nat) (k : Nat) (h : k < c.length) : ((intsN c).flatMap putI)[k]? = some (.int .i64 (c[k] : Int)) := by
  rw [putI_get _ k (by rw [intsN_len]; exact h)]
  simp [intsN]
/-- a mask, shifted and masked -/
theorem shr_and : ∀ u < 16, ∀ k < 4, ((u >>> k) &&& 1 = 0) ↔ bitU u k = false := by decide
theorem or_shl : ∀ u < 16, ∀ k < 4, (u ||| (1 <<< k)) = setU u k := by decide
end Go.Proofs.Ytgjcmfacdnngjaa
