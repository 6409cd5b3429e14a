/- slices.Sort and slices.Compact at string, on a slice of one's own. -/
import Derived.Test.YtmkemjfbmnnflaaRows
import Derived.Test.YtmkemjfbmnnflaaBellL
import Derived.Test.YtmkemjfbmnnflaaAcc
import Derived.Test.YtmkemjfbmnnflaaHString
import Derived.Test.YtmkemjfbmnnflaaAppSl
import Derived.Shelf.SortM.Plain
import Derived.Shelf.SortM.SortNone
import Derived.Ground.SlgmProg
import Derived.Shelf.SlicesG.CompactS
import Derived.Ground.SlgnProg
import Derived.Sort.OwnSorted
import Derived.Shelf.SlGeneric
namespace Go.Proofs.Ytmkemjfbmnnflaa
open Go.ChangeShapes Go.WideShapes Go.ChangeAt Go.RowKit Go.Deep Go.Joins
set_option linter.unusedVariables false
set_option maxRecDepth 100000
set_option linter.unusedSimpArgs false
theorem encStr_eq (x : ByteArray) : encStr x.data.toList = .string x := rfl
open Go.Sort Go.Shelf in
theorem sort_ownS {P : Program} {ρ} (L : SlLaysM.n6 P ρ) {w : World} {base : Nat} {e : TypeId} {v : Value} {n : Nat} {zs : List (List UInt8)} (h : w.ownsRow base e 1 v n (zs.map encStr)) (hn : n ≤ 1048576) :
    Calls P (ρ.f 6) #[v] w fun e' w' => e' = .returned (.tuple #[]) ∧ w'.ownsRow base e 1 v n ((sortK zs).map encStr) ∧ w.grownBy w' v.ownBlock := by
  obtain ⟨h1, h2⟩ := h
  rw [List.length_map, Nat.mul_one] at h1
  subst h1
  rcases h2 with ⟨rfl, h0⟩ | ⟨g, cap, cur, rfl, hb, hg, hnc, hm, hs, ht⟩
  · have hz : zs = [] := List.eq_nil_of_length_eq_zero h0
    subst hz
    exact (AnyM.slices_Sort_string_none L none 0 w).mono fun e' w' ⟨a, b⟩ => by
      subst b
      exact ⟨a, ⟨by simp [sortK], .inl ⟨rfl, rfl⟩⟩, World.grownBy.refl _ _⟩
  · rw [Nat.mul_one] at ht
    refine (AnyM.slices_Sort_string L g 0 cap zs w (holds_of_block hg ht) (Array.getElem?_eq_some_iff.1 hg).1 (by omega)).mono fun e' w' ⟨a, q, os, hw⟩ => ?_
    subst hw
    exact ⟨a, ownsRow_sorted (sortK_perm zs).length_eq hb hg hnc hm hs, grownBy_sorted _⟩
/-- a slice's first m elements, on the same block -/
theorem own_take {w : World} {base g cap n m : Nat} {e : TypeId} {L : List Value} (h : w.ownsRow base e 1 (.slice (some ⟨g, 0, none⟩) n cap) n L) (hm : m ≤ n) : w.ownsRow base e 1 (.slice (some ⟨g, 0, none⟩) m cap) m (L.take m) := by
  obtain ⟨h1, h2⟩ := h
  rcases h2 with ⟨e0, _⟩ | ⟨g', cap', cur, e0, hb, hg, hnc, hmx, hs, ht⟩
  · cases e0
  · injection e0 with q1 q2 q3
    injection q1 with q4
    injection q4 with q5
    subst q5; subst q3
    refine ⟨by rw [List.length_take]; omega, .inr ⟨g, cap, cur, rfl, hb, hg, by omega, hmx, hs, ?_⟩⟩
    rw [← ht, Nat.mul_one, Nat.mul_one, List.take_take, Nat.min_eq_left hm]
theorem grow_nil (w : World) : Go.Sort.grow w #[] = w := by cases w; simp [Go.Sort.grow]
open Go.Sort Go.Shelf in
theorem compact_ownS {P : Program} {ρ} (L : SlLaysN.n44 P ρ) {w : World} {base : Nat} {e : TypeId} {v : Value} {n : Nat} {zs : List (List UInt8)} (h : w.ownsRow base e 1 v n (zs.map encStr)) (hn : n ≤ 1048576) :
    Calls P (ρ.f 44) #[v] w fun e' w' => ∃ r, e' = .returned r ∧ w'.ownsRow base e 1 r (Lib.compact zs).length ((Lib.compact zs).map encStr) ∧ w.grownBy w' v.ownBlock := by
  obtain ⟨h1, h2⟩ := h
  rw [List.length_map, Nat.mul_one] at h1
  subst h1
  rcases h2 with ⟨rfl, h0⟩ | ⟨g, cap, cur, rfl, hb, hg, hnc, hm, hs, ht⟩
  · have hz : zs = [] := List.eq_nil_of_length_eq_zero h0
    subst hz
    exact (AnyG.slices_Compact_string_empty L none 0 w).mono fun e' w' ⟨a, b⟩ => by
      subst b
      exact ⟨_, a, ⟨by simp [Lib.compact, Lib.compactUpTo], .inl ⟨rfl, rfl⟩⟩, World.grownBy.refl _ _⟩
  · rw [Nat.mul_one] at ht
    have hcl : (Lib.compact zs).length ≤ zs.length := by
      unfold Lib.compact Lib.compactUpTo
      rw [List.length_map]
      have := List.length_filter_le (Lib.keeps zs.toArray) (List.range zs.length)
      rwa [List.length_range] at this
    refine (AnyG.slices_Compact_string L g 0 cap zs w (holds_of_block hg ht) (by omega) hnc).mono fun e' w' ⟨a, q, hw⟩ => ?_
    have eg : w' = grow (putRow encStr (Sort.ahead w q) g 0 (Lib.compact zs ++ List.replicate (zs.length - (Lib.compact zs).length) []).toArray) #[] := by
      rw [hw, grow_nil]
    subst eg
    refine ⟨_, a, ?_, grownBy_sorted _⟩
    have ho := ownsRow_sorted (os := #[]) (n := q) (ss := zs) (ts := Lib.compact zs ++ List.replicate (zs.length - (Lib.compact zs).length) []) (by rw [List.length_append, List.length_replicate]; omega) hb hg hnc hm hs
    have := own_take ho hcl
    rwa [List.map_append, List.take_left' (by rw [List.length_map])] at this
open Go.Shelf in
shelf_lay_g SlLaysM.n6 Slgm 6 at Try 53 as Try.sortLS
open Go.Shelf in
shelf_lay_g SlLaysN.n44 Slgn 44 at Try 54 as Try.compLS
theorem slices_Sort_str (w : World) (base : Nat) (e : TypeId) (v : Value) (n : Nat) (zs : List (List UInt8)) (h : w.ownsRow base e 1 v n (zs.map encStr)) (hn : n ≤ 1048576) :
    Calls Try.prog 53 #[v] w fun e' w' => e' = .returned (.tuple #[]) ∧ w'.ownsRow base e 1 v n ((sortK zs).map encStr) ∧ w.grownBy w' v.ownBlock := sort_ownS Try.sortLS h hn
theorem slices_Compact_str (w : World) (base : Nat) (e : TypeId) (v : Value) (n : Nat) (zs : List (List UInt8)) (h : w.ownsRow base e 1 v n (zs.map encStr)) (hn : n ≤ 1048576) :
    Calls Try.prog 54 #[v] w fun e' w' => ∃ r, e' = .returned r ∧ w'.ownsRow base e 1 r (Go.Lib.compact zs).length ((Go.Lib.compact zs).map encStr) ∧ w.grownBy w' v.ownBlock := compact_ownS Try.compLS h hn
end Go.Proofs.Ytmkemjfbmnnflaa
