/- slices.Sort and slices.Compact at string, on a slice of one's own. -/
import Derived.Test.YtmkemjfbmnnflaaRows
import Derived.Test.YtmkemjfbmnnflaaBellL
import Derived.Test.YtmkemjfbmnnflaaAcc
import Derived.Test.YtmkemjfbmnnflaaHString
import Derived.Test.YtmkemjfbmnnflaaAppSl
import Derived.Shelf.SortM.Plain
import Derived.Shelf.SortM.SortNone
import Derived.Ground.SlgmProg
import Derived.Shelf.SlicesG.CompactS
import Derived.Ground.SlgnProg
import Derived.Sort.OwnSorted
import Derived.Shelf.SlGeneric
namespace Go.Proofs.Ytmkemjfbmnnflaa
open Go.ChangeShapes Go.WideShapes Go.ChangeAt Go.RowKit Go.Deep Go.Joins
set_option linter.unusedVariables false
set_option maxRecDepth 100000
set_option linter.unusedSimpArgs false
theorem encStr_eq (x : ByteArray) : encStr x.data.toList = .string x := rfl
open Go.Sort Go.Shelf in
theorem sort_ownS {P : Program} {ρ} (L : SlLaysM.n6 P ρ) {w : World} {base : Nat} {e : TypeId} {v : Value} {n : Nat} {zs : List (List UInt8)} (h : w.ownsRow base e 1 v n (zs.map encStr)) (hn : n ≤ 1048576) :
    Calls P (ρ.f 6) #[v] w fun e' w' => e' = .returned (.tuple #[]) ∧ w'.ownsRow base e 1 v n ((sortK zs).map encStr) ∧ w.grownBy w' v.ownBlock := by
  obtain ⟨h1, h2⟩ := h
  rw [List.length_map, Nat.mul_one] at h1
  subst h1
  rcases h2 with ⟨rfl, h0⟩ | ⟨g, cap, cur, rfl, hb, hg, hnc, hm, hs, ht⟩
  · have hz : zs = [] := List.eq_nil_of_length_eq_zero h0
    subst hz
    exact (AnyM.slices_Sort_string_none L none 0 w).mono fun e' w' ⟨a, b⟩ => by
      subst b
      exact ⟨a, ⟨by simp [sortK], .inl ⟨rfl, rfl⟩⟩, World.grownBy.refl _ _⟩
  · rw [Nat.mul_one] at ht
    refine (AnyM.slices_Sort_string L g 0 cap zs w (holds_of_block hg ht) (Array.getElem?_eq_some_iff.1 hg).1 (by omega)).mono fun e' w' ⟨a, q, os, hw⟩ => ?_
    subst hw
    exact ⟨a, ownsRow_sorted (sortK_perm zs).length_eq hb hg hnc hm hs, grownBy_sorted _⟩
/-- a slice's first m elements, on the same block -/
theorem own_take {w : World} {base g cap n m : Nat} {e : TypeId} {L : List Value} (h : w.ownsRow base e 1 (.slice (some ⟨g, 0, none⟩) n cap) n L) (hm : m ≤ n) : w.ownsRow base e 1 (.slice (some ⟨g, 0, none⟩) m cap) m (L.take m) := by
  obtain ⟨h1, h2⟩ := h
  rcases h2 with ⟨e0, _⟩ | ⟨g', cap', cur, e0, hb, hg, hnc, hmx, hs, ht⟩
  · cases e0
  · injection e0 with q1 q2 q3
    injection q1 with q4
    injection q4 with q5
    subst q5; subst q3
    refine ⟨by rw [List.length_take]; omega, .inr ⟨g, cap, cur, rfl, hb, hg, by omega, hmx, hs, ?_⟩⟩
    rw [← ht, Nat.mul_one, Nat.mul_one, List.take_take, Nat.min_eq_left hm]
theorem grow_nil (w : World) : Go.Sort.grow w #[] = w := by cases w; simp [Go.Sort.grow]
open Go.Sort Go.Shelf in
theorem compact_ownS {P : Program} {ρ} (L : SlLaysN.n44 P ρ) {w : World} {base : Nat} {e : TypeId} {v : Value} {n : Nat} {zs : List (List UInt8)} (h : w.ownsRow base e 1 v n (zs.map encStr)) (hn : n ≤ 1048576) :
    Calls P (ρ.f 44) #[v] w fun e' w' => ∃ r, e' = .returned r ∧ w'.ownsRow base e 1 r (Lib.compact zs).length ((Lib.compact zs).map encStr) ∧ w.grownBy w' v.ownBlock := by
  obtain ⟨h1, h2⟩ := h
  rw [List.length_map, Nat.mul_one] at h1
  subst h1
  rcases h2 with ⟨rfl, h0⟩ | ⟨g, cap, cur, rfl, hb, hg, hnc, hm, hs, ht⟩
  · have hz : zs = [] := List.eq_nil_of_length_eq_zero h0
    subst hz
    exact (AnyG.slices_Compact_string_empty L none 0 w).mono fun e' w' ⟨a, b⟩ => by
      subst b
      exact ⟨_, a, ⟨by simp [Lib.compact, Lib.compactUpTo], .inl ⟨rfl, rfl⟩⟩, World.grownBy.refl _ _⟩
  · rw [Nat.mul_one] at ht
    have hcl : (Lib.compact zs).length ≤ zs.length := by
      unfold Lib.compact Lib.compactUpTo
      rw [List.length_map]
      have := List.length_filter_le (Lib.keeps zs.toArray) (List.range zs.length)
      rwa [List.length_range] at this
    refine (AnyG.slices_Compact_string L g 0 cap zs w (holds_of_block hg ht) (by omega) hnc).mono fun e' w' ⟨a, q, hw⟩ => ?_
    have eg : w' = grow (putRow encStr (Sort.ahead w q) g 0 (Lib.compact zs ++ List.replicate (zs.length - (Lib.compact zs).length) []).toArray) #[] := by
      rw [hw, grow_nil]
    subst eg
    refine ⟨_, a, ?_, grownBy_sorted _⟩
    have ho := ownsRow_sorted (os := #[]) (n := q) (ss := zs) (ts := Lib.compact zs ++ List.replicate (zs.length - (Lib.compact zs).length) []) (by rw [List.length_append, List.length_replicate]; omega) hb hg hnc hm hs
    have := own_take ho hcl
    rwa [List.map_append, List.take_left' (by rw [List.length_map])] at this
def Try.sortLS_ren : Go.Shelf.Ren := ⟨fun | 6 => 53 | 8 => 77 | 9 => 76 | 19 => 102 | 20 => 103 | 21 => 93 | 22 => 94 | 23 => 95 | 24 => 96 | 25 => 97 | 26 => 98 | 27 => 99 | 28 => 100 | 29 => 101 | 36 => 117 | 31 => 118 | 32 => 119 | 37 => 120 | 38 => 121 | 39 => 122 | 41 => 127 | n => n, fun | 27 => 36 | 29 => 9 | 3 => 3 | 32 => 83 | 26 => 36 | 0 => 0 | 44 => 102 | 46 => 104 | 4 => 4 | 36 => 94 | 35 => 93 | 41 => 99 | 5 => 5 | 9 => 9 | 53 => 112 | 57 => 116 | 63 => 120 | 64 => 121 | n => n, fun | n => n⟩
theorem Try.sortLS : Go.Proofs.SlLaysM.n6 Try.prog Try.sortLS_ren := {
  mixed := by kernel_rfl
  f6 := ⟨Try.f53.name, by decide, Try.func53.trans (congrArg some (by kernel_rfl))⟩
  f8 := Try.func77.trans (congrArg some (by kernel_rfl))
  f9 := ⟨Try.f76.name, by decide, Try.func76.trans (congrArg some (by kernel_rfl))⟩
  f19 := Try.func102.trans (congrArg some (by kernel_rfl))
  f20 := Try.func103.trans (congrArg some (by kernel_rfl))
  f21 := ⟨Try.f93.name, by decide, Try.func93.trans (congrArg some (by kernel_rfl))⟩
  f22 := ⟨Try.f94.name, by decide, Try.func94.trans (congrArg some (by kernel_rfl))⟩
  f23 := ⟨Try.f95.name, by decide, Try.func95.trans (congrArg some (by kernel_rfl))⟩
  f24 := ⟨Try.f96.name, by decide, Try.func96.trans (congrArg some (by kernel_rfl))⟩
  f25 := ⟨Try.f97.name, by decide, Try.func97.trans (congrArg some (by kernel_rfl))⟩
  f26 := ⟨Try.f98.name, by decide, Try.func98.trans (congrArg some (by kernel_rfl))⟩
  f27 := ⟨Try.f99.name, by decide, Try.func99.trans (congrArg some (by kernel_rfl))⟩
  f28 := ⟨Try.f100.name, by decide, Try.func100.trans (congrArg some (by kernel_rfl))⟩
  f29 := ⟨Try.f101.name, by decide, Try.func101.trans (congrArg some (by kernel_rfl))⟩
  f31 := Try.func118.trans (congrArg some (by kernel_rfl))
  f32 := Try.func119.trans (congrArg some (by kernel_rfl))
  f36 := ⟨Try.f117.name, by decide, Try.func117.trans (congrArg some (by kernel_rfl))⟩
  f37 := ⟨Try.f120.name, by decide, Try.func120.trans (congrArg some (by kernel_rfl))⟩
  f38 := ⟨Try.f121.name, by decide, Try.func121.trans (congrArg some (by kernel_rfl))⟩
  f39 := ⟨Try.f122.name, by decide, Try.func122.trans (congrArg some (by kernel_rfl))⟩
  f41 := ⟨Try.f127.name, by decide, Try.func127.trans (congrArg some (by kernel_rfl))⟩
  t0 := Try.underlying0
  a0 := Try.isAgg0
  z0 := Try.sizeOf0
  v0 := Try.zeroValue0
  t3 := Try.underlying3
  a3 := Try.isAgg3
  z3 := Try.sizeOf3
  v3 := Try.zeroValue3
  t4 := Try.underlying4
  a4 := Try.isAgg4
  z4 := Try.sizeOf4
  v4 := Try.zeroValue4
  t5 := Try.underlying5
  a5 := Try.isAgg5
  z5 := Try.sizeOf5
  v5 := Try.zeroValue5
  t9 := Try.underlying9
  a9 := Try.isAgg9
  z9 := Try.sizeOf9
  v9 := Try.zeroValue9
  t26 := Try.underlying36
  a26 := Try.isAgg36
  z26 := Try.sizeOf36
  v26 := Try.zeroValue36
  t27 := Try.underlying36
  a27 := Try.isAgg36
  z27 := Try.sizeOf36
  v27 := Try.zeroValue36
  t29 := Try.underlying9
  a29 := Try.isAgg9
  z29 := Try.sizeOf9
  v29 := Try.zeroValue9
  t32 := Try.underlying83
  a32 := Try.isAgg83
  z32 := Try.sizeOf83
  v32 := Try.zeroValue83
  t35 := Try.underlying93
  a35 := Try.isAgg93
  z35 := Try.sizeOf93
  v35 := Try.zeroValue93
  t36 := Try.underlying94
  a36 := Try.isAgg94
  z36 := Try.sizeOf94
  v36 := Try.zeroValue94
  t41 := Try.underlying99
  a41 := Try.isAgg99
  z41 := Try.sizeOf99
  v41 := Try.zeroValue99
  t44 := Try.underlying102
  a44 := Try.isAgg102
  z44 := Try.sizeOf102
  v44 := Try.zeroValue102
  t46 := Try.underlying104
  a46 := Try.isAgg104
  z46 := Try.sizeOf104
  v46 := Try.zeroValue104
  t53 := Try.underlying112
  a53 := Try.isAgg112
  z53 := Try.sizeOf112
  v53 := Try.zeroValue112
  t57 := Try.underlying116
  a57 := Try.isAgg116
  z57 := Try.sizeOf116
  v57 := Try.zeroValue116
  t63 := Try.underlying120
  a63 := Try.isAgg120
  z63 := Try.sizeOf120
  v63 := Try.zeroValue120
  t64 := Try.underlying121
  a64 := Try.isAgg121
  z64 := Try.sizeOf121
  v64 := Try.zeroValue121 }
def Try.compLS_ren : Go.Shelf.Ren := ⟨fun | 44 => 54 | n => n, fun | 25 => 36 | 26 => 9 | 3 => 3 | 4 => 4 | 0 => 0 | n => n, fun | n => n⟩
theorem Try.compLS : Go.Proofs.SlLaysN.n44 Try.prog Try.compLS_ren := {
  mixed := by kernel_rfl
  f44 := ⟨Try.f54.name, by decide, Try.func54.trans (congrArg some (by kernel_rfl))⟩
  t0 := Try.underlying0
  a0 := Try.isAgg0
  z0 := Try.sizeOf0
  v0 := Try.zeroValue0
  t3 := Try.underlying3
  a3 := Try.isAgg3
  z3 := Try.sizeOf3
  v3 := Try.zeroValue3
  t4 := Try.underlying4
  a4 := Try.isAgg4
  z4 := Try.sizeOf4
  v4 := Try.zeroValue4
  t25 := Try.underlying36
  a25 := Try.isAgg36
  z25 := Try.sizeOf36
  v25 := Try.zeroValue36
  t26 := Try.underlying9
  a26 := Try.isAgg9
  z26 := Try.sizeOf9
  v26 := Try.zeroValue9
  i26 := by kernel_rfl }
theorem slices_Sort_str (w : World) (base : Nat) (e : TypeId) (v : Value) (n : Nat) (zs : List (List UInt8)) (h : w.ownsRow base e 1 v n (zs.map encStr)) (hn : n ≤ 1048576) :
    Calls Try.prog 53 #[v] w fun e' w' => e' = .returned (.tuple #[]) ∧ w'.ownsRow base e 1 v n ((sortK zs).map encStr) ∧ w.grownBy w' v.ownBlock := sort_ownS Try.sortLS h hn
theorem slices_Compact_str (w : World) (base : Nat) (e : TypeId) (v : Value) (n : Nat) (zs : List (List UInt8)) (h : w.ownsRow base e 1 v n (zs.map encStr)) (hn : n ≤ 1048576) :
    Calls Try.prog 54 #[v] w fun e' w' => ∃ r, e' = .returned r ∧ w'.ownsRow base e 1 r (Go.Lib.compact zs).length ((Go.Lib.compact zs).map encStr) ∧ w.grownBy w' v.ownBlock := compact_ownS Try.compLS h hn
end Go.Proofs.Ytmkemjfbmnnflaa
