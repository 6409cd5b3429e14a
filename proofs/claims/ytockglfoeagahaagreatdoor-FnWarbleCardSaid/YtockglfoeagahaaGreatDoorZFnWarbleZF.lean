/- Contracts and plain facts, joined: Parts. -/
import Derived.Test.YtockglfoeagahaaGreatDoorRows
import Derived.Test.YtockglfoeagahaaGreatDoorZFnWarbleF
import Derived.Test.YtockglfoeagahaaGreatDoorZFnWarbleZA
import Derived.Test.YtockglfoeagahaaGreatDoorZFnWarbleZB
import Derived.Shelf.Strings.SplitShaped
import Derived.Shelf.Strings.Shaped
import Derived.Lib.AtoiErrMem
namespace Go.Proofs.YtockglfoeagahaaGreatDoor
open Go.ChangeShapes Go.WideShapes Go.ChangeAt Go.RowKit Go.Deep Go.Joins
set_option linter.unusedVariables false
set_option maxRecDepth 100000
set_option linter.unusedSimpArgs false
theorem infoStr : (Tryz.prog.info? 9).map (fun i => (i.zero, i.size, i.bytes)) = some (some (.string ByteArray.empty), 1, 16) := by kernel_rfl
theorem strS_one (a : ByteArray) : ∀ u ∈ [Value.string a], u.oneCell' = true := by
  intro u hu
  obtain rfl : u = .string a := by simpa using hu
  rfl
theorem strS_snoc (xs : List ByteArray) (a : ByteArray) : (xs ++ [a]).flatMap putStr = xs.flatMap putStr ++ [.string a] := by rw [List.flatMap_append]; rfl
/-- the parts so far: those that have ended, and what is left from 'from' on -/
def PartsAt (c : UInt8) (s : ByteArray) (i from_ : Nat) (o : List ByteArray) : Prop := from_ ≤ i ∧ partsL c (s.data.toList.take i) = o.map (·.data.toList) ++ [(s.data.toList.take i).drop from_]
theorem partsAt_start (c : UInt8) (s : ByteArray) : PartsAt c s 0 0 [] := ⟨Nat.le_refl _, rfl⟩
theorem extract_toList (s : ByteArray) (a b : Nat) : (s.extract a b).data.toList = (s.data.toList.take b).drop a := by
  rw [ByteArray.data_extract, Array.toList_extract, List.extract_eq_take_drop, ← List.drop_take]
theorem partsAt_hit {c : UInt8} {s : ByteArray} {i f : Nat} {o : List ByteArray} (h : PartsAt c s i f o) (hi : i < s.size) (hc : s[i] = c) : PartsAt c s (i + 1) (i + 1) (o ++ [s.extract f i]) := by
  obtain ⟨h1, h2⟩ := h
  refine ⟨Nat.le_refl _, ?_⟩
  rw [take_snocB s i hi, partsL_snoc h2, if_pos hc, List.map_append, List.map_cons, List.map_nil, extract_toList]
  congr 2
  rw [List.drop_eq_nil_of_le]
  simp
  omega
theorem partsAt_miss {c : UInt8} {s : ByteArray} {i f : Nat} {o : List ByteArray} (h : PartsAt c s i f o) (hi : i < s.size) (hc : s[i] ≠ c) : PartsAt c s (i + 1) f o := by
  obtain ⟨h1, h2⟩ := h
  refine ⟨by omega, ?_⟩
  rw [take_snocB s i hi, partsL_snoc h2, if_neg hc]
  congr 2
  rw [List.drop_append_of_le_length]
  simp
  have : i ≤ s.data.size := Nat.le_of_lt hi
  omega
theorem partsAt_end {c : UInt8} {s : ByteArray} {f : Nat} {o : List ByteArray} (h : PartsAt c s s.size f o) : partsS c s = o ++ [s.extract f s.size] := by
  obtain ⟨h1, h2⟩ := h
  have e : s.data.toList.take s.size = s.data.toList := List.take_of_length_le (by simp)
  unfold partsS
  rw [e] at h2
  rw [h2, List.map_append, List.map_map, List.map_cons, List.map_nil]
  congr 1
  · conv => rhs; rw [← List.map_id o]
    refine List.map_congr_left fun x _ => ?_
    cases x; simp
  · congr 1
    apply bytes_inj
    rw [extract_toList, e]
theorem partsAt_len {c : UInt8} {s : ByteArray} {i f : Nat} {o : List ByteArray} (h : PartsAt c s i f o) : o.length ≤ i := by
  have h1 := partsL_len c (s.data.toList.take i)
  rw [h.2] at h1
  simp at h1
  omega

def Tryz.laySplit_ren : Go.Shelf.Ren := ⟨fun | 146 => 38 | 221 => 53 | 268 => 79 | 138 => 80 | 143 => 81 | 195 => 97 | 197 => 98 | 218 => 99 | 219 => 82 | 260 => 119 | 217 => 100 | 225 => 101 | 224 => 102 | 267 => 103 | 266 => 120 | 314 => 121 | n => n, fun | 9 => 9 | 31 => 62 | 3 => 3 | 4 => 4 | 0 => 0 | 105 => 121 | 21 => 21 | 5 => 5 | 46 => 75 | 119 => 156 | 139 => 159 | 138 => 158 | 146 => 144 | 51 => 106 | n => n, fun | 1 => 1 | 3 => 5 | 4 => 6 | n => n⟩
theorem Tryz.laySplit : Go.Proofs.LaysM.n146 Tryz.prog Tryz.laySplit_ren := {
  mixed := by kernel_rfl
  f138 := Tryz.func80.trans (congrArg some (by kernel_rfl))
  f143 := Tryz.func81.trans (congrArg some (by kernel_rfl))
  f146 := Tryz.func38.trans (congrArg some (by kernel_rfl))
  f195 := Tryz.func97.trans (congrArg some (by kernel_rfl))
  f197 := Tryz.func98.trans (congrArg some (by kernel_rfl))
  f217 := Tryz.func100.trans (congrArg some (by kernel_rfl))
  f218 := Tryz.func99.trans (congrArg some (by kernel_rfl))
  f219 := Tryz.func82.trans (congrArg some (by kernel_rfl))
  f221 := Tryz.func53.trans (congrArg some (by kernel_rfl))
  f224 := Tryz.func102.trans (congrArg some (by kernel_rfl))
  f225 := Tryz.func101.trans (congrArg some (by kernel_rfl))
  f260 := Tryz.func119.trans (congrArg some (by kernel_rfl))
  f266 := Tryz.func120.trans (congrArg some (by kernel_rfl))
  f267 := Tryz.func103.trans (congrArg some (by kernel_rfl))
  f268 := Tryz.func79.trans (congrArg some (by kernel_rfl))
  f314 := Tryz.func121.trans (congrArg some (by kernel_rfl))
  t0 := Tryz.underlying0
  a0 := Tryz.isAgg0
  z0 := Tryz.sizeOf0
  v0 := Tryz.zeroValue0
  t3 := Tryz.underlying3
  a3 := Tryz.isAgg3
  z3 := Tryz.sizeOf3
  v3 := Tryz.zeroValue3
  t4 := Tryz.underlying4
  a4 := Tryz.isAgg4
  z4 := Tryz.sizeOf4
  v4 := Tryz.zeroValue4
  t5 := Tryz.underlying5
  a5 := Tryz.isAgg5
  z5 := Tryz.sizeOf5
  v5 := Tryz.zeroValue5
  t9 := Tryz.underlying9
  a9 := Tryz.isAgg9
  z9 := Tryz.sizeOf9
  v9 := Tryz.zeroValue9
  t21 := Tryz.underlying21
  a21 := Tryz.isAgg21
  z21 := Tryz.sizeOf21
  v21 := Tryz.zeroValue21
  t31 := Tryz.underlying62
  a31 := Tryz.isAgg62
  z31 := Tryz.sizeOf62
  v31 := Tryz.zeroValue62
  t46 := Tryz.underlying75
  a46 := Tryz.isAgg75
  z46 := Tryz.sizeOf75
  v46 := Tryz.zeroValue75
  t51 := Tryz.underlying106
  a51 := Tryz.isAgg106
  z51 := Tryz.sizeOf106
  v51 := Tryz.zeroValue106
  t105 := Tryz.underlying121
  a105 := Tryz.isAgg121
  z105 := Tryz.sizeOf121
  v105 := Tryz.zeroValue121
  t119 := Tryz.underlying156
  a119 := Tryz.isAgg156
  z119 := Tryz.sizeOf156
  t138 := Tryz.underlying158
  a138 := Tryz.isAgg158
  z138 := Tryz.sizeOf158
  v138 := Tryz.zeroValue158
  t139 := Tryz.underlying159
  a139 := Tryz.isAgg159
  z139 := Tryz.sizeOf159
  v139 := Tryz.zeroValue159
  t146 := Tryz.underlying144
  a146 := Tryz.isAgg144
  z146 := Tryz.sizeOf144
  v146 := Tryz.zeroValue144
  g1 := by kernel_rfl
  g3 := by kernel_rfl
  g4 := by kernel_rfl
  i0 := by kernel_rfl
  i3 := by kernel_rfl
  i4 := by kernel_rfl
  i5 := by kernel_rfl
  i9 := by kernel_rfl
  i21 := by kernel_rfl
  i31 := by kernel_rfl
  i46 := by kernel_rfl
  i51 := by kernel_rfl
  i105 := by kernel_rfl
  i138 := by kernel_rfl
  i139 := by kernel_rfl
  i146 := by kernel_rfl
  m1 := by kernel_rfl
  s1_3 := fun w h => Go.Proofs.cell_of_shapedOpen_int (zero := #[.int .i64 0]) (t := 3) h (of_decide_eq_true (by kernel_rfl)) (by kernel_rfl) rfl (by kernel_rfl) (by kernel_rfl) Tryz.underlying3
  m3 := by kernel_rfl
  m4 := by kernel_rfl }
/-- the variable internal/bytealg.MaxLen holds a number -/
def MaxL (w : World) : Prop := ∃ m : Int, w.cell? ⟨1, 0, none⟩ = some (.int .i64 m)
theorem maxL_of {w : World} (h : w.ShapedOpen Tryz.prog) : MaxL w := Tryz.laySplit.s1_3 w h
theorem MaxL.below {w w' : World} (h : MaxL w) (b : Below w.heap.size w w') : MaxL w' := by
  obtain ⟨m, h1⟩ := h
  exact ⟨m, (b.cell (p := ⟨_, 0, none⟩) (Lib.lt_of_cell h1)).trans h1⟩
def Tryz.layCut_ren : Go.Shelf.Ren := ⟨fun | 145 => 39 | 220 => 54 | 219 => 82 | 217 => 100 | 225 => 101 | 224 => 102 | 267 => 103 | 266 => 120 | 314 => 121 | n => n, fun | 9 => 9 | 4 => 4 | 59 => 64 | 3 => 3 | 5 => 5 | 46 => 75 | 146 => 144 | 51 => 106 | n => n, fun | 1 => 1 | n => n⟩
theorem Tryz.layCut : Go.Proofs.LaysM.n145 Tryz.prog Tryz.layCut_ren := {
  mixed := by kernel_rfl
  f145 := Tryz.func39.trans (congrArg some (by kernel_rfl))
  f217 := Tryz.func100.trans (congrArg some (by kernel_rfl))
  f219 := Tryz.func82.trans (congrArg some (by kernel_rfl))
  f220 := Tryz.func54.trans (congrArg some (by kernel_rfl))
  f224 := Tryz.func102.trans (congrArg some (by kernel_rfl))
  f225 := Tryz.func101.trans (congrArg some (by kernel_rfl))
  f266 := Tryz.func120.trans (congrArg some (by kernel_rfl))
  f267 := Tryz.func103.trans (congrArg some (by kernel_rfl))
  f314 := Tryz.func121.trans (congrArg some (by kernel_rfl))
  t3 := Tryz.underlying3
  a3 := Tryz.isAgg3
  z3 := Tryz.sizeOf3
  v3 := Tryz.zeroValue3
  t4 := Tryz.underlying4
  a4 := Tryz.isAgg4
  z4 := Tryz.sizeOf4
  v4 := Tryz.zeroValue4
  t5 := Tryz.underlying5
  a5 := Tryz.isAgg5
  z5 := Tryz.sizeOf5
  v5 := Tryz.zeroValue5
  t9 := Tryz.underlying9
  a9 := Tryz.isAgg9
  z9 := Tryz.sizeOf9
  v9 := Tryz.zeroValue9
  t46 := Tryz.underlying75
  a46 := Tryz.isAgg75
  z46 := Tryz.sizeOf75
  v46 := Tryz.zeroValue75
  t51 := Tryz.underlying106
  a51 := Tryz.isAgg106
  z51 := Tryz.sizeOf106
  v51 := Tryz.zeroValue106
  t59 := Tryz.underlying64
  a59 := Tryz.isAgg64
  z59 := Tryz.sizeOf64
  v59 := Tryz.zeroValue64
  t146 := Tryz.underlying144
  a146 := Tryz.isAgg144
  z146 := Tryz.sizeOf144
  v146 := Tryz.zeroValue144
  g1 := by kernel_rfl
  i3 := by kernel_rfl
  i4 := by kernel_rfl
  i5 := by kernel_rfl
  i9 := by kernel_rfl
  i46 := by kernel_rfl
  i51 := by kernel_rfl
  i59 := by kernel_rfl
  i146 := by kernel_rfl
  m1 := by kernel_rfl
  s1_3 := fun w h => Go.Proofs.cell_of_shapedOpen_int (zero := #[.int .i64 0]) (t := 3) h (of_decide_eq_true (by kernel_rfl)) (by kernel_rfl) rfl (by kernel_rfl) (by kernel_rfl) Tryz.underlying3 }
theorem impl_Split (c : UInt8) (s : ByteArray) (w : World) (hs : s.size ≤ 1048576) (hm : MaxL w) :
    Calls Tryz.prog 38 #[.string s, .string ⟨#[c]⟩] w fun e w' => e = .returned (.slice (some ⟨w.heap.size, 0, none⟩) (partsS c s).length (partsS c s).length) ∧ Own w' w.heap.size 9 ((partsS c s).flatMap putStr) ∧ Below w.heap.size w w' := by
  obtain ⟨m, h1⟩ := hm
  refine (Any.strings_Split { Tryz.laySplit with } Tryz.laySplit.i9 s ⟨#[c]⟩ m w (by omega) h1 (by show 1 ≤ 1; decide)).mono ?_
  rintro e w' ⟨rfl, rfl⟩
  have e1 := partsS_split c s
  have hl : Lib.countB s ⟨#[c]⟩ + 1 = (partsS c s).length := by
    have := Lib.splitB_all ⟨#[c]⟩ (by show 1 ≤ 1; decide) 0 _ s rfl
    rw [e1] at this
    exact this.symm
  rw [hl]
  have e2 : (Lib.splitB ⟨#[c]⟩ 0 (Lib.countB s ⟨#[c]⟩) s).map Value.string = (partsS c s).flatMap putStr := by
    rw [e1]
    generalize partsS c s = xs
    induction xs with
    | nil => rfl
    | cons x xs ih => rw [List.map_cons, List.flatMap_cons, ih]; rfl
  rw [e2]
  exact ⟨rfl, Own.new w _ _, (Below.refl _ _).alloc (Nat.le_refl _) _⟩
theorem impl_Cut (c : UInt8) (s : ByteArray) (w : World) (hs : s.size ≤ 2147483647) (hm : MaxL w) :
    Calls Tryz.prog 39 #[.string s, .string ⟨#[c]⟩] w fun e w' => e = .returned (.tuple #[.string (cutA c s), .string (cutB c s), .bool (cutF c s)]) ∧ Below w.heap.size w w' := by
  obtain ⟨m, h1⟩ := hm
  refine (Any.strings_Cut { Tryz.layCut with } s ⟨#[c]⟩ m w (by omega) h1).mono ?_
  rintro e w' ⟨rfl, n, rfl⟩
  exact ⟨rfl, below_dn (Below.refl _ _) n⟩
end Go.Proofs.YtockglfoeagahaaGreatDoor
