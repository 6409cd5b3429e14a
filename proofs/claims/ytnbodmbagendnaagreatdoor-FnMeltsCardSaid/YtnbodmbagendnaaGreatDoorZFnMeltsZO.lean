/- Contracts and plain facts, joined: ReadMeL, Num, Parts, ReadMe. -/
import Derived.Test.YtnbodmbagendnaaGreatDoorRows
import Derived.Test.YtnbodmbagendnaaGreatDoorZFnMeltsK
import Derived.Test.YtnbodmbagendnaaGreatDoorZFnMeltsT
import Derived.Test.YtnbodmbagendnaaGreatDoorZFnMeltsU
import Derived.Test.YtnbodmbagendnaaGreatDoorZFnMeltsX
import Derived.Test.YtnbodmbagendnaaGreatDoorZFnMeltsZL
import Derived.Test.YtnbodmbagendnaaGreatDoorZFnMeltsZN
import Derived.Shelf.Strings.Prefix
import Derived.Shelf.Strconv.ParseIntPublic10
import Derived.Shelf.Strconv.ErrVarParseInt
import Derived.Shelf.Strings.SplitShaped
import Derived.Shelf.Strings.Shaped
import Derived.Lib.AtoiErrMem
import Derived.Deep.RegionHeld3
namespace Go.Proofs.YtnbodmbagendnaaGreatDoor
open Go.ChangeShapes Go.WideShapes Go.ChangeAt Go.RowKit Go.Deep Go.Joins
set_option linter.unusedVariables false
set_option maxRecDepth 100000
set_option linter.unusedSimpArgs false
def mkMelt (a : ByteArray) (xs : List ByteArray) (m : Int) : Melt := ⟨a, .slice none 0 0, xs, m⟩
def meltOf (a b : ByteArray) (c : Option Int) : Option Melt := match c with
  | some m => if meltB (mkMelt a (partsS 44 b) m) = true then some (mkMelt a (partsS 44 b) m) else none
  | none => none
def meltR (s : ByteArray) : Option Melt := match partsS 32 s with
  | [a, b, c] => meltOf a b (numS c)
  | _ => none
def meltV (s : ByteArray) : Melt := (meltR s).getD (mkMelt ⟨#[]⟩ [] 0)
theorem meltV_some {s : ByteArray} {x : Melt} (h : meltR s = some x) : meltV s = x ∧ (meltR s).isSome = true := by unfold meltV; rw [h]; exact ⟨rfl, rfl⟩
theorem meltV_none {s : ByteArray} (h : meltR s = none) : meltV s = mkMelt ⟨#[]⟩ [] 0 ∧ (meltR s).isSome = false := by unfold meltV; rw [h]; exact ⟨rfl, rfl⟩
theorem meltR_not3 {s : ByteArray} (h : (partsS 32 s).length ≠ 3) : meltR s = none := by
  unfold meltR
  split
  · rename_i a b c hp; rw [hp] at h; exact absurd rfl h
  · rfl
theorem meltR_three {s a b c : ByteArray} (h : partsS 32 s = [a, b, c]) : meltR s = meltOf a b (numS c) := by unfold meltR; rw [h]
theorem meltR_no {s a b c : ByteArray} (h : partsS 32 s = [a, b, c]) (hn : numS c = none) : meltR s = none := by rw [meltR_three h, hn]; rfl
theorem meltR_yes {s a b c : ByteArray} {m : Int} (h : partsS 32 s = [a, b, c]) (hn : numS c = some m) : meltR s = if meltB (mkMelt a (partsS 44 b) m) = true then some (mkMelt a (partsS 44 b) m) else none := by rw [meltR_three h, hn]; rfl
/-- the program's two tests say what the reference finds -/
theorem melt_tests {s a b c : ByteArray} (h : partsS 32 s = [a, b, c]) : (meltB (mkMelt a (partsS 44 b) (numV c)) = true → meltT (mkMelt a (partsS 44 b) (numV c)) = s → meltR s = some (mkMelt a (partsS 44 b) (numV c))) ∧ (meltB (mkMelt a (partsS 44 b) (numV c)) = false → meltR s = none) ∧ (meltT (mkMelt a (partsS 44 b) (numV c)) ≠ s → meltR s = none) := by
  have es := parts_three h
  refine ⟨fun hb ht => ?_, fun hb => ?_, fun ht => ?_⟩
  · have e : meltT (mkMelt a (partsS 44 b) (numV c)) = a ++ ⟨#[32]⟩ ++ joinT 44 (partsS 44 b) ++ ⟨#[32]⟩ ++ decT (numV c) := if_pos hb
    rw [e, partsS_join] at ht
    have hc : decT (numV c) = c := app_cancel (ht.trans es)
    have hbd := numV_bd c
    have hn := (num_iff hbd.1 hbd.2).2 hc
    rw [meltR_yes h hn, if_pos hb]
  · cases hn : numS c with
    | none => exact meltR_no h hn
    | some m =>
      rw [(num_some hn).1] at hb
      rw [meltR_yes h hn, if_neg (by rw [hb]; simp)]
  · cases hn : numS c with
    | none => exact meltR_no h hn
    | some m =>
      rw [meltR_yes h hn]
      rw [(num_some hn).1] at ht
      by_cases hb : meltB (mkMelt a (partsS 44 b) m) = true
      · refine absurd ?_ ht
        have e : meltT (mkMelt a (partsS 44 b) m) = a ++ ⟨#[32]⟩ ++ joinT 44 (partsS 44 b) ++ ⟨#[32]⟩ ++ decT m := if_pos hb
        rw [e, partsS_join, (num_text hn).1, ← es]
      · exact if_neg hb
end Go.Proofs.YtnbodmbagendnaaGreatDoor
namespace Go.Proofs.YtnbodmbagendnaaGreatDoor
open Go.ChangeShapes Go.WideShapes Go.ChangeAt Go.RowKit Go.Deep Go.Joins
set_option linter.unusedVariables false
set_option maxRecDepth 100000
set_option linter.unusedSimpArgs false
theorem head_at (s : ByteArray) (k : Nat) (h : k < s.size) : (s.data.toList.drop k).head? = some s[k] := by
  rw [List.head?_drop, List.getElem?_eq_getElem (by simpa using h)]; rfl
theorem drop_at (s : ByteArray) (a k : Nat) (h : a + k < s.size) : (s.data.toList.drop a)[k]? = some s[a + k] := by
  rw [List.getElem?_drop, List.getElem?_eq_getElem (by simpa using h)]; rfl
theorem len_drop (s : ByteArray) (a : Nat) : (s.data.toList.drop a).length = s.size - a := by
  rw [List.length_drop]; simp
end Go.Proofs.YtnbodmbagendnaaGreatDoor
namespace Go.Proofs.YtnbodmbagendnaaGreatDoor
open Go.ChangeShapes Go.WideShapes Go.ChangeAt Go.RowKit Go.Deep Go.Joins
set_option linter.unusedVariables false
set_option maxRecDepth 100000
set_option linter.unusedSimpArgs false
theorem infoStr : (Tryz.prog.info? 9).map (fun i => (i.zero, i.size, i.bytes)) = some (some (.string ByteArray.empty), 1, 16) := by kernel_rfl
theorem strS_one (a : ByteArray) : ∀ u ∈ [Value.string a], u.oneCell' = true := by
  intro u hu
  obtain rfl : u = .string a := by simpa using hu
  rfl
theorem strS_snoc (xs : List ByteArray) (a : ByteArray) : (xs ++ [a]).flatMap putStr = xs.flatMap putStr ++ [.string a] := by rw [List.flatMap_append]; rfl
/-- the parts so far: those that have ended, and what is left from 'from' on -/
def PartsAt (c : UInt8) (s : ByteArray) (i from_ : Nat) (o : List ByteArray) : Prop := from_ ≤ i ∧ partsL c (s.data.toList.take i) = o.map (·.data.toList) ++ [(s.data.toList.take i).drop from_]
theorem partsAt_start (c : UInt8) (s : ByteArray) : PartsAt c s 0 0 [] := ⟨Nat.le_refl _, rfl⟩
theorem extract_toList (s : ByteArray) (a b : Nat) : (s.extract a b).data.toList = (s.data.toList.take b).drop a := by
  rw [ByteArray.data_extract, Array.toList_extract, List.extract_eq_take_drop, ← List.drop_take]
theorem partsAt_hit {c : UInt8} {s : ByteArray} {i f : Nat} {o : List ByteArray} (h : PartsAt c s i f o) (hi : i < s.size) (hc : s[i] = c) : PartsAt c s (i + 1) (i + 1) (o ++ [s.extract f i]) := by
  obtain ⟨h1, h2⟩ := h
  refine ⟨Nat.le_refl _, ?_⟩
  rw [take_snocB s i hi, partsL_snoc h2, if_pos hc, List.map_append, List.map_cons, List.map_nil, extract_toList]
  congr 2
  rw [List.drop_eq_nil_of_le]
  simp
  omega
theorem partsAt_miss {c : UInt8} {s : ByteArray} {i f : Nat} {o : List ByteArray} (h : PartsAt c s i f o) (hi : i < s.size) (hc : s[i] ≠ c) : PartsAt c s (i + 1) f o := by
  obtain ⟨h1, h2⟩ := h
  refine ⟨by omega, ?_⟩
  rw [take_snocB s i hi, partsL_snoc h2, if_neg hc]
  congr 2
  rw [List.drop_append_of_le_length]
  simp
  have : i ≤ s.data.size := Nat.le_of_lt hi
  omega
theorem partsAt_end {c : UInt8} {s : ByteArray} {f : Nat} {o : List ByteArray} (h : PartsAt c s s.size f o) : partsS c s = o ++ [s.extract f s.size] := by
  obtain ⟨h1, h2⟩ := h
  have e : s.data.toList.take s.size = s.data.toList := List.take_of_length_le (by simp)
  unfold partsS
  rw [e] at h2
  rw [h2, List.map_append, List.map_map, List.map_cons, List.map_nil]
  congr 1
  · conv => rhs; rw [← List.map_id o]
    refine List.map_congr_left fun x _ => ?_
    cases x; simp
  · congr 1
    apply bytes_inj
    rw [extract_toList, e]
theorem partsAt_len {c : UInt8} {s : ByteArray} {i f : Nat} {o : List ByteArray} (h : PartsAt c s i f o) : o.length ≤ i := by
  have h1 := partsL_len c (s.data.toList.take i)
  rw [h.2] at h1
  simp at h1
  omega

def Tryz.laySplit_ren : Go.Shelf.Ren := ⟨fun | 146 => 33 | 221 => 69 | 268 => 90 | 138 => 91 | 143 => 92 | 195 => 110 | 197 => 111 | 218 => 112 | 219 => 113 | 260 => 130 | 217 => 131 | 225 => 132 | 224 => 133 | 267 => 134 | 266 => 146 | 314 => 147 | n => n, fun | 9 => 9 | 31 => 26 | 3 => 3 | 4 => 4 | 0 => 0 | 105 => 130 | 21 => 21 | 5 => 5 | 46 => 115 | 119 => 164 | 139 => 167 | 138 => 166 | 146 => 168 | 51 => 158 | n => n, fun | 1 => 0 | 3 => 4 | 4 => 5 | n => n⟩
theorem Tryz.laySplit : Go.Proofs.LaysM.n146 Tryz.prog Tryz.laySplit_ren := {
  mixed := by kernel_rfl
  f138 := Tryz.func91.trans (congrArg some (by kernel_rfl))
  f143 := Tryz.func92.trans (congrArg some (by kernel_rfl))
  f146 := Tryz.func33.trans (congrArg some (by kernel_rfl))
  f195 := Tryz.func110.trans (congrArg some (by kernel_rfl))
  f197 := Tryz.func111.trans (congrArg some (by kernel_rfl))
  f217 := Tryz.func131.trans (congrArg some (by kernel_rfl))
  f218 := Tryz.func112.trans (congrArg some (by kernel_rfl))
  f219 := Tryz.func113.trans (congrArg some (by kernel_rfl))
  f221 := Tryz.func69.trans (congrArg some (by kernel_rfl))
  f224 := Tryz.func133.trans (congrArg some (by kernel_rfl))
  f225 := Tryz.func132.trans (congrArg some (by kernel_rfl))
  f260 := Tryz.func130.trans (congrArg some (by kernel_rfl))
  f266 := Tryz.func146.trans (congrArg some (by kernel_rfl))
  f267 := Tryz.func134.trans (congrArg some (by kernel_rfl))
  f268 := Tryz.func90.trans (congrArg some (by kernel_rfl))
  f314 := Tryz.func147.trans (congrArg some (by kernel_rfl))
  t0 := Tryz.underlying0
  a0 := Tryz.isAgg0
  z0 := Tryz.sizeOf0
  v0 := Tryz.zeroValue0
  t3 := Tryz.underlying3
  a3 := Tryz.isAgg3
  z3 := Tryz.sizeOf3
  v3 := Tryz.zeroValue3
  t4 := Tryz.underlying4
  a4 := Tryz.isAgg4
  z4 := Tryz.sizeOf4
  v4 := Tryz.zeroValue4
  t5 := Tryz.underlying5
  a5 := Tryz.isAgg5
  z5 := Tryz.sizeOf5
  v5 := Tryz.zeroValue5
  t9 := Tryz.underlying9
  a9 := Tryz.isAgg9
  z9 := Tryz.sizeOf9
  v9 := Tryz.zeroValue9
  t21 := Tryz.underlying21
  a21 := Tryz.isAgg21
  z21 := Tryz.sizeOf21
  v21 := Tryz.zeroValue21
  t31 := Tryz.underlying26
  a31 := Tryz.isAgg26
  z31 := Tryz.sizeOf26
  v31 := Tryz.zeroValue26
  t46 := Tryz.underlying115
  a46 := Tryz.isAgg115
  z46 := Tryz.sizeOf115
  v46 := Tryz.zeroValue115
  t51 := Tryz.underlying158
  a51 := Tryz.isAgg158
  z51 := Tryz.sizeOf158
  v51 := Tryz.zeroValue158
  t105 := Tryz.underlying130
  a105 := Tryz.isAgg130
  z105 := Tryz.sizeOf130
  v105 := Tryz.zeroValue130
  t119 := Tryz.underlying164
  a119 := Tryz.isAgg164
  z119 := Tryz.sizeOf164
  t138 := Tryz.underlying166
  a138 := Tryz.isAgg166
  z138 := Tryz.sizeOf166
  v138 := Tryz.zeroValue166
  t139 := Tryz.underlying167
  a139 := Tryz.isAgg167
  z139 := Tryz.sizeOf167
  v139 := Tryz.zeroValue167
  t146 := Tryz.underlying168
  a146 := Tryz.isAgg168
  z146 := Tryz.sizeOf168
  v146 := Tryz.zeroValue168
  g1 := by kernel_rfl
  g3 := by kernel_rfl
  g4 := by kernel_rfl
  i0 := by kernel_rfl
  i3 := by kernel_rfl
  i4 := by kernel_rfl
  i5 := by kernel_rfl
  i9 := by kernel_rfl
  i21 := by kernel_rfl
  i31 := by kernel_rfl
  i46 := by kernel_rfl
  i51 := by kernel_rfl
  i105 := by kernel_rfl
  i138 := by kernel_rfl
  i139 := by kernel_rfl
  i146 := by kernel_rfl
  m1 := by kernel_rfl
  s1_3 := fun w h => Go.Proofs.cell_of_shapedOpen_int (zero := #[.int .i64 0]) (t := 3) h (of_decide_eq_true (by kernel_rfl)) (by kernel_rfl) rfl (by kernel_rfl) (by kernel_rfl) Tryz.underlying3
  m3 := by kernel_rfl
  m4 := by kernel_rfl }
/-- the variable internal/bytealg.MaxLen holds a number -/
def MaxL (w : World) : Prop := ∃ m : Int, w.cell? ⟨0, 0, none⟩ = some (.int .i64 m)
theorem maxL_of {w : World} (h : w.ShapedOpen Tryz.prog) : MaxL w := Tryz.laySplit.s1_3 w h
theorem MaxL.below {w w' : World} (h : MaxL w) (b : Below w.heap.size w w') : MaxL w' := by
  obtain ⟨m, h1⟩ := h
  exact ⟨m, (b.cell (p := ⟨_, 0, none⟩) (Lib.lt_of_cell h1)).trans h1⟩


theorem impl_Split (c : UInt8) (s : ByteArray) (w : World) (hs : s.size ≤ 1048576) (hm : MaxL w) :
    Calls Tryz.prog 33 #[.string s, .string ⟨#[c]⟩] w fun e w' => e = .returned (.slice (some ⟨w.heap.size, 0, none⟩) (partsS c s).length (partsS c s).length) ∧ Own w' w.heap.size 9 ((partsS c s).flatMap putStr) ∧ Below w.heap.size w w' := by
  obtain ⟨m, h1⟩ := hm
  refine (Any.strings_Split { Tryz.laySplit with } Tryz.laySplit.i9 s ⟨#[c]⟩ m w (by omega) h1 (by show 1 ≤ 1; decide)).mono ?_
  rintro e w' ⟨rfl, rfl⟩
  have e1 := partsS_split c s
  have hl : Lib.countB s ⟨#[c]⟩ + 1 = (partsS c s).length := by
    have := Lib.splitB_all ⟨#[c]⟩ (by show 1 ≤ 1; decide) 0 _ s rfl
    rw [e1] at this
    exact this.symm
  rw [hl]
  have e2 : (Lib.splitB ⟨#[c]⟩ 0 (Lib.countB s ⟨#[c]⟩) s).map Value.string = (partsS c s).flatMap putStr := by
    rw [e1]
    generalize partsS c s = xs
    induction xs with
    | nil => rfl
    | cons x xs ih => rw [List.map_cons, List.flatMap_cons, ih]; rfl
  rw [e2]
  exact ⟨rfl, Own.new w _ _, (Below.refl _ _).alloc (Nat.le_refl _) _⟩
end Go.Proofs.YtnbodmbagendnaaGreatDoor
namespace Go.Proofs.YtnbodmbagendnaaGreatDoor
open Go.ChangeShapes Go.WideShapes Go.ChangeAt Go.RowKit Go.Deep Go.Joins
set_option linter.unusedVariables false
set_option maxRecDepth 100000
set_option linter.unusedSimpArgs false
theorem three_ownM {w : World} {base : Nat} {r : Value} {a b c : ByteArray} (h : w.ownsRow base 9 1 r 3 ([a, b, c].flatMap putStr)) : ∃ g cap U, r = .slice (some ⟨g, 0, none⟩) 3 cap ∧ base ≤ g ∧ Own w g 9 ([a, b, c].flatMap putStr ++ U) := by
  rcases own_form h with ⟨_, q⟩ | ⟨g, cap, rfl⟩
  · omega
  obtain ⟨U, ou⟩ := own_block h
  exact ⟨g, cap, U, rfl, (h.lt g rfl).1, ou⟩
theorem spec_l14One_is2 {b : Bool} (x : Melt) (a o : Nat) (w : World) (hx : x.ok w) (hn : x.ingots.length ≤ 1048576) (h0 : w.cell? ⟨a, o, none⟩ = some (.string x.id)) (h1 : w.cell? ⟨a, o + 1, none⟩ = some x.list) (h2 : w.cell? ⟨a, o + 2, none⟩ = some (.int .i64 x.mass)) (ha : a < w.heap.size) (hb : meltB x = b) :
    Calls Tryz.prog 76 #[.pointer (some ⟨a, o, none⟩)] w fun e w' => e = .returned (.bool b) ∧ Below w.heap.size w w' := by
  subst hb; exact spec_l14One x a o w hx hn h0 h1 h2 ha
theorem own_baseM {w : World} {base base' n s : Nat} {E : TypeId} {v : Value} {L : List Value} (h : w.ownsRow base E s v n L) (hb : base' ≤ base) : w.ownsRow base' E s v n L := by
  obtain ⟨h1, h2⟩ := h
  refine ⟨h1, ?_⟩
  rcases h2 with h2 | ⟨g, cap, cur, rfl, hg0, rest⟩
  · exact .inl h2
  · exact .inr ⟨g, cap, cur, rfl, Nat.le_trans hb hg0, rest⟩
theorem own_setM {w : World} {base g : Nat} {E E' : TypeId} {s n : Nat} {v : Value} {L L' : List Value} (h : w.ownsRow base E s v n L) (hg : Own w g E' L') (hne : E ≠ E') (i : Nat) (u : Value) : (w.setCell ⟨g, i, none⟩ u).ownsRow base E s v n L := by
  have ha := own_apart_type h hg hne
  obtain ⟨h1, h2⟩ := h
  refine ⟨h1, ?_⟩
  rcases h2 with h2 | ⟨g1, cap, cur, rfl, hg0, hg1, rest⟩
  · exact .inl h2
  · refine .inr ⟨g1, cap, cur, rfl, hg0, ?_, rest⟩
    rw [Below.heap_setCell _ _ _ _ (fun e => ha g1 rfl e)]
    exact hg1
theorem own_set3 {w : World} {base g : Nat} {E E' : TypeId} {s n : Nat} {v : Value} {L L' : List Value} {u0 u1 u2 : Value} (h : w.ownsRow base E s v n L) (hg : Own w g E' L') (hne : E ≠ E') :
    (((w.setCell ⟨g, 0, none⟩ u0).setCell ⟨g, 1, none⟩ u1).setCell ⟨g, 2, none⟩ u2).ownsRow base E s v n L :=
  own_setM (own_setM (own_setM h hg hne 0 u0) (hg.set 0 u0) hne 1 u1) ((hg.set 0 u0).set 1 u1) hne 2 u2
/-- what a read melt is, its list lying in memory of one's own -/
def MeltIs (w' : World) (base : Nat) (s : ByteArray) (e : Ending) : Prop := ∃ r : Value, e = .returned (.tuple #[.agg #[.string (meltV s).id, r, .int .i64 (meltV s).mass], .bool (meltR s).isSome]) ∧ w'.ownsRow base 9 1 r (meltV s).ingots.length ((meltV s).ingots.flatMap putStr)
end Go.Proofs.YtnbodmbagendnaaGreatDoor
