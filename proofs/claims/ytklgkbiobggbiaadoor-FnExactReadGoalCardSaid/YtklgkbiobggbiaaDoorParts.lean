/- The parts of a text: both sides compute the same. -/
import Derived.Test.YtklgkbiobggbiaaDoorRows
import Derived.Test.YtklgkbiobggbiaaDoorPartsL
import Derived.Test.YtklgkbiobggbiaaDoorNumT
import Derived.Test.YtklgkbiobggbiaaDoorStepApp
import Derived.Test.YtklgkbiobggbiaaDoorAddL
import Derived.Shelf.Strings.SplitShaped
import Derived.Shelf.Strings.Shaped
import Derived.Lib.AtoiErrMem
namespace Go.Proofs.YtklgkbiobggbiaaDoor
open Go.ChangeShapes Go.WideShapes Go.ChangeAt Go.RowKit Go.Deep Go.Joins
set_option linter.unusedVariables false
set_option maxRecDepth 100000
set_option linter.unusedSimpArgs false
theorem infoStr : (Tryd.prog.info? 9).map (fun i => (i.zero, i.size, i.bytes)) = some (some (.string ByteArray.empty), 1, 16) := by kernel_rfl
theorem strS_one (a : ByteArray) : ∀ u ∈ [Value.string a], u.oneCell' = true := by
  intro u hu
  obtain rfl : u = .string a := by simpa using hu
  rfl
theorem strS_snoc (xs : List ByteArray) (a : ByteArray) : (xs ++ [a]).flatMap putStr = xs.flatMap putStr ++ [.string a] := by rw [List.flatMap_append]; rfl
/-- the parts so far: those that have ended, and what is left from 'from' on -/
def PartsAt (c : UInt8) (s : ByteArray) (i from_ : Nat) (o : List ByteArray) : Prop := from_ ≤ i ∧ partsL c (s.data.toList.take i) = o.map (·.data.toList) ++ [(s.data.toList.take i).drop from_]
theorem partsAt_start (c : UInt8) (s : ByteArray) : PartsAt c s 0 0 [] := ⟨Nat.le_refl _, rfl⟩
theorem extract_toList (s : ByteArray) (a b : Nat) : (s.extract a b).data.toList = (s.data.toList.take b).drop a := by
  rw [ByteArray.data_extract, Array.toList_extract, List.extract_eq_take_drop, ← List.drop_take]
theorem partsAt_hit {c : UInt8} {s : ByteArray} {i f : Nat} {o : List ByteArray} (h : PartsAt c s i f o) (hi : i < s.size) (hc : s[i] = c) : PartsAt c s (i + 1) (i + 1) (o ++ [s.extract f i]) := by
  obtain ⟨h1, h2⟩ := h
  refine ⟨Nat.le_refl _, ?_⟩
  rw [take_snocB s i hi, partsL_snoc h2, if_pos hc, List.map_append, List.map_cons, List.map_nil, extract_toList]
  congr 2
  rw [List.drop_eq_nil_of_le]
  simp
  omega
theorem partsAt_miss {c : UInt8} {s : ByteArray} {i f : Nat} {o : List ByteArray} (h : PartsAt c s i f o) (hi : i < s.size) (hc : s[i] ≠ c) : PartsAt c s (i + 1) f o := by
  obtain ⟨h1, h2⟩ := h
  refine ⟨by omega, ?_⟩
  rw [take_snocB s i hi, partsL_snoc h2, if_neg hc]
  congr 2
  rw [List.drop_append_of_le_length]
  simp
  have : i ≤ s.data.size := Nat.le_of_lt hi
  omega
theorem partsAt_end {c : UInt8} {s : ByteArray} {f : Nat} {o : List ByteArray} (h : PartsAt c s s.size f o) : partsS c s = o ++ [s.extract f s.size] := by
  obtain ⟨h1, h2⟩ := h
  have e : s.data.toList.take s.size = s.data.toList := List.take_of_length_le (by simp)
  unfold partsS
  rw [e] at h2
  rw [h2, List.map_append, List.map_map, List.map_cons, List.map_nil]
  congr 1
  · conv => rhs; rw [← List.map_id o]
    refine List.map_congr_left fun x _ => ?_
    cases x; simp
  · congr 1
    apply bytes_inj
    rw [extract_toList, e]
theorem partsAt_len {c : UInt8} {s : ByteArray} {i f : Nat} {o : List ByteArray} (h : PartsAt c s i f o) : o.length ≤ i := by
  have h1 := partsL_len c (s.data.toList.take i)
  rw [h.2] at h1
  simp at h1
  omega

set_option maxHeartbeats 4000000 in
theorem spec_l01Split (c : UInt8) (s : ByteArray) (w : World) (hs : s.size ≤ 1048576) :
    Calls Tryd.prog 48 #[.string s, .int .u8 c.toNat] w fun e w' => ∃ r, e = .returned r ∧ w'.ownsRow w.heap.size 9 1 r (partsS c s).length ((partsS c s).flatMap putStr) ∧ Below w.heap.size w w' := by
  obtain ⟨i0, hi, hz0, hz1, hz2⟩ := info_parts infoStr
  go_enter Tryd.func48, Tryd.ntmps48
  go_wp2_with fail
  go_loopw [5, 6, 7] (fun r f i wr => ∃ (k a : Nat) (o : List ByteArray), k ≤ s.size ∧ i = .int .i64 k ∧ f = .int .i64 a ∧ PartsAt c s k a o ∧ wr.ownsRow w.heap.size 9 1 r o.length (o.flatMap putStr) ∧ Below w.heap.size w wr) (fun _ _ i _ => s.size - (intOf i).toNat)
  case atStart => exact ⟨0, 0, [], Nat.zero_le _, rfl, rfl, partsAt_start c s, own_empty w w.heap.size _ 1 (Nat.le_refl _), (Below.refl _ _).alloc (Nat.le_refl _) _⟩
  case round =>
    obtain ⟨k, a, o, hk, rfl, rfl, hpa, hown, hb⟩ := hrel
    have hol := partsAt_len hpa
    have hak := hpa.1
    have HO := Lib.hid hown
    obtain ⟨ro, rc, er0⟩ := (own_rd hown).form
    subst er0
    clear hown
    have HB := Lib.hid hb
    have hws := hb.size
    clear hb
    by_cases hlt : k < s.size
    · by_cases hc : s[k] = c
      · have t1 : (((s[k].toNat : Nat) : Int) == ((c.toNat : Nat) : Int)) = true := beq_iff_eq.2 (by rw [hc])
        have hp := Lib.hid (partsAt_hit hpa hlt hc)
        clear hpa hc
        go_wp2_with (at_builtin; go_loud (refine app_elK rfl _ _ 35 9 i0 (.string ByteArray.empty) 1 16 Tryd.underlying35 hi hz0 hz1 hz2 (by rfl) (by decide) rfl wr w.heap.size _ o.length (o.flatMap putStr) (by rfl) HO.out [.string (s.extract a k)] rfl (strS_one _) (by first | rfl | (rw [World.size_alloc]; rfl)) (by omega) (by decide) hws (by rfl) ?_; intro g2 gc2 w2 hown2 hB2 hK2 hy2; have HO2 := Lib.hid hown2; have HB2 := Lib.hid (HB.out.trans (hB2 _ (Below.refl _ _))); clear hown2 hB2 hK2 hy2))
        go_roundw
        case rel => exact ⟨k + 1, k + 1, o ++ [s.extract a k], by omega, by go_num, by go_num, hp.out, by rw [strS_snoc, List.length_append]; exact HO2.out, HB2.out⟩
        case measure => simp [intOf]; omega
      · have t1 : (((s[k].toNat : Nat) : Int) == ((c.toNat : Nat) : Int)) = false := beq_eq_false_iff_ne.2 (fun q => hc (UInt8.toNat_inj.1 (by omega)))
        have hp := Lib.hid (partsAt_miss hpa hlt hc)
        clear hpa hc
        go_wp2_with fail
        go_roundw
        case rel => exact ⟨k + 1, a, o, by omega, by go_num, rfl, hp.out, HO.out, HB.out⟩
        case measure => simp [intOf]; omega
    · obtain rfl : k = s.size := by omega
      have hp := Lib.hid (partsAt_end hpa)
      clear hpa
      go_wp2_with (at_builtin; go_loud (refine app_elK rfl _ _ 35 9 i0 (.string ByteArray.empty) 1 16 Tryd.underlying35 hi hz0 hz1 hz2 (by rfl) (by decide) rfl wr w.heap.size _ o.length (o.flatMap putStr) (by rfl) HO.out [.string (s.extract a s.size)] rfl (strS_one _) (by first | rfl | (rw [World.size_alloc]; rfl)) (by omega) (by decide) hws (by rfl) ?_; intro g2 gc2 w2 hown2 hB2 hK2 hy2; have HO2 := Lib.hid hown2; have HB2 := Lib.hid (HB.out.trans (hB2 _ (Below.refl _ _))); clear hown2 hB2 hK2 hy2))
      go_ret
      refine ⟨_, rfl, ?_, HB2.out⟩
      rw [hp.out, strS_snoc, List.length_append]
      exact HO2.out

def Tryd.layCut_ren : Go.Shelf.Ren := ⟨fun | 145 => 31 | 220 => 68 | 219 => 104 | 217 => 126 | 225 => 127 | 224 => 128 | 267 => 129 | 266 => 143 | 314 => 144 | n => n, fun | 9 => 9 | 4 => 4 | 59 => 62 | 3 => 3 | 5 => 5 | 46 => 151 | 146 => 167 | 51 => 166 | n => n, fun | 1 => 0 | n => n⟩
theorem Tryd.layCut : Go.Proofs.LaysM.n145 Tryd.prog Tryd.layCut_ren := {
  mixed := by kernel_rfl
  f145 := Tryd.func31.trans (congrArg some (by kernel_rfl))
  f217 := Tryd.func126.trans (congrArg some (by kernel_rfl))
  f219 := Tryd.func104.trans (congrArg some (by kernel_rfl))
  f220 := Tryd.func68.trans (congrArg some (by kernel_rfl))
  f224 := Tryd.func128.trans (congrArg some (by kernel_rfl))
  f225 := Tryd.func127.trans (congrArg some (by kernel_rfl))
  f266 := Tryd.func143.trans (congrArg some (by kernel_rfl))
  f267 := Tryd.func129.trans (congrArg some (by kernel_rfl))
  f314 := Tryd.func144.trans (congrArg some (by kernel_rfl))
  t3 := Tryd.underlying3
  a3 := Tryd.isAgg3
  z3 := Tryd.sizeOf3
  v3 := Tryd.zeroValue3
  t4 := Tryd.underlying4
  a4 := Tryd.isAgg4
  z4 := Tryd.sizeOf4
  v4 := Tryd.zeroValue4
  t5 := Tryd.underlying5
  a5 := Tryd.isAgg5
  z5 := Tryd.sizeOf5
  v5 := Tryd.zeroValue5
  t9 := Tryd.underlying9
  a9 := Tryd.isAgg9
  z9 := Tryd.sizeOf9
  v9 := Tryd.zeroValue9
  t46 := Tryd.underlying151
  a46 := Tryd.isAgg151
  z46 := Tryd.sizeOf151
  v46 := Tryd.zeroValue151
  t51 := Tryd.underlying166
  a51 := Tryd.isAgg166
  z51 := Tryd.sizeOf166
  v51 := Tryd.zeroValue166
  t59 := Tryd.underlying62
  a59 := Tryd.isAgg62
  z59 := Tryd.sizeOf62
  v59 := Tryd.zeroValue62
  t146 := Tryd.underlying167
  a146 := Tryd.isAgg167
  z146 := Tryd.sizeOf167
  v146 := Tryd.zeroValue167
  g1 := by kernel_rfl
  i3 := by kernel_rfl
  i4 := by kernel_rfl
  i5 := by kernel_rfl
  i9 := by kernel_rfl
  i46 := by kernel_rfl
  i51 := by kernel_rfl
  i59 := by kernel_rfl
  i146 := by kernel_rfl
  m1 := by kernel_rfl
  s1_3 := fun w h => Go.Proofs.cell_of_shapedOpen_int (zero := #[.int .i64 0]) (t := 3) h (of_decide_eq_true (by kernel_rfl)) (by kernel_rfl) rfl (by kernel_rfl) (by kernel_rfl) Tryd.underlying3 }
/-- the variable internal/bytealg.MaxLen holds a number -/
def MaxL (w : World) : Prop := ∃ m : Int, w.cell? ⟨0, 0, none⟩ = some (.int .i64 m)
theorem maxL_of {w : World} (h : w.ShapedOpen Tryd.prog) : MaxL w := Tryd.layCut.s1_3 w h
theorem MaxL.below {w w' : World} (h : MaxL w) (b : Below w.heap.size w w') : MaxL w' := by
  obtain ⟨m, h1⟩ := h
  exact ⟨m, (b.cell (p := ⟨_, 0, none⟩) (Lib.lt_of_cell h1)).trans h1⟩
def Tryd.laySplit_ren : Go.Shelf.Ren := ⟨fun | 146 => 36 | 221 => 74 | 268 => 108 | 138 => 109 | 143 => 110 | 195 => 130 | 197 => 131 | 218 => 132 | 219 => 104 | 260 => 145 | 217 => 126 | 225 => 127 | 224 => 128 | 267 => 129 | 266 => 143 | 314 => 144 | n => n, fun | 9 => 9 | 31 => 35 | 3 => 3 | 4 => 4 | 0 => 0 | 105 => 153 | 21 => 21 | 5 => 5 | 46 => 151 | 119 => 182 | 139 => 185 | 138 => 184 | 146 => 167 | 51 => 166 | n => n, fun | 1 => 0 | 3 => 3 | 4 => 4 | n => n⟩
theorem Tryd.laySplit : Go.Proofs.LaysM.n146 Tryd.prog Tryd.laySplit_ren := {
  mixed := by kernel_rfl
  f138 := Tryd.func109.trans (congrArg some (by kernel_rfl))
  f143 := Tryd.func110.trans (congrArg some (by kernel_rfl))
  f146 := Tryd.func36.trans (congrArg some (by kernel_rfl))
  f195 := Tryd.func130.trans (congrArg some (by kernel_rfl))
  f197 := Tryd.func131.trans (congrArg some (by kernel_rfl))
  f217 := Tryd.func126.trans (congrArg some (by kernel_rfl))
  f218 := Tryd.func132.trans (congrArg some (by kernel_rfl))
  f219 := Tryd.func104.trans (congrArg some (by kernel_rfl))
  f221 := Tryd.func74.trans (congrArg some (by kernel_rfl))
  f224 := Tryd.func128.trans (congrArg some (by kernel_rfl))
  f225 := Tryd.func127.trans (congrArg some (by kernel_rfl))
  f260 := Tryd.func145.trans (congrArg some (by kernel_rfl))
  f266 := Tryd.func143.trans (congrArg some (by kernel_rfl))
  f267 := Tryd.func129.trans (congrArg some (by kernel_rfl))
  f268 := Tryd.func108.trans (congrArg some (by kernel_rfl))
  f314 := Tryd.func144.trans (congrArg some (by kernel_rfl))
  t0 := Tryd.underlying0
  a0 := Tryd.isAgg0
  z0 := Tryd.sizeOf0
  v0 := Tryd.zeroValue0
  t3 := Tryd.underlying3
  a3 := Tryd.isAgg3
  z3 := Tryd.sizeOf3
  v3 := Tryd.zeroValue3
  t4 := Tryd.underlying4
  a4 := Tryd.isAgg4
  z4 := Tryd.sizeOf4
  v4 := Tryd.zeroValue4
  t5 := Tryd.underlying5
  a5 := Tryd.isAgg5
  z5 := Tryd.sizeOf5
  v5 := Tryd.zeroValue5
  t9 := Tryd.underlying9
  a9 := Tryd.isAgg9
  z9 := Tryd.sizeOf9
  v9 := Tryd.zeroValue9
  t21 := Tryd.underlying21
  a21 := Tryd.isAgg21
  z21 := Tryd.sizeOf21
  v21 := Tryd.zeroValue21
  t31 := Tryd.underlying35
  a31 := Tryd.isAgg35
  z31 := Tryd.sizeOf35
  v31 := Tryd.zeroValue35
  t46 := Tryd.underlying151
  a46 := Tryd.isAgg151
  z46 := Tryd.sizeOf151
  v46 := Tryd.zeroValue151
  t51 := Tryd.underlying166
  a51 := Tryd.isAgg166
  z51 := Tryd.sizeOf166
  v51 := Tryd.zeroValue166
  t105 := Tryd.underlying153
  a105 := Tryd.isAgg153
  z105 := Tryd.sizeOf153
  v105 := Tryd.zeroValue153
  t119 := Tryd.underlying182
  a119 := Tryd.isAgg182
  z119 := Tryd.sizeOf182
  t138 := Tryd.underlying184
  a138 := Tryd.isAgg184
  z138 := Tryd.sizeOf184
  v138 := Tryd.zeroValue184
  t139 := Tryd.underlying185
  a139 := Tryd.isAgg185
  z139 := Tryd.sizeOf185
  v139 := Tryd.zeroValue185
  t146 := Tryd.underlying167
  a146 := Tryd.isAgg167
  z146 := Tryd.sizeOf167
  v146 := Tryd.zeroValue167
  g1 := by kernel_rfl
  g3 := by kernel_rfl
  g4 := by kernel_rfl
  i0 := by kernel_rfl
  i3 := by kernel_rfl
  i4 := by kernel_rfl
  i5 := by kernel_rfl
  i9 := by kernel_rfl
  i21 := by kernel_rfl
  i31 := by kernel_rfl
  i46 := by kernel_rfl
  i51 := by kernel_rfl
  i105 := by kernel_rfl
  i138 := by kernel_rfl
  i139 := by kernel_rfl
  i146 := by kernel_rfl
  m1 := by kernel_rfl
  s1_3 := fun w h => Go.Proofs.cell_of_shapedOpen_int (zero := #[.int .i64 0]) (t := 3) h (of_decide_eq_true (by kernel_rfl)) (by kernel_rfl) rfl (by kernel_rfl) (by kernel_rfl) Tryd.underlying3
  m3 := by kernel_rfl
  m4 := by kernel_rfl }
theorem impl_Split (c : UInt8) (s : ByteArray) (w : World) (hs : s.size ≤ 1048576) (hm : MaxL w) :
    Calls Tryd.prog 36 #[.string s, .string ⟨#[c]⟩] w fun e w' => e = .returned (.slice (some ⟨w.heap.size, 0, none⟩) (partsS c s).length (partsS c s).length) ∧ Own w' w.heap.size 9 ((partsS c s).flatMap putStr) ∧ Below w.heap.size w w' := by
  obtain ⟨m, h1⟩ := hm
  refine (Any.strings_Split { Tryd.laySplit with } Tryd.laySplit.i9 s ⟨#[c]⟩ m w (by omega) h1 (by show 1 ≤ 1; decide)).mono ?_
  rintro e w' ⟨rfl, rfl⟩
  have e1 := partsS_split c s
  have hl : Lib.countB s ⟨#[c]⟩ + 1 = (partsS c s).length := by
    have := Lib.splitB_all ⟨#[c]⟩ (by show 1 ≤ 1; decide) 0 _ s rfl
    rw [e1] at this
    exact this.symm
  rw [hl]
  have e2 : (Lib.splitB ⟨#[c]⟩ 0 (Lib.countB s ⟨#[c]⟩) s).map Value.string = (partsS c s).flatMap putStr := by
    rw [e1]
    generalize partsS c s = xs
    induction xs with
    | nil => rfl
    | cons x xs ih => rw [List.map_cons, List.flatMap_cons, ih]; rfl
  rw [e2]
  exact ⟨rfl, Own.new w _ _, (Below.refl _ _).alloc (Nat.le_refl _) _⟩
theorem impl_Cut (c : UInt8) (s : ByteArray) (w : World) (hs : s.size ≤ 2147483647) (hm : MaxL w) :
    Calls Tryd.prog 31 #[.string s, .string ⟨#[c]⟩] w fun e w' => e = .returned (.tuple #[.string (cutA c s), .string (cutB c s), .bool (cutF c s)]) ∧ Below w.heap.size w w' := by
  obtain ⟨m, h1⟩ := hm
  refine (Any.strings_Cut { Tryd.layCut with } s ⟨#[c]⟩ m w (by omega) h1).mono ?_
  rintro e w' ⟨rfl, n, rfl⟩
  exact ⟨rfl, below_dn (Below.refl _ _) n⟩
end Go.Proofs.YtklgkbiobggbiaaDoor
