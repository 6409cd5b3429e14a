/- Contracts and plain facts, joined: HSpot, OneSpot, VSpot, AddL, Parts, OwnK, ReadLi. -/
import Derived.Test.YtklgkbiobggbiaaDoorRows
import Derived.Test.YtklgkbiobggbiaaDoorZFnAlloysF
import Derived.Shelf.Strings.SplitShaped
import Derived.Shelf.Strings.Shaped
import Derived.Lib.AtoiErrMem
namespace Go.Proofs.YtklgkbiobggbiaaDoor
open Go.ChangeShapes Go.WideShapes Go.ChangeAt Go.RowKit Go.Deep Go.Joins
set_option linter.unusedVariables false
set_option maxRecDepth 100000
set_option linter.unusedSimpArgs false
theorem Spot_len (xs : List Spot) : (xs.flatMap Spot.put).length = xs.length * 2 := flat_len xs (fun _ _ => rfl)
theorem Spot_get0 (xs : List Spot) (k : Nat) (h : k < xs.length) : (xs.flatMap Spot.put)[k * 2 + 0]? = some (.int .i64 xs[k].angle) := by
  rw [flat_get (f := Spot.put) (s := 2) xs (fun _ _ => rfl) (j := 0) (by omega) k, List.getElem?_eq_getElem h]
  rfl
theorem Spot_get1 (xs : List Spot) (k : Nat) (h : k < xs.length) : (xs.flatMap Spot.put)[k * 2 + 1]? = some (.int .i64 xs[k].weight) := by
  rw [flat_get (f := Spot.put) (s := 2) xs (fun _ _ => rfl) (j := 1) (by omega) k, List.getElem?_eq_getElem h]
  rfl
end Go.Proofs.YtklgkbiobggbiaaDoor
namespace Go.Proofs.YtklgkbiobggbiaaDoor
open Go.ChangeShapes Go.WideShapes Go.ChangeAt Go.RowKit Go.Deep Go.Joins
set_option linter.unusedVariables false
set_option maxRecDepth 100000
set_option linter.unusedSimpArgs false
def weightB (n : Int) : Bool := (n != 0) && inB n (-1000) 1000
def spotB (x : Spot) : Bool := inB x.angle 0 359 && weightB x.weight
end Go.Proofs.YtklgkbiobggbiaaDoor
namespace Go.Proofs.YtklgkbiobggbiaaDoor
open Go.ChangeShapes Go.WideShapes Go.ChangeAt Go.RowKit Go.Deep Go.Joins
set_option linter.unusedVariables false
set_option maxRecDepth 100000
set_option linter.unusedSimpArgs false
def ltKSpot (y x : Spot) : Bool := decide (y.angle < x.angle)
def validSpotS (xs : List Spot) : Bool := allK (stepB spotB ltKSpot xs) xs.length && decide (xs.length ≤ 16)

theorem ltKSpot_spec_f {y x : Spot} (h : ltKSpot y x = false) : decide (x.angle ≤ y.angle) = true := by
  simp [ltKSpot] at h ⊢; omega
theorem ltKSpot_spec_t {y x : Spot} (h : ltKSpot y x = true) : decide (x.angle ≤ y.angle) = false := by
  simp [ltKSpot] at h ⊢; omega
end Go.Proofs.YtklgkbiobggbiaaDoor
namespace Go.Proofs.YtklgkbiobggbiaaDoor
open Go.ChangeShapes Go.WideShapes Go.ChangeAt Go.RowKit Go.Deep Go.Joins
set_option linter.unusedVariables false
set_option maxRecDepth 100000
set_option linter.unusedSimpArgs false
/-- one element, the new spot s, what is out so far and whether s is in -/
def stepA (s : Spot) (o : List Spot) (d : Bool) (x : Spot) : Option (List Spot × Bool) :=
  let o1 := if !d && decide (s.angle < x.angle) then o ++ [s] else o
  let d1 := d || decide (s.angle < x.angle)
  if x.angle = s.angle then
    if x.weight + s.weight = 0 then some (o1, true)
    else if weightB (x.weight + s.weight) = true then some (o1 ++ [⟨x.angle, x.weight + s.weight⟩], true) else none
  else some (o1 ++ [x], d1)
def runA (s : Spot) (xs : List Spot) : Nat → Option (List Spot × Bool)
  | 0 => some ([], false)
  | k + 1 => match runA s xs k, xs[k]? with
    | some st, some x => stepA s st.1 st.2 x
    | r, _ => r
def endA (s : Spot) (r : Option (List Spot × Bool)) : List Spot × Int := match r with
  | none => ([], 6)
  | some (o, d) => if 16 < (if d then o else o ++ [s]).length then ([], 5) else (if d then o else o ++ [s], 0)
def addL (s : Spot) (xs : List Spot) : List Spot × Int := endA s (runA s xs xs.length)
theorem runA_succ {s : Spot} {xs : List Spot} {k : Nat} (h : k < xs.length) {st : List Spot × Bool} (hr : runA s xs k = some st) : runA s xs (k + 1) = stepA s st.1 st.2 xs[k] := by
  show (match runA s xs k, xs[k]? with
    | some st, some x => stepA s st.1 st.2 x
    | r, _ => r) = _
  rw [hr, List.getElem?_eq_getElem h]
theorem runA_none {s : Spot} {xs : List Spot} {k : Nat} (hr : runA s xs k = none) : ∀ m, runA s xs (k + m) = none
  | 0 => hr
  | m + 1 => by
    show (match runA s xs (k + m), xs[k + m]? with
      | some st, some x => stepA s st.1 st.2 x
      | r, _ => r) = none
    rw [runA_none hr m]
theorem addL_bad {s : Spot} {xs : List Spot} {k : Nat} (h : k < xs.length) (hr : runA s xs (k + 1) = none) : addL s xs = ([], 6) := by
  unfold addL
  obtain ⟨m, hm⟩ : ∃ m, xs.length = k + 1 + m := ⟨xs.length - (k + 1), by omega⟩
  rw [hm, runA_none hr m]; rfl
theorem stepA_len {s : Spot} {o : List Spot} {d : Bool} {x : Spot} {st : List Spot × Bool} (h : stepA s o d x = some st) : st.1.length ≤ o.length + 2 := by
  unfold stepA at h
  simp only at h
  have h1 : (if (!d && decide (s.angle < x.angle)) = true then o ++ [s] else o).length ≤ o.length + 1 := by split <;> simp
  generalize (if (!d && decide (s.angle < x.angle)) = true then o ++ [s] else o) = o1 at *
  split at h
  · split at h
    · cases h; show o1.length ≤ _; omega
    · split at h
      · cases h; show (o1 ++ [_]).length ≤ _; rw [List.length_append]; simp; omega
      · cases h
  · cases h; show (o1 ++ [_]).length ≤ _; rw [List.length_append]; simp; omega
theorem runA_len {s : Spot} {xs : List Spot} : ∀ {k : Nat} {st : List Spot × Bool}, k ≤ xs.length → runA s xs k = some st → st.1.length ≤ 2 * k
  | 0, st, _, h => by cases h; simp
  | k + 1, st, hk, h => by
    cases hr : runA s xs k with
    | none => have := runA_none hr 1; rw [h] at this; cases this
    | some st0 =>
      rw [runA_succ (by omega) hr] at h
      have h1 := runA_len (by omega) hr
      have h2 := stepA_len h
      omega
theorem spot_snoc (xs : List Spot) (a : Spot) : (xs ++ [a]).flatMap Spot.put = xs.flatMap Spot.put ++ [.int .i64 a.angle, .int .i64 a.weight] := by rw [List.flatMap_append]; rfl

/-- 'append(out, x)', x in a block of its own; what is owned beside stays -/
theorem app_elK {P : Program} {ops : Array Oper} {rest : List Oper} {o : Oper} {a : Act} {Q : Exit → Act → World → Prop} {w1 : World} (hgd : o.guard = none) (s x : Operand) (T E : TypeId) (i : TypeInfo) (z : Value) (sz bytes : Nat)
    (hT : P.underlying T = some (.slice E)) (hi : P.info? E = some i) (hz : i.zero = some z) (h1 : i.size = sz) (h2 : i.bytes = bytes) (hzs : z.cells.size = sz) (hsz : 0 < sz)
    (ho : o.op = .call { callee := .builtin .append, args := #[s, x], argTypes := #[T, T] }) (w0 : World) (base : Nat) (v : Value) (n : Nat) (L : List Value) (hs : a.eval s = v) (hown : w0.ownsRow base E sz v n L)
    (cs : List Value) (hcs : cs.length = sz) (hone : ∀ u ∈ cs, u.oneCell' = true) (hx : a.eval x = .slice (some ⟨w0.heap.size, 0, none⟩) 1 1) (hn : n + 1 ≤ 2097152) (hby : bytes ≤ 64) (hbase : base ≤ w0.heap.size) (hw : w1 = w0.alloc (.cells cs.toArray E))
    (h : ∀ g cap w', w'.ownsRow base E sz (.slice (some ⟨g, 0, none⟩) (n + 1) cap) (n + 1) (L ++ cs) → (∀ W, Below base W w0 → Below base W w') → (∀ b E' L', Own w0 b E' L' → (∀ g', v.ownBlock = some g' → g' ≠ b) → Own w' b E' L') → w0.heap.size < w'.heap.size → wpList P ops Q rest (a.put o.dst (.slice (some ⟨g, 0, none⟩) (n + 1) cap)) w') :
    wpList P ops Q (o :: rest) a w1 := by
  subst hw
  have hb : (n + 1) * bytes ≤ 140737488355328 := by
    have := Nat.mul_le_mul hn hby
    omega
  refine wpList_append_lies _ hgd s x T ho base E i z sz bytes hT hi hz h1 h2 hzs hsz v n L hs (hown.alloc _) ⟨w0.heap.size, 0, none⟩ 1 1 cs hx (by omega) (World.news_of_block (Own.new w0 E cs)) hone (by omega) (by unfold maxLen; omega) hb (by simp; omega) _ rfl ?_
  intro g cap w' hown' hgrow _ _
  refine h g cap w' hown' (fun W hW => ?_) (fun b E' L' hO hne => ?_) ?_
  · exact grown_below (hW.alloc hbase _) (hown.alloc _) (by simp; omega) hgrow
  · have hO2 : Own (w0.alloc (.cells cs.toArray E)) b E' L' := hO.alloc _
    exact (hgrow.block b hO2.lt (fun e => hne b e.symm rfl)).trans hO2
  · have := hgrow.size
    simp at this; omega
end Go.Proofs.YtklgkbiobggbiaaDoor
namespace Go.Proofs.YtklgkbiobggbiaaDoor
open Go.ChangeShapes Go.WideShapes Go.ChangeAt Go.RowKit Go.Deep Go.Joins
set_option linter.unusedVariables false
set_option maxRecDepth 100000
set_option linter.unusedSimpArgs false
theorem infoStr : (Tryd.prog.info? 9).map (fun i => (i.zero, i.size, i.bytes)) = some (some (.string ByteArray.empty), 1, 16) := by kernel_rfl
theorem strS_one (a : ByteArray) : ∀ u ∈ [Value.string a], u.oneCell' = true := by
  intro u hu
  obtain rfl : u = .string a := by simpa using hu
  rfl
theorem strS_snoc (xs : List ByteArray) (a : ByteArray) : (xs ++ [a]).flatMap putStr = xs.flatMap putStr ++ [.string a] := by rw [List.flatMap_append]; rfl
/-- the parts so far: those that have ended, and what is left from 'from' on -/
def PartsAt (c : UInt8) (s : ByteArray) (i from_ : Nat) (o : List ByteArray) : Prop := from_ ≤ i ∧ partsL c (s.data.toList.take i) = o.map (·.data.toList) ++ [(s.data.toList.take i).drop from_]
theorem partsAt_start (c : UInt8) (s : ByteArray) : PartsAt c s 0 0 [] := ⟨Nat.le_refl _, rfl⟩
theorem extract_toList (s : ByteArray) (a b : Nat) : (s.extract a b).data.toList = (s.data.toList.take b).drop a := by
  rw [ByteArray.data_extract, Array.toList_extract, List.extract_eq_take_drop, ← List.drop_take]
theorem partsAt_hit {c : UInt8} {s : ByteArray} {i f : Nat} {o : List ByteArray} (h : PartsAt c s i f o) (hi : i < s.size) (hc : s[i] = c) : PartsAt c s (i + 1) (i + 1) (o ++ [s.extract f i]) := by
  obtain ⟨h1, h2⟩ := h
  refine ⟨Nat.le_refl _, ?_⟩
  rw [take_snocB s i hi, partsL_snoc h2, if_pos hc, List.map_append, List.map_cons, List.map_nil, extract_toList]
  congr 2
  rw [List.drop_eq_nil_of_le]
  simp
  omega
theorem partsAt_miss {c : UInt8} {s : ByteArray} {i f : Nat} {o : List ByteArray} (h : PartsAt c s i f o) (hi : i < s.size) (hc : s[i] ≠ c) : PartsAt c s (i + 1) f o := by
  obtain ⟨h1, h2⟩ := h
  refine ⟨by omega, ?_⟩
  rw [take_snocB s i hi, partsL_snoc h2, if_neg hc]
  congr 2
  rw [List.drop_append_of_le_length]
  simp
  have : i ≤ s.data.size := Nat.le_of_lt hi
  omega
theorem partsAt_end {c : UInt8} {s : ByteArray} {f : Nat} {o : List ByteArray} (h : PartsAt c s s.size f o) : partsS c s = o ++ [s.extract f s.size] := by
  obtain ⟨h1, h2⟩ := h
  have e : s.data.toList.take s.size = s.data.toList := List.take_of_length_le (by simp)
  unfold partsS
  rw [e] at h2
  rw [h2, List.map_append, List.map_map, List.map_cons, List.map_nil]
  congr 1
  · conv => rhs; rw [← List.map_id o]
    refine List.map_congr_left fun x _ => ?_
    cases x; simp
  · congr 1
    apply bytes_inj
    rw [extract_toList, e]
theorem partsAt_len {c : UInt8} {s : ByteArray} {i f : Nat} {o : List ByteArray} (h : PartsAt c s i f o) : o.length ≤ i := by
  have h1 := partsL_len c (s.data.toList.take i)
  rw [h.2] at h1
  simp at h1
  omega

set_option maxHeartbeats 4000000 in
theorem spec_l01Split (c : UInt8) (s : ByteArray) (w : World) (hs : s.size ≤ 1048576) :
    Calls Tryd.prog 48 #[.string s, .int .u8 c.toNat] w fun e w' => ∃ r, e = .returned r ∧ w'.ownsRow w.heap.size 9 1 r (partsS c s).length ((partsS c s).flatMap putStr) ∧ Below w.heap.size w w' := by
  obtain ⟨i0, hi, hz0, hz1, hz2⟩ := info_parts infoStr
  go_enter Tryd.func48, Tryd.ntmps48
  go_wp2_with fail
  go_loopw [5, 6, 7] (fun r f i wr => ∃ (k a : Nat) (o : List ByteArray), k ≤ s.size ∧ i = .int .i64 k ∧ f = .int .i64 a ∧ PartsAt c s k a o ∧ wr.ownsRow w.heap.size 9 1 r o.length (o.flatMap putStr) ∧ Below w.heap.size w wr) (fun _ _ i _ => s.size - (intOf i).toNat)
  case atStart => exact ⟨0, 0, [], Nat.zero_le _, rfl, rfl, partsAt_start c s, own_empty w w.heap.size _ 1 (Nat.le_refl _), (Below.refl _ _).alloc (Nat.le_refl _) _⟩
  case round =>
    obtain ⟨k, a, o, hk, rfl, rfl, hpa, hown, hb⟩ := hrel
    have hol := partsAt_len hpa
    have hak := hpa.1
    have HO := Lib.hid hown
    obtain ⟨ro, rc, er0⟩ := (own_rd hown).form
    subst er0
    clear hown
    have HB := Lib.hid hb
    have hws := hb.size
    clear hb
    by_cases hlt : k < s.size
    · by_cases hc : s[k] = c
      · have t1 : (((s[k].toNat : Nat) : Int) == ((c.toNat : Nat) : Int)) = true := beq_iff_eq.2 (by rw [hc])
        have hp := Lib.hid (partsAt_hit hpa hlt hc)
        clear hpa hc
        go_wp2_with (at_builtin; go_loud (refine app_elK rfl _ _ 35 9 i0 (.string ByteArray.empty) 1 16 Tryd.underlying35 hi hz0 hz1 hz2 (by rfl) (by decide) rfl wr w.heap.size _ o.length (o.flatMap putStr) (by rfl) HO.out [.string (s.extract a k)] rfl (strS_one _) (by first | rfl | (rw [World.size_alloc]; rfl)) (by omega) (by decide) hws (by rfl) ?_; intro g2 gc2 w2 hown2 hB2 hK2 hy2; have HO2 := Lib.hid hown2; have HB2 := Lib.hid (HB.out.trans (hB2 _ (Below.refl _ _))); clear hown2 hB2 hK2 hy2))
        go_roundw
        case rel => exact ⟨k + 1, k + 1, o ++ [s.extract a k], by omega, by go_num, by go_num, hp.out, by rw [strS_snoc, List.length_append]; exact HO2.out, HB2.out⟩
        case measure => simp [intOf]; omega
      · have t1 : (((s[k].toNat : Nat) : Int) == ((c.toNat : Nat) : Int)) = false := beq_eq_false_iff_ne.2 (fun q => hc (UInt8.toNat_inj.1 (by omega)))
        have hp := Lib.hid (partsAt_miss hpa hlt hc)
        clear hpa hc
        go_wp2_with fail
        go_roundw
        case rel => exact ⟨k + 1, a, o, by omega, by go_num, rfl, hp.out, HO.out, HB.out⟩
        case measure => simp [intOf]; omega
    · obtain rfl : k = s.size := by omega
      have hp := Lib.hid (partsAt_end hpa)
      clear hpa
      go_wp2_with (at_builtin; go_loud (refine app_elK rfl _ _ 35 9 i0 (.string ByteArray.empty) 1 16 Tryd.underlying35 hi hz0 hz1 hz2 (by rfl) (by decide) rfl wr w.heap.size _ o.length (o.flatMap putStr) (by rfl) HO.out [.string (s.extract a s.size)] rfl (strS_one _) (by first | rfl | (rw [World.size_alloc]; rfl)) (by omega) (by decide) hws (by rfl) ?_; intro g2 gc2 w2 hown2 hB2 hK2 hy2; have HO2 := Lib.hid hown2; have HB2 := Lib.hid (HB.out.trans (hB2 _ (Below.refl _ _))); clear hown2 hB2 hK2 hy2))
      go_ret
      refine ⟨_, rfl, ?_, HB2.out⟩
      rw [hp.out, strS_snoc, List.length_append]
      exact HO2.out

def Tryd.layCut_ren : Go.Shelf.Ren := ⟨fun | 145 => 31 | 220 => 68 | 219 => 104 | 217 => 126 | 225 => 127 | 224 => 128 | 267 => 129 | 266 => 143 | 314 => 144 | n => n, fun | 9 => 9 | 4 => 4 | 59 => 62 | 3 => 3 | 5 => 5 | 46 => 151 | 146 => 167 | 51 => 166 | n => n, fun | 1 => 0 | n => n⟩
theorem Tryd.layCut : Go.Proofs.LaysM.n145 Tryd.prog Tryd.layCut_ren := {
  mixed := by kernel_rfl
  f145 := Tryd.func31.trans (congrArg some (by kernel_rfl))
  f217 := Tryd.func126.trans (congrArg some (by kernel_rfl))
  f219 := Tryd.func104.trans (congrArg some (by kernel_rfl))
  f220 := Tryd.func68.trans (congrArg some (by kernel_rfl))
  f224 := Tryd.func128.trans (congrArg some (by kernel_rfl))
  f225 := Tryd.func127.trans (congrArg some (by kernel_rfl))
  f266 := Tryd.func143.trans (congrArg some (by kernel_rfl))
  f267 := Tryd.func129.trans (congrArg some (by kernel_rfl))
  f314 := Tryd.func144.trans (congrArg some (by kernel_rfl))
  t3 := Tryd.underlying3
  a3 := Tryd.isAgg3
  z3 := Tryd.sizeOf3
  v3 := Tryd.zeroValue3
  t4 := Tryd.underlying4
  a4 := Tryd.isAgg4
  z4 := Tryd.sizeOf4
  v4 := Tryd.zeroValue4
  t5 := Tryd.underlying5
  a5 := Tryd.isAgg5
  z5 := Tryd.sizeOf5
  v5 := Tryd.zeroValue5
  t9 := Tryd.underlying9
  a9 := Tryd.isAgg9
  z9 := Tryd.sizeOf9
  v9 := Tryd.zeroValue9
  t46 := Tryd.underlying151
  a46 := Tryd.isAgg151
  z46 := Tryd.sizeOf151
  v46 := Tryd.zeroValue151
  t51 := Tryd.underlying166
  a51 := Tryd.isAgg166
  z51 := Tryd.sizeOf166
  v51 := Tryd.zeroValue166
  t59 := Tryd.underlying62
  a59 := Tryd.isAgg62
  z59 := Tryd.sizeOf62
  v59 := Tryd.zeroValue62
  t146 := Tryd.underlying167
  a146 := Tryd.isAgg167
  z146 := Tryd.sizeOf167
  v146 := Tryd.zeroValue167
  g1 := by kernel_rfl
  i3 := by kernel_rfl
  i4 := by kernel_rfl
  i5 := by kernel_rfl
  i9 := by kernel_rfl
  i46 := by kernel_rfl
  i51 := by kernel_rfl
  i59 := by kernel_rfl
  i146 := by kernel_rfl
  m1 := by kernel_rfl
  s1_3 := fun w h => Go.Proofs.cell_of_shapedOpen_int (zero := #[.int .i64 0]) (t := 3) h (of_decide_eq_true (by kernel_rfl)) (by kernel_rfl) rfl (by kernel_rfl) (by kernel_rfl) Tryd.underlying3 }
/-- the variable internal/bytealg.MaxLen holds a number -/
def MaxL (w : World) : Prop := ∃ m : Int, w.cell? ⟨0, 0, none⟩ = some (.int .i64 m)
theorem maxL_of {w : World} (h : w.ShapedOpen Tryd.prog) : MaxL w := Tryd.layCut.s1_3 w h
theorem MaxL.below {w w' : World} (h : MaxL w) (b : Below w.heap.size w w') : MaxL w' := by
  obtain ⟨m, h1⟩ := h
  exact ⟨m, (b.cell (p := ⟨_, 0, none⟩) (Lib.lt_of_cell h1)).trans h1⟩
def Tryd.laySplit_ren : Go.Shelf.Ren := ⟨fun | 146 => 36 | 221 => 74 | 268 => 108 | 138 => 109 | 143 => 110 | 195 => 130 | 197 => 131 | 218 => 132 | 219 => 104 | 260 => 145 | 217 => 126 | 225 => 127 | 224 => 128 | 267 => 129 | 266 => 143 | 314 => 144 | n => n, fun | 9 => 9 | 31 => 35 | 3 => 3 | 4 => 4 | 0 => 0 | 105 => 153 | 21 => 21 | 5 => 5 | 46 => 151 | 119 => 182 | 139 => 185 | 138 => 184 | 146 => 167 | 51 => 166 | n => n, fun | 1 => 0 | 3 => 3 | 4 => 4 | n => n⟩
theorem Tryd.laySplit : Go.Proofs.LaysM.n146 Tryd.prog Tryd.laySplit_ren := {
  mixed := by kernel_rfl
  f138 := Tryd.func109.trans (congrArg some (by kernel_rfl))
  f143 := Tryd.func110.trans (congrArg some (by kernel_rfl))
  f146 := Tryd.func36.trans (congrArg some (by kernel_rfl))
  f195 := Tryd.func130.trans (congrArg some (by kernel_rfl))
  f197 := Tryd.func131.trans (congrArg some (by kernel_rfl))
  f217 := Tryd.func126.trans (congrArg some (by kernel_rfl))
  f218 := Tryd.func132.trans (congrArg some (by kernel_rfl))
  f219 := Tryd.func104.trans (congrArg some (by kernel_rfl))
  f221 := Tryd.func74.trans (congrArg some (by kernel_rfl))
  f224 := Tryd.func128.trans (congrArg some (by kernel_rfl))
  f225 := Tryd.func127.trans (congrArg some (by kernel_rfl))
  f260 := Tryd.func145.trans (congrArg some (by kernel_rfl))
  f266 := Tryd.func143.trans (congrArg some (by kernel_rfl))
  f267 := Tryd.func129.trans (congrArg some (by kernel_rfl))
  f268 := Tryd.func108.trans (congrArg some (by kernel_rfl))
  f314 := Tryd.func144.trans (congrArg some (by kernel_rfl))
  t0 := Tryd.underlying0
  a0 := Tryd.isAgg0
  z0 := Tryd.sizeOf0
  v0 := Tryd.zeroValue0
  t3 := Tryd.underlying3
  a3 := Tryd.isAgg3
  z3 := Tryd.sizeOf3
  v3 := Tryd.zeroValue3
  t4 := Tryd.underlying4
  a4 := Tryd.isAgg4
  z4 := Tryd.sizeOf4
  v4 := Tryd.zeroValue4
  t5 := Tryd.underlying5
  a5 := Tryd.isAgg5
  z5 := Tryd.sizeOf5
  v5 := Tryd.zeroValue5
  t9 := Tryd.underlying9
  a9 := Tryd.isAgg9
  z9 := Tryd.sizeOf9
  v9 := Tryd.zeroValue9
  t21 := Tryd.underlying21
  a21 := Tryd.isAgg21
  z21 := Tryd.sizeOf21
  v21 := Tryd.zeroValue21
  t31 := Tryd.underlying35
  a31 := Tryd.isAgg35
  z31 := Tryd.sizeOf35
  v31 := Tryd.zeroValue35
  t46 := Tryd.underlying151
  a46 := Tryd.isAgg151
  z46 := Tryd.sizeOf151
  v46 := Tryd.zeroValue151
  t51 := Tryd.underlying166
  a51 := Tryd.isAgg166
  z51 := Tryd.sizeOf166
  v51 := Tryd.zeroValue166
  t105 := Tryd.underlying153
  a105 := Tryd.isAgg153
  z105 := Tryd.sizeOf153
  v105 := Tryd.zeroValue153
  t119 := Tryd.underlying182
  a119 := Tryd.isAgg182
  z119 := Tryd.sizeOf182
  t138 := Tryd.underlying184
  a138 := Tryd.isAgg184
  z138 := Tryd.sizeOf184
  v138 := Tryd.zeroValue184
  t139 := Tryd.underlying185
  a139 := Tryd.isAgg185
  z139 := Tryd.sizeOf185
  v139 := Tryd.zeroValue185
  t146 := Tryd.underlying167
  a146 := Tryd.isAgg167
  z146 := Tryd.sizeOf167
  v146 := Tryd.zeroValue167
  g1 := by kernel_rfl
  g3 := by kernel_rfl
  g4 := by kernel_rfl
  i0 := by kernel_rfl
  i3 := by kernel_rfl
  i4 := by kernel_rfl
  i5 := by kernel_rfl
  i9 := by kernel_rfl
  i21 := by kernel_rfl
  i31 := by kernel_rfl
  i46 := by kernel_rfl
  i51 := by kernel_rfl
  i105 := by kernel_rfl
  i138 := by kernel_rfl
  i139 := by kernel_rfl
  i146 := by kernel_rfl
  m1 := by kernel_rfl
  s1_3 := fun w h => Go.Proofs.cell_of_shapedOpen_int (zero := #[.int .i64 0]) (t := 3) h (of_decide_eq_true (by kernel_rfl)) (by kernel_rfl) rfl (by kernel_rfl) (by kernel_rfl) Tryd.underlying3
  m3 := by kernel_rfl
  m4 := by kernel_rfl }
theorem impl_Split (c : UInt8) (s : ByteArray) (w : World) (hs : s.size ≤ 1048576) (hm : MaxL w) :
    Calls Tryd.prog 36 #[.string s, .string ⟨#[c]⟩] w fun e w' => e = .returned (.slice (some ⟨w.heap.size, 0, none⟩) (partsS c s).length (partsS c s).length) ∧ Own w' w.heap.size 9 ((partsS c s).flatMap putStr) ∧ Below w.heap.size w w' := by
  obtain ⟨m, h1⟩ := hm
  refine (Any.strings_Split { Tryd.laySplit with } Tryd.laySplit.i9 s ⟨#[c]⟩ m w (by omega) h1 (by show 1 ≤ 1; decide)).mono ?_
  rintro e w' ⟨rfl, rfl⟩
  have e1 := partsS_split c s
  have hl : Lib.countB s ⟨#[c]⟩ + 1 = (partsS c s).length := by
    have := Lib.splitB_all ⟨#[c]⟩ (by show 1 ≤ 1; decide) 0 _ s rfl
    rw [e1] at this
    exact this.symm
  rw [hl]
  have e2 : (Lib.splitB ⟨#[c]⟩ 0 (Lib.countB s ⟨#[c]⟩) s).map Value.string = (partsS c s).flatMap putStr := by
    rw [e1]
    generalize partsS c s = xs
    induction xs with
    | nil => rfl
    | cons x xs ih => rw [List.map_cons, List.flatMap_cons, ih]; rfl
  rw [e2]
  exact ⟨rfl, Own.new w _ _, (Below.refl _ _).alloc (Nat.le_refl _) _⟩
theorem impl_Cut (c : UInt8) (s : ByteArray) (w : World) (hs : s.size ≤ 2147483647) (hm : MaxL w) :
    Calls Tryd.prog 31 #[.string s, .string ⟨#[c]⟩] w fun e w' => e = .returned (.tuple #[.string (cutA c s), .string (cutB c s), .bool (cutF c s)]) ∧ Below w.heap.size w w' := by
  obtain ⟨m, h1⟩ := hm
  refine (Any.strings_Cut { Tryd.layCut with } s ⟨#[c]⟩ m w (by omega) h1).mono ?_
  rintro e w' ⟨rfl, n, rfl⟩
  exact ⟨rfl, below_dn (Below.refl _ _) n⟩
end Go.Proofs.YtklgkbiobggbiaaDoor
namespace Go.Proofs.YtklgkbiobggbiaaDoor
open Go.ChangeShapes Go.WideShapes Go.ChangeAt Go.RowKit Go.Deep Go.Joins
set_option linter.unusedVariables false
set_option maxRecDepth 100000
set_option linter.unusedSimpArgs false
theorem own_block {w : World} {base g cap n s : Nat} {E : TypeId} {L : List Value} (h : w.ownsRow base E s (.slice (some ⟨g, 0, none⟩) n cap) n L) : ∃ U, Own w g E (L ++ U) := by
  obtain ⟨h1, h2⟩ := h
  rcases h2 with ⟨e, _⟩ | ⟨g', cap', cur, e, hb, hg, hn, hm, hs, ht⟩
  · cases e
  · injection e with q1 q2 q3
    injection q1 with q4
    injection q4 with q5
    subst q5
    refine ⟨cur.toList.drop (n * s), ?_⟩
    rw [← ht, List.take_append_drop]
    unfold Own
    simpa using hg
/-- blocks of two types are two blocks -/
theorem own_apart_type {w : World} {base s n g : Nat} {E E' : TypeId} {v : Value} {L L' : List Value} (h : w.ownsRow base E s v n L) (o : Own w g E' L') (hne : E ≠ E') : ∀ g', v.ownBlock = some g' → g' ≠ g := by
  rintro g' hg rfl
  obtain ⟨h1, h2⟩ := h
  rcases h2 with ⟨rfl, _⟩ | ⟨g2, cap, cur, rfl, hb, hg2, rest⟩
  · cases hg
  · obtain rfl : g2 = g' := by injection hg
    unfold Own at o
    rw [hg2] at o
    injection o with o
    injection o with _ q _
    exact hne q
theorem own_rdU {w : World} {g n : Nat} {E : TypeId} {L U : List Value} (h : Own w g E (L ++ U)) (hl : L.length = n * 1) (k : Nat) (hk : k < n) : w.cell? ⟨g, k, none⟩ = L[k]? := by
  rw [h.cell, List.getElem?_append_left (by omega)]
theorem dash_list : (⟨#[45]⟩ : ByteArray).toList = [45] := by rw [ByteArray.toList_eq]
theorem two_of {α : Type} {l : List α} (h : l.length = 2) : ∃ a b, l = [a, b] := by
  match l, h with
  | [a, b], _ => exact ⟨a, b, rfl⟩
end Go.Proofs.YtklgkbiobggbiaaDoor
namespace Go.Proofs.YtklgkbiobggbiaaDoor
open Go.ChangeShapes Go.WideShapes Go.ChangeAt Go.RowKit Go.Deep Go.Joins
set_option linter.unusedVariables false
set_option maxRecDepth 100000
set_option linter.unusedSimpArgs false
theorem infoRL : (Tryd.prog.info? 2).map (fun i => (i.zero, i.size, i.bytes)) = some (some (.int .i64 0), 1, 8) := by kernel_rfl
theorem intI_one (a : Int) : ∀ u ∈ [Value.int .i64 a], u.oneCell' = true := by
  intro u hu
  obtain rfl : u = .int .i64 a := by simpa using hu
  rfl
theorem intI_snoc (cs : List Int) (j : Int) : (cs ++ [j]).flatMap putI = cs.flatMap putI ++ [.int .i64 j] := by
  rw [List.flatMap_append]; rfl
theorem numB_none {w : ByteArray} (h : numS w = none) : numB w = none := by unfold numB; rw [h]; rfl
theorem numB_out {w : ByteArray} {x : Int} (h : numS w = some x) (hv : valB x = false) : numB w = none := by unfold numB; rw [h, Option.bind_some, if_neg (by rw [hv]; simp)]
theorem numB_in {w : ByteArray} {x : Int} (h : numS w = some x) (hv : valB x = true) : numB w = some x := by unfold numB; rw [h, Option.bind_some, if_pos hv]

set_option maxHeartbeats 2000000 in
theorem spec_ReadList (s : ByteArray) (w : World) (hs : s.size ≤ 1048576) :
    Calls Tryd.prog 66 #[.string s] w fun e w' => ∃ r : Value, e = .returned (.tuple #[r, .bool (listR s).isSome]) ∧ w'.ownsRow w.heap.size 2 1 r (listL s).length ((listL s).flatMap putI) ∧ Below w.heap.size w w' := by
  by_cases hd : s = ⟨#[45]⟩
  · have t0 := text_eq hd
    rw [dash_list] at t0
    have e := Lib.hid (listL_some (s := s) (by rw [hd]; exact listR_dash))
    clear hd
    go_enter Tryd.func66, Tryd.ntmps66
    go_wp2_with fail
    go_ret2
    exact ⟨_, by rw [e.out.2]; try rfl, by rw [e.out.1]; exact own_empty w w.heap.size _ 1 (Nat.le_refl _), (Below.refl _ _).alloc (Nat.le_refl _) _⟩
  have t0 := text_ne hd
  rw [dash_list] at t0
  have hR := Lib.hid (listR_word hd)
  obtain ⟨i0, hi, hz0, hz1, hz2⟩ := info_parts infoRL
  have hwl := partsS_len 44 s
  have hwz := Lib.hid (fun x (hx : x ∈ partsS 44 s) => partsS_size x hx)
  have H44 := Lib.hid (fun w' => spec_l01Split 44 s w' hs)
  generalize hW : partsS 44 s = ws at hwl hwz
  rw [hW] at H44 hR
  clear hd hW
  by_cases h64 : 64 < ws.length
  · have t64 : decide ((64 : Int) < (ws.length : Int)) = true := decide_eq_true (by omega)
    have e := Lib.hid (listL_none (s := s) (by rw [hR.out, if_pos h64]))
    go_enter Tryd.func66, Tryd.ntmps66
    go_wp2_with fail
    refine (H44.out _).mono ?_; rintro e w1 ⟨rv, rfl, o1, b1⟩
    obtain ⟨gw, cw, rfl⟩ := (own_rd o1).form
    have HB1 := Lib.hid b1
    clear o1 b1
    go_wp2_with fail
    go_ret2
    exact ⟨_, by rw [e.out.2]; try rfl, by rw [e.out.1]; exact own_nil _ _ _ _, HB1.out⟩
  have t64 : decide ((64 : Int) < (ws.length : Int)) = false := decide_eq_false (by omega)
  rw [if_neg h64] at hR
  go_enter Tryd.func66, Tryd.ntmps66
  go_wp2_with fail
  refine (H44.out _).mono ?_; rintro e w1 ⟨rv, rfl, o1, b1⟩
  rcases own_form o1 with ⟨_, q⟩ | ⟨gw, cw, rfl⟩
  · omega
  obtain ⟨U, ou⟩ := own_block o1
  have HWd := Lib.hid ou
  have HB1 := Lib.hid b1
  have hws1 := b1.size
  have hgw := ou.lt
  have hpl := putStr_len ws
  clear o1 b1 ou H44
  go_wp2_with fail
  go_loopw [5, 6, 7, 8] (fun r i _ _ wr => ∃ (k : Nat) (o : List Int), k ≤ ws.length ∧ i = .int .i64 k ∧ readN (ws.take k) = some o ∧ wr.ownsRow w.heap.size 2 1 r o.length (o.flatMap putI) ∧ Own wr gw 9 (ws.flatMap putStr ++ U) ∧ Below w.heap.size w wr) (fun _ i _ _ _ => ws.length - (intOf i).toNat)
  case atStart => exact ⟨0, [], Nat.zero_le _, rfl, rfl, own_empty w1 w.heap.size _ 1 hws1, HWd.out.alloc _, HB1.out.alloc hws1 _⟩
  case round =>
    clear HWd HB1
    obtain ⟨k, o, hk, rfl, hrd, hown, howd, hb⟩ := hrel
    have hol := readN_len hrd
    rw [List.length_take] at hol
    have HOL : Hid (o.length ≤ k) := Lib.hid (by omega)
    clear hol
    have HO := Lib.hid hown
    obtain ⟨ro, rc, er0⟩ := (own_rd hown).form
    subst er0
    clear hown
    have HWd := Lib.hid howd
    have HB := Lib.hid hb
    have hws := hb.size
    have hgw := howd.lt
    by_cases hlt : k < ws.length
    · have c0 := own_rdU howd hpl k hlt
      rw [putStr_get ws k hlt] at c0
      have hsz : ws[k].size ≤ 2147483647 := Nat.le_trans (hwz.out _ (List.getElem_mem hlt)) (by omega)
      have NA := Lib.hid (fun w' => spec_l01Number ws[k] w' hsz)
      have hsn := Lib.hid (readN_snoc (ws.take k) ws[k])
      have HRD := Lib.hid hrd
      have htk := Lib.hid (List.take_append_getElem hlt)
      clear howd hb hrd
      cases hna : numS ws[k] with
      | none =>
        have e := Lib.hid (listL_none (s := s) (by rw [hR.out, readN_bad hlt (numB_none hna)]))
        rw [(num_none hna).1, (num_none hna).2] at NA
        clear hna
        go_wp2_with fail
        refine (NA.out _).mono ?_; rintro e w' ⟨rfl, rfl⟩
        go_wp2_with fail
        go_ret2
        exact ⟨_, by rw [e.out.2]; try rfl, by rw [e.out.1]; exact own_nil _ _ _ _, HB.out⟩
      | some x =>
        rw [(num_some hna).1, (num_some hna).2] at NA
        have hxb := numV_bd ws[k]
        rw [(num_some hna).1] at hxb
        cases hv : valB x with
        | false =>
          have e := Lib.hid (listL_none (s := s) (by rw [hR.out, readN_bad hlt (numB_out hna hv)]))
          have hv' : inB x (-1000000000000) 1000000000000 = false := hv
          have HI := Lib.hid (fun w' => l00In_is x (-1000000000000) 1000000000000 w' hv')
          clear hna hv hv'
          go_wp2_with fail
          refine (NA.out _).mono ?_; rintro e w' ⟨rfl, rfl⟩
          go_wp2_with fail
          refine (HI.out _).mono ?_; rintro e w' ⟨rfl, rfl⟩
          go_wp2_with fail
          go_ret2
          exact ⟨_, by rw [e.out.2]; try rfl, by rw [e.out.1]; exact own_nil _ _ _ _, HB.out⟩
        | true =>
          have hnext : Hid (readN (ws.take (k + 1)) = some (o ++ [x])) := Lib.hid (by rw [← htk.out, hsn.out, HRD.out, numB_in hna hv]; rfl)
          have hv' : inB x (-1000000000000) 1000000000000 = true := hv
          have HI := Lib.hid (fun w' => l00In_is x (-1000000000000) 1000000000000 w' hv')
          clear hna hv hv'
          go_wp2_with fail
          refine (NA.out _).mono ?_; rintro e w' ⟨rfl, rfl⟩
          go_wp2_with fail
          refine (HI.out _).mono ?_; rintro e w2 ⟨rfl, rfl⟩
          go_wp2_with (at_builtin; go_loud (refine app_elK rfl _ _ 53 2 i0 (.int .i64 0) 1 8 Tryd.underlying53 hi hz0 hz1 hz2 (by rfl) (by decide) rfl _ w.heap.size _ o.length (o.flatMap putI) (by rfl) HO.out [.int .i64 x] rfl (intI_one _) (by first | rfl | (rw [World.size_alloc]; rfl)) (by have := HOL.out; omega) (by decide) hws (by rfl) ?_; intro g3 gc3 w3 hown3 hB3 hK3 hy3; have HO3 := Lib.hid hown3; have HB3 := Lib.hid (HB.out.trans (hB3 _ (Below.refl _ _))); have HWd3 := Lib.hid (hK3 _ _ _ HWd.out (own_apart_type HO.out HWd.out (by decide))); clear hown3 hB3 hK3 hy3))
          go_roundw
          case rel => exact ⟨k + 1, o ++ [x], by omega, by go_num, hnext.out, by rw [intI_snoc, List.length_append]; exact HO3.out, HWd3.out, HB3.out⟩
          case measure => simp [intOf]; omega
    · obtain rfl : k = ws.length := by omega
      rw [List.take_length] at hrd
      have e := Lib.hid (listL_some (s := s) (by rw [hR.out, hrd]))
      clear hrd howd hb
      go_wp2_with fail
      go_ret2
      exact ⟨_, by rw [e.out.2]; try rfl, by rw [e.out.1]; exact HO.out, HB.out⟩

set_option maxHeartbeats 2000000 in
theorem impl_ReadList (s : ByteArray) (w : World) (hs : s.size ≤ 1048576) (hm : MaxL w) (hp : Pow10 w) (he : ErrS w) :
    Calls Tryd.prog 32 #[.string s] w fun e w' => ∃ r : Value, e = .returned (.tuple #[r, .bool (listR s).isSome]) ∧ w'.ownsRow w.heap.size 2 1 r (listL s).length ((listL s).flatMap putI) ∧ Below w.heap.size w w' := by
  have HM := Lib.hid hm; clear hm
  have HP := Lib.hid hp; clear hp
  have HE := Lib.hid he; clear he
  by_cases hd : s = ⟨#[45]⟩
  · have t0 := text_eq hd
    rw [dash_list] at t0
    have e := Lib.hid (listL_some (s := s) (by rw [hd]; exact listR_dash))
    clear hd
    go_enter Tryd.func32, Tryd.ntmps32
    go_wp2_with fail
    go_ret2
    exact ⟨_, by rw [e.out.2]; try rfl, by rw [e.out.1]; exact own_nil _ _ _ _, Below.refl _ _⟩
  have t0 := text_ne hd
  rw [dash_list] at t0
  obtain ⟨i0, hi, hz0, hz1, hz2⟩ := info_parts infoRL
  have hT := Lib.hid (list_tests hd _ rfl)
  have hwl := partsS_len 44 s
  have hwz := Lib.hid (fun x (hx : x ∈ partsS 44 s) => partsS_size x hx)
  have H44 := Lib.hid (impl_Split 44 s w hs HM.out)
  generalize hW : partsS 44 s = ws at hwl hwz H44 hT
  have hpl := putStr_len ws
  clear hd hW
  go_enter Tryd.func32, Tryd.ntmps32
  go_wp2_with fail
  refine H44.out.mono ?_; rintro e w1 ⟨rfl, o1, b1⟩
  have HWd := Lib.hid o1
  have HB1 := Lib.hid b1
  clear o1 b1 H44
  go_wp2_with fail
  go_loopw [4, 6, 7, 8, 14] (fun r _ _ _ i wr => ∃ (k : Nat), k ≤ ws.length ∧ i = .int .i64 k ∧ wr.ownsRow w.heap.size 2 1 r ((ws.take k).map numV).length (((ws.take k).map numV).flatMap putI) ∧ Own wr w.heap.size 9 (ws.flatMap putStr) ∧ Below w.heap.size w wr) (fun _ _ _ _ i _ => ws.length - (intOf i).toNat)
  case atStart => exact ⟨0, Nat.zero_le _, rfl, own_nil _ _ _ _, HWd.out, HB1.out⟩
  case round =>
    clear HWd HB1
    obtain ⟨k, hk, rfl, hown, howd, hb⟩ := hrel
    have HOL : Hid (((ws.take k).map numV).length = k) := Lib.hid (by rw [List.length_map, List.length_take]; omega)
    obtain ⟨o, ho⟩ : ∃ o, (ws.take k).map numV = o := ⟨_, rfl⟩
    rw [ho] at hown HOL
    have HOE := Lib.hid ho
    clear ho
    have HO := Lib.hid hown
    obtain ⟨ro, rc, er0⟩ := (own_rd hown).form
    subst er0
    clear hown
    have HWd := Lib.hid howd
    have HB := Lib.hid hb
    have hws := hb.size
    have hgw := howd.lt
    by_cases hlt : k < ws.length
    · have c0 := howd.cell k
      rw [putStr_get ws k hlt] at c0
      have hsz : ws[k].size ≤ 2147483647 := Nat.le_trans (hwz.out _ (List.getElem_mem hlt)) (by omega)
      have hms : Hid ((ws.take (k + 1)).map numV = (ws.take k).map numV ++ [numV ws[k]]) := Lib.hid (by rw [← List.take_append_getElem hlt, List.map_append]; rfl)
      have hA := Lib.hid (fun (w' : World) (h1 : Pow10 w') (h2 : ErrS w') => impl_ReadDecimal ws[k] w' hsz h1 h2)
      obtain ⟨x, hx⟩ : ∃ x, numV ws[k] = x := ⟨_, rfl⟩
      rw [hx] at hA hms
      clear howd hb hx
      go_wp2_with fail
      refine (hA.out _ (HP.out.below HB.out) (HE.out.below HB.out)).mono ?_; rintro e w3 ⟨rfl, b3⟩
      have HO3 := Lib.hid (own_below HO.out b3 (Nat.le_refl _))
      have HWd3 := Lib.hid (HWd.out.below b3 HWd.out.lt)
      have HB3 := Lib.hid (bnext HB.out b3)
      have hs3 := HB3.out.size
      clear b3 c0 HO HWd HB hA
      go_wp2_with (at_builtin; go_loud (refine app_elK rfl _ _ 53 2 i0 (.int .i64 0) 1 8 Tryd.underlying53 hi hz0 hz1 hz2 (by rfl) (by decide) rfl w3 w.heap.size _ o.length (o.flatMap putI) (by rfl) HO3.out [.int .i64 x] rfl (intI_one _) (by first | rfl | (rw [World.size_alloc]; rfl)) (by have := HOL.out; omega) (by decide) hs3 (by rfl) ?_; intro g7 gc7 w7 hown7 hB7 hK7 hy7; have HO7 := Lib.hid hown7; have HB7 := Lib.hid (HB3.out.trans (hB7 _ (Below.refl _ _))); have HWd7 := Lib.hid (hK7 _ _ _ HWd3.out (own_apart_type HO3.out HWd3.out (by decide))); clear hown7 hB7 hK7 hy7))
      go_roundw
      case rel => exact ⟨k + 1, by omega, by go_num, by rw [hms.out, HOE.out, intI_snoc, List.length_append]; exact HO7.out, HWd7.out, HB7.out⟩
      case measure => simp [intOf]; omega
    · obtain rfl : k = ws.length := by omega
      have hxl : Hid (0 < o.length ∧ o.length ≤ 2097152) := Lib.hid (by have := HOL.out; omega)
      have hoe := HOE.out
      rw [List.take_length] at hoe
      rw [hoe] at hT
      have HX := Lib.hid (fun (w' : World) (hr : Rd w'.heap.size w' (.slice ro o.length rc) 1 o.length (o.flatMap putI)) (h1 : Pow10 w') => impl_ListTextX w' _ o hr hxl.out.1 hxl.out.2 h1)
      clear howd hb hoe HOE HOL
      by_cases ht : listX o = s
      · have e := Lib.hid (listL_some (hT.out.1 ht))
        have t1 := text_eq ht
        clear ht
        go_wp2_with fail
        refine (HX.out _ (own_rd HO.out) (HP.out.below HB.out)).mono ?_; rintro e w2 ⟨rfl, b2⟩
        have HB2 := Lib.hid (bnext HB.out b2)
        have HO2 := Lib.hid (own_below HO.out b2 (Nat.le_refl _)); clear b2
        go_wp2_with fail
        go_ret2
        exact ⟨_, by rw [e.out.2]; try rfl, by rw [e.out.1]; exact HO2.out, HB2.out⟩
      · have e := Lib.hid (listL_none (hT.out.2 ht))
        have t1 := text_ne ht
        clear ht
        go_wp2_with fail
        refine (HX.out _ (own_rd HO.out) (HP.out.below HB.out)).mono ?_; rintro e w2 ⟨rfl, b2⟩
        have HB2 := Lib.hid (bnext HB.out b2); clear b2
        go_wp2_with fail
        go_ret2
        exact ⟨_, by rw [e.out.2]; try rfl, by rw [e.out.1]; exact own_nil _ _ _ _, HB2.out⟩
end Go.Proofs.YtklgkbiobggbiaaDoor
