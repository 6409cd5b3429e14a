/- slices.SortFunc at Spot by the angles, on a slice of one's own. -/
import Derived.Test.YtkolgfmjajlpgaaRows
import Derived.Test.YtkolgfmjajlpgaaClonS
import Derived.Shelf.SlSortCmp.WholeK
import Derived.Shelf.SlSortCmp.NoneTotal
import Derived.Ground.SlsfProg
import Derived.Shelf.SlGeneric
namespace Go.Proofs.Ytkolgfmjajlpgaa
open Go.ChangeShapes Go.WideShapes Go.ChangeAt Go.RowKit Go.Deep Go.Joins
set_option linter.unusedVariables false
set_option maxRecDepth 100000
set_option linter.unusedSimpArgs false
def Try.sortSp_ren : Go.Shelf.Ren := ⟨fun | 6 => 67 | 15 => 132 | 14 => 131 | 28 => 189 | 29 => 190 | 20 => 181 | 21 => 182 | 22 => 183 | 23 => 184 | 24 => 185 | 25 => 186 | 26 => 187 | 27 => 188 | 46 => 206 | 47 => 207 | 48 => 208 | 49 => 209 | 50 => 210 | 57 => 219 | n => n, fun | 22 => 24 | 24 => 34 | 25 => 108 | 3 => 3 | 39 => 166 | 0 => 0 | 53 => 213 | 55 => 185 | 4 => 4 | 46 => 207 | 45 => 206 | 50 => 116 | 5 => 5 | 9 => 9 | 66 => 224 | 70 => 228 | 76 => 234 | 77 => 235 | n => n, fun | n => n⟩
theorem Try.sortSp : Go.Proofs.SlLaysF0.n6 Try.prog Try.sortSp_ren := {
  mixed := by kernel_rfl
  f6 := ⟨Try.f67.name, by decide, Try.func67.trans (congrArg some (by kernel_rfl))⟩
  f14 := ⟨Try.f131.name, by decide, Try.func131.trans (congrArg some (by kernel_rfl))⟩
  f15 := Try.func132.trans (congrArg some (by kernel_rfl))
  f20 := ⟨Try.f181.name, by decide, Try.func181.trans (congrArg some (by kernel_rfl))⟩
  f21 := ⟨Try.f182.name, by decide, Try.func182.trans (congrArg some (by kernel_rfl))⟩
  f22 := ⟨Try.f183.name, by decide, Try.func183.trans (congrArg some (by kernel_rfl))⟩
  f23 := ⟨Try.f184.name, by decide, Try.func184.trans (congrArg some (by kernel_rfl))⟩
  f24 := ⟨Try.f185.name, by decide, Try.func185.trans (congrArg some (by kernel_rfl))⟩
  f25 := ⟨Try.f186.name, by decide, Try.func186.trans (congrArg some (by kernel_rfl))⟩
  f26 := ⟨Try.f187.name, by decide, Try.func187.trans (congrArg some (by kernel_rfl))⟩
  f27 := ⟨Try.f188.name, by decide, Try.func188.trans (congrArg some (by kernel_rfl))⟩
  f28 := Try.func189.trans (congrArg some (by kernel_rfl))
  f29 := Try.func190.trans (congrArg some (by kernel_rfl))
  f46 := ⟨Try.f206.name, by decide, Try.func206.trans (congrArg some (by kernel_rfl))⟩
  f47 := Try.func207.trans (congrArg some (by kernel_rfl))
  f48 := Try.func208.trans (congrArg some (by kernel_rfl))
  f49 := ⟨Try.f209.name, by decide, Try.func209.trans (congrArg some (by kernel_rfl))⟩
  f50 := ⟨Try.f210.name, by decide, Try.func210.trans (congrArg some (by kernel_rfl))⟩
  f57 := ⟨Try.f219.name, by decide, Try.func219.trans (congrArg some (by kernel_rfl))⟩
  t0 := Try.underlying0
  a0 := Try.isAgg0
  z0 := Try.sizeOf0
  v0 := Try.zeroValue0
  t3 := Try.underlying3
  a3 := Try.isAgg3
  z3 := Try.sizeOf3
  v3 := Try.zeroValue3
  t4 := Try.underlying4
  a4 := Try.isAgg4
  z4 := Try.sizeOf4
  v4 := Try.zeroValue4
  t5 := Try.underlying5
  a5 := Try.isAgg5
  z5 := Try.sizeOf5
  v5 := Try.zeroValue5
  t9 := Try.underlying9
  a9 := Try.isAgg9
  z9 := Try.sizeOf9
  v9 := Try.zeroValue9
  t22 := Try.underlying24
  a22 := Try.isAgg24
  z22 := Try.sizeOf24
  v22 := Try.zeroValue24
  t25 := Try.underlying108
  a25 := Try.isAgg108
  z25 := Try.sizeOf108
  v25 := Try.zeroValue108
  t39 := Try.underlying166
  a39 := Try.isAgg166
  z39 := Try.sizeOf166
  v39 := Try.zeroValue166
  t45 := Try.underlying206
  a45 := Try.isAgg206
  z45 := Try.sizeOf206
  v45 := Try.zeroValue206
  t46 := Try.underlying207
  a46 := Try.isAgg207
  z46 := Try.sizeOf207
  v46 := Try.zeroValue207
  t50 := Try.underlying116
  a50 := Try.isAgg116
  z50 := Try.sizeOf116
  v50 := Try.zeroValue116
  t53 := Try.underlying213
  a53 := Try.isAgg213
  z53 := Try.sizeOf213
  v53 := Try.zeroValue213
  t55 := Try.underlying185
  a55 := Try.isAgg185
  z55 := Try.sizeOf185
  v55 := Try.zeroValue185
  t66 := Try.underlying224
  a66 := Try.isAgg224
  z66 := Try.sizeOf224
  v66 := Try.zeroValue224
  t70 := Try.underlying228
  a70 := Try.isAgg228
  z70 := Try.sizeOf228
  v70 := Try.zeroValue228
  t76 := Try.underlying234
  a76 := Try.isAgg234
  z76 := Try.sizeOf234
  v76 := Try.zeroValue234
  t77 := Try.underlying235
  a77 := Try.isAgg235
  z77 := Try.sizeOf235
  v77 := Try.zeroValue235 }
instance : Inhabited Spot := ⟨⟨0, 0⟩⟩
def cmpA (x y : Spot) : Int := cmpI x.angle y.angle
open Go.Sort Go.Lib in
theorem cmpSpots_grow (x y : Spot) (W : World) : Calls Try.prog 68 #[.agg #[.int .i64 x.angle, .int .i64 x.weight], .agg #[.int .i64 y.angle, .int .i64 y.weight]] W fun e w' => e = .returned (.int .i64 (cmpA x y)) ∧ ∃ q os', w' = grow (W.drewN q) os' := by
  have hcon := Lib.hid (fun W' => cmp_Compare_int x.angle y.angle W')
  unfold cmpA
  generalize cmpI x.angle y.angle = r at hcon ⊢
  go_enter Try.func68, Try.ntmps68
  go_wp2_with (go_at_call 133; refine (hcon.out _).mono ?_; rintro e w' ⟨rfl, rfl⟩)
  go_ret
  exact ⟨rfl, 0, _, by rw [alloc_eq_grow, alloc_eq_grow, grow_grow]; rfl⟩
theorem ltOf_cmpA (x y : Spot) : ltOf cmpA x y = decide (x.angle < y.angle) := by
  unfold ltOf cmpA
  by_cases h : x.angle < y.angle
  · rw [decide_eq_true h, decide_eq_true (cmpI_neg.2 h)]
  · rw [decide_eq_false h, decide_eq_false (fun q => h (cmpI_neg.1 q))]
open Go.Sort in
theorem swoA : SWO (ltOf cmpA) where
  irrefl x := by rw [ltOf_cmpA]; simp
  trans x y z h1 h2 := by rw [ltOf_cmpA] at *; simp at *; omega
  ntrans x y z h1 h2 := by rw [ltOf_cmpA] at *; simp at *; omega
open Go.Sort in
theorem flatK_put (d : Array Spot) : flatK Spot.put 2 d = (d.toList.flatMap Spot.put).toArray := by
  apply Array.ext_getElem?
  intro t
  have hl : (d.toList.flatMap Spot.put).length = d.size * 2 := by rw [Spot_len]; simp
  by_cases ht : t < d.size * 2
  · have h1 : t / 2 < d.size := by omega
    have hg := flat_get (f := Spot.put) (s := 2) d.toList (fun _ _ => rfl) (j := t % 2) (by omega) (t / 2)
    rw [show t / 2 * 2 + t % 2 = t from by omega] at hg
    have e : (flatK Spot.put 2 d)[t]? = some ((Spot.put d[t / 2]!)[t % 2]!) := by
      simp [flatK, ht]
    rw [e, List.getElem?_toArray, hg, Array.getElem?_toList, Array.getElem?_eq_getElem h1, getElem!_pos d _ h1]
    show _ = (Spot.put d[t / 2])[t % 2]?
    have h2 : t % 2 < (Spot.put d[t / 2]).length := by show t % 2 < 2; omega
    rw [List.getElem?_eq_getElem h2, getElem!_pos (Spot.put d[t / 2]) (t % 2) h2]
  · rw [Array.getElem?_eq_none (by simp [flatK]; omega), Array.getElem?_eq_none (by simpa [hl] using Nat.le_of_not_lt ht)]
open Go.Sort in
theorem heap_row {w : World} {g n : Nat} {os : Array Obj} {cur : Array Value} {e : TypeId} {fr : Nat × Nat} (d : Array Value) (hb : w.heap[g]? = some (.cells cur e fr)) :
    (grow (putRow id (Sort.ahead w n) g 0 d) os).heap[g]? = some (.cells (putCells id 0 d cur) e fr) := by
  have hg : g < w.heap.size := (Array.getElem?_eq_some_iff.1 hb).1
  rw [heap_grow_old _ _ (by simpa using hg)]
  simp [putRow, mapBlock, Sort.ahead, Array.getElem?_modify, hb, onCells]
open Go.Sort in
theorem grown_row {w : World} {g n : Nat} {os : Array Obj} (d : Array Value) : w.grownBy (grow (putRow id (Sort.ahead w n) g 0 d) os) (some g) := by
  refine ⟨rfl, rfl, rfl, by simp, fun k hk hne => ?_⟩
  rw [heap_grow_old _ _ (by simpa using hk)]
  have : g ≠ k := fun e => hne (by rw [e])
  simp [putRow, mapBlock, Sort.ahead, Array.getElem?_modify, this]
open Go.Sort in
theorem take_row (cur : Array Value) (ts : List Value) (h : ts.length ≤ cur.size) : (putCells id 0 ts.toArray cur).toList.take ts.length = ts := by
  apply List.ext_getElem?
  intro j
  by_cases hj : j < ts.length
  · rw [List.getElem?_take_of_lt hj, Array.getElem?_toList]
    simp [putCells, hj, show j < cur.size by omega]
  · rw [List.getElem?_take_eq_none (by omega), List.getElem?_eq_none (by omega)]
open Go.Sort Go.Shelf in
theorem sort_ownSp (w : World) (base : Nat) (v : Value) (xs : List Spot) (h : w.ownsRow base 34 2 v xs.length (xs.flatMap Spot.put)) (hn : xs.length ≤ 1048576) :
    Calls Try.prog 67 #[v, .func (.func 68) #[] #[]] w fun e' w' => e' = .returned (.tuple #[]) ∧ ∃ ys : List Spot, ys.Perm xs ∧ (ys.Pairwise fun a b => a.angle ≤ b.angle) ∧ w'.ownsRow base 34 2 v xs.length (ys.flatMap Spot.put) ∧ w.grownBy w' v.ownBlock := by
  obtain ⟨h1, h2⟩ := h
  rcases h2 with ⟨rfl, h0⟩ | ⟨g, cap, cur, rfl, hb, hg, hnc, hm, hs, ht⟩
  · have hz : xs = [] := List.eq_nil_of_length_eq_zero h0
    subst hz
    exact (AnyF.slices_SortFunc_none Try.sortSp none 0 _ w).mono fun e' w' ⟨a, b⟩ => by
      subst b
      exact ⟨a, [], List.Perm.refl _, List.Pairwise.nil, own_nil _ _ _ _, World.grownBy.refl _ _⟩
  · have ho : Own w g 34 cur.toList := by unfold Own; simpa using hg
    have hgl : g < w.heap.size := ho.lt
    have eg : ∀ args w, (callFunc 68 args).run Try.prog w = .ok (.enter 68 args) w := enters_of Try.func68 (by kernel_rfl) rfl
    have hH : HoldsK Spot.put 2 w g 0 xs.toArray := by
      unfold HoldsK
      rw [flatK_put]
      intro j hj
      have hj' : j < xs.length * 2 := by have : j < (xs.flatMap Spot.put).length := by simpa using hj
                                         rwa [Spot_len] at this
      rw [Nat.zero_add]
      refine ⟨?_, ho.free j⟩
      rw [ho.cell, ← List.getElem?_take_of_lt hj', ht]
      have hj2 : j < (xs.flatMap Spot.put).length := by rw [Spot_len]; exact hj'
      rw [List.getElem?_eq_getElem hj2, getElem!_pos _ j (by simpa using hj2)]
      simp
    have hcon := AnyQ.slices_SortFunc Try.sortSp 2 Try.isAgg34 Try.sizeOf34 Spot.put (fun _ => rfl) (fun x u hu => Spot_one [x] u (by simpa using hu)) cmpA swoA 68 #[] g 0 cap xs.toArray w eg (fun _ _ _ _ x y => cmpSpots_grow x y _) hH hgl (by simp; omega)
    refine Calls.mono hcon ?_
    rintro e' w' ⟨rfl, d', n, os, ⟨hp1, _, hp3⟩, hsd, rfl⟩
    have hsz : d'.size = xs.length := by simpa using hp1
    have hperm : d'.toList.Perm xs := by
      have e1 : (d'.extract 0 xs.toArray.size).toList = d'.toList := by
        rw [show xs.toArray.size = d'.size from by rw [hsz]; simp]; simp
      have e2 : (xs.toArray.extract 0 xs.toArray.size).toList = xs := by simp
      rw [e1, e2] at hp3
      exact hp3
    refine ⟨rfl, d'.toList, hperm, ?_, ?_, ?_⟩
    · rw [List.pairwise_iff_getElem]
      intro i j hi hj hij
      have := hsd i j (Nat.zero_le _) hij (by simpa [hsz] using hj)
      rw [ltOf_cmpA, getElem!_pos d' j (by simpa using hj), getElem!_pos d' i (by simpa using hi)] at this
      have h3 := of_decide_eq_false this
      simp only [Array.getElem_toList]
      omega
    · have hl : (d'.toList.flatMap Spot.put).length = xs.length * 2 := by rw [Spot_len]; simp [hsz]
      have hncS : xs.length * 2 ≤ cap * 2 := Nat.mul_le_mul_right _ hnc
      unfold sortWorldK putRowK
      rw [flatK_put]
      refine ⟨hl, .inr ⟨g, cap, _, rfl, hb, heap_row _ hg, hnc, hm, by simp [putCells, hs], ?_⟩⟩
      rw [← hl]
      exact take_row cur _ (by rw [hl, hs]; exact hncS)
    · exact grown_row _
end Go.Proofs.Ytkolgfmjajlpgaa
