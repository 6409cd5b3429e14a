/- Contracts and plain facts, joined: SortSp. -/
import Derived.Test.YtockglfoeagahaaGreatDoorRows
import Derived.Test.YtockglfoeagahaaGreatDoorZFnWarbleM
import Derived.Shelf.SlSortCmp.WholeK
import Derived.Shelf.SlSortCmp.NoneTotal
import Derived.Ground.SlsfProg
import Derived.Shelf.SlGeneric
namespace Go.Proofs.YtockglfoeagahaaGreatDoor
open Go.ChangeShapes Go.WideShapes Go.ChangeAt Go.RowKit Go.Deep Go.Joins
set_option linter.unusedVariables false
set_option maxRecDepth 100000
set_option linter.unusedSimpArgs false
def Tryz.sortSp_ren : Go.Shelf.Ren := ⟨fun | 6 => 27 | 15 => 47 | 14 => 46 | 28 => 74 | 29 => 75 | 20 => 66 | 21 => 67 | 22 => 68 | 23 => 69 | 24 => 70 | 25 => 71 | 26 => 72 | 27 => 73 | 46 => 91 | 47 => 92 | 48 => 93 | 49 => 94 | 50 => 95 | 57 => 117 | n => n, fun | 22 => 24 | 24 => 38 | 25 => 54 | 3 => 3 | 39 => 75 | 0 => 0 | 53 => 106 | 55 => 70 | 4 => 4 | 46 => 100 | 45 => 99 | 50 => 77 | 5 => 5 | 9 => 9 | 66 => 114 | 70 => 118 | 76 => 140 | 77 => 141 | n => n, fun | n => n⟩
theorem Tryz.sortSp : Go.Proofs.SlLaysF0.n6 Tryz.prog Tryz.sortSp_ren := {
  mixed := by kernel_rfl
  f6 := ⟨Tryz.f27.name, by decide, Tryz.func27.trans (congrArg some (by kernel_rfl))⟩
  f14 := ⟨Tryz.f46.name, by decide, Tryz.func46.trans (congrArg some (by kernel_rfl))⟩
  f15 := Tryz.func47.trans (congrArg some (by kernel_rfl))
  f20 := ⟨Tryz.f66.name, by decide, Tryz.func66.trans (congrArg some (by kernel_rfl))⟩
  f21 := ⟨Tryz.f67.name, by decide, Tryz.func67.trans (congrArg some (by kernel_rfl))⟩
  f22 := ⟨Tryz.f68.name, by decide, Tryz.func68.trans (congrArg some (by kernel_rfl))⟩
  f23 := ⟨Tryz.f69.name, by decide, Tryz.func69.trans (congrArg some (by kernel_rfl))⟩
  f24 := ⟨Tryz.f70.name, by decide, Tryz.func70.trans (congrArg some (by kernel_rfl))⟩
  f25 := ⟨Tryz.f71.name, by decide, Tryz.func71.trans (congrArg some (by kernel_rfl))⟩
  f26 := ⟨Tryz.f72.name, by decide, Tryz.func72.trans (congrArg some (by kernel_rfl))⟩
  f27 := ⟨Tryz.f73.name, by decide, Tryz.func73.trans (congrArg some (by kernel_rfl))⟩
  f28 := Tryz.func74.trans (congrArg some (by kernel_rfl))
  f29 := Tryz.func75.trans (congrArg some (by kernel_rfl))
  f46 := ⟨Tryz.f91.name, by decide, Tryz.func91.trans (congrArg some (by kernel_rfl))⟩
  f47 := Tryz.func92.trans (congrArg some (by kernel_rfl))
  f48 := Tryz.func93.trans (congrArg some (by kernel_rfl))
  f49 := ⟨Tryz.f94.name, by decide, Tryz.func94.trans (congrArg some (by kernel_rfl))⟩
  f50 := ⟨Tryz.f95.name, by decide, Tryz.func95.trans (congrArg some (by kernel_rfl))⟩
  f57 := ⟨Tryz.f117.name, by decide, Tryz.func117.trans (congrArg some (by kernel_rfl))⟩
  t0 := Tryz.underlying0
  a0 := Tryz.isAgg0
  z0 := Tryz.sizeOf0
  v0 := Tryz.zeroValue0
  t3 := Tryz.underlying3
  a3 := Tryz.isAgg3
  z3 := Tryz.sizeOf3
  v3 := Tryz.zeroValue3
  t4 := Tryz.underlying4
  a4 := Tryz.isAgg4
  z4 := Tryz.sizeOf4
  v4 := Tryz.zeroValue4
  t5 := Tryz.underlying5
  a5 := Tryz.isAgg5
  z5 := Tryz.sizeOf5
  v5 := Tryz.zeroValue5
  t9 := Tryz.underlying9
  a9 := Tryz.isAgg9
  z9 := Tryz.sizeOf9
  v9 := Tryz.zeroValue9
  t22 := Tryz.underlying24
  a22 := Tryz.isAgg24
  z22 := Tryz.sizeOf24
  v22 := Tryz.zeroValue24
  t25 := Tryz.underlying54
  a25 := Tryz.isAgg54
  z25 := Tryz.sizeOf54
  v25 := Tryz.zeroValue54
  t39 := Tryz.underlying75
  a39 := Tryz.isAgg75
  z39 := Tryz.sizeOf75
  v39 := Tryz.zeroValue75
  t45 := Tryz.underlying99
  a45 := Tryz.isAgg99
  z45 := Tryz.sizeOf99
  v45 := Tryz.zeroValue99
  t46 := Tryz.underlying100
  a46 := Tryz.isAgg100
  z46 := Tryz.sizeOf100
  v46 := Tryz.zeroValue100
  t50 := Tryz.underlying77
  a50 := Tryz.isAgg77
  z50 := Tryz.sizeOf77
  v50 := Tryz.zeroValue77
  t53 := Tryz.underlying106
  a53 := Tryz.isAgg106
  z53 := Tryz.sizeOf106
  v53 := Tryz.zeroValue106
  t55 := Tryz.underlying70
  a55 := Tryz.isAgg70
  z55 := Tryz.sizeOf70
  v55 := Tryz.zeroValue70
  t66 := Tryz.underlying114
  a66 := Tryz.isAgg114
  z66 := Tryz.sizeOf114
  v66 := Tryz.zeroValue114
  t70 := Tryz.underlying118
  a70 := Tryz.isAgg118
  z70 := Tryz.sizeOf118
  v70 := Tryz.zeroValue118
  t76 := Tryz.underlying140
  a76 := Tryz.isAgg140
  z76 := Tryz.sizeOf140
  v76 := Tryz.zeroValue140
  t77 := Tryz.underlying141
  a77 := Tryz.isAgg141
  z77 := Tryz.sizeOf141
  v77 := Tryz.zeroValue141 }
instance : Inhabited Spot := ⟨⟨0, 0⟩⟩
def cmpA (x y : Spot) : Int := cmpI x.angle y.angle
open Go.Sort Go.Lib in
theorem cmpSpots_grow (x y : Spot) (W : World) : Calls Tryz.prog 28 #[.agg #[.int .i64 x.angle, .int .i64 x.weight], .agg #[.int .i64 y.angle, .int .i64 y.weight]] W fun e w' => e = .returned (.int .i64 (cmpA x y)) ∧ ∃ q os', w' = grow (W.drewN q) os' := by
  have hcon := Lib.hid (fun W' => cmp_Compare_int x.angle y.angle W')
  unfold cmpA
  generalize cmpI x.angle y.angle = r at hcon ⊢
  go_enter Tryz.func28, Tryz.ntmps28
  go_wp2_with (go_at_call 48; refine (hcon.out _).mono ?_; rintro e w' ⟨rfl, rfl⟩)
  go_ret
  exact ⟨rfl, 0, _, by rw [alloc_eq_grow, alloc_eq_grow, grow_grow]; rfl⟩
theorem ltOf_cmpA (x y : Spot) : ltOf cmpA x y = decide (x.angle < y.angle) := by
  unfold ltOf cmpA
  by_cases h : x.angle < y.angle
  · rw [decide_eq_true h, decide_eq_true (cmpI_neg.2 h)]
  · rw [decide_eq_false h, decide_eq_false (fun q => h (cmpI_neg.1 q))]
open Go.Sort in
theorem swoA : SWO (ltOf cmpA) where
  irrefl x := by rw [ltOf_cmpA]; simp
  trans x y z h1 h2 := by rw [ltOf_cmpA] at *; simp at *; omega
  ntrans x y z h1 h2 := by rw [ltOf_cmpA] at *; simp at *; omega
open Go.Sort in
theorem flatK_put (d : Array Spot) : flatK Spot.put 2 d = (d.toList.flatMap Spot.put).toArray := by
  apply Array.ext_getElem?
  intro t
  have hl : (d.toList.flatMap Spot.put).length = d.size * 2 := by rw [Spot_len]; simp
  by_cases ht : t < d.size * 2
  · have h1 : t / 2 < d.size := by omega
    have hg := flat_get (f := Spot.put) (s := 2) d.toList (fun _ _ => rfl) (j := t % 2) (by omega) (t / 2)
    rw [show t / 2 * 2 + t % 2 = t from by omega] at hg
    have e : (flatK Spot.put 2 d)[t]? = some ((Spot.put d[t / 2]!)[t % 2]!) := by
      simp [flatK, ht]
    rw [e, List.getElem?_toArray, hg, Array.getElem?_toList, Array.getElem?_eq_getElem h1, getElem!_pos d _ h1]
    show _ = (Spot.put d[t / 2])[t % 2]?
    have h2 : t % 2 < (Spot.put d[t / 2]).length := by show t % 2 < 2; omega
    rw [List.getElem?_eq_getElem h2, getElem!_pos (Spot.put d[t / 2]) (t % 2) h2]
  · rw [Array.getElem?_eq_none (by simp [flatK]; omega), Array.getElem?_eq_none (by simpa [hl] using Nat.le_of_not_lt ht)]
open Go.Sort in
theorem heap_row {w : World} {g n : Nat} {os : Array Obj} {cur : Array Value} {e : TypeId} {fr : Nat × Nat} (d : Array Value) (hb : w.heap[g]? = some (.cells cur e fr)) :
    (grow (putRow id (Sort.ahead w n) g 0 d) os).heap[g]? = some (.cells (putCells id 0 d cur) e fr) := by
  have hg : g < w.heap.size := (Array.getElem?_eq_some_iff.1 hb).1
  rw [heap_grow_old _ _ (by simpa using hg)]
  simp [putRow, mapBlock, Sort.ahead, Array.getElem?_modify, hb, onCells]
open Go.Sort in
theorem grown_row {w : World} {g n : Nat} {os : Array Obj} (d : Array Value) : w.grownBy (grow (putRow id (Sort.ahead w n) g 0 d) os) (some g) := by
  refine ⟨rfl, rfl, rfl, by simp, fun k hk hne => ?_⟩
  rw [heap_grow_old _ _ (by simpa using hk)]
  have : g ≠ k := fun e => hne (by rw [e])
  simp [putRow, mapBlock, Sort.ahead, Array.getElem?_modify, this]
open Go.Sort in
theorem take_row (cur : Array Value) (ts : List Value) (h : ts.length ≤ cur.size) : (putCells id 0 ts.toArray cur).toList.take ts.length = ts := by
  apply List.ext_getElem?
  intro j
  by_cases hj : j < ts.length
  · rw [List.getElem?_take_of_lt hj, Array.getElem?_toList]
    simp [putCells, hj, show j < cur.size by omega]
  · rw [List.getElem?_take_eq_none (by omega), List.getElem?_eq_none (by omega)]
open Go.Sort Go.Shelf in
theorem sort_ownSp (w : World) (base : Nat) (v : Value) (xs : List Spot) (h : w.ownsRow base 38 2 v xs.length (xs.flatMap Spot.put)) (hn : xs.length ≤ 1048576) :
    Calls Tryz.prog 27 #[v, .func (.func 28) #[] #[]] w fun e' w' => e' = .returned (.tuple #[]) ∧ ∃ ys : List Spot, ys.Perm xs ∧ (ys.Pairwise fun a b => a.angle ≤ b.angle) ∧ w'.ownsRow base 38 2 v xs.length (ys.flatMap Spot.put) ∧ w.grownBy w' v.ownBlock := by
  obtain ⟨h1, h2⟩ := h
  rcases h2 with ⟨rfl, h0⟩ | ⟨g, cap, cur, rfl, hb, hg, hnc, hm, hs, ht⟩
  · have hz : xs = [] := List.eq_nil_of_length_eq_zero h0
    subst hz
    exact (AnyF.slices_SortFunc_none Tryz.sortSp none 0 _ w).mono fun e' w' ⟨a, b⟩ => by
      subst b
      exact ⟨a, [], List.Perm.refl _, List.Pairwise.nil, own_nil _ _ _ _, World.grownBy.refl _ _⟩
  · have ho : Own w g 38 cur.toList := by unfold Own; simpa using hg
    have hgl : g < w.heap.size := ho.lt
    have eg : ∀ args w, (callFunc 28 args).run Tryz.prog w = .ok (.enter 28 args) w := enters_of Tryz.func28 (by kernel_rfl) rfl
    have hH : HoldsK Spot.put 2 w g 0 xs.toArray := by
      unfold HoldsK
      rw [flatK_put]
      intro j hj
      have hj' : j < xs.length * 2 := by have : j < (xs.flatMap Spot.put).length := by simpa using hj
                                         rwa [Spot_len] at this
      rw [Nat.zero_add]
      refine ⟨?_, ho.free j⟩
      rw [ho.cell, ← List.getElem?_take_of_lt hj', ht]
      have hj2 : j < (xs.flatMap Spot.put).length := by rw [Spot_len]; exact hj'
      rw [List.getElem?_eq_getElem hj2, getElem!_pos _ j (by simpa using hj2)]
      simp
    have hcon := AnyQ.slices_SortFunc Tryz.sortSp 2 Tryz.isAgg38 Tryz.sizeOf38 Spot.put (fun _ => rfl) (fun x u hu => Spot_one [x] u (by simpa using hu)) cmpA swoA 28 #[] g 0 cap xs.toArray w eg (fun _ _ _ _ x y => cmpSpots_grow x y _) hH hgl (by simp; omega)
    refine Calls.mono hcon ?_
    rintro e' w' ⟨rfl, d', n, os, ⟨hp1, _, hp3⟩, hsd, rfl⟩
    have hsz : d'.size = xs.length := by simpa using hp1
    have hperm : d'.toList.Perm xs := by
      have e1 : (d'.extract 0 xs.toArray.size).toList = d'.toList := by
        rw [show xs.toArray.size = d'.size from by rw [hsz]; simp]; simp
      have e2 : (xs.toArray.extract 0 xs.toArray.size).toList = xs := by simp
      rw [e1, e2] at hp3
      exact hp3
    refine ⟨rfl, d'.toList, hperm, ?_, ?_, ?_⟩
    · rw [List.pairwise_iff_getElem]
      intro i j hi hj hij
      have := hsd i j (Nat.zero_le _) hij (by simpa [hsz] using hj)
      rw [ltOf_cmpA, getElem!_pos d' j (by simpa using hj), getElem!_pos d' i (by simpa using hi)] at this
      have h3 := of_decide_eq_false this
      simp only [Array.getElem_toList]
      omega
    · have hl : (d'.toList.flatMap Spot.put).length = xs.length * 2 := by rw [Spot_len]; simp [hsz]
      have hncS : xs.length * 2 ≤ cap * 2 := Nat.mul_le_mul_right _ hnc
      unfold sortWorldK putRowK
      rw [flatK_put]
      refine ⟨hl, .inr ⟨g, cap, _, rfl, hb, heap_row _ hg, hnc, hm, by simp [putCells, hs], ?_⟩⟩
      rw [← hl]
      exact take_row cur _ (by rw [hl, hs]; exact hncS)
    · exact grown_row _
end Go.Proofs.YtockglfoeagahaaGreatDoor
