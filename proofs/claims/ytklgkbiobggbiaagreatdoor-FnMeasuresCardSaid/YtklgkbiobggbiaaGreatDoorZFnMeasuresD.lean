/- Contracts and plain facts, joined: Spread, Far, Outl, Mean, Dec, NumL. -/
import Derived.Test.YtklgkbiobggbiaaGreatDoorRows
import Derived.Test.YtklgkbiobggbiaaGreatDoorZFnMeasuresC
import Derived.Deep.RegionHeld3
import Derived.Shelf.Lay
import Derived.Shelf.Strconv.Itoa4
import Derived.Ground.NamesProg
import Derived.Lib.ItoaNum
import Derived.Lib.LaidTab
import Derived.Lib.AppendIntMem
import Derived.Laws.IdiomStrings
import Derived.Lib.ParseIntB
import Derived.Lib.Atoi
import Derived.Lib.Strings
namespace Go.Proofs.YtklgkbiobggbiaaGreatDoor
open Go.ChangeShapes Go.WideShapes Go.ChangeAt Go.RowKit Go.Deep Go.Joins
set_option linter.unusedVariables false
set_option maxRecDepth 100000
set_option linter.unusedSimpArgs false
def spI (zs : List Int) : Int := centI (zs[0]?.getD 0) (zs[zs.length - 1]?.getD 0)
def spreadS (xs : List Measure) (bell : ByteArray) (p : Int) : Int := if askM xs bell p = 0 then spI (sortI (valF xs bell p)) else 0
/-- what a list of numbers in memory shows at two places -/
theorem ends_of {w : World} {r : Value} {zs : List Int} (h : Rd w.heap.size w r 1 zs.length (zs.flatMap putI)) (h0 : 0 < zs.length) (hz : ∀ z ∈ zs, 10000 ≤ z ∧ z ≤ 20000000) :
    ∃ b off cap x y, r = .slice (some ⟨b, off, none⟩) zs.length cap ∧ b < w.heap.size ∧ w.cell? ⟨b, off, none⟩ = some (.int .i64 x) ∧ w.cell? ⟨b, off + (zs.length - 1), none⟩ = some (.int .i64 y) ∧ spI zs = centI x y ∧ (10000 ≤ x ∧ x ≤ 20000000) ∧ 10000 ≤ y ∧ y ≤ 20000000 := by
  obtain ⟨hL, vo, vc, rfl, hcap1, hmax1, hnil1, hsome1⟩ := h
  obtain ⟨b, off, rfl, hb, hc⟩ := hsome1 h0
  have hl : zs.length - 1 < zs.length := by omega
  refine ⟨b, off, vc, zs[0], zs[zs.length - 1], rfl, hb, ?_, ?_, ?_, hz _ (List.getElem_mem h0), hz _ (List.getElem_mem hl)⟩
  · have := hc 0 (by omega)
    rw [Nat.add_zero, putI_get zs 0 h0] at this
    exact this
  · rw [hc (zs.length - 1) (by omega), putI_get zs (zs.length - 1) hl]
  · unfold spI
    rw [List.getElem?_eq_getElem h0, List.getElem?_eq_getElem hl]; rfl

set_option maxHeartbeats 2000000 in
theorem impl_SpreadOf (w : World) (v : Value) (xs : List Measure) (bell : ByteArray) (p : Int) (h : Rd w.heap.size w v 3 xs.length (xs.flatMap Measure.put)) (hn : xs.length ≤ 1048576) (hok : ∀ x ∈ xs, x.ok) :
    Calls Tryz.prog 11 #[v, .string bell, .int .i64 p] w fun e w' => e = .returned (.tuple #[.int .i64 (spreadS xs bell p), .int .i64 (askM xs bell p)]) ∧ Below w.heap.size w w' := by
  have H := Lib.hid (impl_ValuesOf w v xs bell p h hn hok)
  by_cases h0 : askM xs bell p = 0
  · have ho := askM_ok h0
    have hv := valF_all ho.1 bell p
    have hl1 := hv.1
    have hl0 := ho.2.2
    rw [valsS_yes h0, h0] at H
    clear h hok
    go_enter Tryz.func11, Tryz.ntmps11
    go_wp2_with fail
    refine H.out.mono ?_; rintro e2 w2 ⟨r, rfl, hown, b2⟩
    have hrd := own_rd hown
    have B := Lib.hid b2
    have hzl : 0 < (sortI (valF xs bell p)).length := by rw [sortI_len]; exact hl0
    obtain ⟨b, off, cap, x, y, rfl, hb, c0, c1, es, hx, hy⟩ := ends_of hrd hzl (fun z hz => hv.2 z ((sortI_perm _).mem_iff.1 hz))
    have HC := Lib.hid (fun w' => impl_cents x y w' hx hy)
    have HE : Hid (spreadS xs bell p = centI x y) := Lib.hid (by rw [← es]; exact if_pos h0)
    have H0 := Lib.hid h0
    have hn64 : (sortI (valF xs bell p)).length ≤ 64 := by rw [sortI_len]; exact hv.1
    generalize (sortI (valF xs bell p)).length = n at *
    generalize centI x y = C at *
    clear hown hrd es hx hy h0 ho hv b2 hl0 hl1
    go_wp2_with fail
    refine wp_region_above (by kernel_rfl) (by kernel_rfl) ?_
    repeat (go_big_quiet_step (((go_at_call 38; exact aboveC (HC.out _)))))
    refine wpQuiet_nil ?_
    intro w3 b3
    have B3 := Lib.hid (bnext B.out b3); clear b3
    go_wp2_with fail
    go_ret2
    exact ⟨by rw [H0.out, HE.out]; try rfl, B3.out⟩
  · have e : Hid (spreadS xs bell p = 0) := (if_neg h0 : spreadS xs bell p = 0)
    have t0 : (askM xs bell p != 0) = true := bne_iff_ne.2 h0
    clear h hok h0
    go_enter Tryz.func11, Tryz.ntmps11
    go_wp2_with fail
    refine H.out.mono ?_; rintro e1 w1 ⟨_, rfl, _, b1⟩
    go_wp2_with fail
    go_ret2
    exact ⟨by rw [e.out]; try rfl, b1⟩
end Go.Proofs.YtklgkbiobggbiaaGreatDoor
namespace Go.Proofs.YtklgkbiobggbiaaGreatDoor
open Go.ChangeShapes Go.WideShapes Go.ChangeAt Go.RowKit Go.Deep Go.Joins
set_option linter.unusedVariables false
set_option maxRecDepth 100000
set_option linter.unusedSimpArgs false
def absI (d : Int) : Int := if 0 ≤ d then d else -d
def midI (xs : List Measure) (m : Measure) : Int := medI (sortI (valF xs m.bell m.part))
def farB (xs : List Measure) (limit : Int) (m : Measure) : Bool := decide (limit < absI (centI (midI xs m) m.value))
def limS (xs : List Measure) (limit : Int) : Int := if validMeasureS xs = true then if inB limit 0 120000 = true then 0 else 2 else 1
theorem limS_bad {xs : List Measure} (h : validMeasureS xs = false) (l : Int) : limS xs l = 1 := by unfold limS; rw [h]; rfl
theorem limS_range {xs : List Measure} (h : validMeasureS xs = true) {l : Int} (hp : inB l 0 120000 = false) : limS xs l = 2 := by unfold limS; rw [h, hp]; rfl
theorem limS_yes {xs : List Measure} (h : validMeasureS xs = true) {l : Int} (hp : inB l 0 120000 = true) : limS xs l = 0 := by unfold limS; rw [h, hp]; rfl
theorem limS_ok {xs : List Measure} {l : Int} (h : limS xs l = 0) : validMeasureS xs = true := by
  unfold limS at h
  split at h
  · assumption
  · omega
theorem valF_mem {xs : List Measure} {m : Measure} (h : m ∈ xs) : m.value ∈ valF xs m.bell m.part := by
  unfold valF
  refine List.mem_map.2 ⟨m, List.mem_filter.2 ⟨h, ?_⟩, rfl⟩
  unfold isV
  have e : strEq m.bell m.bell = true := by unfold strEq; simp
  rw [e, decide_eq_true rfl]; rfl
theorem medI_mem {zs : List Int} (h : 0 < zs.length) : medI zs ∈ zs := by
  unfold medI
  have hl : (zs.length - 1) / 2 < zs.length := by omega
  rw [List.getElem?_eq_getElem hl]
  exact List.getElem_mem hl
theorem far_facts {xs : List Measure} (hV : validMeasureS xs = true) {m : Measure} (h : m ∈ xs) :
    0 < (valF xs m.bell m.part).length ∧ (valF xs m.bell m.part).length ≤ 64 ∧ (10000 ≤ midI xs m ∧ midI xs m ≤ 20000000) ∧ 10000 ≤ m.value ∧ m.value ≤ 20000000 := by
  obtain ⟨h1, h2⟩ := valF_all hV m.bell m.part
  have hm := valF_mem h
  have h0 : 0 < (valF xs m.bell m.part).length := List.length_pos_of_mem hm
  exact ⟨h0, h1, h2 _ ((sortI_perm _).mem_iff.1 (medI_mem (by rw [sortI_len]; exact h0))), h2 _ hm⟩
theorem l00Max_is (d : Int) (w : World) (h : -312000 ≤ d ∧ d ≤ 312000) : Calls Tryz.prog 98 #[.int .i64 d, .int .i64 (-d)] w fun e w' => e = .returned (.int .i64 (absI d)) ∧ w = w' := by
  unfold absI
  by_cases h0 : 0 ≤ d
  · rw [if_pos h0]
    go_enter Tryz.func98, Tryz.ntmps98
    go_wp2
    all_goals go_ret
    all_goals exact ⟨congrArg (fun z => Ending.returned (.int .i64 z)) (by omega), rfl⟩
  · rw [if_neg h0]
    go_enter Tryz.func98, Tryz.ntmps98
    go_wp2
    all_goals go_ret
    all_goals exact ⟨congrArg (fun z => Ending.returned (.int .i64 z)) (by omega), rfl⟩
theorem impl_abs_is (d : Int) (w : World) (h : -312000 ≤ d ∧ d ≤ 312000) : Calls Tryz.prog 84 #[.int .i64 d] w fun e w' => e = .returned (.int .i64 (absI d)) ∧ w = w' := by
  unfold absI
  by_cases h0 : 0 ≤ d
  · rw [if_pos h0]
    go_enter Tryz.func84, Tryz.ntmps84
    go_wp2
    all_goals go_ret
    all_goals exact ⟨congrArg (fun z => Ending.returned (.int .i64 z)) (by omega), rfl⟩
  · rw [if_neg h0]
    go_enter Tryz.func84, Tryz.ntmps84
    go_wp2
    all_goals go_ret
    all_goals exact ⟨congrArg (fun z => Ending.returned (.int .i64 z)) (by omega), rfl⟩

set_option maxHeartbeats 4000000 in
theorem impl_isOutlier (w : World) (v : Value) (xs : List Measure) (m : Measure) (hm : m ∈ xs) (l : Int) (h : Rd w.heap.size w v 3 xs.length (xs.flatMap Measure.put)) (hV : validMeasureS xs = true) :
    Calls Tryz.prog 40 #[v, .agg #[.string m.bell, .int .i64 m.part, .int .i64 m.value], .int .i64 l] w fun e w' => e = .returned (.bool (farB xs l m)) ∧ Below w.heap.size w w' := by
  have HR := Lib.hid h
  obtain ⟨hf0, hf1, hf2, hf3⟩ := far_facts hV hm
  have h64 := (validMeasureS_parts hV).1
  have hcb := centI_bd _ _ hf2 hf3
  have e : Hid (farB xs l m = decide (l < absI (centI (midI xs m) m.value))) := (rfl : farB xs l m = decide (l < absI (centI (midI xs m) m.value)))
  obtain ⟨vo, vc, rfl⟩ := h.form
  have VB := Lib.hid (Own.new w 27 [.string m.bell, .int .i64 m.part, .int .i64 m.value])
  have c0 := VB.out.cell 0
  have c1 := VB.out.cell 1
  have c2 := VB.out.cell 2
  clear h hm
  have HM := Lib.hid (fun (w' : World) (r : Value) (q : Rd w'.heap.size w' r 1 (sortI (valF xs m.bell m.part)).length ((sortI (valF xs m.bell m.part)).flatMap putI)) => impl_median w' r _ q (by rw [sortI_len]; exact hf0) (by rw [sortI_len]; omega))
  have HVv := Lib.hid (fun (w' : World) (hb : Below w.heap.size w w') => impl_values w' _ xs m.bell m.part (HR.out.up hb) h64)
  change Hid (∀ (w' : World) (r : Value), Rd w'.heap.size w' r 1 (sortI (valF xs m.bell m.part)).length ((sortI (valF xs m.bell m.part)).flatMap putI) → Calls Tryz.prog 37 #[r] w' fun e w'' => e = .returned (.int .i64 (midI xs m)) ∧ Below w'.heap.size w' w'') at HM
  generalize midI xs m = M at *
  have HC := Lib.hid (fun w' => impl_cents M m.value w' hf2 hf3)
  generalize centI M m.value = C at *
  have hsl := Lib.hid (sortI_len (valF xs m.bell m.part))
  clear hf0 hf1 hf2 hf3 HR
  go_enter Tryz.func40, Tryz.ntmps40
  go_wp2_with fail
  go_region_held3 (fun w' => w'.cell? ⟨w.heap.size, 0, none⟩ = some (.string m.bell) ∧ w'.cell? ⟨w.heap.size, 1, none⟩ = some (.int .i64 m.part) ∧ w'.cell? ⟨w.heap.size, 2, none⟩ = some (.int .i64 m.value)) (first | assumption | go_keep | exact ⟨VB.out.cell 0, VB.out.cell 1, VB.out.cell 2⟩) (first
    | (go_at_call 35
       refine (HVv.out _ (by (repeat' (first | (with_reducible exact Below.refl _ _) | (with_reducible assumption) | (with_reducible refine below_dn ?_ _) | (with_reducible refine Below.drew ?_) | (with_reducible refine Below.alloc ?_ ?_ _) | (with_reducible refine Below.setCell ?_ ?_ _) | go_size)))).mono ?_; rintro e1 w1 ⟨r, rfl, o1, b1⟩
       have HRD := Lib.hid (own_rd o1); clear o1
       rw [← hsl.out] at HRD
       have B1 : Below w.heap.size w w1 := Below.trans (by (repeat' (first | (with_reducible exact Below.refl _ _) | (with_reducible assumption) | (with_reducible refine below_dn ?_ _) | (with_reducible refine Below.drew ?_) | (with_reducible refine Below.alloc ?_ ?_ _) | (with_reducible refine Below.setCell ?_ ?_ _) | go_size))) (b1.mono (by simp <;> omega))
       have V1 := Lib.hid ((Own.drew1 VB.out).below b1 (by simp <;> omega))
       have HS1 : w1.cell? ⟨w.heap.size, 0, none⟩ = some (.string m.bell) ∧ w1.cell? ⟨w.heap.size, 1, none⟩ = some (.int .i64 m.part) ∧ w1.cell? ⟨w.heap.size, 2, none⟩ = some (.int .i64 m.value) := ⟨V1.out.cell 0, V1.out.cell 1, V1.out.cell 2⟩
       clear b1)
    | (go_at_call 37
       refine (HM.out _ _ HRD.out).mono ?_; rintro e1 w2 ⟨rfl, b2⟩
       have B2 := bnext B1 b2
       have V2 := Lib.hid (V1.out.below b2 V1.out.lt)
       have HS2 : w2.cell? ⟨w.heap.size, 0, none⟩ = some (.string m.bell) ∧ w2.cell? ⟨w.heap.size, 1, none⟩ = some (.int .i64 m.part) ∧ w2.cell? ⟨w.heap.size, 2, none⟩ = some (.int .i64 m.value) := ⟨V2.out.cell 0, V2.out.cell 1, V2.out.cell 2⟩
       clear b2)
    | (go_at_call 38
       refine (HC.out _).mono ?_; rintro e1 w3 ⟨rfl, b3'⟩
       have B3 := bnext B2 b3'
       have V3 := Lib.hid (V2.out.below b3' V2.out.lt)
       have HS3 : w3.cell? ⟨w.heap.size, 0, none⟩ = some (.string m.bell) ∧ w3.cell? ⟨w.heap.size, 1, none⟩ = some (.int .i64 m.part) ∧ w3.cell? ⟨w.heap.size, 2, none⟩ = some (.int .i64 m.value) := ⟨V3.out.cell 0, V3.out.cell 1, V3.out.cell 2⟩
       clear b3')
    | (go_at_call 84
       refine (impl_abs_is _ _ hcb).mono ?_; rintro e1 w4 ⟨rfl, rfl⟩))
  go_wp2_with fail
  go_ret
  exact ⟨by rw [e.out]; try rfl, B3⟩

theorem impl_limit (w : World) (v : Value) (xs : List Measure) (l : Int) (h : Rd w.heap.size w v 3 xs.length (xs.flatMap Measure.put)) (hn : xs.length ≤ 1048576) (hok : ∀ x ∈ xs, x.ok) :
    Calls Tryz.prog 39 #[v, .int .i64 l] w fun e w' => e = .returned (.int .i64 (limS xs l)) ∧ Below w.heap.size w w' := by
  cases hV : validMeasureS xs
  · have e := Lib.hid (limS_bad hV l)
    have H := Lib.hid (impl_ValidMeasures_is w v xs h hn hok hV)
    clear h hok hV
    go_enter Tryz.func39, Tryz.ntmps39
    go_wp2_with fail
    refine H.out.mono ?_; rintro e1 w1 ⟨rfl, b1⟩
    go_wp2_with fail
    go_ret
    exact ⟨by rw [e.out]; try rfl, b1⟩
  have H := Lib.hid (impl_ValidMeasures_is w v xs h hn hok hV)
  cases hp : inB l 0 120000
  · have e := Lib.hid (limS_range hV hp)
    have HP := Lib.hid hp
    clear h hok hV hp
    go_enter Tryz.func39, Tryz.ntmps39
    go_wp2_with fail
    refine H.out.mono ?_; rintro e1 w1 ⟨rfl, b1⟩
    go_wp2_with (go_at_call 78; refine (within_is _ _ _ _ HP.out).mono ?_; rintro e w' ⟨rfl, rfl⟩)
    go_ret
    exact ⟨by rw [e.out]; try rfl, b1⟩
  · have e := Lib.hid (limS_yes hV hp)
    have HP := Lib.hid hp
    clear h hok hV hp
    go_enter Tryz.func39, Tryz.ntmps39
    go_wp2_with fail
    refine H.out.mono ?_; rintro e1 w1 ⟨rfl, b1⟩
    go_wp2_with (go_at_call 78; refine (within_is _ _ _ _ HP.out).mono ?_; rintro e w' ⟨rfl, rfl⟩)
    go_ret
    exact ⟨by rw [e.out]; try rfl, b1⟩
end Go.Proofs.YtklgkbiobggbiaaGreatDoor
namespace Go.Proofs.YtklgkbiobggbiaaGreatDoor
open Go.ChangeShapes Go.WideShapes Go.ChangeAt Go.RowKit Go.Deep Go.Joins
set_option linter.unusedVariables false
set_option maxRecDepth 100000
set_option linter.unusedSimpArgs false
def farAt (xs : List Measure) (l : Int) (i : Nat) : Bool := match xs[i]? with | some m => farB xs l m | none => false
def outF (xs : List Measure) (l : Int) (k : Nat) : List Int := ((List.range k).filter (farAt xs l)).map (fun (i : Nat) => (i : Int))
def witF (xs : List Measure) (l : Int) (k : Nat) : List Measure := (xs.take k).filter (fun m => !farB xs l m)
def outlS (xs : List Measure) (l : Int) : List Int := if limS xs l = 0 then outF xs l xs.length else []
def witS (xs : List Measure) (l : Int) : List Measure := if limS xs l = 0 then witF xs l xs.length else []
theorem farAt_eq {xs : List Measure} {l : Int} {k : Nat} (h : k < xs.length) : farAt xs l k = farB xs l xs[k] := by unfold farAt; rw [List.getElem?_eq_getElem h]
theorem outF_yes {xs : List Measure} {l : Int} {k : Nat} (h : k < xs.length) (hf : farB xs l xs[k] = true) : outF xs l (k + 1) = outF xs l k ++ [(k : Int)] := by
  unfold outF
  rw [List.range_succ, List.filter_append, List.map_append]
  simp [farAt_eq h, hf]
theorem outF_no {xs : List Measure} {l : Int} {k : Nat} (h : k < xs.length) (hf : farB xs l xs[k] = false) : outF xs l (k + 1) = outF xs l k := by
  unfold outF
  rw [List.range_succ, List.filter_append, List.map_append]
  simp [farAt_eq h, hf]
theorem witF_no {xs : List Measure} {l : Int} {k : Nat} (h : k < xs.length) (hf : farB xs l xs[k] = true) : witF xs l (k + 1) = witF xs l k := by
  unfold witF
  rw [List.take_succ_eq_append_getElem h, List.filter_append]
  simp [hf]
theorem witF_yes {xs : List Measure} {l : Int} {k : Nat} (h : k < xs.length) (hf : farB xs l xs[k] = false) : witF xs l (k + 1) = witF xs l k ++ [xs[k]] := by
  unfold witF
  rw [List.take_succ_eq_append_getElem h, List.filter_append]
  simp [hf]
theorem outF_len (xs : List Measure) (l : Int) (k : Nat) : (outF xs l k).length ≤ k := by
  unfold outF
  rw [List.length_map]
  have := List.length_filter_le (farAt xs l) (List.range k)
  rwa [List.length_range] at this
theorem witF_len (xs : List Measure) (l : Int) (k : Nat) : (witF xs l k).length ≤ k := by
  unfold witF
  have := List.length_filter_le (fun m => !farB xs l m) (xs.take k)
  rw [List.length_take] at this
  omega
theorem outlS_len (xs : List Measure) (l : Int) : (outlS xs l).length ≤ xs.length := by
  unfold outlS
  split
  · exact outF_len _ _ _
  · simp
theorem witS_len (xs : List Measure) (l : Int) : (witS xs l).length ≤ xs.length := by
  unfold witS
  split
  · exact witF_len _ _ _
  · simp
theorem outsnoc (xs : List Int) (a : Int) : (xs ++ [a]).flatMap putI = xs.flatMap putI ++ [.int .i64 a] := by rw [List.flatMap_append]; rfl
theorem witsnoc (xs : List Measure) (a : Measure) : (xs ++ [a]).flatMap Measure.put = xs.flatMap Measure.put ++ [.string a.bell, .int .i64 a.part, .int .i64 a.value] := by rw [List.flatMap_append]; rfl

set_option maxHeartbeats 4000000 in
theorem impl_Out (w : World) (v : Value) (xs : List Measure) (l : Int) (h : Rd w.heap.size w v 3 xs.length (xs.flatMap Measure.put)) (hn : xs.length ≤ 1048576) (hok : ∀ x ∈ xs, x.ok) :
    Calls Tryz.prog 12 #[v, .int .i64 l] w fun e w' => ∃ r : Value, e = .returned (.tuple #[r, .int .i64 (limS xs l)]) ∧ w'.ownsRow w.heap.size 2 1 r (outlS xs l).length ((outlS xs l).flatMap putI) ∧ Below w.heap.size w w' := by
  have H := Lib.hid (impl_limit w v xs l h hn hok)
  by_cases h0 : limS xs l = 0
  case neg =>
    have e : Hid (outlS xs l = []) := (if_neg h0 : outlS xs l = [])
    have t0 : (limS xs l != 0) = true := bne_iff_ne.2 h0
    clear h hok h0
    go_enter Tryz.func12, Tryz.ntmps12
    go_wp2_with fail
    refine H.out.mono ?_; rintro e1 w1 ⟨rfl, b1⟩
    go_wp2_with fail
    go_ret2
    exact ⟨_, rfl, by rw [e.out]; exact own_nil _ _ _ _, b1⟩
  have e : Hid (outlS xs l = outF xs l xs.length) := (if_pos h0 : outlS xs l = outF xs l xs.length)
  have H0 := Lib.hid h0
  have HVal := Lib.hid (limS_ok h0)
  rw [h0] at H
  clear h0 hok
  have H1 := Lib.hid h
  obtain ⟨hL, vo, vc, rfl, hcap1, hmax1, hnil1, hsome1⟩ := h
  obtain ⟨i0, hi, hz0, hz1, hz2⟩ := info_parts info_i64
  go_enter Tryz.func12, Tryz.ntmps12
  go_wp2_with fail
  refine H.out.mono ?_; rintro e1 w1 ⟨rfl, b1⟩
  have HB1 := Lib.hid b1
  have hs1 := b1.size
  clear b1
  go_wp2_with fail
  go_loopw [7, 18] (fun r i wr => ∃ (k : Nat), k ≤ xs.length ∧ i = .int .i64 k ∧ wr.ownsRow w.heap.size 2 1 r (outF xs l k).length ((outF xs l k).flatMap putI) ∧ Below w.heap.size w wr) (fun _ i _ => xs.length - (intOf i).toNat)
  case atStart => exact ⟨0, Nat.zero_le _, rfl, own_nil _ _ _ _, HB1.out⟩
  case round =>
    obtain ⟨k, hk, rfl, hown, hb⟩ := hrel
    have HO := Lib.hid hown; clear hown
    by_cases hlt : k < xs.length
    · have hfl := outF_len xs l k
      obtain ⟨b3, off3, rfl, hbB3, hc3⟩ := hsome1 (by omega)
      have c0 : wr.cell? ⟨b3, off3 + k * 3, none⟩ = some (.string xs[k].bell) := by rw [show off3 + k * 3 = off3 + (k * 3 + 0) from by omega, hb.cell (p := ⟨b3, off3 + (k * 3 + 0), none⟩) hbB3, hc3 (k * 3 + 0) (by omega), Measure_get0 xs k hlt]
      have c1 : wr.cell? ⟨b3, off3 + k * 3 + 1, none⟩ = some (.int .i64 xs[k].part) := by rw [show off3 + k * 3 + 1 = off3 + (k * 3 + 1) from by omega, hb.cell (p := ⟨b3, off3 + (k * 3 + 1), none⟩) hbB3, hc3 (k * 3 + 1) (by omega), Measure_get1 xs k hlt]
      have c2 : wr.cell? ⟨b3, off3 + k * 3 + 2, none⟩ = some (.int .i64 xs[k].value) := by rw [show off3 + k * 3 + 2 = off3 + (k * 3 + 2) from by omega, hb.cell (p := ⟨b3, off3 + (k * 3 + 2), none⟩) hbB3, hc3 (k * 3 + 2) (by omega), Measure_get2 xs k hlt]
      have hws := hb.size
      have hbr3 : b3 < wr.heap.size := Nat.lt_of_lt_of_le hbB3 hws
      have HN := Lib.hid (Own.new wr 27 [.string xs[k].bell, .int .i64 xs[k].part, .int .i64 xs[k].value])
      have HB2 := Lib.hid (hb.alloc hws (.cells #[.string xs[k].bell, .int .i64 xs[k].part, .int .i64 xs[k].value] 27))
      have HO2 := Lib.hid (HO.out.alloc (.cells #[.string xs[k].bell, .int .i64 xs[k].part, .int .i64 xs[k].value] 27))
      have HF : Hid (∀ w', Below w.heap.size w w' → Calls Tryz.prog 40 #[.slice (some ⟨b3, off3, none⟩) xs.length vc, .agg #[.string xs[k].bell, .int .i64 xs[k].part, .int .i64 xs[k].value], .int .i64 l] w' fun e w'' => e = .returned (.bool (farB xs l xs[k])) ∧ Below w'.heap.size w' w'') := Lib.hid (fun w' hb' => impl_isOutlier w' _ xs xs[k] (List.getElem_mem hlt) l (H1.out.up hb') HVal.out)
      clear hc3 hsome1 hnil1 hb
      cases hF : farB xs l xs[k]
      all_goals rw [hF] at HF
      · have ef : Hid (outF xs l (k + 1) = outF xs l k) := outF_no hlt hF
        clear hF hi hz0 hz1 hz2
        go_wp2_with fail
        refine (HF.out _ (by exact HB2.out)).mono ?_; rintro e2 w2 ⟨rfl, b2⟩
        have HO3 := Lib.hid (own_below HO2.out b2 (Nat.le_refl _))
        have HB3 := Lib.hid (HB2.out.trans (b2.mono HB2.out.size))
        clear b2
        go_wp2_with fail
        go_roundw
        case rel => exact ⟨k + 1, by omega, by go_num, by rw [ef.out]; exact HO3.out, HB3.out⟩
        case measure => simp [intOf]; omega
      · have ef : Hid (outF xs l (k + 1) = outF xs l k ++ [(k : Int)]) := outF_yes hlt hF
        clear hF
        go_wp2_with fail
        refine (HF.out _ (by exact HB2.out)).mono ?_; rintro e2 w2 ⟨rfl, b2⟩
        have HO3 := Lib.hid (own_below HO2.out b2 (Nat.le_refl _))
        have HB3 := Lib.hid (HB2.out.trans (b2.mono HB2.out.size))
        have hws2 := HB3.out.size
        clear b2
        go_wp2_with (at_builtin; refine app_el rfl _ _ 29 2 i0 (.int .i64 0) 1 8 Tryz.underlying29 hi hz0 hz1 hz2 (by rfl) (by decide) rfl w2 w.heap.size _ _ ((outF xs l k).flatMap putI) (by rfl) HO3.out [.int .i64 k] rfl (by intro u hu; simp at hu; subst hu; rfl) (by rfl) (by omega) (by decide) hws2 ?_; intro g gc w3 hown3 hB3 hz; have HB4 := Lib.hid (hB3 w HB3.out); have HO4 := Lib.hid hown3; clear hown3 hB3)
        go_roundw
        case rel => exact ⟨k + 1, by omega, by go_num, by rw [ef.out, outsnoc, List.length_append]; exact HO4.out, HB4.out⟩
        case measure => simp [intOf]; omega
    · have em : k = xs.length := by omega
      subst em
      have HB := Lib.hid hb; clear hb hsome1 hnil1 hi hz0 hz1 hz2
      go_wp2
      go_ret2
      exact ⟨_, by rw [H0.out]; rfl, by rw [e.out]; exact HO.out, HB.out⟩

set_option maxHeartbeats 4000000 in
theorem impl_Wit (w : World) (v : Value) (xs : List Measure) (l : Int) (h : Rd w.heap.size w v 3 xs.length (xs.flatMap Measure.put)) (hn : xs.length ≤ 1048576) (hok : ∀ x ∈ xs, x.ok) :
    Calls Tryz.prog 13 #[v, .int .i64 l] w fun e w' => ∃ r : Value, e = .returned (.tuple #[r, .int .i64 (limS xs l)]) ∧ w'.ownsRow w.heap.size 27 3 r (witS xs l).length ((witS xs l).flatMap Measure.put) ∧ Below w.heap.size w w' := by
  have H := Lib.hid (impl_limit w v xs l h hn hok)
  by_cases h0 : limS xs l = 0
  case neg =>
    have e : Hid (witS xs l = []) := (if_neg h0 : witS xs l = [])
    have t0 : (limS xs l != 0) = true := bne_iff_ne.2 h0
    clear h hok h0
    go_enter Tryz.func13, Tryz.ntmps13
    go_wp2_with fail
    refine H.out.mono ?_; rintro e1 w1 ⟨rfl, b1⟩
    go_wp2_with fail
    go_ret2
    exact ⟨_, rfl, by rw [e.out]; exact own_nil _ _ _ _, b1⟩
  have e : Hid (witS xs l = witF xs l xs.length) := (if_pos h0 : witS xs l = witF xs l xs.length)
  have H0 := Lib.hid h0
  have HVal := Lib.hid (limS_ok h0)
  rw [h0] at H
  clear h0 hok
  have H1 := Lib.hid h
  obtain ⟨hL, vo, vc, rfl, hcap1, hmax1, hnil1, hsome1⟩ := h
  obtain ⟨i0, hi, hz0, hz1, hz2⟩ := info_parts Measure_info
  go_enter Tryz.func13, Tryz.ntmps13
  go_wp2_with fail
  refine H.out.mono ?_; rintro e1 w1 ⟨rfl, b1⟩
  have HB1 := Lib.hid b1
  have hs1 := b1.size
  clear b1
  go_wp2_with fail
  go_loopw [7, 18] (fun r i wr => ∃ (k : Nat), k ≤ xs.length ∧ i = .int .i64 k ∧ wr.ownsRow w.heap.size 27 3 r (witF xs l k).length ((witF xs l k).flatMap Measure.put) ∧ Below w.heap.size w wr) (fun _ i _ => xs.length - (intOf i).toNat)
  case atStart => exact ⟨0, Nat.zero_le _, rfl, own_nil _ _ _ _, HB1.out⟩
  case round =>
    obtain ⟨k, hk, rfl, hown, hb⟩ := hrel
    have HO := Lib.hid hown; clear hown
    by_cases hlt : k < xs.length
    · have hfl := witF_len xs l k
      obtain ⟨b3, off3, rfl, hbB3, hc3⟩ := hsome1 (by omega)
      have c0 : wr.cell? ⟨b3, off3 + k * 3, none⟩ = some (.string xs[k].bell) := by rw [show off3 + k * 3 = off3 + (k * 3 + 0) from by omega, hb.cell (p := ⟨b3, off3 + (k * 3 + 0), none⟩) hbB3, hc3 (k * 3 + 0) (by omega), Measure_get0 xs k hlt]
      have c1 : wr.cell? ⟨b3, off3 + k * 3 + 1, none⟩ = some (.int .i64 xs[k].part) := by rw [show off3 + k * 3 + 1 = off3 + (k * 3 + 1) from by omega, hb.cell (p := ⟨b3, off3 + (k * 3 + 1), none⟩) hbB3, hc3 (k * 3 + 1) (by omega), Measure_get1 xs k hlt]
      have c2 : wr.cell? ⟨b3, off3 + k * 3 + 2, none⟩ = some (.int .i64 xs[k].value) := by rw [show off3 + k * 3 + 2 = off3 + (k * 3 + 2) from by omega, hb.cell (p := ⟨b3, off3 + (k * 3 + 2), none⟩) hbB3, hc3 (k * 3 + 2) (by omega), Measure_get2 xs k hlt]
      have hws := hb.size
      have hbr3 : b3 < wr.heap.size := Nat.lt_of_lt_of_le hbB3 hws
      have HN := Lib.hid (Own.new wr 27 [.string xs[k].bell, .int .i64 xs[k].part, .int .i64 xs[k].value])
      have HB2 := Lib.hid (hb.alloc hws (.cells #[.string xs[k].bell, .int .i64 xs[k].part, .int .i64 xs[k].value] 27))
      have HO2 := Lib.hid (HO.out.alloc (.cells #[.string xs[k].bell, .int .i64 xs[k].part, .int .i64 xs[k].value] 27))
      have HF : Hid (∀ w', Below w.heap.size w w' → Calls Tryz.prog 40 #[.slice (some ⟨b3, off3, none⟩) xs.length vc, .agg #[.string xs[k].bell, .int .i64 xs[k].part, .int .i64 xs[k].value], .int .i64 l] w' fun e w'' => e = .returned (.bool (farB xs l xs[k])) ∧ Below w'.heap.size w' w'') := Lib.hid (fun w' hb' => impl_isOutlier w' _ xs xs[k] (List.getElem_mem hlt) l (H1.out.up hb') HVal.out)
      clear hc3 hsome1 hnil1 hb
      cases hF : farB xs l xs[k]
      all_goals rw [hF] at HF
      · have ef : Hid (witF xs l (k + 1) = witF xs l k ++ [xs[k]]) := witF_yes hlt hF
        clear hF
        go_wp2_with fail
        refine (HF.out _ (by exact HB2.out)).mono ?_; rintro e2 w2 ⟨rfl, b2⟩
        have HN2 := Lib.hid (HN.out.below b2 HN.out.lt)
        have d0 : (_ : Option Value) = some (.string xs[k].bell) := HN2.out.cell 0
        have d1 : (_ : Option Value) = some (.int .i64 xs[k].part) := HN2.out.cell 1
        have d2 : (_ : Option Value) = some (.int .i64 xs[k].value) := HN2.out.cell 2
        have hbr4 := HN2.out.lt
        have HO3 := Lib.hid (own_below HO2.out b2 (Nat.le_refl _))
        have HB3 := Lib.hid (HB2.out.trans (b2.mono HB2.out.size))
        have hws2 := HB3.out.size
        clear b2
        go_wp2_with (at_builtin; refine app_el rfl _ _ 24 27 i0 (.agg #[.string ByteArray.empty, .int .i64 0, .int .i64 0]) 3 32 Tryz.underlying24 hi hz0 hz1 hz2 (by rfl) (by decide) rfl w2 w.heap.size _ _ ((witF xs l k).flatMap Measure.put) (by rfl) HO3.out [.string xs[k].bell, .int .i64 xs[k].part, .int .i64 xs[k].value] rfl (by intro u hu; simp at hu; rcases hu with rfl | rfl | rfl <;> rfl) (by rfl) (by omega) (by decide) hws2 ?_; intro g gc w3 hown3 hB3 hz; have HB4 := Lib.hid (hB3 w HB3.out); have HO4 := Lib.hid hown3; clear hown3 hB3)
        go_roundw
        case rel => exact ⟨k + 1, by omega, by go_num, by rw [ef.out, witsnoc, List.length_append]; exact HO4.out, HB4.out⟩
        case measure => simp [intOf]; omega
      · have ef : Hid (witF xs l (k + 1) = witF xs l k) := witF_no hlt hF
        clear hF hi hz0 hz1 hz2
        go_wp2_with fail
        refine (HF.out _ (by exact HB2.out)).mono ?_; rintro e2 w2 ⟨rfl, b2⟩
        have HO3 := Lib.hid (own_below HO2.out b2 (Nat.le_refl _))
        have HB3 := Lib.hid (HB2.out.trans (b2.mono HB2.out.size))
        clear b2
        go_wp2_with fail
        go_roundw
        case rel => exact ⟨k + 1, by omega, by go_num, by rw [ef.out]; exact HO3.out, HB3.out⟩
        case measure => simp [intOf]; omega
    · have em : k = xs.length := by omega
      subst em
      have HB := Lib.hid hb; clear hb hsome1 hnil1 hi hz0 hz1 hz2
      go_wp2
      go_ret2
      exact ⟨_, by rw [H0.out]; rfl, by rw [e.out]; exact HO.out, HB.out⟩
end Go.Proofs.YtklgkbiobggbiaaGreatDoor
namespace Go.Proofs.YtklgkbiobggbiaaGreatDoor
open Go.ChangeShapes Go.WideShapes Go.ChangeAt Go.RowKit Go.Deep Go.Joins
set_option linter.unusedVariables false
set_option maxRecDepth 100000
set_option linter.unusedSimpArgs false
theorem sum_succ (zs : List Int) (k : Nat) (h : k < zs.length) : (zs.take (k + 1)).sum = (zs.take k).sum + zs[k] := by
  rw [List.take_succ_eq_append_getElem h, List.sum_append]; simp
theorem sum_bd (zs : List Int) (h : ∀ z ∈ zs, 10000 ≤ z ∧ z ≤ 20000000) : ∀ k, k ≤ zs.length → 0 ≤ (zs.take k).sum ∧ (zs.take k).sum ≤ k * 20000000
  | 0, _ => by simp
  | k + 1, hk => by
    have h1 := sum_bd zs h k (by omega)
    have h2 := h zs[k] (List.getElem_mem (by omega))
    rw [sum_succ zs k (by omega)]
    constructor <;> push_cast <;> omega
def meanI (zs : List Int) : Int := divR zs.sum zs.length

set_option maxHeartbeats 2000000 in
theorem impl_sumOf (w : World) (v : Value) (zs : List Int) (h : Rd w.heap.size w v 1 zs.length (zs.flatMap putI)) (h0 : 0 < zs.length) (hn : zs.length ≤ 64) (hz : ∀ z ∈ zs, 10000 ≤ z ∧ z ≤ 20000000) :
    Calls Tryz.prog 81 #[v] w fun e w' => e = .returned (.int .i64 zs.sum) ∧ Below w.heap.size w w' := by
  obtain ⟨hL, vo, vc, rfl, hcap1, hmax1, hnil1, hsome1⟩ := h
  have Hz := Lib.hid hz; clear hz
  go_enter Tryz.func81, Tryz.ntmps81
  go_wp2
  go_loopw [3, 8] (fun s i wr => ∃ (k : Nat), k ≤ zs.length ∧ i = .int .i64 k ∧ s = .int .i64 (zs.take k).sum ∧ Below w.heap.size w wr) (fun _ i _ => zs.length - (intOf i).toNat)
  case atStart => exact ⟨0, Nat.zero_le _, rfl, rfl, Below.refl _ _⟩
  case round =>
    obtain ⟨k, hk, rfl, rfl, hb⟩ := hrel
    by_cases hlt : k < zs.length
    · obtain ⟨b, off, rfl, hbB, hc⟩ := hsome1 (by omega)
      have c1 : wr.cell? ⟨b, off + k, none⟩ = some (.int .i64 zs[k]) := by rw [hb.cell (p := ⟨b, off + k, none⟩) hbB, hc k (by omega), putI_get zs k hlt]
      have hs := Lib.hid (sum_succ zs k hlt)
      have hbd := sum_bd zs Hz.out k (by omega)
      have hzk := Hz.out zs[k] (List.getElem_mem hlt)
      have HB := Lib.hid hb
      clear hc hsome1 hnil1 hb
      generalize (zs.take k).sum = S at *
      go_wp2_with fail
      go_roundw
      case rel => exact ⟨k + 1, by omega, by go_num, by rw [hs.out], HB.out⟩
      case measure => simp [intOf]; omega
    · have em : Hid (zs.take k = zs) := (List.take_of_length_le (by omega) : zs.take k = zs)
      have HB := Lib.hid hb; clear hb hsome1 hnil1
      rw [em.out]
      go_wp2_with fail
      go_ret
      exact ⟨rfl, HB.out⟩
theorem impl_size_i64 (w : World) (ao : Option Addr) (n cap : Nat) (hn : n ≤ 1048576) : Calls Tryz.prog 82 #[.slice ao n cap] w fun e w' => e = .returned (.int .i64 n) ∧ w = w' := by
  go_enter Tryz.func82, Tryz.ntmps82
  go_wp2
  go_ret
  exact ⟨rfl, rfl⟩
set_option maxHeartbeats 2000000 in
theorem impl_mean (w : World) (v : Value) (zs : List Int) (h : Rd w.heap.size w v 1 zs.length (zs.flatMap putI)) (h0 : 0 < zs.length) (hn : zs.length ≤ 64) (hz : ∀ z ∈ zs, 10000 ≤ z ∧ z ≤ 20000000) :
    Calls Tryz.prog 36 #[v] w fun e w' => e = .returned (.int .i64 (meanI zs)) ∧ Below w.heap.size w w' := by
  have H := Lib.hid (impl_sumOf w v zs h h0 hn hz)
  obtain ⟨vo, vc, rfl⟩ := h.form
  have hbd := sum_bd zs hz zs.length (Nat.le_refl _)
  rw [List.take_length] at hbd
  have e : Hid (meanI zs = divR zs.sum zs.length) := (rfl : meanI zs = divR zs.sum zs.length)
  clear h hz
  generalize zs.sum = S at *
  go_enter Tryz.func36, Tryz.ntmps36
  go_wp2_with fail
  refine H.out.mono ?_; rintro e1 w1 ⟨rfl, b1⟩
  go_wp2_with (first | (go_at_call 82; refine (impl_size_i64 _ _ _ _ (by omega)).mono ?_; rintro e1 w1 ⟨rfl, rfl⟩) | (go_at_call 80; refine (impl_nearest _ _ _ (by omega) (by omega) (by omega) (by omega)).mono ?_; rintro e w' ⟨rfl, n, rfl⟩))
  go_ret
  exact ⟨by rw [e.out]; try rfl, below_dn b1 _⟩

def medS (xs : List Measure) (bell : ByteArray) (p : Int) : Int := if askM xs bell p = 0 then medI (sortI (valF xs bell p)) else 0
def meanS (xs : List Measure) (bell : ByteArray) (p : Int) : Int := if askM xs bell p = 0 then meanI (sortI (valF xs bell p)) else 0

set_option maxHeartbeats 2000000 in
theorem impl_MedianOf (w : World) (v : Value) (xs : List Measure) (bell : ByteArray) (p : Int) (h : Rd w.heap.size w v 3 xs.length (xs.flatMap Measure.put)) (hn : xs.length ≤ 1048576) (hok : ∀ x ∈ xs, x.ok) :
    Calls Tryz.prog 10 #[v, .string bell, .int .i64 p] w fun e w' => e = .returned (.tuple #[.int .i64 (medS xs bell p), .int .i64 (askM xs bell p)]) ∧ Below w.heap.size w w' := by
  have H := Lib.hid (impl_ValuesOf w v xs bell p h hn hok)
  by_cases h0 : askM xs bell p = 0
  · have ho := askM_ok h0
    have hv := valF_all ho.1 bell p
    have hl1 := hv.1
    have hl0 := ho.2.2
    have Hv := Lib.hid (fun z (hz : z ∈ sortI (valF xs bell p)) => hv.2 z ((sortI_perm _).mem_iff.1 hz))
    have e : Hid (medS xs bell p = medI (sortI (valF xs bell p))) := (if_pos h0 : medS xs bell p = medI (sortI (valF xs bell p)))
    have ev := valsS_yes h0
    have H0 := Lib.hid h0
    rw [ev, h0] at H
    clear h hok h0 ho hv ev
    go_enter Tryz.func10, Tryz.ntmps10
    go_wp2_with fail
    refine H.out.mono ?_; rintro e2 w2 ⟨r, rfl, hown, b2⟩
    have hrd := own_rd hown
    have B := Lib.hid b2
    have HRD := Lib.hid hrd
    clear hown b2 hrd
    go_wp2_with fail
    refine (impl_median _ _ _ HRD.out (by rw [sortI_len]; exact hl0) (by rw [sortI_len]; omega)).mono ?_; rintro e3 w3 ⟨rfl, b3⟩
    have B3 := Lib.hid (bnext B.out b3)
    clear b3 HRD
    go_wp2_with fail
    go_ret2
    exact ⟨by rw [H0.out, e.out]; try rfl, B3.out⟩
  · have e : Hid (medS xs bell p = 0) := (if_neg h0 : medS xs bell p = 0)
    have t0 : (askM xs bell p != 0) = true := bne_iff_ne.2 h0
    clear h hok h0
    go_enter Tryz.func10, Tryz.ntmps10
    go_wp2_with fail
    refine H.out.mono ?_; rintro e1 w1 ⟨r, rfl, _, b1⟩
    go_wp2_with fail
    go_ret2
    exact ⟨by rw [e.out]; try rfl, b1⟩

set_option maxHeartbeats 2000000 in
theorem impl_MeanOf (w : World) (v : Value) (xs : List Measure) (bell : ByteArray) (p : Int) (h : Rd w.heap.size w v 3 xs.length (xs.flatMap Measure.put)) (hn : xs.length ≤ 1048576) (hok : ∀ x ∈ xs, x.ok) :
    Calls Tryz.prog 9 #[v, .string bell, .int .i64 p] w fun e w' => e = .returned (.tuple #[.int .i64 (meanS xs bell p), .int .i64 (askM xs bell p)]) ∧ Below w.heap.size w w' := by
  have H := Lib.hid (impl_ValuesOf w v xs bell p h hn hok)
  by_cases h0 : askM xs bell p = 0
  · have ho := askM_ok h0
    have hv := valF_all ho.1 bell p
    have hl1 := hv.1
    have hl0 := ho.2.2
    have Hv := Lib.hid (fun z (hz : z ∈ sortI (valF xs bell p)) => hv.2 z ((sortI_perm _).mem_iff.1 hz))
    have e : Hid (meanS xs bell p = meanI (sortI (valF xs bell p))) := (if_pos h0 : meanS xs bell p = meanI (sortI (valF xs bell p)))
    have ev := valsS_yes h0
    have H0 := Lib.hid h0
    rw [ev, h0] at H
    clear h hok h0 ho hv ev
    go_enter Tryz.func9, Tryz.ntmps9
    go_wp2_with fail
    refine H.out.mono ?_; rintro e2 w2 ⟨r, rfl, hown, b2⟩
    have hrd := own_rd hown
    have B := Lib.hid b2
    have HRD := Lib.hid hrd
    clear hown b2 hrd
    go_wp2_with fail
    refine (impl_mean _ _ _ HRD.out (by rw [sortI_len]; exact hl0) (by rw [sortI_len]; omega) Hv.out).mono ?_; rintro e3 w3 ⟨rfl, b3⟩
    have B3 := Lib.hid (bnext B.out b3)
    clear b3 HRD
    go_wp2_with fail
    go_ret2
    exact ⟨by rw [H0.out, e.out]; try rfl, B3.out⟩
  · have e : Hid (meanS xs bell p = 0) := (if_neg h0 : meanS xs bell p = 0)
    have t0 : (askM xs bell p != 0) = true := bne_iff_ne.2 h0
    clear h hok h0
    go_enter Tryz.func9, Tryz.ntmps9
    go_wp2_with fail
    refine H.out.mono ?_; rintro e1 w1 ⟨r, rfl, _, b1⟩
    go_wp2_with fail
    go_ret2
    exact ⟨by rw [e.out]; try rfl, b1⟩
end Go.Proofs.YtklgkbiobggbiaaGreatDoor
namespace Go.Proofs.YtklgkbiobggbiaaGreatDoor
open Go.ChangeShapes Go.WideShapes Go.ChangeAt Go.RowKit Go.Deep Go.Joins
set_option linter.unusedVariables false
set_option maxRecDepth 100000
set_option linter.unusedSimpArgs false
/-- a number in decimal -/
def decT (n : Int) : ByteArray := ⟨(Lib.itoa n).toArray⟩
def u8v (b : UInt8) : Value := .int .u8 (b.toNat : Int)
theorem u8_one (l : List UInt8) : ∀ u ∈ l.map u8v, u.oneCell' = true := by
  intro u hu
  obtain ⟨x, _, rfl⟩ := List.mem_map.1 hu
  rfl
/-- the digits of u; none for 0 -/
def decD (u : Nat) : List UInt8 := if u = 0 then [] else Lib.decDigits u
theorem decD_step {u : Nat} (h : 0 < u) : decD u = decD (u / 10) ++ [UInt8.ofNat (48 + u % 10)] := by
  unfold decD
  rw [if_neg (by omega), Lib.decDigits]
  by_cases h1 : u < 10
  · rw [dif_pos h1, if_pos (by omega), Nat.mod_eq_of_lt h1]; rfl
  · rw [dif_neg h1, if_neg (by omega)]
theorem decD_len (u : Nat) (h : u ≤ 9223372036854775808) : (decD u).length ≤ 20 := by
  unfold decD
  split
  · simp
  · rw [Lib.decDigits_length]
    rcases Nat.lt_or_ge 20 (Lib.nDigits u) with h1 | h1
    · exfalso
      have h2 : ∀ k u, Lib.nDigits u = k + 1 → 1 ≤ u → 10 ^ k ≤ u := fun k => by
        induction k with
        | zero => intro u _ h; omega
        | succ k ih =>
          intro u he hu
          by_cases h10 : u < 10
          · rw [Lib.nDigits_small h10] at he; omega
          · rw [Lib.nDigits_big h10] at he
            have := ih (u / 10) (by omega) (by omega)
            rw [Nat.pow_succ]; omega
      have h3 := h2 (Lib.nDigits u - 1) u (by omega) (by omega)
      have h4 : 10 ^ 20 ≤ 10 ^ (Lib.nDigits u - 1) := Nat.pow_le_pow_right (by omega) (by omega)
      omega
    · exact h1
theorem info_u8 : (Tryz.prog.info? 5).map (fun i => (i.zero, i.size, i.bytes)) = some (some (.int .u8 0), 1, 1) := by kernel_rfl
theorem u8_snoc (xs : List UInt8) (a : UInt8) : (xs ++ [a]).map u8v = xs.map u8v ++ [u8v a] := by simp
theorem digit_u8 (u : Nat) : u8v (UInt8.ofNat (48 + u % 10)) = .int .u8 (48 + (u : Int) % 10) := by
  unfold u8v
  have : (UInt8.ofNat (48 + u % 10)).toNat = 48 + u % 10 := by rw [UInt8.toNat_ofNat']; omega
  rw [this]; rfl
/-- 'string(b)' of bytes of one's own -/
theorem conv_own {w : World} {base : Nat} {v : Value} {l : List UInt8} (h : w.ownsRow base 5 1 v l.length (l.map u8v)) : (convert 22 9 v).run Tryz.prog w = .ok (.string ⟨l.toArray⟩) w := by
  rcases own_form h with ⟨rfl, h0⟩ | ⟨g, cap, rfl⟩
  · have : l = [] := List.eq_nil_of_length_eq_zero h0
    subst this
    have := run_convert_bytes_string (P := Tryz.prog) w 22 9 5 none 0 0 Tryz.underlying22 Tryz.underlying5 Tryz.underlying9
    rw [this]
    simp [Conv.bytesToString]
    rfl
  · refine run_convert_bytes_back (P := Tryz.prog) w 22 9 5 ⟨g, 0, none⟩ cap l Tryz.underlying22 Tryz.underlying5 Tryz.underlying9 (fun j hj => ?_)
    obtain ⟨hL, ao', cap', e, hcap, hmax, hnil, hsome⟩ := own_rd h
    obtain ⟨b, off, e1, hb, hc⟩ := hsome (by omega)
    injection e with q1 q2 q3
    subst q1
    injection e1 with e2
    injection e2 with e3 e4 e5
    subst e3; subst e4
    have hadd : (⟨g, 0, none⟩ : Addr).add j = ⟨g, 0 + j, none⟩ := by unfold Addr.add; split <;> simp_all
    rw [hadd, hc j (by omega)]
    simp [List.getElem?_eq_getElem hj, u8v]
def Tryz.fmtInt_ren : Go.Shelf.Ren := ⟨fun | 173 => 120 | 246 => 160 | 283 => 202 | 284 => 203 | 285 => 204 | 286 => 205 | 129 => 137 | 317 => 225 | 318 => 226 | 319 => 227 | 320 => 228 | 337 => 234 | 338 => 235 | n => n, fun | 2 => 2 | 3 => 3 | 9 => 9 | 4 => 4 | 171 => 206 | 0 => 0 | 53 => 96 | 37 => 22 | 5 => 5 | 173 => 208 | 212 => 226 | 51 => 159 | 20 => 20 | 213 => 227 | 46 => 106 | 232 => 242 | 233 => 243 | n => n, fun | 17 => 3 | 18 => 6 | 19 => 7 | n => n⟩
theorem Tryz.fmtInt : Go.Proofs.LaysM.n173 Tryz.prog Tryz.fmtInt_ren := {
  mixed := by kernel_rfl
  f129 := Tryz.func137.trans (congrArg some (by kernel_rfl))
  f173 := Tryz.func120.trans (congrArg some (by kernel_rfl))
  f246 := Tryz.func160.trans (congrArg some (by kernel_rfl))
  f283 := Tryz.func202.trans (congrArg some (by kernel_rfl))
  f284 := Tryz.func203.trans (congrArg some (by kernel_rfl))
  f285 := Tryz.func204.trans (congrArg some (by kernel_rfl))
  f286 := Tryz.func205.trans (congrArg some (by kernel_rfl))
  f317 := Tryz.func225.trans (congrArg some (by kernel_rfl))
  f318 := Tryz.func226.trans (congrArg some (by kernel_rfl))
  f319 := Tryz.func227.trans (congrArg some (by kernel_rfl))
  f320 := Tryz.func228.trans (congrArg some (by kernel_rfl))
  f337 := Tryz.func234.trans (congrArg some (by kernel_rfl))
  f338 := Tryz.func235.trans (congrArg some (by kernel_rfl))
  t0 := Tryz.underlying0
  a0 := Tryz.isAgg0
  z0 := Tryz.sizeOf0
  v0 := Tryz.zeroValue0
  t2 := Tryz.underlying2
  a2 := Tryz.isAgg2
  z2 := Tryz.sizeOf2
  v2 := Tryz.zeroValue2
  t3 := Tryz.underlying3
  a3 := Tryz.isAgg3
  z3 := Tryz.sizeOf3
  v3 := Tryz.zeroValue3
  t4 := Tryz.underlying4
  a4 := Tryz.isAgg4
  z4 := Tryz.sizeOf4
  v4 := Tryz.zeroValue4
  t5 := Tryz.underlying5
  a5 := Tryz.isAgg5
  z5 := Tryz.sizeOf5
  v5 := Tryz.zeroValue5
  t9 := Tryz.underlying9
  a9 := Tryz.isAgg9
  z9 := Tryz.sizeOf9
  v9 := Tryz.zeroValue9
  t20 := Tryz.underlying20
  a20 := Tryz.isAgg20
  z20 := Tryz.sizeOf20
  v20 := Tryz.zeroValue20
  t37 := Tryz.underlying22
  a37 := Tryz.isAgg22
  z37 := Tryz.sizeOf22
  v37 := Tryz.zeroValue22
  t46 := Tryz.underlying106
  a46 := Tryz.isAgg106
  z46 := Tryz.sizeOf106
  v46 := Tryz.zeroValue106
  t51 := Tryz.underlying159
  a51 := Tryz.isAgg159
  z51 := Tryz.sizeOf159
  v51 := Tryz.zeroValue159
  t53 := Tryz.underlying96
  a53 := Tryz.isAgg96
  z53 := Tryz.sizeOf96
  v53 := Tryz.zeroValue96
  t171 := Tryz.underlying206
  a171 := Tryz.isAgg206
  z171 := Tryz.sizeOf206
  v171 := Tryz.zeroValue206
  t173 := Tryz.underlying208
  a173 := Tryz.isAgg208
  z173 := Tryz.sizeOf208
  v173 := Tryz.zeroValue208
  t212 := Tryz.underlying226
  a212 := Tryz.isAgg226
  z212 := Tryz.sizeOf226
  v212 := Tryz.zeroValue226
  t213 := Tryz.underlying227
  a213 := Tryz.isAgg227
  z213 := Tryz.sizeOf227
  t232 := Tryz.underlying242
  a232 := Tryz.isAgg242
  z232 := Tryz.sizeOf242
  v232 := Tryz.zeroValue242
  t233 := Tryz.underlying243
  a233 := Tryz.isAgg243
  z233 := Tryz.sizeOf243
  v233 := Tryz.zeroValue243
  g17 := by kernel_rfl
  g18 := by kernel_rfl
  g19 := by kernel_rfl
  i0 := by kernel_rfl
  i2 := by kernel_rfl
  i3 := by kernel_rfl
  i4 := by kernel_rfl
  i5 := by kernel_rfl
  i9 := by kernel_rfl
  i20 := by kernel_rfl
  i37 := by kernel_rfl
  i46 := by kernel_rfl
  i51 := by kernel_rfl
  i53 := by kernel_rfl
  i171 := by kernel_rfl
  i173 := by kernel_rfl
  i212 := by kernel_rfl
  i232 := by kernel_rfl
  i233 := by kernel_rfl
  m17 := by kernel_rfl
  m18 := by kernel_rfl
  m19 := by kernel_rfl }
def Pow10 (w : World) : Prop := Lib.TabIs Tryz.prog w "internal/strconv.uint64pow10" .u64 Lib.pow10Tab
theorem Pow10.below {w w' : World} (h : Pow10 w) (b : Below w.heap.size w w') : Pow10 w' := Lib.tabBelow_of_tabIs h w' b
theorem below_grow (w : World) (k : Nat) (os : Array Obj) : Below w.heap.size w (Go.Sort.grow (w.drewN k) os) :=
  ⟨rfl, rfl, rfl, by simp [Go.Sort.grow], fun i hi => by
    show ((w.drewN k).heap ++ os)[i]? = _
    rw [Array.getElem?_append_left (by show i < w.heap.size; omega)]; rfl⟩
theorem impl_Decimal (n : Int) (w : World) (h0 : -9223372036854775808 ≤ n) (h1 : n ≤ 9223372036854775807) (hp : Pow10 w) :
    Calls Tryz.prog 68 #[.int .i64 n] w fun e w' => e = .returned (.string (decT n)) ∧ Below w.heap.size w w' := by
  go_enter Tryz.func68, Tryz.ntmps68
  go_wp2_with (go_at_call 120; refine (Any.strconv_FormatInt_10 Tryz.fmtInt n h0 h1 w hp).mono ?_; rintro e w' ⟨rfl, k, os, rfl⟩)
  go_ret
  exact ⟨rfl, below_grow _ _ _⟩
end Go.Proofs.YtklgkbiobggbiaaGreatDoor
namespace Go.Proofs.YtklgkbiobggbiaaGreatDoor
open Go.ChangeShapes Go.WideShapes Go.ChangeAt Go.RowKit Go.Deep Go.Joins
set_option linter.unusedVariables false
set_option maxRecDepth 100000
set_option linter.unusedSimpArgs false
/-- where the digits begin -/
def atN (s : ByteArray) : Nat := if s.data.toList.head? = some 45 then 1 else 0
def badN (s : ByteArray) : Prop := s.size ≤ atN s ∨ 18 < s.size - atN s ∨ ((s.data.toList.drop (atN s)).head? = some 48 ∧ 1 < s.size)
instance (s : ByteArray) : Decidable (badN s) := by unfold badN; infer_instance
/-- the number with a decimal text -/
def numS (s : ByteArray) : Option Int := if badN s then none else (Lib.decFrom 0 (s.data.toList.drop (atN s))).map fun u => if atN s = 1 then -(u : Int) else (u : Int)
def numV (s : ByteArray) : Int := (numS s).getD 0
theorem num_none {s : ByteArray} (h : numS s = none) : numV s = 0 ∧ (numS s).isSome = false := by unfold numV; rw [h]; exact ⟨rfl, rfl⟩
theorem num_some {s : ByteArray} {v : Int} (h : numS s = some v) : numV s = v ∧ (numS s).isSome = true := by unfold numV; rw [h]; exact ⟨rfl, rfl⟩
theorem numS_bad {s : ByteArray} (h : badN s) : numS s = none := if_pos h
theorem numS_ok {s : ByteArray} {u : Nat} (h : ¬ badN s) (hu : Lib.decFrom 0 (s.data.toList.drop (atN s)) = some u) : numS s = some (if atN s = 1 then -(u : Int) else (u : Int)) := by
  unfold numS
  rw [if_neg h, hu]; rfl
theorem numS_digit {s : ByteArray} {k : Nat} {c : UInt8} (h : (s.data.toList.drop (atN s))[k]? = some c) (hc : inB c.toNat 48 57 = false) : numS s = none := by
  by_cases hb : badN s
  · exact numS_bad hb
  · unfold numS
    rw [if_neg hb]
    cases hd : Lib.decFrom 0 (s.data.toList.drop (atN s)) with
    | none => rfl
    | some n =>
      obtain ⟨d, hd2⟩ := Lib.digit_of_decFrom _ _ _ hd k c h
      have := Lib.digitVal_eq hd2
      rw [inB_mk ⟨by omega, by omega⟩] at hc
      cases hc
theorem digitVal_of {c : UInt8} (h : inB c.toNat 48 57 = true) : Lib.digitVal c = some (c.toNat - 48) := by
  have := inB_true h
  unfold Lib.digitVal
  rw [if_pos ⟨by omega, by omega⟩]
theorem decFrom_snoc : ∀ (l : List UInt8) (acc : Nat) (b : UInt8), Lib.decFrom acc (l ++ [b]) = (Lib.decFrom acc l).bind fun m => (Lib.digitVal b).map fun d => m * 10 + d
  | [], acc, b => by
    simp only [List.nil_append, Lib.decFrom]
    cases Lib.digitVal b <;> rfl
  | a :: l, acc, b => by
    simp only [List.cons_append, Lib.decFrom]
    cases Lib.digitVal a with
    | none => rfl
    | some d => exact decFrom_snoc l _ b
theorem digit_byte {b : UInt8} {d : Nat} (h : Lib.digitVal b = some d) : UInt8.ofNat (48 + d) = b ∧ d < 10 := by
  obtain ⟨h1, h2, rfl⟩ := Lib.digitVal_eq h
  refine ⟨?_, by omega⟩
  rw [show 48 + (b.toNat - 48) = b.toNat from by omega]
  exact UInt8.ofNat_toNat
/-- rows of digits without a leading 0 -/
theorem canon : ∀ (n : Nat) (r : List UInt8), r.length = n + 1 → ∀ u, Lib.decFrom 0 r = some u → r.head? ≠ some 48 → Lib.decDigits u = r ∧ 0 < u
  | 0, r, hl, u, hu, hh => by
    match r, hl with
    | [b], _ =>
      simp only [Lib.decFrom] at hu
      cases hd : Lib.digitVal b with
      | none => rw [hd] at hu; cases hu
      | some d =>
        rw [hd] at hu
        obtain ⟨e, h10⟩ := digit_byte hd
        obtain rfl : u = d := by simpa using hu.symm
        refine ⟨by rw [Lib.decDigits, dif_pos h10, e], ?_⟩
        rcases Nat.eq_zero_or_pos u with q | q
        · subst q; exact absurd (by rw [← e]; rfl) hh
        · exact q
  | n + 1, r, hl, u, hu, hh => by
    have hne : r ≠ [] := fun q => by rw [q] at hl; simp at hl
    obtain ⟨r', b, rfl⟩ : ∃ r' b, r = r' ++ [b] := ⟨r.dropLast, r.getLast hne, (List.dropLast_concat_getLast hne).symm⟩
    have hl' : r'.length = n + 1 := by simpa using hl
    rw [decFrom_snoc] at hu
    cases hm : Lib.decFrom 0 r' with
    | none => rw [hm] at hu; cases hu
    | some m =>
      rw [hm] at hu
      cases hd : Lib.digitVal b with
      | none => rw [hd] at hu; cases hu
      | some d =>
        rw [hd] at hu
        obtain ⟨e, h10⟩ := digit_byte hd
        have hu2 : m * 10 + d = u := by simpa using hu
        have hh' : r'.head? ≠ some 48 := fun q => hh (by
          match r', hl' with
          | c :: r'', _ => exact q)
        obtain ⟨h1, h2⟩ := canon n r' hl' m hm hh'
        refine ⟨?_, by omega⟩
        rw [Lib.decDigits, dif_neg (by omega), show u / 10 = m from by omega, show u % 10 = d from by omega, h1, e]
theorem decDigits_head : ∀ (u : Nat), 0 < u → (Lib.decDigits u).head? ≠ some 48 := by
  intro u
  induction u using Nat.strongRecOn with
  | _ u ih =>
    intro hu
    by_cases h : u < 10
    · rw [Lib.decDigits, dif_pos h]
      intro q
      have q2 : UInt8.ofNat (48 + u) = 48 := by simpa using q
      have := congrArg UInt8.toNat q2
      rw [UInt8.toNat_ofNat_of_lt' (by show 48 + u < 256; omega)] at this
      have e : (48 : UInt8).toNat = 48 := rfl
      omega
    · rw [Lib.decDigits, dif_neg h]
      have := ih (u / 10) (by omega) (by omega)
      intro q
      refine this ?_
      match hd : Lib.decDigits (u / 10) with
      | [] =>
        have hl := Lib.decDigits_length (u / 10)
        have hp := Lib.nDigits_pos (u / 10)
        rw [hd] at hl
        simp at hl
        omega
      | c :: r => rw [hd] at q; exact q
/-- the text of the number with a row of digits is that row, unless a 0 leads it -/
theorem canon_iff {r : List UInt8} {u : Nat} (h0 : r ≠ []) (hu : Lib.decFrom 0 r = some u) : Lib.decDigits u = r ↔ ¬ (r.head? = some 48 ∧ 1 < r.length) := by
  have hl : r.length ≠ 0 := fun q => h0 (List.eq_nil_of_length_eq_zero q)
  constructor
  · rintro e ⟨h1, h2⟩
    by_cases hz : u = 0
    · subst hz
      have e0 : Lib.decDigits 0 = [48] := by rw [Lib.decDigits, dif_pos (by decide)]; rfl
      rw [e0] at e
      rw [← e] at h2
      simp at h2
    · exact decDigits_head u (by omega) (by rw [e]; exact h1)
  · intro hn
    by_cases h1 : r.head? = some 48
    · have hl1 : r.length = 1 := by
        have : ¬ 1 < r.length := fun q => hn ⟨h1, q⟩
        omega
      match r, hl1 with
      | [b], _ =>
        obtain rfl : b = 48 := by simpa using h1
        have : Lib.decFrom 0 [48] = some 0 := rfl
        rw [this] at hu
        obtain rfl : u = 0 := by simpa using hu.symm
        rw [Lib.decDigits, dif_pos (by decide)]; rfl
    · exact (canon (r.length - 1) r (by omega) u hu h1).1
theorem parseM_small : ∀ (l : List UInt8) (acc : Nat), (acc + 1) * 10 ^ l.length ≤ 1000000000000000000 → Lib.parseUintM (2 ^ 64 - 1) acc l = match Lib.decFrom acc l with | some u => .ok u | none => Lib.NumEnd.syntax
  | [], acc, _ => rfl
  | c :: r, acc, h => by
    simp only [Lib.parseUintM, Lib.decFrom, Lib.digitVal]
    have hp : 1 ≤ 10 ^ r.length := Nat.one_le_pow _ _ (by decide)
    have h2 : (acc + 1) * (10 ^ r.length * 10) ≤ 1000000000000000000 := by simpa [Nat.pow_succ] using h
    have h3 : (acc + 1) * 10 ≤ 1000000000000000000 := by
      refine Nat.le_trans ?_ h2
      rw [Nat.mul_comm (10 ^ r.length) 10, ← Nat.mul_assoc]
      exact Nat.le_mul_of_pos_right _ hp
    by_cases hd : 48 ≤ c.toNat ∧ c.toNat ≤ 57
    · rw [if_pos hd, if_pos hd, if_neg (by omega), if_neg (by omega)]
      refine parseM_small r _ ?_
      have h4 : acc * 10 + (c.toNat - 48) + 1 ≤ (acc + 1) * 10 := by omega
      refine Nat.le_trans (Nat.mul_le_mul_right _ h4) ?_
      rw [Nat.mul_assoc, Nat.mul_comm 10]; exact h2
    · rw [if_neg hd, if_neg hd]
theorem parseB_small {r : List UInt8} (h1 : r ≠ []) (h2 : r.length ≤ 18) : Lib.parseUintB 64 r = match Lib.decFrom 0 r with | some u => .ok u | none => Lib.NumEnd.syntax := by
  unfold Lib.parseUintB
  rw [if_neg h1]
  exact parseM_small r 0 (by rw [Nat.zero_add, Nat.one_mul]; exact Nat.pow_le_pow_right (by decide) h2)
theorem decDigits_hd : ∀ (u : Nat), ∃ c, (Lib.decDigits u).head? = some c ∧ 48 ≤ c.toNat ∧ c.toNat ≤ 57 := by
  intro u
  induction u using Nat.strongRecOn with
  | _ u ih =>
    by_cases h : u < 10
    · rw [Lib.decDigits, dif_pos h]
      refine ⟨UInt8.ofNat (48 + u), rfl, ?_⟩
      rw [UInt8.toNat_ofNat_of_lt' (by show 48 + u < 256; omega)]
      omega
    · rw [Lib.decDigits, dif_neg h]
      obtain ⟨c, h1, h2⟩ := ih (u / 10) (by omega)
      refine ⟨c, ?_, h2⟩
      match hd : Lib.decDigits (u / 10) with
      | [] => rw [hd] at h1; cases h1
      | a :: r => rw [hd] at h1; exact h1
theorem itoa_hd (v : Int) : (Lib.itoa v).head? ≠ some 43 := by
  unfold Lib.itoa
  split
  · intro q; cases q
  · intro q
    obtain ⟨c, h1, h2, h3⟩ := decDigits_hd v.toNat
    rw [h1] at q
    obtain rfl : c = 43 := by simpa using q
    have e : (43 : UInt8).toNat = 43 := rfl
    omega
theorem decT_is {v : Int} {s : ByteArray} : decT v = s ↔ Lib.itoa v = s.data.toList := by
  unfold decT
  constructor
  · rintro rfl; simp
  · intro h
    cases s with
    | mk d =>
      have : (Lib.itoa v).toArray = d := by rw [h]
      rw [this]
theorem itoa_nonneg' (u : Nat) : Lib.itoa (u : Int) = Lib.decDigits u := by
  unfold Lib.itoa
  rw [if_neg (by omega)]; rfl
theorem itoa_neg' {u : Nat} (h : 0 < u) : Lib.itoa (-(u : Int)) = 45 :: Lib.decDigits u := by
  unfold Lib.itoa
  rw [if_pos (by omega), show (-(u : Int)).natAbs = u from by omega]
/-- what the library's number and its text back say of a text -/
theorem parse_num {s : ByteArray} (h1 : 1 ≤ s.size - atN s) (h2 : s.size - atN s ≤ 18) :
    (∃ v, Lib.parseIntB 64 s.data.toList = .ok v ∧ (-1000000000000000000 < v ∧ v < 1000000000000000000) ∧ ((decT v = s ∧ numS s = some v) ∨ (decT v ≠ s ∧ numS s = none))) ∨ (Lib.parseIntB 64 s.data.toList = Lib.NumEnd.syntax ∧ numS s = none) := by
  have hsz : s.data.toList.length = s.size := by simp
  match hl : s.data.toList with
  | [] => rw [hl] at hsz; simp at hsz; try omega
  | c :: r0 =>
    have hlen : r0.length + 1 = s.size := by rw [hl] at hsz; simpa using hsz
    by_cases hc : c = 45
    · subst hc
      have ha : atN s = 1 := by unfold atN; rw [hl]; rfl
      have hd : s.data.toList.drop (atN s) = r0 := by rw [ha, hl]; rfl
      have hr0 : r0 ≠ [] := fun q => by rw [q] at hlen; simp at hlen; try omega
      have hp := parseB_small hr0 (by omega)
      have e45 : (45 : UInt8).toNat = 45 := rfl
      cases hu : Lib.decFrom 0 r0 with
      | none =>
        rw [hu] at hp
        refine .inr ⟨by simp only [Lib.parseIntB, e45, or_true, if_true, hp], ?_⟩
        unfold numS
        rw [hd, hu]; split <;> rfl
      | some u =>
        rw [hu] at hp
        have hlt := Lib.decFrom_lt18 hu (by omega)
        refine .inl ⟨-(u : Int), ?_, by omega, ?_⟩
        · simp only [Lib.parseIntB, e45, or_true, if_true, hp]
          rw [if_neg (by simp), if_neg (by simp; omega)]
        · by_cases hz : u = 0
          · subst hz
            have hh : r0.head? = some 48 := by
              by_cases q : r0.head? = some 48
              · exact q
              · exact absurd (canon (r0.length - 1) r0 (by omega) 0 hu q).2 (by omega)
            refine .inr ⟨fun q => ?_, numS_bad (.inr (.inr ⟨by rw [hd]; exact hh, by omega⟩))⟩
            have := decT_is.1 q
            rw [hl] at this
            have e0 : Lib.itoa (-((0 : Nat) : Int)) = [48] := by rw [show -((0 : Nat) : Int) = ((0 : Nat) : Int) from rfl, itoa_nonneg', Lib.decDigits, dif_pos (by decide)]; rfl
            rw [e0] at this
            cases this
          · have hi := canon_iff hr0 hu
            by_cases hh : r0.head? = some 48
            · have h1r : 1 < r0.length := by
                by_cases q : 1 < r0.length
                · exact q
                · match r0, hh, hr0 with
                  | [b], hh, _ =>
                    obtain rfl : b = 48 := by simpa using hh
                    have : Lib.decFrom 0 [48] = some 0 := rfl
                    rw [this] at hu
                    exact absurd (by simpa using hu.symm) hz
                  | b :: b2 :: r', _, _ => exact absurd (by simp) q
              refine .inr ⟨fun q => ?_, numS_bad (.inr (.inr ⟨by rw [hd]; exact hh, by omega⟩))⟩
              have := decT_is.1 q
              rw [hl, itoa_neg' (by omega)] at this
              exact (hi.1 (by simpa using this)) ⟨hh, h1r⟩
            · refine .inl ⟨decT_is.2 ?_, ?_⟩
              · rw [hl, itoa_neg' (by omega), hi.2 (fun q => hh q.1)]
              · have := numS_ok (s := s) (u := u) (fun q => by
                  rcases q with q | q | q
                  · omega
                  · omega
                  · rw [hd] at q; exact hh q.1) (by rw [hd]; exact hu)
                rw [this, if_pos ha]
    · have ha : atN s = 0 := by
        unfold atN
        rw [hl, if_neg]
        intro q
        exact hc (by simpa using q)
      have hd : s.data.toList.drop (atN s) = c :: r0 := by rw [ha, hl]; rfl
      have h45 : ¬ c.toNat = 45 := fun q => hc (UInt8.toNat_inj.1 q)
      by_cases hp43 : c = 43
      · subst hp43
        have e43 : (43 : UInt8).toNat = 43 := rfl
        have hn : numS s = none := numS_digit (k := 0) (c := 43) (by rw [hd]; rfl) (by rw [e43]; rfl)
        cases hr : r0 with
        | nil =>
          refine .inr ⟨?_, hn⟩
          simp only [Lib.parseIntB, e43, true_or, if_true]
          rfl
        | cons c2 r2 =>
          have hr0 : r0 ≠ [] := by rw [hr]; exact List.cons_ne_nil _ _
          have hp := parseB_small hr0 (by omega)
          rw [hr] at hp
          cases hu : Lib.decFrom 0 (c2 :: r2) with
          | none =>
            rw [hu] at hp
            exact .inr ⟨by simp only [Lib.parseIntB, e43, true_or, if_true, hp], hn⟩
          | some u =>
            rw [hu] at hp
            have hlt := Lib.decFrom_lt18 hu (by rw [hr] at hlen; omega)
            refine .inl ⟨(u : Int), ?_, by omega, .inr ⟨fun q => ?_, hn⟩⟩
            · simp only [Lib.parseIntB, e43, true_or, if_true, hp]
              rw [if_neg (by simp; omega), if_neg (by simp), if_neg (by simp)]
            · have := decT_is.1 q
              rw [hl] at this
              exact itoa_hd u (by rw [this]; rfl)
      · have h43 : ¬ c.toNat = 43 := fun q => hp43 (UInt8.toNat_inj.1 q)
        have hp := parseB_small (List.cons_ne_nil c r0) (by simp; omega)
        have hno : ¬ (c.toNat = 43 ∨ c.toNat = 45) := fun q => q.elim h43 h45
        cases hu : Lib.decFrom 0 (c :: r0) with
        | none =>
          rw [hu] at hp
          refine .inr ⟨by simp only [Lib.parseIntB]; rw [if_neg hno, hp], ?_⟩
          unfold numS
          rw [hd, hu]; split <;> rfl
        | some u =>
          rw [hu] at hp
          have hlt := Lib.decFrom_lt18 hu (by simp; omega)
          have hi := canon_iff (List.cons_ne_nil c r0) hu
          refine .inl ⟨(u : Int), ?_, by omega, ?_⟩
          · simp only [Lib.parseIntB]
            rw [if_neg hno, hp]
            simp only [h45, not_false_eq_true, true_and, false_and, if_false]
            rw [if_neg (by omega)]
          · by_cases hh : (c :: r0).head? = some 48 ∧ 1 < (c :: r0).length
            · refine .inr ⟨fun q => ?_, numS_bad (.inr (.inr ⟨by rw [hd]; exact hh.1, by have := hh.2; simp at this; omega⟩))⟩
              have := decT_is.1 q
              rw [hl, itoa_nonneg'] at this
              exact hi.1 this hh
            · refine .inl ⟨decT_is.2 (by rw [hl, itoa_nonneg', hi.2 hh]), ?_⟩
              have := numS_ok (s := s) (u := u) (fun q => by
                rcases q with q | q | q
                · omega
                · omega
                · rw [hd] at q; exact hh ⟨q.1, by simp; omega⟩) (by rw [hd]; exact hu)
              rw [this, if_neg (by omega)]
theorem trim_eq (s : ByteArray) : Lib.trimPrefix s.data.toList [45] = s.data.toList.drop (atN s) := by
  unfold Lib.trimPrefix Lib.hasPrefix atN
  match s.data.toList with
  | [] => rfl
  | c :: r =>
    by_cases h : c = 45
    · subst h; rfl
    · rw [if_neg (by simp; exact fun q => h q.symm), if_neg (by simpa using h)]; rfl
end Go.Proofs.YtklgkbiobggbiaaGreatDoor
