/- Contracts and plain facts, joined: AddML, DropM, AllOf, AddMB. -/
import Derived.Test.YtnbodmbagendnaaGreatDoorRows
import Derived.Test.YtnbodmbagendnaaGreatDoorZFnMeltsN
import Derived.Test.YtnbodmbagendnaaGreatDoorZFnMeltsQ
import Derived.Test.YtnbodmbagendnaaGreatDoorZFnMeltsR
import Derived.Test.YtnbodmbagendnaaGreatDoorZFnMeltsT
import Derived.Test.YtnbodmbagendnaaGreatDoorZFnMeltsX
import Derived.Test.YtnbodmbagendnaaGreatDoorZFnMeltsY
import Derived.Test.YtnbodmbagendnaaGreatDoorZFnMeltsZA
import Derived.Test.YtnbodmbagendnaaGreatDoorZFnMeltsZB
namespace Go.Proofs.YtnbodmbagendnaaGreatDoor
open Go.ChangeShapes Go.WideShapes Go.ChangeAt Go.RowKit Go.Deep Go.Joins
set_option linter.unusedVariables false
set_option maxRecDepth 100000
set_option linter.unusedSimpArgs false
/-- the place of an id -/
def posM (ms : List Melt) (t : ByteArray) : Nat := ms.findIdx fun y => !(ltName y.id t)
theorem posM_le (ms : List Melt) (t : ByteArray) : posM ms t ≤ ms.length := List.findIdx_le_length
theorem posM_lt {ms : List Melt} {t : ByteArray} {j : Nat} (h : j < posM ms t) (hj : j < ms.length) : ltName ms[j].id t = true := by
  have := List.not_of_lt_findIdx h
  simpa using this
theorem posM_ge {ms : List Melt} (hr : RisesM ms) {t : ByteArray} (hn : idM ms t = none) {j : Nat} (h : posM ms t ≤ j) (hj : j < ms.length) : ltName t ms[j].id = true := by
  have hp : posM ms t < ms.length := by omega
  have h1 : (!(ltName ms[posM ms t].id t)) = true := List.findIdx_getElem (w := hp)
  have h2 : ltName ms[posM ms t].id t = false := by simpa using h1
  have h3 : ltName t ms[posM ms t].id = true := ltName_total h2 (idM_none hn _ hp)
  rcases Nat.lt_or_ge (posM ms t) j with q | q
  · exact ltName_trans h3 (hr _ _ q hj)
  · have : posM ms t = j := by omega
    subst this
    exact h3
theorem posM_eq {ms : List Melt} (hr : RisesM ms) {t : ByteArray} (hn : idM ms t = none) {i : Nat} (hi : i ≤ ms.length) (h1 : ∀ j (hj : j < ms.length), j < i → ltName ms[j].id t = true) (h2 : ∀ j (hj : j < ms.length), i ≤ j → ltName t ms[j].id = true) : i = posM ms t := by
  have hp := posM_le ms t
  rcases Nat.lt_trichotomy i (posM ms t) with q | q | q
  · have a := posM_lt q (by omega)
    have b := h2 i (by omega) (Nat.le_refl _)
    have := ltName_trans a b
    rw [ltName_irrefl] at this; cases this
  · exact q
  · have a := posM_ge hr hn (Nat.le_refl _) (show posM ms t < ms.length by omega)
    have b := h1 _ (by omega) q
    have := ltName_trans a b
    rw [ltName_irrefl] at this; cases this
def insM (x : Melt) (ms : List Melt) : List Melt := ms.take (posM ms x.id) ++ x :: ms.drop (posM ms x.id)
/-- the list so far, and whether the new melt is in it -/
def runM (x : Melt) (ms : List Melt) (i : Nat) : List Melt × Bool := if i ≤ posM ms x.id then (ms.take i, false) else (ms.take (posM ms x.id) ++ x :: (ms.drop (posM ms x.id)).take (i - posM ms x.id), true)
theorem runM_zero (x : Melt) (ms : List Melt) : runM x ms 0 = ([], false) := by unfold runM; rw [if_pos (Nat.zero_le _)]; rfl
theorem runM_before {x : Melt} {ms : List Melt} (hr : RisesM ms) (hn : idM ms x.id = none) {i : Nat} (hi : i < ms.length) (h : ltName x.id ms[i].id = false) : runM x ms i = (ms.take i, false) ∧ runM x ms (i + 1) = (ms.take i ++ [ms[i]], false) := by
  have hp : i < posM ms x.id := by
    rcases Nat.lt_or_ge i (posM ms x.id) with q | q
    · exact q
    · have := posM_ge hr hn q hi
      rw [h] at this; cases this
  refine ⟨if_pos (by omega), ?_⟩
  unfold runM
  rw [if_pos (by omega), List.take_succ_eq_append_getElem hi]
theorem runM_at {x : Melt} {ms : List Melt} {i : Nat} (hi : i < ms.length) (h : ltName x.id ms[i].id = true) (hd : (runM x ms i).2 = false) : runM x ms i = (ms.take i, false) ∧ runM x ms (i + 1) = (ms.take i ++ [x] ++ [ms[i]], true) := by
  have hp : posM ms x.id ≤ i := by
    rcases Nat.lt_or_ge i (posM ms x.id) with q | q
    · have a := posM_lt q hi
      have := ltName_trans h a
      rw [ltName_irrefl] at this; cases this
    · exact q
  have hp2 : i ≤ posM ms x.id := by
    rcases Nat.lt_or_ge (posM ms x.id) i with q | q
    · have e : runM x ms i = (ms.take (posM ms x.id) ++ x :: (ms.drop (posM ms x.id)).take (i - posM ms x.id), true) := if_neg (by omega)
      rw [e] at hd; cases hd
    · exact q
  have e : posM ms x.id = i := by omega
  refine ⟨if_pos (by omega), ?_⟩
  unfold runM
  have e1 : (ms.drop i).take 1 = [ms[i]] := by rw [List.drop_eq_getElem_cons hi]; rfl
  rw [if_neg (by omega), e, show i + 1 - i = 1 from by omega, e1]
  simp
theorem runM_past {x : Melt} {ms : List Melt} {i : Nat} (hi : i < ms.length) (hd : (runM x ms i).2 = true) : runM x ms (i + 1) = ((runM x ms i).1 ++ [ms[i]], true) := by
  have hp : posM ms x.id < i := by
    rcases Nat.lt_or_ge (posM ms x.id) i with q | q
    · exact q
    · have e : runM x ms i = (ms.take i, false) := if_pos q
      rw [e] at hd; cases hd
  unfold runM
  rw [if_neg (by omega), if_neg (by omega), show i + 1 - posM ms x.id = (i - posM ms x.id) + 1 from by omega, List.take_succ_eq_append_getElem (by rw [List.length_drop]; omega), List.getElem_drop]
  simp only [List.append_assoc, List.cons_append]
  congr 6
  omega
theorem runM_end_no {x : Melt} {ms : List Melt} (hd : (runM x ms ms.length).2 = false) : (runM x ms ms.length).1 ++ [x] = insM x ms := by
  have hp : ms.length ≤ posM ms x.id := by
    rcases Nat.lt_or_ge (posM ms x.id) ms.length with q | q
    · have e : runM x ms ms.length = (ms.take (posM ms x.id) ++ x :: (ms.drop (posM ms x.id)).take (ms.length - posM ms x.id), true) := if_neg (by omega)
      rw [e] at hd; cases hd
    · exact q
  have e : posM ms x.id = ms.length := by have := posM_le ms x.id; omega
  unfold runM insM
  rw [if_pos hp, e, List.drop_length]
theorem runM_end_yes {x : Melt} {ms : List Melt} (hd : (runM x ms ms.length).2 = true) : (runM x ms ms.length).1 = insM x ms := by
  have hp : posM ms x.id < ms.length := by
    rcases Nat.lt_or_ge (posM ms x.id) ms.length with q | q
    · exact q
    · have e : runM x ms ms.length = (ms.take ms.length, false) := if_pos q
      rw [e] at hd; cases hd
  have e1 : (ms.drop (posM ms x.id)).take (ms.length - posM ms x.id) = ms.drop (posM ms x.id) := List.take_of_length_le (by rw [List.length_drop]; exact Nat.le_refl _)
  unfold runM insM
  rw [if_neg (by omega), e1]
theorem runM_len (x : Melt) (ms : List Melt) (i : Nat) : (runM x ms i).1.length ≤ i + 1 := by
  unfold runM
  split
  · simp only [List.length_take]; omega
  · simp only [List.length_append, List.length_cons, List.length_take, List.length_drop]; omega
def addM (xs : List Ingot) (ms : List Melt) (x : Melt) : List Melt × Int :=
  if (validIngotS xs && (meltsB ms && meltB x)) = true then
    if (existB xs ms && (chosenL xs x.ingots).isSome) = true then
      if mostS xs x.ingots < x.mass then ([], 6)
      else if (idM ms x.id).isSome = true then ([], 4)
      else if (ms.any fun y => commonB y.ingots x.ingots) = true then ([], 7)
      else if ms.length = 12 then ([], 5)
      else (insM x ms, 0)
    else ([], 3)
  else ([], 1)
section
variable {xs : List Ingot} {ms : List Melt} {x : Melt}
theorem addM_bad (h : (validIngotS xs && (meltsB ms && meltB x)) = false) : addM xs ms x = ([], 1) := if_neg (by rw [h]; simp)
theorem addM_no (h : (validIngotS xs && (meltsB ms && meltB x)) = true) (h2 : (existB xs ms && (chosenL xs x.ingots).isSome) = false) : addM xs ms x = ([], 3) := by unfold addM; rw [if_pos h, if_neg (by rw [h2]; simp)]
theorem addM_much (h : (validIngotS xs && (meltsB ms && meltB x)) = true) (h2 : (existB xs ms && (chosenL xs x.ingots).isSome) = true) (h3 : mostS xs x.ingots < x.mass) : addM xs ms x = ([], 6) := by unfold addM; rw [if_pos h, if_pos h2, if_pos h3]
theorem addM_has (h : (validIngotS xs && (meltsB ms && meltB x)) = true) (h2 : (existB xs ms && (chosenL xs x.ingots).isSome) = true) (h3 : ¬ mostS xs x.ingots < x.mass) (h4 : (idM ms x.id).isSome = true) : addM xs ms x = ([], 4) := by unfold addM; rw [if_pos h, if_pos h2, if_neg h3, if_pos h4]
theorem addM_com (h : (validIngotS xs && (meltsB ms && meltB x)) = true) (h2 : (existB xs ms && (chosenL xs x.ingots).isSome) = true) (h3 : ¬ mostS xs x.ingots < x.mass) (h4 : (idM ms x.id).isSome = false) (h5 : (ms.any fun y => commonB y.ingots x.ingots) = true) : addM xs ms x = ([], 7) := by unfold addM; rw [if_pos h, if_pos h2, if_neg h3, if_neg (by rw [h4]; simp), if_pos h5]
theorem addM_full (h : (validIngotS xs && (meltsB ms && meltB x)) = true) (h2 : (existB xs ms && (chosenL xs x.ingots).isSome) = true) (h3 : ¬ mostS xs x.ingots < x.mass) (h4 : (idM ms x.id).isSome = false) (h5 : (ms.any fun y => commonB y.ingots x.ingots) = false) (h6 : ms.length = 12) : addM xs ms x = ([], 5) := by unfold addM; rw [if_pos h, if_pos h2, if_neg h3, if_neg (by rw [h4]; simp), if_neg (by rw [h5]; simp), if_pos h6]
theorem addM_ok (h : (validIngotS xs && (meltsB ms && meltB x)) = true) (h2 : (existB xs ms && (chosenL xs x.ingots).isSome) = true) (h3 : ¬ mostS xs x.ingots < x.mass) (h4 : (idM ms x.id).isSome = false) (h5 : (ms.any fun y => commonB y.ingots x.ingots) = false) (h6 : ¬ ms.length = 12) : addM xs ms x = (insM x ms, 0) := by unfold addM; rw [if_pos h, if_pos h2, if_neg h3, if_neg (by rw [h4]; simp), if_neg (by rw [h5]; simp), if_neg h6]
end
end Go.Proofs.YtnbodmbagendnaaGreatDoor
namespace Go.Proofs.YtnbodmbagendnaaGreatDoor
open Go.ChangeShapes Go.WideShapes Go.ChangeAt Go.RowKit Go.Deep Go.Joins
set_option linter.unusedVariables false
set_option maxRecDepth 100000
set_option linter.unusedSimpArgs false
theorem Melt_info1 : (Tryz.prog.info? 28).map (fun i => (i.zero, i.size, i.bytes)) = some (some (.agg #[.string ByteArray.empty, .slice none 0 0, .int .i64 0]), 3, 48) := by kernel_rfl
theorem melt_one (a : ByteArray) (g n c : Nat) (m : Int) : ∀ u ∈ [Value.string a, Value.slice (some ⟨g, 0, none⟩) n c, Value.int .i64 m], u.oneCell' = true := by
  intro u hu
  simp at hu
  rcases hu with rfl | rfl | rfl <;> rfl
theorem melt_snoc (xs : List Melt) (x : Melt) : (xs ++ [x]).flatMap Melt.put = xs.flatMap Melt.put ++ [.string x.id, x.list, .int .i64 x.mass] := by rw [List.flatMap_append]; rfl
theorem kids_app {base : Nat} {w w' : World} {v : Value} {n : Nat} {L : List Value} {os : List Melt} {gs : List Nat} (h : Kids base w os gs) (ho : w.ownsRow base 28 3 v n L) (hK : ∀ b E' L', Own w b E' L' → (∀ g', v.ownBlock = some g' → g' ≠ b) → Own w' b E' L') : Kids base w' os gs :=
  h.kept fun b L o => hK b _ L o (own_apart_type ho o (by decide))
theorem idM_isSome_take {xs : List Melt} {a : ByteArray} {k : Nat} (hk : k < xs.length) (h : xs[k].id = a) : (idM xs a).isSome = true := by
  unfold idM
  rw [List.findIdx?_isSome, List.any_eq_true]
  exact ⟨xs[k], List.getElem_mem hk, strEq_iff.2 h⟩
theorem text_eqD {a b : ByteArray} (h : a = b) : (a.toList == b.toList) = true := by rw [h]; simp
theorem text_neD {a b : ByteArray} (h : a ≠ b) : (a.toList == b.toList) = false := by
  rw [beq_eq_false_iff_ne, ByteArray.toList_eq, ByteArray.toList_eq]
  intro q
  apply h
  cases a; cases b
  simpa using q
theorem said_snoc {os ys : List Melt} {x y : Melt} (h : os.map Melt.said = ys.map Melt.said) (h2 : x.said = y.said) : (os ++ [x]).map Melt.said = (ys ++ [y]).map Melt.said := by
  rw [List.map_append, List.map_append, h]
  simp [h2]
theorem kids_snoc2 {base : Nat} {w : World} {os : List Melt} {gs : List Nat} (h : Kids base w os gs) {id : ByteArray} {ids : List ByteArray} {m : Int} {g c : Nat} {V : List Value} (hg : ∀ g' ∈ gs, g' ≠ g) (e2 : ids.length ≤ c) (e3 : c ≤ maxLen) (e4 : base ≤ g) (e5 : Own w g 9 (ids.flatMap putStr ++ V)) :
    Kids base w (os ++ [⟨id, .slice (some ⟨g, 0, none⟩) ids.length c, ids, m⟩]) (gs ++ [g]) := h.snoc hg rfl e2 e3 e4 e5
theorem nest_nil (w : World) (base hi : Nat) : Nest base hi w (.slice none 0 0) [] := ⟨⟨rfl, none, 0, rfl, Nat.le_refl _, Nat.zero_le _, fun _ => ⟨rfl, rfl⟩, fun h => by simp at h⟩, [], Kids.nil _ _, fun g h => by cases h⟩
end Go.Proofs.YtnbodmbagendnaaGreatDoor
namespace Go.Proofs.YtnbodmbagendnaaGreatDoor
open Go.ChangeShapes Go.WideShapes Go.ChangeAt Go.RowKit Go.Deep Go.Joins
set_option linter.unusedVariables false
set_option maxRecDepth 100000
set_option linter.unusedSimpArgs false
def allS (xs : List Ingot) (ms : List Melt) : Int := if validIngotS xs && meltsB ms then (if existB xs ms then 0 else 3) else 1
theorem allS_zero {xs : List Ingot} {ms : List Melt} (h : allS xs ms = 0) : validIngotS xs = true ∧ meltsB ms = true ∧ existB xs ms = true := by
  unfold allS at h
  cases hV : validIngotS xs <;> cases hM : meltsB ms <;> cases hE : existB xs ms <;> rw [hV, hM, hE] at h <;> simp at h
  exact ⟨rfl, rfl, rfl⟩
theorem exist_all {xs : List Ingot} {ms : List Melt} (hE : existB xs ms = true) : ∀ m ∈ ms, ∃ cs, chosenL xs m.ingots = some cs := fun m hm => by
  unfold existB at hE
  have hE2 : ms.any (noneB xs) = false := by simpa using hE
  have := List.any_eq_false.1 hE2 m hm
  unfold noneB at this
  cases hc : chosenL xs m.ingots with
  | none => rw [hc] at this; exact absurd rfl this
  | some cs => exact ⟨cs, rfl⟩

set_option maxHeartbeats 2000000 in
theorem spec_l14All (w : World) (v u : Value) (xs : List Ingot) (ms : List Melt) (h : Rd w.heap.size w v 5 xs.length (xs.flatMap Ingot.put)) (hn : xs.length ≤ 1048576) (hok : ∀ x ∈ xs, x.ok) (h2 : RdM w.heap.size w u ms) (hn2 : ms.length ≤ 1048576) (hf : ∀ m ∈ ms, m.fine) :
    Calls Tryz.prog 102 #[v, u] w fun e w' => e = .returned (.int .i64 (allS xs ms)) ∧ Below w.heap.size w w' := by
  have H1 := Lib.hid h; clear h
  have H2 := Lib.hid h2; clear h2
  have Hok := Lib.hid hok; clear hok
  have Hf := Lib.hid hf; clear hf
  cases hV : validIngotS xs
  · have e : Hid (allS xs ms = 1) := (by unfold allS; rw [hV]; rfl : allS xs ms = 1)
    have HV := Lib.hid hV; clear hV
    go_enter Tryz.func102, Tryz.ntmps102
    go_wp2_with fail
    refine (spec_l13Ok_is _ _ xs H1.out hn Hok.out HV.out).mono ?_; rintro e1 w1 ⟨rfl, b1⟩
    go_wp2_with fail
    go_ret
    exact ⟨by rw [e.out]; rfl, b1⟩
  obtain ⟨h16, hall⟩ := validIngotS_true hV
  have HR := Lib.hid (rises_of hV)
  clear hall
  cases hM : meltsB ms
  · have e : Hid (allS xs ms = 1) := (by unfold allS; rw [hV, hM]; rfl : allS xs ms = 1)
    have HV := Lib.hid hV; clear hV
    have HM := Lib.hid hM; clear hM
    go_enter Tryz.func102, Tryz.ntmps102
    go_wp2_with fail
    refine (spec_l13Ok_is _ _ xs H1.out hn Hok.out HV.out).mono ?_; rintro e1 w1 ⟨rfl, b1⟩
    have HB1 := Lib.hid b1; clear b1
    go_wp2_with fail
    refine (spec_l14Ok_is _ _ ms (by exact H2.out.up HB1.out) hn2 Hf.out HM.out).mono ?_; rintro e2 w2 ⟨rfl, b2⟩
    have HB2 := Lib.hid (bnext HB1.out b2); clear b2
    go_wp2_with fail
    go_ret
    exact ⟨by rw [e.out]; rfl, HB2.out⟩
  obtain ⟨vo, vc, rfl⟩ := H1.out.form
  have H2' := H2.out
  obtain ⟨ao, cap, rfl, hcap, hmax, hsome⟩ := H2'
  obtain ⟨h12, hma⟩ := meltsB_true hM
  clear hma
  have EX := Lib.hid (show allS xs ms = (if existB xs ms = true then 0 else 3) by unfold allS; rw [hV, hM]; rfl)
  have HV := Lib.hid hV; clear hV
  have HM := Lib.hid hM; clear hM
  go_enter Tryz.func102, Tryz.ntmps102
  go_wp2_with fail
  refine (spec_l13Ok_is _ _ xs H1.out hn Hok.out HV.out).mono ?_; rintro e1 w1 ⟨rfl, b1⟩
  have HB1 := Lib.hid b1; clear b1
  go_wp2_with fail
  refine (spec_l14Ok_is _ _ ms (by exact H2.out.up HB1.out) hn2 Hf.out HM.out).mono ?_; rintro e2 w2 ⟨rfl, b2⟩
  have HB2 := Lib.hid (bnext HB1.out b2); clear b2 HB1
  have hs2 := HB2.out.size
  go_wp2_with fail
  go_loopw [5, 6, 7] (fun i _ _ wr => ∃ (k : Nat), k ≤ ms.length ∧ i = .int .i64 k ∧ (ms.take k).any (noneB xs) = false ∧ Below w2.heap.size w2 wr) (fun i _ _ _ => ms.length - (intOf i).toNat)
  case atStart => exact ⟨0, Nat.zero_le _, rfl, rfl, Below.refl _ _⟩
  case round =>
    obtain ⟨k, hk, rfl, hall, hb0⟩ := hrel
    have hb : Below w.heap.size w wr := HB2.out.trans (hb0.mono hs2)
    have Hall := Lib.hid hall; clear hall
    have HB0 := Lib.hid hb0; clear hb0
    by_cases hlt : k < ms.length
    · obtain ⟨b, off, rfl, hbB, hc⟩ := hsome (by omega)
      obtain ⟨l, p0, p1, p2, hrd⟩ := hc k hlt
      obtain ⟨lo, lc, rfl⟩ := hrd.form
      have c1 := (hb.cell (p := ⟨b, off + k * 3 + 1, none⟩) hbB).trans p1
      have hbr : b < wr.heap.size := Nat.lt_of_lt_of_le hbB hb.size
      have hin : ms[k].ingots.length ≤ 1048576 := (Hf.out ms[k] (List.getElem_mem hlt)).2.2.2
      have HCH := Lib.hid (spec_l14Chosen wr (.slice vo xs.length vc) xs ms[k].ingots b (off + k * 3) _ (H1.out.up hb) (by omega) HR.out c1 hbr (hrd.up hb) hin)
      clear hc hsome hb p0 p1 p2 hrd
      have em : noneB xs ms[k] = !(chosenL xs ms[k].ingots).isSome := rfl
      cases hC : (chosenL xs ms[k].ingots).isSome
      all_goals rw [hC] at HCH em
      · have e0 : existB xs ms = false := by unfold existB; rw [any_at ms k hlt em]; rfl
        have e : Hid (allS xs ms = 3) := (by rw [EX.out, e0]; rfl : allS xs ms = 3)
        clear e0
        clear hC em
        go_wp2_with fail
        refine HCH.out.mono ?_; rintro e1 w3 ⟨⟨u1, rfl, _⟩, b3⟩
        have HB3 := Lib.hid (HB0.out.trans (b3.mono HB0.out.size)); clear b3
        go_wp2_with fail
        go_ret
        exact ⟨by rw [e.out]; rfl, HB2.out.trans (HB3.out.mono hs2)⟩
      · have e : Hid ((ms.take (k + 1)).any (noneB xs) = false) := (by rw [any_take ms k hlt, Hall.out, em]; rfl : (ms.take (k + 1)).any (noneB xs) = false)
        clear hC em
        go_wp2_with fail
        refine HCH.out.mono ?_; rintro e1 w3 ⟨⟨u1, rfl, _⟩, b3⟩
        have HB3 := Lib.hid (HB0.out.trans (b3.mono HB0.out.size)); clear b3
        go_wp2_with fail
        go_roundw
        case rel => exact ⟨k + 1, by omega, by go_num, e.out, HB3.out⟩
        case measure => simp [intOf]; omega
    · have e0 : existB xs ms = true := by unfold existB; rw [any_full Hall.out (by omega)]; rfl
      have e : Hid (allS xs ms = 0) := (by rw [EX.out, e0]; rfl : allS xs ms = 0)
      clear e0
      clear hsome
      have HB := Lib.hid hb; clear hb
      go_wp2
      go_ret
      exact ⟨by rw [e.out]; rfl, HB.out⟩

theorem impl_exist_is {b0 : Bool} (w : World) (v u : Value) (xs : List Ingot) (ms : List Melt) (h : Rd w.heap.size w v 5 xs.length (xs.flatMap Ingot.put)) (hn : xs.length ≤ 1048576) (hr : Rises xs) (h2 : RdM w.heap.size w u ms) (hn2 : ms.length ≤ 1048576) (hin : ∀ m ∈ ms, m.ingots.length ≤ 1048576) (hb : existB xs ms = b0) :
    Calls Tryz.prog 23 #[v, u] w fun e w' => e = .returned (.bool b0) ∧ Below w.heap.size w w' := by
  subst hb; exact impl_exist w v u xs ms h hn hr h2 hn2 hin
theorem spec_l14All_is {c0 : Int} (w : World) (v u : Value) (xs : List Ingot) (ms : List Melt) (h : Rd w.heap.size w v 5 xs.length (xs.flatMap Ingot.put)) (hn : xs.length ≤ 1048576) (hok : ∀ x ∈ xs, x.ok) (h2 : RdM w.heap.size w u ms) (hn2 : ms.length ≤ 1048576) (hf : ∀ m ∈ ms, m.fine) (hc : allS xs ms = c0) :
    Calls Tryz.prog 102 #[v, u] w fun e w' => e = .returned (.int .i64 c0) ∧ Below w.heap.size w w' := by
  subst hc; exact spec_l14All w v u xs ms h hn hok h2 hn2 hf
end Go.Proofs.YtnbodmbagendnaaGreatDoor
namespace Go.Proofs.YtnbodmbagendnaaGreatDoor
open Go.ChangeShapes Go.WideShapes Go.ChangeAt Go.RowKit Go.Deep Go.Joins
set_option linter.unusedVariables false
set_option maxRecDepth 100000
set_option linter.unusedSimpArgs false
theorem gt_spell (a b : ByteArray) : (!(Op.bytesLess a.toList b.toList) && !(a.toList == b.toList)) = ltName b a := by
  have h := not_less a.toList b.toList
  unfold ltName
  rw [← Bool.not_or, ← h, Bool.not_not]
theorem idM_none_of {ms : List Melt} {t : ByteArray} (h : ∀ j (hj : j < ms.length), ms[j].id ≠ t) : idM ms t = none := by
  cases hi : idM ms t with
  | none => rfl
  | some j =>
    obtain ⟨hj, he⟩ := idM_some hi
    exact absurd he (h j hj)
theorem any_common {ms : List Melt} {ids : List ByteArray} (h : ∀ j (hj : j < ms.length), commonB ms[j].ingots ids = false) : (ms.any fun y => commonB y.ingots ids) = false := by
  rw [List.any_eq_false]
  intro y hy
  obtain ⟨j, hj, rfl⟩ := List.mem_iff_getElem.1 hy
  rw [h j hj]; simp
/-- the melt that is put in, as its box shows it -/
def BoxM (w' : World) (g : Nat) (x : Melt) (v : Value) : Prop := Own w' g 28 [.string x.id, v, .int .i64 x.mass] ∧ Rd w'.heap.size w' v 1 x.ingots.length (x.ingots.flatMap putStr)
theorem BoxM.up {w w' : World} {g : Nat} {x : Melt} {v : Value} (h : BoxM w g x v) (b : Below w.heap.size w w') : BoxM w' g x v := ⟨h.1.below b h.1.lt, h.2.up b⟩
theorem BoxM.ok {w : World} {g : Nat} {x : Melt} {v : Value} (h : BoxM w g x v) (hf : x.fine) (hv : x.list = v) : x.ok w := by
  subst hv
  exact ⟨hf.1, ⟨h.2, by have := hf.2.2.2; unfold maxLen; omega, hf.2.1⟩, hf.2.2.1⟩
end Go.Proofs.YtnbodmbagendnaaGreatDoor
