/- FnPlacing: HolesFor, and what a placement says of each mould. -/
import Derived.Test.YtgjcmfacdnngjaaRows
import Derived.Test.YtgjcmfacdnngjaaPlacP
import Derived.Test.YtgjcmfacdnngjaaDrawH
import Derived.Laws.OwnMore
namespace Go.Proofs.Ytgjcmfacdnngjaa
open Go.ChangeShapes Go.WideShapes Go.ChangeAt Go.RowKit Go.Deep Go.Joins
set_option linter.unusedVariables false
set_option maxRecDepth 100000
set_option linter.unusedSimpArgs false
set_option maxHeartbeats 2000000 in
theorem impl_HolesFor (w : World) (x : Profile) (lo : Option Addr) (lc : Nat) (wall : Int) (hvv : Value) (hs : List Hole) (hx : x.name.size ≤ maxLen) (h : Rd w.heap.size w (.slice lo x.rings.length lc) 3 x.rings.length (x.rings.flatMap Ring.put)) (hp : profB x = true) (hw : 1 ≤ wall ∧ wall ≤ 150000) (hh : Rd w.heap.size w hvv 3 hs.length (hs.flatMap Hole.put)) (hn : hs.length ≤ 4) (hok : ∀ x ∈ hs, x.ok) (hvh : validHoleS hs = true) :
    Calls Try.prog 10 #[.agg #[.string x.name, .slice lo x.rings.length lc], .int .i64 wall, hvv] w fun e w' => ∃ (ro : Option Addr) (rc : Nat), e = .returned (.tuple #[.slice ro (fitsN x wall hs hs.length).length rc, .int .i64 0]) ∧ Rd w'.heap.size w' (.slice ro (fitsN x wall hs hs.length).length rc) 1 (fitsN x wall hs hs.length).length ((intsN (fitsN x wall hs hs.length)).flatMap putI) ∧ Below w.heap.size w w' := by
  have h32 := (profB_true hp).2.1
  have HVP := Lib.hid (fun (w' : World) (b : Below w.heap.size w w') => impl_ValidProfile (b0 := true) w' x lo lc hx (h.up b) (by omega) hp)
  have HVH : Hid (∀ w', Below w.heap.size w w' → Calls Try.prog 19 #[hvv] w' fun e w'' => e = .returned (.bool true) ∧ Below w'.heap.size w' w'') := Lib.hid (fun w' b => by have q := impl_validHole w' hvv hs (hh.up b) (by omega) hok; rw [hvh] at q; exact q)
  have HMW := Lib.hid (fun w' : World => impl_isMouldWall_is (r := true) wall w' (inB_mk hw))
  have HHF := Lib.hid (fun (w' : World) (b : Below w.heap.size w w') => impl_holesFor w' x lo lc wall hvv hs (h.up b) h32 (profB_true hp).2.2.1 hw (hh.up b) (by omega))
  have M1 := Lib.hid (Own.new w 28 [.string x.name, .slice lo x.rings.length lc])
  obtain ⟨ho, hcp, rfl⟩ := hh.form
  clear h hp hh hok hvh
  generalize x.rings.length = nr at *
  generalize fitsN x wall hs hs.length = F at *
  go_enter Try.func10, Try.ntmps10
  go_wp2_with fail
  refine (HVP.out _ (by (repeat' (first | (with_reducible exact Below.refl _ _) | (with_reducible assumption) | (with_reducible refine below_dn ?_ _) | (with_reducible refine Below.drew ?_) | (with_reducible refine Below.alloc ?_ ?_ _) | (with_reducible refine Below.setCell ?_ ?_ _) | go_size)))).mono ?_; rintro e w1 ⟨rfl, b1⟩
  have HB1 := Lib.hid (show Below w.heap.size w w1 from Below.trans (by (repeat' (first | (with_reducible exact Below.refl _ _) | (with_reducible assumption) | (with_reducible refine below_dn ?_ _) | (with_reducible refine Below.drew ?_) | (with_reducible refine Below.alloc ?_ ?_ _) | (with_reducible refine Below.setCell ?_ ?_ _) | go_size))) (b1.mono (by simp <;> omega)))
  have O1 := Lib.hid (M1.out.below b1 M1.out.lt)
  clear b1 M1 HVP
  go_wp2_with fail
  refine (HVH.out _ HB1.out).mono ?_; rintro e w2 ⟨rfl, b2⟩
  have HB2 := Lib.hid (bnext HB1.out b2)
  have O2 := Lib.hid (O1.out.below b2 O1.out.lt)
  have p0 : w2.cell? ⟨w.heap.size, 0, none⟩ = some (.string x.name) := O2.out.cell 0
  have p1 : w2.cell? ⟨w.heap.size, 1, none⟩ = some (.slice lo nr lc) := O2.out.cell 1
  have lp := O2.out.lt
  clear b2 O1 HB1 HVH
  go_wp2_with (go_at_call 20; refine (HMW.out _).mono ?_; rintro e w' ⟨rfl, rfl⟩)
  refine (HHF.out _ HB2.out).mono ?_; rintro e w3 ⟨r, rfl, own3, b3⟩
  have HR3 := Lib.hid (own_rd own3)
  have HB3 := Lib.hid (bnext HB2.out b3)
  obtain ⟨o3, c3, e3⟩ := (own_rd own3).form
  subst e3
  clear own3 b3
  go_wp2_with fail
  go_ret2
  exact ⟨_, _, rfl, HR3.out, HB3.out⟩

/-- which holes are used -/
def bitsL (n U : Nat) : List Value := (List.range n).map fun k => Value.bool (bitU U k)
theorem bitsL_len (n U : Nat) : (bitsL n U).length = n := by simp [bitsL]
theorem bitsL_get (n U k : Nat) (h : k < n) : (bitsL n U)[k]? = some (.bool (bitU U k)) := by
  unfold bitsL
  rw [List.getElem?_map, List.getElem?_range h]; rfl
theorem bitsL_zero (n : Nat) (h : n ≤ 4) : bitsL n 0 = List.replicate n (.bool false) := by
  match n, h with
  | 0, _ => rfl
  | 1, _ => rfl
  | 2, _ => rfl
  | 3, _ => rfl
  | 4, _ => rfl
theorem bitsL_set {n U k : Nat} (hn : n ≤ 4) (hU : U < 16) (hk : k < 4) : (bitsL n U).set k (.bool true) = bitsL n (setU U k) := by
  apply List.ext_getElem?
  intro j
  rw [List.getElem?_set]
  by_cases hj : j < n
  · rw [bitsL_get n U j hj, bitsL_get n (setU U k) j hj, bit_setU U hU k hk j (by omega), bitsL_len]
    by_cases e : k = j
    · subst e; simp [hj]
    · have : (j == k) = false := beq_eq_false_iff_ne.2 (fun q => e q.symm)
      simp [e, this]
  · have l1 := bitsL_len n U
    have l2 := bitsL_len n (setU U k)
    rw [List.getElem?_eq_none (by omega), List.getElem?_eq_none (by omega)]
    split
    · split
      · omega
      · rfl
    · rfl
/-- what a placement says of mould i -/
structure PlcOk (CS : List (List Nat)) (P : List (Option Nat)) : Prop where
  len : P.length = CS.length
  some_ : ∀ (i k : Nat), P[i]? = some (some k) → ∃ c, CS[i]? = some c ∧ k ∈ c ∧ bitU (endU 0 (P.take i)) k = false
  none_ : ∀ (i k : Nat) (c : List Nat), P[i]? = some none → CS[i]? = some c → k ∈ c → bitU (endU 0 P) k = true
  lt16 : ∀ (i : Nat), endU 0 (P.take i) < 16
theorem plc_ok {CS : List (List Nat)} (hc : ∀ c ∈ CS, ∀ j ∈ c, j < 4) : PlcOk CS (placeU CS 0 (mostU CS 0)) := by
  obtain ⟨a, b⟩ := place_ok CS 0
  exact ⟨okP_len _ _ _ a, fun i k h => okP_at _ _ _ i k a h, fun i k c h1 h2 h3 => place_max CS i k c hc h1 h2 h3, fun i => endU_lt (CS.take i) 0 _ (by decide) (fun c h => hc c (List.mem_of_mem_take h)) (okP_take CS 0 _ i a)⟩
theorem endU_take {P : List (Option Nat)} {i : Nat} {o : Option Nat} (h : P[i]? = some o) : endU 0 (P.take (i + 1)) = (match o with | some k => setU (endU 0 (P.take i)) k | none => endU 0 (P.take i)) := by
  have hi := (List.getElem?_eq_some_iff.1 h).1
  have he := (List.getElem?_eq_some_iff.1 h).2
  rw [List.take_succ_eq_append_getElem hi, endU_app, he]
  cases o <;> rfl
theorem cntP_take {P : List (Option Nat)} {i : Nat} {o : Option Nat} (h : P[i]? = some o) : cntP (P.take (i + 1)) = cntP (P.take i) + (match o with | some _ => 1 | none => 0) := by
  have hi := (List.getElem?_eq_some_iff.1 h).1
  have he := (List.getElem?_eq_some_iff.1 h).2
  rw [List.take_succ_eq_append_getElem hi, cntP_app, he]
  cases o <;> rfl
theorem cntP_le : ∀ P : List (Option Nat), cntP P ≤ P.length
  | [] => Nat.le_refl 0
  | none :: P => by have := cntP_le P; show cntP P ≤ P.length + 1; omega
  | some _ :: P => by have := cntP_le P; show 1 + cntP P ≤ P.length + 1; omega
theorem choices_at {ps : List Profile} {wall : Int} {hs : List Hole} {i : Nat} (h : i < ps.length) : (choices ps wall hs)[i]? = some (fitsN ps[i] wall hs hs.length) := by
  unfold choices
  rw [List.getElem?_map, List.getElem?_eq_getElem h]; rfl
theorem numP_get (P : List (Option Nat)) (i : Nat) (o : Option Nat) (h : P[i]? = some o) : ((P.map numP).flatMap putI)[i]? = some (.int .i64 (numP o)) := by
  have hi := (List.getElem?_eq_some_iff.1 h).1
  have he := (List.getElem?_eq_some_iff.1 h).2
  rw [putI_get _ i (by rw [List.length_map]; exact hi), List.getElem_map, he]
end Go.Proofs.Ytgjcmfacdnngjaa
