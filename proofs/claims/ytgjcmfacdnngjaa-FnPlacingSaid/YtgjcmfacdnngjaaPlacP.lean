/- FnPlacing: PlaceMoulds. -/
import Derived.Test.YtgjcmfacdnngjaaRows
import Derived.Test.YtgjcmfacdnngjaaPlacM
import Derived.Test.YtgjcmfacdnngjaaPlacH
import Derived.Test.YtgjcmfacdnngjaaFitsHoleT
import Derived.Test.YtgjcmfacdnngjaaAny
namespace Go.Proofs.Ytgjcmfacdnngjaa
open Go.ChangeShapes Go.WideShapes Go.ChangeAt Go.RowKit Go.Deep Go.Joins
set_option linter.unusedVariables false
set_option maxRecDepth 100000
set_option linter.unusedSimpArgs false
/-- profiles in memory -/
def PrI (w : World) (x : Profile) : Prop := x.name.size ≤ maxLen ∧ profB x = true ∧ Rd w.heap.size w x.list 3 x.rings.length (x.rings.flatMap Ring.put)
def Profs (w : World) (v : Value) (ps : List Profile) : Prop := Rd w.heap.size w v 2 ps.length (ps.flatMap Profile.put) ∧ ∀ x ∈ ps, PrI w x
theorem PrI.up {w w' : World} {x : Profile} (h : PrI w x) (b : Below w.heap.size w w') : PrI w' x := ⟨h.1, h.2.1, h.2.2.up b⟩
theorem Profs.up {w w' : World} {v : Value} {ps : List Profile} (h : Profs w v ps) (b : Below w.heap.size w w') : Profs w' v ps := ⟨h.1.up b, fun x hx => (h.2 x hx).up b⟩
theorem prof_get0 (ps : List Profile) (k : Nat) (h : k < ps.length) : (ps.flatMap Profile.put)[k * 2 + 0]? = some (.string ps[k].name) := by
  rw [flat_get (f := Profile.put) (s := 2) ps (fun _ _ => rfl) (j := 0) (by omega) k, List.getElem?_eq_getElem h]
  rfl
theorem prof_get1 (ps : List Profile) (k : Nat) (h : k < ps.length) : (ps.flatMap Profile.put)[k * 2 + 1]? = some ps[k].list := by
  rw [flat_get (f := Profile.put) (s := 2) ps (fun _ _ => rfl) (j := 1) (by omega) k, List.getElem?_eq_getElem h]
  rfl
theorem impl_PlaceMoulds1 (x : Profile) (lo : Option Addr) (lc : Nat) (w : World) (hs : x.name.size ≤ maxLen) (h : Rd w.heap.size w (.slice lo x.rings.length lc) 3 x.rings.length (x.rings.flatMap Ring.put)) (hp : profB x = true) :
    Calls Try.prog 17 #[.agg #[.string x.name, .slice lo x.rings.length lc]] w fun e w' => e = .returned (.bool false) ∧ Below w.heap.size w w' := by
  have HV := Lib.hid (fun (w' : World) (b : Below w.heap.size w w') => impl_ValidProfile (b0 := true) w' x lo lc hs (h.up b) (by have := (profB_true hp).2.1; omega) hp)
  clear h hp
  go_enter Try.func17, Try.ntmps17
  go_wp2_with fail
  refine (HV.out _ (by (repeat' (first | (with_reducible exact Below.refl _ _) | (with_reducible assumption) | (with_reducible refine below_dn ?_ _) | (with_reducible refine Below.drew ?_) | (with_reducible refine Below.alloc ?_ ?_ _) | (with_reducible refine Below.setCell ?_ ?_ _) | go_size)))).mono ?_; rintro e w1 ⟨rfl, b1⟩
  go_wp2_with fail
  go_ret
  exact ⟨rfl, Below.trans (by (repeat' (first | (with_reducible exact Below.refl _ _) | (with_reducible assumption) | (with_reducible refine below_dn ?_ _) | (with_reducible refine Below.drew ?_) | (with_reducible refine Below.alloc ?_ ?_ _) | (with_reducible refine Below.setCell ?_ ?_ _) | go_size))) (b1.mono (by simp <;> omega))⟩
set_option maxHeartbeats 1000000 in
theorem IndexFunc_Profs (w : World) (v : Value) (ps : List Profile) (h : Profs w v ps) (hn : ps.length ≤ 8) :
    Calls Try.prog 27 #[v, .func (.func 17) #[] #[]] w fun e w' => e = .returned (.int .i64 (-1)) ∧ Below w.heap.size w w' := by
  have HP := Lib.hid h
  obtain ⟨hL, ao, cap, rfl, hcap, hmax, hnil, hsome⟩ := h.1
  clear h
  go_enter Try.func27, Try.ntmps27
  go_wp2
  go_loopw [8] (fun i wr => ∃ (k : Nat), k ≤ ps.length ∧ i = .int .i64 k ∧ Below w.heap.size w wr) (fun i _ => ps.length - (intOf i).toNat)
  case atStart => exact ⟨0, Nat.zero_le _, rfl, Below.refl _ _⟩
  case round =>
    obtain ⟨k, hk, rfl, hb⟩ := hrel
    by_cases hlt : k < ps.length
    · obtain ⟨b, off, rfl, hbB, hc⟩ := hsome (by omega)
      obtain ⟨hx1, hx2, hx3⟩ := HP.out.2 ps[k] (List.getElem_mem hlt)
      obtain ⟨lo, lc, el⟩ := hx3.form
      have c0 : wr.cell? ⟨b, off + k * 2, none⟩ = some (.string ps[k].name) := by rw [show off + k * 2 = off + (k * 2 + 0) from by omega, hb.cell (p := ⟨b, off + (k * 2 + 0), none⟩) hbB, hc (k * 2 + 0) (by omega), prof_get0 ps k hlt]
      have c1 : wr.cell? ⟨b, off + k * 2 + 1, none⟩ = some (.slice lo ps[k].rings.length lc) := by rw [show off + k * 2 + 1 = off + (k * 2 + 1) from by omega, hb.cell (p := ⟨b, off + (k * 2 + 1), none⟩) hbB, hc (k * 2 + 1) (by omega), prof_get1 ps k hlt, el]
      have hbr : b < wr.heap.size := Nat.lt_of_lt_of_le hbB hb.size
      have HC := Lib.hid (impl_PlaceMoulds1 ps[k] lo lc wr hx1 ((el ▸ hx3 : Rd w.heap.size w (.slice lo ps[k].rings.length lc) 3 ps[k].rings.length (ps[k].rings.flatMap Ring.put)).up hb) hx2)
      have HB := Lib.hid hb
      clear hc hsome hnil hb hx1 hx2 hx3 el
      go_wp2_with fail
      go_at_call 17
      refine HC.out.mono ?_; rintro e1 w1 ⟨rfl, b1⟩
      have HB1 := Lib.hid (HB.out.trans (b1.mono HB.out.size)); clear b1 HB
      go_wp2_with fail
      go_roundw
      case rel => exact ⟨k + 1, by omega, by go_num, HB1.out⟩
      case measure => simp [intOf]; omega
    · go_wp2
      go_ret
      exact ⟨rfl, hb⟩
theorem ContainsFunc_Profs (w : World) (v : Value) (ps : List Profile) (h : Profs w v ps) (hn : ps.length ≤ 8) :
    Calls Try.prog 16 #[v, .func (.func 17) #[] #[]] w fun e w' => e = .returned (.bool false) ∧ Below w.heap.size w w' := by
  have H2 := Lib.hid (IndexFunc_Profs w v ps h hn)
  clear h
  go_enter Try.func16, Try.ntmps16
  go_wp2_with fail
  refine H2.out.mono ?_; rintro e w1 ⟨rfl, b1⟩
  go_wp2_with fail
  go_ret
  exact ⟨rfl, b1⟩

theorem own_base0 {w : World} {base n s : Nat} {E : TypeId} {v : Value} {L : List Value} (h : w.ownsRow base E s v n L) : w.ownsRow 0 E s v n L := by
  obtain ⟨h1, h2⟩ := h
  refine ⟨h1, ?_⟩
  rcases h2 with h2 | ⟨g, cap, cur, rfl, hg0, rest⟩
  · exact .inl h2
  · exact .inr ⟨g, cap, cur, rfl, Nat.zero_le _, rest⟩
theorem own_baseP {w : World} {base base' n s : Nat} {E : TypeId} {v : Value} {L : List Value} (h : w.ownsRow base E s v n L) (hb : base' ≤ base) : w.ownsRow base' E s v n L := by
  obtain ⟨h1, h2⟩ := h
  refine ⟨h1, ?_⟩
  rcases h2 with h2 | ⟨g, cap, cur, rfl, hg0, rest⟩
  · exact .inl h2
  · exact .inr ⟨g, cap, cur, rfl, Nat.le_trans hb hg0, rest⟩
/-- lists of one's own -/
def ChoO (w : World) : List Value → List (List Nat) → Prop
  | [], [] => True
  | l :: ls, c :: cs => w.ownsRow 0 2 1 l c.length ((intsN c).flatMap putI) ∧ ChoO w ls cs
  | _, _ => False
theorem ChoO.below {w w' : World} : ∀ {ls : List Value} {cs : List (List Nat)}, ChoO w ls cs → Below w.heap.size w w' → ChoO w' ls cs
  | [], [], _, _ => trivial
  | _ :: _, _ :: _, h, b => ⟨own_below h.1 b (Nat.le_refl _), ChoO.below h.2 b⟩
theorem ChoO.rd {w : World} : ∀ {ls : List Value} {cs : List (List Nat)}, ChoO w ls cs → Cho w.heap.size w ls cs
  | [], [], _ => trivial
  | _ :: _, _ :: _, h => ⟨own_rd h.1, ChoO.rd h.2⟩
theorem ChoO.snoc {w : World} {l : Value} {c : List Nat} (hl : w.ownsRow 0 2 1 l c.length ((intsN c).flatMap putI)) : ∀ {ls : List Value} {cs : List (List Nat)}, ChoO w ls cs → ChoO w (ls ++ [l]) (cs ++ [c])
  | [], [], _ => ⟨hl, trivial⟩
  | _ :: _, _ :: _, h => ⟨h.1, ChoO.snoc hl h.2⟩
theorem own_keepK {w w' : World} {base base' s n s' n' : Nat} {E E' : TypeId} {v v' : Value} {L L' : List Value} (h : w.ownsRow base E s v n L) (k : w.ownsRow base' E' s' v' n' L') (hne : E' ≠ E)
    (hK : ∀ b E' L', Own w b E' L' → (∀ g', v'.ownBlock = some g' → g' ≠ b) → Own w' b E' L') : w'.ownsRow base E s v n L := by
  obtain ⟨h1, h2⟩ := h
  refine ⟨h1, ?_⟩
  rcases h2 with h2 | ⟨g1, cap, cur, rfl, hg0, hg1, rest⟩
  · exact .inl h2
  · have o : Own w g1 E cur.toList := by unfold Own; simpa using hg1
    have o' := hK g1 E cur.toList o (own_apart_type k o hne)
    refine .inr ⟨g1, cap, cur, rfl, hg0, ?_, rest⟩
    unfold Own at o'
    simpa using o'
theorem ChoO.keepK {w w' : World} {base' s' n' : Nat} {E' : TypeId} {v' : Value} {L' : List Value} (k : w.ownsRow base' E' s' v' n' L') (hne : E' ≠ 2)
    (hK : ∀ b E' L', Own w b E' L' → (∀ g', v'.ownBlock = some g' → g' ≠ b) → Own w' b E' L') : ∀ {ls : List Value} {cs : List (List Nat)}, ChoO w ls cs → ChoO w' ls cs
  | [], [], _ => trivial
  | _ :: _, _ :: _, h => ⟨own_keepK h.1 k hne hK, ChoO.keepK k hne hK h.2⟩
theorem Cho.drop {B : Nat} {w : World} : ∀ {ls : List Value} {cs : List (List Nat)} (j : Nat), Cho B w ls cs → Cho B w (ls.drop j) (cs.drop j)
  | [], [], _, _ => by simp [Cho]
  | _ :: _, _ :: _, 0, h => h
  | _ :: _, _ :: _, j + 1, h => Cho.drop j h.2
theorem Cho.at {B : Nat} {w : World} : ∀ {ls : List Value} {cs : List (List Nat)} (j : Nat) (h1 : j < ls.length) (h2 : j < cs.length), Cho B w ls cs → Rd B w ls[j] 1 cs[j].length ((intsN cs[j]).flatMap putI)
  | _ :: _, _ :: _, 0, _, _, h => h.1
  | _ :: _, _ :: _, j + 1, h1, h2, h => Cho.at j (by simpa using h1) (by simpa using h2) h.2
theorem info_sl : (Try.prog.info? 32).map (fun i => (i.zero, i.size, i.bytes)) = some (some (.slice none 0 0), 1, 24) := by kernel_rfl
theorem find_next {p : Nat → Bool} {c : List Nat} {j : Nat} (h : j < c.length) (h1 : (c.take j).find? p = none) (h2 : p c[j] = false) : (c.take (j + 1)).find? p = none := by
  rw [List.take_succ_eq_append_getElem h, List.find?_append, h1]
  simp [h2]
theorem find_now {p : Nat → Bool} {c : List Nat} {j : Nat} (h : j < c.length) (h1 : (c.take j).find? p = none) (h2 : p c[j] = true) : c.find? p = some c[j] := by
  have e : c = c.take j ++ c[j] :: c.drop (j + 1) := by rw [← List.drop_eq_getElem_cons h, List.take_append_drop]
  have e2 : (c.take j ++ c[j] :: c.drop (j + 1)).find? p = some c[j] := by rw [List.find?_append, h1, List.find?_cons, h2]; rfl
  rwa [← e] at e2
def prdU (cs : List (List Nat)) (u left : Nat) (k : Nat) : Bool := !bitU u k && (1 + mostU cs (setU u k) == left)
theorem placeU_some {c : List Nat} {cs : List (List Nat)} {u left k : Nat} (h : c.find? (prdU cs u left) = some k) : placeU (c :: cs) u left = some k :: placeU cs (setU u k) (left - 1) := by
  show (match c.find? (prdU cs u left) with | some k => some k :: placeU cs (setU u k) (left - 1) | none => none :: placeU cs u left) = _
  rw [h]
theorem placeU_none {c : List Nat} {cs : List (List Nat)} {u left : Nat} (h : c.find? (prdU cs u left) = none) : placeU (c :: cs) u left = none :: placeU cs u left := by
  show (match c.find? (prdU cs u left) with | some k => some k :: placeU cs (setU u k) (left - 1) | none => none :: placeU cs u left) = _
  rw [h]
theorem numsnoc (p : List (Option Nat)) (o : Option Nat) : ((p ++ [o]).map numP).flatMap putI = (p.map numP).flatMap putI ++ [.int .i64 (numP o)] := by rw [List.map_append, List.flatMap_append]; rfl
def choices (ps : List Profile) (wall : Int) (hs : List Hole) : List (List Nat) := ps.map fun x => fitsN x wall hs hs.length
theorem choices_take (ps : List Profile) (wall : Int) (hs : List Hole) (k : Nat) (h : k < ps.length) : (choices ps wall hs).take (k + 1) = (choices ps wall hs).take k ++ [fitsN ps[k] wall hs hs.length] := by
  unfold choices
  rw [List.take_succ_eq_append_getElem (by rw [List.length_map]; exact h), List.getElem_map]
theorem choices_ok {ps : List Profile} {wall : Int} {hs : List Hole} (hn : hs.length ≤ 4) : ∀ c ∈ choices ps wall hs, c.length ≤ 8 ∧ ∀ k ∈ c, k < 4 := by
  intro c hc
  obtain ⟨x, _, rfl⟩ := List.mem_map.1 hc
  exact ⟨by have := fitsN_len x wall hs hs.length; omega, fun k hk => by have := fitsN_mem hk; omega⟩
set_option maxHeartbeats 4000000 in
/-- the first half: the choices are made -/
theorem impl_PlaceMoulds (w : World) (v : Value) (ps : List Profile) (wall : Int) (hvv : Value) (hs : List Hole) (hP : Profs w v ps) (hps : ps.length ≤ 8) (hp1 : 1 ≤ ps.length) (hw : 1 ≤ wall ∧ wall ≤ 150000) (hh : Rd w.heap.size w hvv 3 hs.length (hs.flatMap Hole.put)) (hn : hs.length ≤ 4) (hok : ∀ x ∈ hs, x.ok) (hvh : validHoleS hs = true) :
    Calls Try.prog 8 #[v, .int .i64 wall, hvv] w fun e w' => ∃ r : Value, e = .returned (.tuple #[r, .int .i64 0]) ∧ w'.ownsRow w.heap.size 2 1 r ps.length (((placeU (choices ps wall hs) 0 (mostU (choices ps wall hs) 0)).map numP).flatMap putI) ∧ Below w.heap.size w w' := by
  have HCF := Lib.hid (ContainsFunc_Profs w v ps hP hps)
  have HVH : Hid (∀ w', Below w.heap.size w w' → Calls Try.prog 19 #[hvv] w' fun e w'' => e = .returned (.bool true) ∧ Below w'.heap.size w' w'') := Lib.hid (fun w' b => by have q := impl_validHole w' hvv hs (hh.up b) (by omega) hok; rw [hvh] at q; exact q)
  have HMW := Lib.hid (fun w' : World => impl_isMouldWall_is (r := true) wall w' (inB_mk hw))
  have HPF := Lib.hid hP
  have HHF := Lib.hid (fun (w' : World) (b : Below w.heap.size w w') (k : Nat) (hk : k < ps.length) (lo : Option Addr) (lc : Nat) (el : ps[k].list = .slice lo ps[k].rings.length lc) => impl_holesFor w' ps[k] lo lc wall hvv hs (el ▸ ((hP.2 ps[k] (List.getElem_mem hk)).2.2.up b)) (profB_true (hP.2 ps[k] (List.getElem_mem hk)).2.1).2.1 (profB_true (hP.2 ps[k] (List.getElem_mem hk)).2.1).2.2.1 hw (hh.up b) (by omega))
  have HCK := Lib.hid (choices_ok (ps := ps) (wall := wall) hn)
  have HCT := Lib.hid (fun k hk => choices_take ps wall hs k hk)
  have HCL : Hid ((choices ps wall hs).length = ps.length) := Lib.hid (by unfold choices; rw [List.length_map])
  obtain ⟨hL, ao, cap, rfl, hcap, hmax, hnil, hsome⟩ := hP.1
  obtain ⟨b, off, rfl, hbB, hc⟩ := hsome (by omega)
  obtain ⟨ho, hcp, rfl⟩ := hh.form
  have tl8 : decide ((8 : Int) < (ps.length : Int)) = false := decide_eq_false (by omega)
  obtain ⟨i1, hi, hz0, hz1, hz2⟩ := info_parts info_sl
  obtain ⟨i0, ji, jz0, jz1, jz2⟩ := info_parts info_i64
  generalize hCS : choices ps wall hs = CS at *
  obtain ⟨PP, hPP⟩ : ∃ PP, placeU CS 0 (mostU CS 0) = PP := ⟨_, rfl⟩
  rw [hPP]
  have HPP := Lib.hid hPP
  clear hP hh hok hvh hsome hnil hCS hL hPP
  go_enter Try.func8, Try.ntmps8
  go_wp2_with fail
  refine HCF.out.mono ?_; rintro e w1 ⟨rfl, b1⟩
  have HB1 := Lib.hid b1; clear b1
  go_wp2_with fail
  refine (HVH.out _ HB1.out).mono ?_; rintro e w2 ⟨rfl, b2⟩
  have HB2 := Lib.hid (bnext HB1.out b2); clear b2 HB1 HCF HVH
  go_wp2_with (go_at_call 20; refine (HMW.out _).mono ?_; rintro e w' ⟨rfl, rfl⟩)
  go_loopw [8, 37] (fun r i wr => ∃ (k : Nat) (ls : List Value), k ≤ ps.length ∧ i = .int .i64 k ∧ ls.length = k ∧ wr.ownsRow w.heap.size 32 1 r k ls ∧ ChoO wr ls (CS.take k) ∧ Below w.heap.size w wr) (fun _ i _ => ps.length - (intOf i).toNat)
  case atStart => exact ⟨0, [], Nat.zero_le _, rfl, rfl, own_nil _ _ _ _, trivial, HB2.out⟩
  case round =>
    clear HB2 tl8
    obtain ⟨k, ls, hk, rfl, hls, hown, hcho, hb⟩ := hrel
    have HO := Lib.hid hown
    have HCH := Lib.hid hcho
    have HLS := Lib.hid hls
    obtain ⟨ro, rx, er⟩ := (own_rd hown).form
    subst er
    clear hown hcho hls
    by_cases hlt : k < ps.length
    · obtain ⟨lo, lc, el⟩ := (HPF.out.2 ps[k] (List.getElem_mem hlt)).2.2.form
      have c0 : wr.cell? ⟨b, off + k * 2, none⟩ = some (.string ps[k].name) := by rw [show off + k * 2 = off + (k * 2 + 0) from by omega, hb.cell (p := ⟨b, off + (k * 2 + 0), none⟩) hbB, hc (k * 2 + 0) (by omega), prof_get0 ps k hlt]
      have c1 : wr.cell? ⟨b, off + k * 2 + 1, none⟩ = some (.slice lo ps[k].rings.length lc) := by rw [show off + k * 2 + 1 = off + (k * 2 + 1) from by omega, hb.cell (p := ⟨b, off + (k * 2 + 1), none⟩) hbB, hc (k * 2 + 1) (by omega), prof_get1 ps k hlt, el]
      have hbr : b < wr.heap.size := Nat.lt_of_lt_of_le hbB hb.size
      have hws := hb.size
      have HF := Lib.hid (fun (w' : World) (b' : Below w.heap.size w w') => HHF.out w' b' k hlt lo lc el)
      have HBA : Hid (Below w.heap.size w (wr.alloc (.cells #[.string ps[k].name, .slice lo ps[k].rings.length lc] 28))) := Lib.hid (hb.alloc hws _)
      have HOA : Hid ((wr.alloc (.cells #[.string ps[k].name, .slice lo ps[k].rings.length lc] 28)).ownsRow w.heap.size 32 1 (.slice ro k rx) k ls) := Lib.hid (HO.out.alloc _)
      have HCA : Hid (ChoO (wr.alloc (.cells #[.string ps[k].name, .slice lo ps[k].rings.length lc] 28)) ls (CS.take k)) := Lib.hid (HCH.out.below ((Below.refl _ _).alloc (Nat.le_refl _) _))
      have HT := Lib.hid (HCT.out k hlt)
      clear hc hb el HO HCH
      go_wp2_with fail
      refine (HF.out _ (by exact HBA.out)).mono ?_; rintro e w3 ⟨r3, rfl, own3, b3⟩
      have HB3 := Lib.hid (bnext HBA.out b3)
      have HO3 := Lib.hid (own_below HOA.out b3 (Nat.le_refl _))
      have HL3 := Lib.hid (own_base0 own3)
      have HC3 := Lib.hid ((HCA.out.below b3).snoc HL3.out)
      obtain ⟨o3, cp3, er3⟩ := (own_rd own3).form
      subst er3
      have hw3 : w.heap.size ≤ w3.heap.size := HB3.out.size
      clear own3 b3 HBA HOA HCA HF
      generalize (fitsN ps[k] wall hs hs.length).length = n3 at *
      go_wp2_with (at_builtin; refine app_elK rfl _ _ 50 32 i1 (.slice none 0 0) 1 24 Try.underlying50 hi hz0 hz1 hz2 (by rfl) (by decide) rfl w3 w.heap.size _ k ls (by rfl) HO3.out [.slice o3 n3 cp3] rfl (by intro u hu; simp at hu; subst hu; rfl) (by rfl) (by omega) (by decide) hw3 rfl ?_; intro g8 gc8 w8 hown8 hB8 hK8 hz8; have HB8 := Lib.hid (hB8 w HB3.out); have HO8 := Lib.hid hown8; have HC8 := Lib.hid (HC3.out.keepK HO3.out (by decide) hK8); clear hown8 hB8 hK8)
      go_roundw
      case rel => exact ⟨k + 1, ls ++ [.slice o3 n3 cp3], by omega, by go_num, by rw [List.length_append, HLS.out]; rfl, HO8.out, by rw [HT.out]; exact HC8.out, HB8.out⟩
      case measure => simp [intOf]; omega
    · obtain rfl : k = ps.length := by omega
      have ek : Hid (CS.take ps.length = CS) := Lib.hid (List.take_of_length_le (by rw [HCL.out]; exact Nat.le_refl _))
      rw [ek.out] at HCH
      have hro : ∃ gc, ro = some ⟨gc, 0, none⟩ := by
        rcases own_form HO.out with ⟨q, _⟩ | ⟨g, cp, q⟩
        · injection q with q1 q2 q3; omega
        · injection q with q1 q2 q3; exact ⟨g, q1⟩
      obtain ⟨gc, rfl⟩ := hro
      have hrx : ps.length ≤ rx := by
        obtain ⟨_, _, _, q, q1, _⟩ := own_rd HO.out
        injection q with q2 q3 q4; subst q4; exact q1
      obtain ⟨wq, rfl⟩ : ∃ wq : World, wq = wr := ⟨_, rfl⟩
      have HM : Hid (Calls Try.prog 22 #[.slice (some ⟨gc, 0, none⟩) ps.length rx, .int .i64 0] wq fun e w' => e = .returned (.int .i64 (mostU CS 0)) ∧ Below wq.heap.size wq w') := Lib.hid (impl_mostPlaced CS wq _ ls 0 (by rw [HCL.out]; exact own_rd HO.out) HCH.out.rd (by rw [HCL.out]; exact hps) HCK.out (by decide))
      have HR := Lib.hid (own_rd HO.out)
      have HCR := Lib.hid HCH.out.rd
      have HB := Lib.hid hb
      have hM8 : mostU CS 0 ≤ 8 := by have := mostU_le CS 0; rw [HCL.out] at this; omega
      clear hc hb HO HCH HHF HCT hi hz0 hz1 hz2 HPF HMW
      generalize mostU CS 0 = M at *
      go_wp2_with fail
      refine HM.out.mono ?_; rintro e w5 ⟨rfl, b5⟩
      have HR5 := Lib.hid (HR.out.up b5)
      have HC5 := Lib.hid (HCR.out.up b5 b5.size)
      have HB5 := Lib.hid (bnext HB.out b5)
      have hw5 : w.heap.size ≤ w5.heap.size := HB5.out.size
      clear b5 HR HCR HB HM
      go_wp2_with fail
      go_loopw [11, 12, 13, 53] (fun lf us pl i wr => ∃ (k U Lf : Nat) (p : List (Option Nat)), k ≤ ps.length ∧ i = .int .i64 k ∧ lf = .int .i64 Lf ∧ us = .int .i64 U ∧ U < 16 ∧ Lf ≤ 8 ∧ p ++ placeU (CS.drop k) U Lf = PP ∧ wr.ownsRow w5.heap.size 2 1 pl k ((p.map numP).flatMap putI) ∧ Below w5.heap.size w5 wr) (fun _ _ _ i _ => ps.length - (intOf i).toNat)
      case atStart => exact ⟨0, 0, M, [], Nat.zero_le _, rfl, rfl, rfl, by decide, hM8, HPP.out, own_nil _ _ _ _, Below.refl _ _⟩
      case round =>
        clear hM8 HPP
        obtain ⟨k, U, Lf, p, hk, rfl, rfl, rfl, hU, hLf, hpp, hown, hb⟩ := hrel
        have HPP := Lib.hid hpp
        have HO := Lib.hid hown
        obtain ⟨po, px, ep⟩ := (own_rd hown).form
        subst ep
        obtain ⟨wo, rfl⟩ : ∃ wo : World, wo = wr := ⟨_, rfl⟩
        clear hpp hown
        by_cases hlt : k < ps.length
        · have hkC : k < CS.length := by rw [HCL.out]; exact hlt
          have hkL : k < ls.length := by rw [HLS.out]; exact hlt
          have HCk := Lib.hid (HC5.out.at k hkL hkC)
          obtain ⟨lo, lc, el⟩ := HCk.out.form
          rw [el] at HCk
          have HK4 := Lib.hid (HCK.out _ (List.getElem_mem hkC))
          have HDR : Hid (CS.drop k = CS[k] :: CS.drop (k + 1)) := Lib.hid (List.drop_eq_getElem_cons hkC)
          have x0 : wo.cell? ⟨gc, k, none⟩ = some (.slice lo CS[k].length lc) := by
            obtain ⟨_, a1, a2, a3, _, _, _, a4⟩ := HR5.out
            obtain ⟨d1, d2, d3, d4, d5⟩ := a4 (by omega)
            cases a3
            cases d3
            rw [hb.cell (p := ⟨gc, k, none⟩) d4]
            have := d5 k (by omega)
            rw [Nat.zero_add] at this
            rw [this, List.getElem?_eq_getElem hkL, el]
          have hgc : gc < wo.heap.size := by
            obtain ⟨_, a1, a2, a3, _, _, _, a4⟩ := HR5.out
            obtain ⟨d1, d2, d3, d4, d5⟩ := a4 (by omega)
            cases a3
            cases d3
            exact Nat.lt_of_lt_of_le d4 hb.size
          have HMX : Hid (∀ (W x : World) (v' : Value) (n : Nat), Below w5.heap.size w5 W → n < 16 → Rd w5.heap.size w5 v' 1 (ps.length - (k + 1)) (ls.drop ((k + 1) * 1)) → Calls Try.prog 22 #[v', .int .i64 n] (above W x) fun e w'' => e = .returned (.int .i64 (mostU (CS.drop (k + 1)) n)) ∧ Below (above W x).heap.size (above W x) w'') := Lib.hid (fun W x v' n hW hn h' => impl_mostPlaced (CS.drop (k + 1)) (above W x) v' (ls.drop (k + 1)) n (by rw [List.length_drop, HCL.out]; rw [Nat.mul_one] at h'; exact ((h'.up hW).up (above_below W x))) (((HC5.out.drop (k + 1)).up hW hW.size).up (above_below W x) (above_below W x).size) (by rw [List.length_drop, HCL.out]; omega) (fun c hc => HCK.out c (List.mem_of_mem_drop hc)) hn)
          have HML : Hid (∀ n, mostU (CS.drop (k + 1)) n ≤ 8) := Lib.hid (fun n => by have := mostU_le (CS.drop (k + 1)) n; rw [List.length_drop, HCL.out] at this; omega)
          have HBo := Lib.hid hb
          have hwo : w5.heap.size ≤ wo.heap.size := hb.size
          clear hb el
          generalize CS[k] = c at *
          obtain ⟨DS, hDS⟩ : ∃ DS, CS.drop (k + 1) = DS := ⟨_, rfl⟩
          rw [hDS] at HDR HMX HML
          have HDS := Lib.hid hDS
          clear hDS
          go_wp2_with fail
          go_loopw [11, 12, 16, 60] (fun lf us pc i wr => ∃ (j : Nat), j ≤ c.length ∧ i = .int .i64 j ∧ lf = .int .i64 Lf ∧ us = .int .i64 U ∧ pc = .int .i64 (-1) ∧ (c.take j).find? (prdU DS U Lf) = none ∧ Below wo.heap.size wo wr) (fun _ _ _ i _ => c.length - (intOf i).toNat)
          case atStart => exact ⟨0, Nat.zero_le _, rfl, rfl, rfl, rfl, rfl, Below.refl _ _⟩
          case round =>
            obtain ⟨j, hj, rfl, rfl, rfl, rfl, hfn, hbr⟩ := hrel
            have HFN := Lib.hid hfn
            have HBr := Lib.hid (HBo.out.trans (hbr.mono hwo))
            have HOr := Lib.hid (own_below HO.out hbr (Nat.le_refl _))
            clear hfn
            by_cases hjl : j < c.length
            · obtain ⟨hc1, hc2⟩ := HK4.out
              have hk4 : c[j] < 4 := hc2 _ (List.getElem_mem hjl)
              obtain ⟨_, o2, cap2, e2, _, _, _, hs2⟩ := HCk.out
              cases e2
              obtain ⟨b2, off2, rfl, hbb2, hcc2⟩ := hs2 (by omega)
              have y0 : wr.cell? ⟨b2, off2 + j, none⟩ = some (.int .i64 (c[j] : Int)) := by rw [HBr.out.cell (p := ⟨b2, off2 + j, none⟩) hbb2, hcc2 j (by omega), intsN_get c j hjl]
              have hbr2 : b2 < wr.heap.size := Nat.lt_of_lt_of_le hbb2 HBr.out.size
              have HNX : Hid (prdU DS U Lf c[j] = false → (c.take (j + 1)).find? (prdU DS U Lf) = none) := Lib.hid (find_next hjl HFN.out)
              have HNW : Hid (prdU DS U Lf c[j] = true → c.find? (prdU DS U Lf) = some c[j]) := Lib.hid (find_now hjl HFN.out)
              clear hs2 hcc2 hc2
              generalize c[j] = kk at *
              have hand := bits_and4 U hU kk hk4
              have hor := bits_or4 U hU kk hk4
              cases hbit : bitU U kk with
              | true =>
                have tb : ¬ bits BinOp.and IntKind.i64 ((U : Int) / 2 ^ kk) 1 = 0 := by rw [hand, hbit]; decide
                have tb2 : (bits BinOp.and IntKind.i64 ((U : Int) / 2 ^ kk) 1 == 0) = false := beq_eq_false_iff_ne.2 tb
                have HNN := Lib.hid (HNX.out (by unfold prdU; rw [hbit]; rfl))
                have HBB := Lib.hid hbr
                clear hand hor hbit hbr HNX HNW
                go_wp2_with fail
                refine wp_region_above (by kernel_rfl) (by kernel_rfl) ?_
                repeat (go_big_quiet_step ((fail)))
                refine wpQuiet_nil ?_
                intro w8 b8
                have HB8 := Lib.hid (bnext HBB.out b8)
                clear b8
                go_wp2_with fail
                go_roundw
                case rel => exact ⟨j + 1, by omega, by go_num, rfl, rfl, rfl, HNN.out, HB8.out⟩
                case measure => simp [intOf]; omega
              | false =>
                have tb : bits BinOp.and IntKind.i64 ((U : Int) / 2 ^ kk) 1 = 0 := by rw [hand, hbit]; rfl
                have tb2 : (bits BinOp.and IntKind.i64 ((U : Int) / 2 ^ kk) 1 == 0) = true := beq_iff_eq.2 tb
                have HMC := Lib.hid (fun (x : World) (v' : Value) h' => HMX.out wr x v' (setU U kk) HBr.out (setU_lt U hU kk hk4) h')
                have hm8 := HML.out (setU U kk)
                have hpd : prdU DS U Lf kk = (1 + mostU DS (setU U kk) == Lf) := by unfold prdU; rw [hbit]; rfl
                have HBB := Lib.hid hbr
                obtain ⟨m, hm⟩ : ∃ m, mostU DS (setU U kk) = m := ⟨_, rfl⟩
                rw [hm] at hpd hm8
                have HMC2 : Hid (∀ (x : World) (v' : Value), Rd w5.heap.size w5 v' 1 (ps.length - (k + 1)) (ls.drop ((k + 1) * 1)) → Calls Try.prog 22 #[v', .int .i64 (setU U kk : Nat)] (above wr x) fun e w'' => e = .returned (.int .i64 m) ∧ Below (above wr x).heap.size (above wr x) w'') := Lib.hid (fun x v' h' => hm ▸ HMC.out x v' h')
                clear hand hbit hbr hm HMC
                by_cases hml : 1 + m = Lf
                · have te : ((1 : Int) + (m : Int) == (Lf : Int)) = true := beq_iff_eq.2 (by omega)
                  have HF := Lib.hid (HNW.out (by rw [hpd]; exact beq_iff_eq.2 hml))
                  clear HNX HNW hpd
                  go_wp2_with fail
                  refine wp_region_above (by kernel_rfl) (by kernel_rfl) ?_
                  repeat (go_big_quiet_step (((go_at_call 22; exact aboveC (HMC2.out _ _ (HR5.out.dropI (by omega) (by omega) (by omega) (by omega)))))))
                  refine wpQuiet_nil ?_
                  intro w8 b8
                  have HB8 := Lib.hid (bnext HBB.out b8)
                  have HO8 := Lib.hid (own_below HO.out HB8.out (Nat.le_refl _))
                  have HBz := Lib.hid (HBo.out.trans (HB8.out.mono hwo))
                  have hw8 : w5.heap.size ≤ w8.heap.size := HBz.out.size
                  have ES : Hid ((p ++ [some kk]) ++ placeU DS (setU U kk) (Lf - 1) = PP) := Lib.hid (by
                    have := HPP.out
                    rw [HDR.out, placeU_some HF.out] at this
                    rw [List.append_assoc]; exact this)
                  clear b8 HB8
                  go_wp2_with (at_builtin; refine app_elK rfl _ _ 32 2 i0 (.int .i64 0) 1 8 Try.underlying32 ji jz0 jz1 jz2 (by rfl) (by decide) rfl w8 w5.heap.size _ k ((p.map numP).flatMap putI) (by rfl) HO8.out [.int .i64 (kk : Int)] rfl (by intro u hu; simp at hu; subst hu; rfl) (by rfl) (by omega) (by decide) hw8 rfl ?_; intro g9 gc9 w9 hown9 hB9 hK9 hz9; have HB9 := Lib.hid (hB9 w5 HBz.out); have HO9 := Lib.hid hown9; clear hown9 hB9 hK9)
                  go_roundw
                  case rel => exact ⟨k + 1, setU U kk, Lf - 1, p ++ [some kk], by omega, by go_num, by congr 1; omega, rfl, setU_lt U hU kk hk4, by omega, by rw [HDS.out]; exact ES.out, by rw [numsnoc]; exact HO9.out, HB9.out⟩
                  case measure => simp [intOf]; omega
                · have te : ((1 : Int) + (m : Int) == (Lf : Int)) = false := beq_eq_false_iff_ne.2 (by omega)
                  have HNN := Lib.hid (HNX.out (by rw [hpd]; exact beq_eq_false_iff_ne.2 hml))
                  clear HNX HNW hpd
                  go_wp2_with fail
                  refine wp_region_above (by kernel_rfl) (by kernel_rfl) ?_
                  repeat (go_big_quiet_step (((go_at_call 22; exact aboveC (HMC2.out _ _ (HR5.out.dropI (by omega) (by omega) (by omega) (by omega)))))))
                  refine wpQuiet_nil ?_
                  intro w8 b8
                  have HB8 := Lib.hid (bnext HBB.out b8)
                  clear b8
                  go_wp2_with fail
                  go_roundw
                  case rel => exact ⟨j + 1, by omega, by go_num, rfl, rfl, rfl, HNN.out, HB8.out⟩
                  case measure => simp [intOf]; omega
            · have hfc : c.find? (prdU DS U Lf) = none := by have := HFN.out; rwa [List.take_of_length_le (by omega)] at this
              have HO8 := Lib.hid (own_below HO.out hbr (Nat.le_refl _))
              have HBz := Lib.hid (HBo.out.trans (hbr.mono hwo))
              have hw8 : w5.heap.size ≤ wr.heap.size := HBz.out.size
              have ES : Hid ((p ++ [none]) ++ placeU DS U Lf = PP) := Lib.hid (by
                have := HPP.out
                rw [HDR.out, placeU_none hfc] at this
                rw [List.append_assoc]; exact this)
              clear hfc hbr
              go_wp2_with (at_builtin; refine app_elK rfl _ _ 32 2 i0 (.int .i64 0) 1 8 Try.underlying32 ji jz0 jz1 jz2 (by rfl) (by decide) rfl wr w5.heap.size _ k ((p.map numP).flatMap putI) (by rfl) HO8.out [.int .i64 (-1)] rfl (by intro u hu; simp at hu; subst hu; rfl) (by rfl) (by omega) (by decide) hw8 rfl ?_; intro g9 gc9 w9 hown9 hB9 hK9 hz9; have HB9 := Lib.hid (hB9 w5 HBz.out); have HO9 := Lib.hid hown9; clear hown9 hB9 hK9)
              go_roundw
              case rel => exact ⟨k + 1, U, Lf, p ++ [none], by omega, by go_num, rfl, rfl, hU, hLf, by rw [HDS.out]; exact ES.out, by rw [numsnoc]; exact HO9.out, HB9.out⟩
              case measure => simp [intOf]; omega
        · obtain rfl : k = ps.length := by omega
          have ep : Hid (p = PP) := Lib.hid (by
            have := HPP.out
            rw [List.drop_eq_nil_of_le (by rw [HCL.out]; exact Nat.le_refl _)] at this
            simpa [placeU] using this)
          have HBf := Lib.hid (HB5.out.trans (hb.mono hw5))
          clear hb
          go_wp2_with fail
          go_ret2
          exact ⟨_, rfl, by rw [← ep.out]; exact own_baseP HO.out hw5, HBf.out⟩
end Go.Proofs.Ytgjcmfacdnngjaa
