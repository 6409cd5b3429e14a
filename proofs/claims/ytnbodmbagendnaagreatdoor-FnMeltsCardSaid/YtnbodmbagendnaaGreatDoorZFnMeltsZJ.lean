/- Contracts and plain facts, joined: AddMI. -/
import Derived.Test.YtnbodmbagendnaaGreatDoorRows
import Derived.Test.YtnbodmbagendnaaGreatDoorZFnMeltsZC
import Derived.Test.YtnbodmbagendnaaGreatDoorZFnMeltsZH
import Derived.Test.YtnbodmbagendnaaGreatDoorZFnMeltsZI
import Derived.Deep.RegionWith
namespace Go.Proofs.YtnbodmbagendnaaGreatDoor
open Go.ChangeShapes Go.WideShapes Go.ChangeAt Go.RowKit Go.Deep Go.Joins
set_option linter.unusedVariables false
set_option maxRecDepth 100000
set_option linter.unusedSimpArgs false
/-- a copied list of melts -/
def CpM (base : Nat) (w : World) (r : Value) (os : List Melt) (gs : List Nat) (ms : List Melt) : Prop := w.ownsRow base 28 3 r os.length (os.flatMap Melt.put) ∧ Kids base w os gs ∧ os.map Melt.said = ms.map Melt.said
theorem CpM.below {base : Nat} {w w' : World} {r : Value} {os ms : List Melt} {gs : List Nat} (h : CpM base w r os gs ms) (b : Below w.heap.size w w') : CpM base w' r os gs ms := ⟨own_below h.1 b (Nat.le_refl _), h.2.1.below b, h.2.2⟩
/-- the list of a melt, copied -/
def KidX (base : Nat) (w : World) (gx cx : Nat) (x : Melt) : Prop := base ≤ gx ∧ x.ingots.length ≤ cx ∧ cx ≤ maxLen ∧ ∃ V, Own w gx 9 (x.ingots.flatMap putStr ++ V)
theorem KidX.below {base : Nat} {w w' : World} {gx cx : Nat} {x : Melt} (h : KidX base w gx cx x) (b : Below w.heap.size w w') : KidX base w' gx cx x := by
  obtain ⟨h1, h2, h3, V, h4⟩ := h
  exact ⟨h1, h2, h3, V, h4.below b h4.lt⟩
theorem KidX.lt {base : Nat} {w : World} {gx cx : Nat} {x : Melt} (h : KidX base w gx cx x) : gx < w.heap.size := by
  obtain ⟨_, _, _, V, h4⟩ := h
  exact h4.lt
theorem KidX.base {base base' : Nat} {w : World} {gx cx : Nat} {x : Melt} (h : KidX base w gx cx x) (hb : base' ≤ base) : KidX base' w gx cx x := ⟨Nat.le_trans hb h.1, h.2⟩
theorem Kids.ge {base : Nat} {w : World} {xs : List Melt} {gs : List Nat} (h : Kids base w xs gs) : ∀ g ∈ gs, base ≤ g := by
  intro g hg
  obtain ⟨i, hi, rfl⟩ := List.mem_iff_getElem.1 hg
  obtain ⟨V, c, _, _, _, e4, _⟩ := h.2.2 i (by have := h.1; omega) hi
  exact e4
theorem Nest.lower {lo lo' hi : Nat} {w : World} {v : Value} {xs : List Melt} (h : Nest lo hi w v xs) (hl : lo' ≤ lo) : Nest lo' hi w v xs := by
  obtain ⟨h1, gs, k, h3⟩ := h
  exact ⟨h1.wide hl (Nat.le_refl _), gs, k.base hl, h3⟩
theorem copy_x (w : World) (v : Value) (x : Melt) (h : RdM w.heap.size w v [x]) (h1 : 1 ≤ x.ingots.length) (h2 : x.ingots.length ≤ 1048576) :
    Calls Tryz.prog 29 #[v] w fun e w' => ∃ g c0 gx cx, e = .returned (.slice (some ⟨g, 0, none⟩) 1 c0) ∧ w.heap.size ≤ g ∧ g < w'.heap.size ∧ w'.cell? ⟨g, 0, none⟩ = some (.string x.id) ∧ w'.cell? ⟨g, 1, none⟩ = some (.slice (some ⟨gx, 0, none⟩) x.ingots.length cx) ∧ w'.cell? ⟨g, 2, none⟩ = some (.int .i64 x.mass) ∧ KidX w.heap.size w' gx cx x ∧ Below w.heap.size w w' := by
  refine (impl_copyMelts w v [x] h (by show 1 ≤ 1048575; decide) (fun y hy => by rw [List.mem_singleton.1 hy]; exact ⟨h1, h2⟩)).mono ?_
  rintro e w' ⟨r, os, gs, rfl, o, k, s, b⟩
  have hl : os.length = 1 := said_len s
  obtain ⟨y, rfl⟩ := List.length_eq_one_iff.1 hl
  obtain ⟨s0, s1, s2⟩ := said_at s 0 (by simp) (by simp)
  simp only [List.getElem_cons_zero] at s0 s1 s2
  obtain ⟨k1, k2, k3⟩ := k
  obtain ⟨gx, rfl⟩ := List.length_eq_one_iff.1 (show gs.length = 1 by rw [k1]; rfl)
  obtain ⟨V, c, e1, e2, e3, e4, e5⟩ := k3 0 (by simp) (by simp)
  simp only [List.getElem_cons_zero] at e1 e2 e4 e5
  rcases own_form o with ⟨_, q⟩ | ⟨g, cap, rfl⟩
  · simp at q
  obtain ⟨U, ou⟩ := own_block o
  have hg := o.lt g rfl
  have c0 := ou.cell 0
  have c1 := ou.cell 1
  have c2 := ou.cell 2
  rw [s1, s0, s2]
  refine ⟨g, cap, gx, c, rfl, hg.1, hg.2, c0, ?_, c2, ⟨e4, by rw [s1]; exact e2, e3, V, by rw [s1]; exact e5⟩, b⟩
  rw [c1, ← e1]; rfl
theorem ins_said {os ms : List Melt} {x y : Melt} (h : os.map Melt.said = ms.map Melt.said) (hy : y.said = x.said) (k : Nat) : (os.take k ++ y :: os.drop k).map Melt.said = (ms.take k ++ x :: ms.drop k).map Melt.said := by
  rw [List.map_append, List.map_append, List.map_cons, List.map_cons, List.map_take, List.map_drop, List.map_take, List.map_drop, h, hy]
/-- the melt is put in -/
theorem ins_fin (base : Nat) (w wD : World) (ms : List Melt) (x : Melt) (r : Value) (os : List Melt) (gs : List Nat) (k vb gx cx : Nat) (hc : CpM base wD r os gs ms) (hv : Own wD vb 28 [.string x.id, .slice (some ⟨gx, 0, none⟩) x.ingots.length cx, .int .i64 x.mass]) (hx : KidX base wD gx cx x) (hne : ∀ g, r.ownBlock = some g → vb ≠ g) (hgn : ∀ g' ∈ gs, g' ≠ gx) (hk : k ≤ ms.length) (hl : ms.length ≤ 12) (hb : Below base w wD) (hw : w.heap.size ≤ base) (hbz : base ≤ wD.heap.size) :
    Calls Tryz.prog 28 #[r, .int .i64 k, .slice (some ⟨vb, 0, none⟩) 1 1] wD fun e w' => ∃ r' os', e = .returned r' ∧ Nest w.heap.size w'.heap.size w' r' os' ∧ os'.map Melt.said = (ms.take k ++ x :: ms.drop k).map Melt.said ∧ Below w.heap.size w w' := by
  obtain ⟨o1, k1, s1⟩ := hc
  have hol := said_len s1
  obtain ⟨e1, e2, e3, V, e4⟩ := hx
  refine (ins_Melt wD base r os.length k (os.flatMap Melt.put) [.string x.id, .slice (some ⟨gx, 0, none⟩) x.ingots.length cx, .int .i64 x.mass] vb o1 (melt_cells os k1.forms) (by omega) (by omega) hv rfl (melt_one _ _ _ _ _) hne hbz).mono ?_
  rintro e w' ⟨ao, cap, rfl, o2, b2, kp⟩
  have hfl : (os.take k ++ (⟨x.id, .slice (some ⟨gx, 0, none⟩) x.ingots.length cx, x.ingots, x.mass⟩ : Melt) :: os.drop k).flatMap Melt.put = (os.flatMap Melt.put).take (k * 3) ++ ([.string x.id, .slice (some ⟨gx, 0, none⟩) x.ingots.length cx, .int .i64 x.mass] ++ (os.flatMap Melt.put).drop (k * 3)) := by
    rw [List.flatMap_append, List.flatMap_cons, take_put, drop_put]; rfl
  have hln : (os.take k ++ (⟨x.id, .slice (some ⟨gx, 0, none⟩) x.ingots.length cx, x.ingots, x.mass⟩ : Melt) :: os.drop k).length = os.length + 1 := by
    simp only [List.length_append, List.length_cons, List.length_take, List.length_drop]; omega
  have k2 : Kids base w' os gs := k1.kept fun b L o => kp.own o (own_apart_type o1 o (by decide))
  have e5 : Own w' gx 9 (x.ingots.flatMap putStr ++ V) := kp.own e4 (own_apart_type o1 e4 (by decide))
  have k3 := k2.insert (k := k) (by omega) (x := ⟨x.id, .slice (some ⟨gx, 0, none⟩) x.ingots.length cx, x.ingots, x.mass⟩) hgn rfl e2 e3 e1 e5
  refine ⟨_, _, rfl, Nest.of (own_base (by rw [hln, hfl]; exact o2) hw) (k3.base hw), ins_said (x := x) (y := ⟨x.id, .slice (some ⟨gx, 0, none⟩) x.ingots.length cx, x.ingots, x.mass⟩) s1 rfl k, ?_⟩
  exact (hb.trans b2).mono hw
theorem impl_AddMelt1 {b0 : Bool} (x y : Melt) (g : Nat) (l1 l2 : Value) (w : World) (g0 : w.cell? ⟨g, 0, none⟩ = some (.string x.id)) (g1 : w.cell? ⟨g, 1, none⟩ = some l1) (g2 : w.cell? ⟨g, 2, none⟩ = some (.int .i64 x.mass)) (hg : g < w.heap.size)
    (h1 : Rd w.heap.size w l1 1 x.ingots.length (x.ingots.flatMap putStr)) (h2 : Rd w.heap.size w l2 1 y.ingots.length (y.ingots.flatMap putStr)) (hn : x.ingots.length ≤ 1048576) (hn2 : y.ingots.length ≤ 1048576) (hb0 : commonB x.ingots y.ingots = b0) :
    Calls Tryz.prog 26 #[.agg #[.string y.id, l2, .int .i64 y.mass], .pointer (some ⟨g, 0, none⟩)] w fun e w' => e = .returned (.bool b0) ∧ Below w.heap.size w w' := by
  subst hb0
  obtain ⟨lo, lc, rfl⟩ := h1.form
  obtain ⟨lo2, lc2, rfl⟩ := h2.form
  have H1 := Lib.hid h1; clear h1
  have H2 := Lib.hid h2; clear h2
  go_enter Tryz.func26, Tryz.ntmps26
  go_wp2_with fail
  refine (impl_shares x y _ _ _ (by exact H1.out.up (by (repeat' (first | (with_reducible exact Below.refl _ _) | (with_reducible assumption) | (with_reducible refine below_dn ?_ _) | (with_reducible refine Below.drew ?_) | (with_reducible refine Below.alloc ?_ ?_ _) | (with_reducible refine Below.setCell ?_ ?_ _) | go_size)))) (by exact H2.out.up (by (repeat' (first | (with_reducible exact Below.refl _ _) | (with_reducible assumption) | (with_reducible refine below_dn ?_ _) | (with_reducible refine Below.drew ?_) | (with_reducible refine Below.alloc ?_ ?_ _) | (with_reducible refine Below.setCell ?_ ?_ _) | go_size)))) hn hn2 rfl).mono ?_; rintro e w1 ⟨rfl, b1⟩
  go_wp2_with fail
  go_ret
  exact ⟨rfl, Below.trans (by (repeat' (first | (with_reducible exact Below.refl _ _) | (with_reducible assumption) | (with_reducible refine below_dn ?_ _) | (with_reducible refine Below.drew ?_) | (with_reducible refine Below.alloc ?_ ?_ _) | (with_reducible refine Below.setCell ?_ ?_ _) | go_size))) (b1.mono (by first | omega | (simp <;> omega)))⟩

set_option maxHeartbeats 1000000 in
theorem IndexFunc_AddMelt1 (g : Nat) (w : World) (v : Value) (xs : List Melt) (p : Melt → Bool) (h : RdM w.heap.size w v xs) (hn : xs.length ≤ 1048576)
    (H : ∀ (wr : World) (hb : Below w.heap.size w wr) (k : Nat) (hk : k < xs.length) (lo : Option Addr) (lc : Nat) (hr : Rd wr.heap.size wr (.slice lo xs[k].ingots.length lc) 1 xs[k].ingots.length (xs[k].ingots.flatMap putStr)), Calls Tryz.prog 26 #[.agg #[.string xs[k].id, .slice lo xs[k].ingots.length lc, .int .i64 xs[k].mass], .pointer (some ⟨g, 0, none⟩)] wr fun e w' => e = .returned (.bool (p xs[k])) ∧ Below wr.heap.size wr w') :
    Calls Tryz.prog 61 #[v, .func (.func 26) #[] #[.pointer (some ⟨g, 0, none⟩)]] w fun e w' => (∃ r : Int, e = .returned (.int .i64 r) ∧ decide (0 ≤ r) = xs.any p) ∧ Below w.heap.size w w' := by
  obtain ⟨ao, cap, rfl, hcap, hmax, hsome⟩ := h
  go_enter Tryz.func61, Tryz.ntmps61
  have HH := Lib.hid H; clear H
  go_wp2
  go_loopw [8] (fun i wr => ∃ (k : Nat), k ≤ xs.length ∧ i = .int .i64 k ∧ (xs.take k).any p = false ∧ Below w.heap.size w wr) (fun i _ => xs.length - (intOf i).toNat)
  case atStart => exact ⟨0, Nat.zero_le _, rfl, rfl, Below.refl _ _⟩
  case round =>
    obtain ⟨k, hk, rfl, hall, hb⟩ := hrel
    have Hall := Lib.hid hall; clear hall
    by_cases hlt : k < xs.length
    · obtain ⟨b, off, rfl, hbB, hc⟩ := hsome (by omega)
      obtain ⟨l, p0, p1, p2, hr⟩ := hc k hlt
      obtain ⟨lo, lc, rfl⟩ := hr.form
      have c0 := (hb.cell (p := ⟨b, off + k * 3, none⟩) hbB).trans p0
      have c1 := (hb.cell (p := ⟨b, off + k * 3 + 1, none⟩) hbB).trans p1
      have c2 := (hb.cell (p := ⟨b, off + k * 3 + 2, none⟩) hbB).trans p2
      have hbr : b < wr.heap.size := Nat.lt_of_lt_of_le hbB hb.size
      have HC := Lib.hid (HH.out wr hb k hlt lo lc (hr.up hb)); clear HH
      have HB := Lib.hid hb
      clear hc hsome hb p0 p1 p2 hr
      cases hO : p xs[k]
      all_goals rw [hO] at HC
      · have e : Hid ((xs.take (k + 1)).any p = false) := (by rw [any_take xs k hlt, Hall.out, hO]; rfl : (xs.take (k + 1)).any p = false)
        clear hO
        go_wp2_with fail
        go_at_call 26
        refine HC.out.mono ?_; rintro e1 w1 ⟨rfl, b1⟩
        have HB1 := Lib.hid (HB.out.trans (b1.mono HB.out.size)); clear b1 HB
        go_wp2_with fail
        go_roundw
        case rel => exact ⟨k + 1, by omega, by go_num, e.out, HB1.out⟩
        case measure => simp [intOf]; omega
      · have e : Hid (xs.any p = true) := (any_at xs k hlt hO : xs.any p = true)
        clear hO
        go_wp2_with fail
        go_at_call 26
        refine HC.out.mono ?_; rintro e1 w1 ⟨rfl, b1⟩
        have HB1 := Lib.hid (HB.out.trans (b1.mono HB.out.size)); clear b1 HB
        go_wp2_with fail
        go_ret
        exact ⟨⟨_, rfl, by rw [e.out]; simp⟩, HB1.out⟩
    · have e : Hid (xs.any p = false) := (by
        have := Hall.out
        rwa [List.take_of_length_le (by omega)] at this : xs.any p = false)
      clear HH
      go_wp2
      go_ret
      exact ⟨⟨_, rfl, by rw [e.out]; rfl⟩, hb⟩

theorem ContainsFunc_AddMelt1 (g : Nat) (w : World) (v : Value) (xs : List Melt) (p : Melt → Bool) (h : RdM w.heap.size w v xs) (hn : xs.length ≤ 1048576)
    (H : ∀ (wr : World) (hb : Below w.heap.size w wr) (k : Nat) (hk : k < xs.length) (lo : Option Addr) (lc : Nat) (hr : Rd wr.heap.size wr (.slice lo xs[k].ingots.length lc) 1 xs[k].ingots.length (xs[k].ingots.flatMap putStr)), Calls Tryz.prog 26 #[.agg #[.string xs[k].id, .slice lo xs[k].ingots.length lc, .int .i64 xs[k].mass], .pointer (some ⟨g, 0, none⟩)] wr fun e w' => e = .returned (.bool (p xs[k])) ∧ Below wr.heap.size wr w') :
    Calls Tryz.prog 25 #[v, .func (.func 26) #[] #[.pointer (some ⟨g, 0, none⟩)]] w fun e w' => e = .returned (.bool (xs.any p)) ∧ Below w.heap.size w w' := by
  have H2 := Lib.hid (IndexFunc_AddMelt1 g w v xs p h hn H)
  clear h H
  go_enter Tryz.func25, Tryz.ntmps25
  go_wp2_with fail
  refine H2.out.mono ?_; rintro e w1 ⟨⟨r, rfl, hr⟩, b1⟩
  have Hr := Lib.hid hr; clear hr
  go_wp2_with fail
  go_ret
  exact ⟨by rw [← Hr.out]; rfl, b1⟩

set_option maxHeartbeats 8000000 in
theorem impl_AddMelt (w : World) (v u : Value) (xs : List Ingot) (ms : List Melt) (x : Melt) (lo : Option Addr) (lc : Nat) (h : Rd w.heap.size w v 5 xs.length (xs.flatMap Ingot.put)) (hn : xs.length ≤ 1048576) (hok : ∀ x ∈ xs, x.ok) (h2 : RdM w.heap.size w u ms) (hn2 : ms.length ≤ 1048576) (hf : ∀ m ∈ ms, m.fine) (hx : Rd w.heap.size w (.slice lo x.ingots.length lc) 1 x.ingots.length (x.ingots.flatMap putStr)) (hxf : x.fine) :
    Calls Tryz.prog 6 #[v, u, .agg #[.string x.id, .slice lo x.ingots.length lc, .int .i64 x.mass]] w fun e w' => ∃ r os, e = .returned (.tuple #[r, .int .i64 (addM xs ms x).2]) ∧ Nest w.heap.size w'.heap.size w' r os ∧ os.map Melt.said = (addM xs ms x).1.map Melt.said ∧ Below w.heap.size w w' := by
  have hb0 : Below w.heap.size w (w.alloc (.cells #[.string x.id, .slice lo x.ingots.length lc, .int .i64 x.mass] 28)) := (Below.refl _ _).alloc (Nat.le_refl _) _
  have X0 : Hid (BoxM (w.alloc (.cells #[.string x.id, .slice lo x.ingots.length lc, .int .i64 x.mass] 28)) w.heap.size x (.slice lo x.ingots.length lc)) := Lib.hid ⟨Own.new w _ _, hx.up hb0⟩
  have V0 := Lib.hid (h.up hb0)
  have U0 := Lib.hid (h2.up hb0)
  have B0 := Lib.hid hb0
  have Hok := Lib.hid hok
  have Hf := Lib.hid hf
  have HXF := Lib.hid hxf
  obtain ⟨vo, vc, rfl⟩ := h.form
  have huf : ∃ ao cap, u = .slice ao ms.length cap := by obtain ⟨ao, cap, e, _⟩ := h2; exact ⟨ao, cap, e⟩
  obtain ⟨uo, uc, rfl⟩ := huf
  have HAT := Lib.hid (fun (w' : World) (hu : RdM w'.heap.size w' (.slice uo ms.length uc) ms) => impl_meltAt w' _ ms x.id hu hn2)
  have HVI := Lib.hid (fun (w' : World) (b : Bool) (hv : Rd w'.heap.size w' (.slice vo xs.length vc) 5 xs.length (xs.flatMap Ingot.put)) (hb : validIngotS xs = b) => impl_ValidIngots_is w' _ xs hv hn Hok.out hb)
  have HVM := Lib.hid (fun (w' : World) (b : Bool) (hu : RdM w'.heap.size w' (.slice uo ms.length uc) ms) (hb : meltsB ms = b) => impl_ValidMelts_is w' _ ms hu hn2 Hf.out hb)
  have HONE := Lib.hid (fun (w' : World) (b : Bool) (hX : BoxM w' w.heap.size x (.slice lo x.ingots.length lc)) (hb : meltB x = b) => impl_ValidMelt_is ⟨x.id, .slice lo x.ingots.length lc, x.ingots, x.mass⟩ w' ⟨HXF.out.1, ⟨hX.2, Nat.le_trans HXF.out.2.2.2 (by unfold maxLen; omega), HXF.out.2.1⟩, HXF.out.2.2.1⟩ HXF.out.2.2.2 hb)
  have HEX := Lib.hid (fun (w' : World) (b : Bool) (hr : Rises xs) (hv : Rd w'.heap.size w' (.slice vo xs.length vc) 5 xs.length (xs.flatMap Ingot.put)) (hu : RdM w'.heap.size w' (.slice uo ms.length uc) ms) (hb : existB xs ms = b) => (by have q := impl_exist w' _ _ xs ms hv hn hr hu hn2 (fun m hm => (Hf.out m hm).2.2.2); rw [hb] at q; exact q : Calls Tryz.prog 23 #[.slice vo xs.length vc, .slice uo ms.length uc] w' fun e w'' => e = .returned (.bool b) ∧ Below w'.heap.size w' w''))
  have HE1 := Lib.hid (fun (w' : World) (b : Bool) (hr : Rises xs) (hv : Rd w'.heap.size w' (.slice vo xs.length vc) 5 xs.length (xs.flatMap Ingot.put)) (hX : BoxM w' w.heap.size x (.slice lo x.ingots.length lc)) (hb : (chosenL xs x.ingots).isSome = b) => (by have q := impl_exist (w'.alloc (.cells #[.string x.id, .slice lo x.ingots.length lc, .int .i64 x.mass] 28)) _ _ xs [x] (hv.up ((Below.refl _ _).alloc (Nat.le_refl _) _)) hn hr (rdm_one w' x lo lc hX.2) (by show 1 ≤ 1048576; decide) (fun m hm => by rw [List.mem_singleton.1 hm]; exact HXF.out.2.2.2); rw [show existB xs [x] = b from by rw [← hb]; simp [existB, noneB]] at q; exact q : Calls Tryz.prog 23 #[.slice vo xs.length vc, .slice (some ⟨w'.heap.size, 0, none⟩) 1 1] (w'.alloc (.cells #[.string x.id, .slice lo x.ingots.length lc, .int .i64 x.mass] 28)) fun e w'' => e = .returned (.bool b) ∧ Below (w'.alloc (.cells #[.string x.id, .slice lo x.ingots.length lc, .int .i64 x.mass] 28)).heap.size (w'.alloc (.cells #[.string x.id, .slice lo x.ingots.length lc, .int .i64 x.mass] 28)) w''))
  clear hok hf hxf hx hb0 h h2
  cases hV : validIngotS xs with
  | false =>
    have HV := Lib.hid hV; clear hV
    have e := Lib.hid (addM_bad (xs := xs) (ms := ms) (x := x) (by rw [HV.out]; rfl))
    go_enter Tryz.func6, Tryz.ntmps6
    go_wp2_with fail
    refine (HAT.out _ U0.out).mono ?_; rintro e w1 ⟨⟨i, rfl, hfo⟩, b1⟩
    have X1 := Lib.hid (X0.out.up b1)
    have V1 := Lib.hid (V0.out.up b1)
    have U1 := Lib.hid (U0.out.up b1)
    have B1 := Lib.hid (bnext B0.out b1)
    clear b1 X0 V0 U0 B0 HAT
    generalize (decide (i < ms.length) && decide (cmpMelt ms x.id i = 0)) = fb
    clear hfo
    go_wp2_with fail
    refine (HVI.out _ _ V1.out HV.out).mono ?_; rintro e w2 ⟨rfl, b2⟩
    have X2 := Lib.hid (X1.out.up b2)
    have V2 := Lib.hid (V1.out.up b2)
    have U2 := Lib.hid (U1.out.up b2)
    have B2 := Lib.hid (bnext B1.out b2)
    clear b2 X1 V1 U1 B1 HVI
    go_wp2_with fail
    go_ret2
    exact ⟨_, [], by rw [e.out]; try rfl, nest_nil _ _ _, by rw [e.out]; try rfl, B2.out⟩
  | true =>
    have HV := Lib.hid hV
    cases hM : meltsB ms with
    | false =>
      have HM := Lib.hid hM; clear hM hV
      have e := Lib.hid (addM_bad (xs := xs) (ms := ms) (x := x) (by rw [HV.out, HM.out]; rfl))
      go_enter Tryz.func6, Tryz.ntmps6
      go_wp2_with fail
      refine (HAT.out _ U0.out).mono ?_; rintro e w1 ⟨⟨i, rfl, hfo⟩, b1⟩
      have X1 := Lib.hid (X0.out.up b1)
      have V1 := Lib.hid (V0.out.up b1)
      have U1 := Lib.hid (U0.out.up b1)
      have B1 := Lib.hid (bnext B0.out b1)
      clear b1 X0 V0 U0 B0 HAT
      generalize (decide (i < ms.length) && decide (cmpMelt ms x.id i = 0)) = fb
      clear hfo
      go_wp2_with fail
      refine (HVI.out _ _ V1.out HV.out).mono ?_; rintro e w2 ⟨rfl, b2⟩
      have X2 := Lib.hid (X1.out.up b2)
      have V2 := Lib.hid (V1.out.up b2)
      have U2 := Lib.hid (U1.out.up b2)
      have B2 := Lib.hid (bnext B1.out b2)
      clear b2 X1 V1 U1 B1 HVI
      go_wp2_with fail
      refine (HVM.out _ _ U2.out HM.out).mono ?_; rintro e w3 ⟨rfl, b3⟩
      have X3 := Lib.hid (X2.out.up b3)
      have V3 := Lib.hid (V2.out.up b3)
      have U3 := Lib.hid (U2.out.up b3)
      have B3 := Lib.hid (bnext B2.out b3)
      clear b3 X2 V2 U2 B2 HVM
      go_wp2_with fail
      go_ret2
      exact ⟨_, [], by rw [e.out]; try rfl, nest_nil _ _ _, by rw [e.out]; try rfl, B3.out⟩
    | true =>
      have HM := Lib.hid hM
      cases hO : meltB x with
      | false =>
        have HO := Lib.hid hO; clear hO hM hV
        have e := Lib.hid (addM_bad (xs := xs) (ms := ms) (x := x) (by rw [HV.out, HM.out, HO.out]; rfl))
        go_enter Tryz.func6, Tryz.ntmps6
        go_wp2_with fail
        refine (HAT.out _ U0.out).mono ?_; rintro e w1 ⟨⟨i, rfl, hfo⟩, b1⟩
        have X1 := Lib.hid (X0.out.up b1)
        have V1 := Lib.hid (V0.out.up b1)
        have U1 := Lib.hid (U0.out.up b1)
        have B1 := Lib.hid (bnext B0.out b1)
        clear b1 X0 V0 U0 B0 HAT
        generalize (decide (i < ms.length) && decide (cmpMelt ms x.id i = 0)) = fb
        clear hfo
        go_wp2_with fail
        refine (HVI.out _ _ V1.out HV.out).mono ?_; rintro e w2 ⟨rfl, b2⟩
        have X2 := Lib.hid (X1.out.up b2)
        have V2 := Lib.hid (V1.out.up b2)
        have U2 := Lib.hid (U1.out.up b2)
        have B2 := Lib.hid (bnext B1.out b2)
        clear b2 X1 V1 U1 B1 HVI
        go_wp2_with fail
        refine (HVM.out _ _ U2.out HM.out).mono ?_; rintro e w3 ⟨rfl, b3⟩
        have X3 := Lib.hid (X2.out.up b3)
        have V3 := Lib.hid (V2.out.up b3)
        have U3 := Lib.hid (U2.out.up b3)
        have B3 := Lib.hid (bnext B2.out b3)
        clear b3 X2 V2 U2 B2 HVM
        have x0 : w3.cell? ⟨w.heap.size, 0, none⟩ = some (.string x.id) := X3.out.1.cell 0
        have x1 : w3.cell? ⟨w.heap.size, 1, none⟩ = some (.slice lo x.ingots.length lc) := X3.out.1.cell 1
        have x2 : w3.cell? ⟨w.heap.size, 2, none⟩ = some (.int .i64 x.mass) := X3.out.1.cell 2
        have xl := X3.out.1.lt
        go_wp2_with fail
        refine (HONE.out _ _ X3.out HO.out).mono ?_; rintro e w4 ⟨rfl, b4⟩
        have X4 := Lib.hid (X3.out.up b4)
        have V4 := Lib.hid (V3.out.up b4)
        have U4 := Lib.hid (U3.out.up b4)
        have B4 := Lib.hid (bnext B3.out b4)
        clear b4 X3 V3 U3 B3 HONE x0 x1 x2 xl
        go_wp2_with fail
        go_ret2
        exact ⟨_, [], by rw [e.out]; try rfl, nest_nil _ _ _, by rw [e.out]; try rfl, B4.out⟩
      | true =>
        have HO := Lib.hid hO
        have HVV : Hid ((validIngotS xs && (meltsB ms && meltB x)) = true) := Lib.hid (by rw [hV, hM, hO]; rfl)
        have HRI := Lib.hid (rises_of hV)
        have HRM := Lib.hid (risesM_of hM)
        obtain ⟨h16, hall⟩ := validIngotS_true hV
        have HALL := Lib.hid hall
        obtain ⟨hm12, hmb⟩ := meltsB_all hM
        have HMB := Lib.hid hmb
        clear hV hM hO hall hmb
        cases hE : existB xs ms with
        | false =>
          have HE := Lib.hid hE; clear hE
          have e := Lib.hid (addM_no HVV.out (by rw [HE.out]; rfl))
          go_enter Tryz.func6, Tryz.ntmps6
          go_wp2_with fail
          refine (HAT.out _ U0.out).mono ?_; rintro e w1 ⟨⟨i, rfl, hfo⟩, b1⟩
          have X1 := Lib.hid (X0.out.up b1)
          have V1 := Lib.hid (V0.out.up b1)
          have U1 := Lib.hid (U0.out.up b1)
          have B1 := Lib.hid (bnext B0.out b1)
          clear b1 X0 V0 U0 B0 HAT
          generalize (decide (i < ms.length) && decide (cmpMelt ms x.id i = 0)) = fb
          clear hfo
          go_wp2_with fail
          refine (HVI.out _ _ V1.out HV.out).mono ?_; rintro e w2 ⟨rfl, b2⟩
          have X2 := Lib.hid (X1.out.up b2)
          have V2 := Lib.hid (V1.out.up b2)
          have U2 := Lib.hid (U1.out.up b2)
          have B2 := Lib.hid (bnext B1.out b2)
          clear b2 X1 V1 U1 B1 HVI
          go_wp2_with fail
          refine (HVM.out _ _ U2.out HM.out).mono ?_; rintro e w3 ⟨rfl, b3⟩
          have X3 := Lib.hid (X2.out.up b3)
          have V3 := Lib.hid (V2.out.up b3)
          have U3 := Lib.hid (U2.out.up b3)
          have B3 := Lib.hid (bnext B2.out b3)
          clear b3 X2 V2 U2 B2 HVM
          have x0 : w3.cell? ⟨w.heap.size, 0, none⟩ = some (.string x.id) := X3.out.1.cell 0
          have x1 : w3.cell? ⟨w.heap.size, 1, none⟩ = some (.slice lo x.ingots.length lc) := X3.out.1.cell 1
          have x2 : w3.cell? ⟨w.heap.size, 2, none⟩ = some (.int .i64 x.mass) := X3.out.1.cell 2
          have xl := X3.out.1.lt
          go_wp2_with fail
          refine (HONE.out _ _ X3.out HO.out).mono ?_; rintro e w4 ⟨rfl, b4⟩
          have X4 := Lib.hid (X3.out.up b4)
          have V4 := Lib.hid (V3.out.up b4)
          have U4 := Lib.hid (U3.out.up b4)
          have B4 := Lib.hid (bnext B3.out b4)
          clear b4 X3 V3 U3 B3 HONE x0 x1 x2 xl
          go_wp2_with fail
          refine (HEX.out _ _ HRI.out V4.out U4.out HE.out).mono ?_; rintro e w5 ⟨rfl, b5⟩
          have X5 := Lib.hid (X4.out.up b5)
          have V5 := Lib.hid (V4.out.up b5)
          have U5 := Lib.hid (U4.out.up b5)
          have B5 := Lib.hid (bnext B4.out b5)
          clear b5 X4 V4 U4 B4 HEX
          go_wp2_with fail
          go_ret2
          exact ⟨_, [], by rw [e.out]; try rfl, nest_nil _ _ _, by rw [e.out]; try rfl, B5.out⟩
        | true =>
          have HE := Lib.hid hE; clear hE
          cases hC0 : (chosenL xs x.ingots).isSome with
          | false =>
            have HC := Lib.hid hC0; clear hC0
            have e := Lib.hid (addM_no HVV.out (by rw [HE.out, HC.out]; rfl))
            go_enter Tryz.func6, Tryz.ntmps6
            go_wp2_with fail
            refine (HAT.out _ U0.out).mono ?_; rintro e w1 ⟨⟨i, rfl, hfo⟩, b1⟩
            have X1 := Lib.hid (X0.out.up b1)
            have V1 := Lib.hid (V0.out.up b1)
            have U1 := Lib.hid (U0.out.up b1)
            have B1 := Lib.hid (bnext B0.out b1)
            clear b1 X0 V0 U0 B0 HAT
            generalize (decide (i < ms.length) && decide (cmpMelt ms x.id i = 0)) = fb
            clear hfo
            go_wp2_with fail
            refine (HVI.out _ _ V1.out HV.out).mono ?_; rintro e w2 ⟨rfl, b2⟩
            have X2 := Lib.hid (X1.out.up b2)
            have V2 := Lib.hid (V1.out.up b2)
            have U2 := Lib.hid (U1.out.up b2)
            have B2 := Lib.hid (bnext B1.out b2)
            clear b2 X1 V1 U1 B1 HVI
            go_wp2_with fail
            refine (HVM.out _ _ U2.out HM.out).mono ?_; rintro e w3 ⟨rfl, b3⟩
            have X3 := Lib.hid (X2.out.up b3)
            have V3 := Lib.hid (V2.out.up b3)
            have U3 := Lib.hid (U2.out.up b3)
            have B3 := Lib.hid (bnext B2.out b3)
            clear b3 X2 V2 U2 B2 HVM
            have x0 : w3.cell? ⟨w.heap.size, 0, none⟩ = some (.string x.id) := X3.out.1.cell 0
            have x1 : w3.cell? ⟨w.heap.size, 1, none⟩ = some (.slice lo x.ingots.length lc) := X3.out.1.cell 1
            have x2 : w3.cell? ⟨w.heap.size, 2, none⟩ = some (.int .i64 x.mass) := X3.out.1.cell 2
            have xl := X3.out.1.lt
            go_wp2_with fail
            refine (HONE.out _ _ X3.out HO.out).mono ?_; rintro e w4 ⟨rfl, b4⟩
            have X4 := Lib.hid (X3.out.up b4)
            have V4 := Lib.hid (V3.out.up b4)
            have U4 := Lib.hid (U3.out.up b4)
            have B4 := Lib.hid (bnext B3.out b4)
            clear b4 X3 V3 U3 B3 HONE x0 x1 x2 xl
            go_wp2_with fail
            refine (HEX.out _ _ HRI.out V4.out U4.out HE.out).mono ?_; rintro e w5 ⟨rfl, b5⟩
            have X5 := Lib.hid (X4.out.up b5)
            have V5 := Lib.hid (V4.out.up b5)
            have U5 := Lib.hid (U4.out.up b5)
            have B5 := Lib.hid (bnext B4.out b5)
            clear b5 X4 V4 U4 B4 HEX
            have x0 : w5.cell? ⟨w.heap.size, 0, none⟩ = some (.string x.id) := X5.out.1.cell 0
            have x1 : w5.cell? ⟨w.heap.size, 1, none⟩ = some (.slice lo x.ingots.length lc) := X5.out.1.cell 1
            have x2 : w5.cell? ⟨w.heap.size, 2, none⟩ = some (.int .i64 x.mass) := X5.out.1.cell 2
            have xl := X5.out.1.lt
            go_wp2_with fail
            refine (HE1.out _ _ HRI.out V5.out X5.out HC.out).mono ?_; rintro e w6 ⟨rfl, b6⟩
            have c6 : Below w5.heap.size w5 w6 := Below.trans (by (repeat' (first | (with_reducible exact Below.refl _ _) | (with_reducible assumption) | (with_reducible refine below_dn ?_ _) | (with_reducible refine Below.drew ?_) | (with_reducible refine Below.alloc ?_ ?_ _) | (with_reducible refine Below.setCell ?_ ?_ _) | go_size))) (b6.mono (by first | omega | (simp <;> omega)))
            have X6 := Lib.hid (X5.out.up c6)
            have V6 := Lib.hid (V5.out.up c6)
            have U6 := Lib.hid (U5.out.up c6)
            have B6 := Lib.hid (bnext B5.out c6)
            clear b6 c6 X5 V5 U5 B5 HE1 x0 x1 x2 xl
            go_wp2_with fail
            go_ret2
            exact ⟨_, [], by rw [e.out]; try rfl, nest_nil _ _ _, by rw [e.out]; try rfl, B6.out⟩
          | true =>
            have HC := Lib.hid hC0
            have HEE : Hid ((existB xs ms && (chosenL xs x.ingots).isSome) = true) := Lib.hid (by rw [HE.out, hC0]; rfl)
            obtain ⟨cs, hcs⟩ := Option.isSome_iff_exists.1 hC0
            have HCS := Lib.hid hcs
            have HCH := Lib.hid (ask_choice2 HRI.out HO.out hcs)
            obtain ⟨mo, hmo⟩ : ∃ mo, mostV (sumK massF xs cs) = mo := ⟨_, rfl⟩
            have HMO := Lib.hid hmo
            have HMS : Hid (mostS xs x.ingots = mo) := Lib.hid (by rw [mostS_some hcs, hmo])
            clear hcs hmo hC0
            by_cases hgt : mo < x.mass
            · have tm : decide (mo < x.mass) = true := decide_eq_true hgt
              have e := Lib.hid (addM_much HVV.out HEE.out (by rw [HMS.out]; exact hgt))
              clear hgt
              go_enter Tryz.func6, Tryz.ntmps6
              go_wp2_with fail
              refine (HAT.out _ U0.out).mono ?_; rintro e w1 ⟨⟨i, rfl, hfo⟩, b1⟩
              have X1 := Lib.hid (X0.out.up b1)
              have V1 := Lib.hid (V0.out.up b1)
              have U1 := Lib.hid (U0.out.up b1)
              have B1 := Lib.hid (bnext B0.out b1)
              clear b1 X0 V0 U0 B0 HAT
              generalize (decide (i < ms.length) && decide (cmpMelt ms x.id i = 0)) = fb
              clear hfo
              go_wp2_with fail
              refine (HVI.out _ _ V1.out HV.out).mono ?_; rintro e w2 ⟨rfl, b2⟩
              have X2 := Lib.hid (X1.out.up b2)
              have V2 := Lib.hid (V1.out.up b2)
              have U2 := Lib.hid (U1.out.up b2)
              have B2 := Lib.hid (bnext B1.out b2)
              clear b2 X1 V1 U1 B1 HVI
              go_wp2_with fail
              refine (HVM.out _ _ U2.out HM.out).mono ?_; rintro e w3 ⟨rfl, b3⟩
              have X3 := Lib.hid (X2.out.up b3)
              have V3 := Lib.hid (V2.out.up b3)
              have U3 := Lib.hid (U2.out.up b3)
              have B3 := Lib.hid (bnext B2.out b3)
              clear b3 X2 V2 U2 B2 HVM
              have x0 : w3.cell? ⟨w.heap.size, 0, none⟩ = some (.string x.id) := X3.out.1.cell 0
              have x1 : w3.cell? ⟨w.heap.size, 1, none⟩ = some (.slice lo x.ingots.length lc) := X3.out.1.cell 1
              have x2 : w3.cell? ⟨w.heap.size, 2, none⟩ = some (.int .i64 x.mass) := X3.out.1.cell 2
              have xl := X3.out.1.lt
              go_wp2_with fail
              refine (HONE.out _ _ X3.out HO.out).mono ?_; rintro e w4 ⟨rfl, b4⟩
              have X4 := Lib.hid (X3.out.up b4)
              have V4 := Lib.hid (V3.out.up b4)
              have U4 := Lib.hid (U3.out.up b4)
              have B4 := Lib.hid (bnext B3.out b4)
              clear b4 X3 V3 U3 B3 HONE x0 x1 x2 xl
              go_wp2_with fail
              refine (HEX.out _ _ HRI.out V4.out U4.out HE.out).mono ?_; rintro e w5 ⟨rfl, b5⟩
              have X5 := Lib.hid (X4.out.up b5)
              have V5 := Lib.hid (V4.out.up b5)
              have U5 := Lib.hid (U4.out.up b5)
              have B5 := Lib.hid (bnext B4.out b5)
              clear b5 X4 V4 U4 B4 HEX
              have x0 : w5.cell? ⟨w.heap.size, 0, none⟩ = some (.string x.id) := X5.out.1.cell 0
              have x1 : w5.cell? ⟨w.heap.size, 1, none⟩ = some (.slice lo x.ingots.length lc) := X5.out.1.cell 1
              have x2 : w5.cell? ⟨w.heap.size, 2, none⟩ = some (.int .i64 x.mass) := X5.out.1.cell 2
              have xl := X5.out.1.lt
              go_wp2_with fail
              refine (HE1.out _ _ HRI.out V5.out X5.out HC.out).mono ?_; rintro e w6 ⟨rfl, b6⟩
              have c6 : Below w5.heap.size w5 w6 := Below.trans (by (repeat' (first | (with_reducible exact Below.refl _ _) | (with_reducible assumption) | (with_reducible refine below_dn ?_ _) | (with_reducible refine Below.drew ?_) | (with_reducible refine Below.alloc ?_ ?_ _) | (with_reducible refine Below.setCell ?_ ?_ _) | go_size))) (b6.mono (by first | omega | (simp <;> omega)))
              have X6 := Lib.hid (X5.out.up c6)
              have V6 := Lib.hid (V5.out.up c6)
              have U6 := Lib.hid (U5.out.up c6)
              have B6 := Lib.hid (bnext B5.out c6)
              clear b6 c6 X5 V5 U5 B5 HE1 x0 x1 x2 xl
              have x0 : w6.cell? ⟨w.heap.size, 0, none⟩ = some (.string x.id) := X6.out.1.cell 0
              have x1 : w6.cell? ⟨w.heap.size, 1, none⟩ = some (.slice lo x.ingots.length lc) := X6.out.1.cell 1
              have x2 : w6.cell? ⟨w.heap.size, 2, none⟩ = some (.int .i64 x.mass) := X6.out.1.cell 2
              have xl := X6.out.1.lt
              have HMO6 := Lib.hid (fun (w' : World) (hb : Below w6.heap.size w6 w') => (by have q := impl_mostFrom w' _ xs x lo lc cs (V6.out.up hb) h16 HRI.out HALL.out (X6.out.2.up hb) HXF.out.2.2.2 HCS.out HCH.out; rw [HMO.out] at q; exact q : Calls Tryz.prog 24 #[.slice vo xs.length vc, .agg #[.string x.id, .slice lo x.ingots.length lc, .int .i64 x.mass]] w' fun e w'' => e = .returned (.int .i64 mo) ∧ Below w'.heap.size w' w''))
              go_wp2_with fail
              refine wp_region_above (by kernel_rfl) (by kernel_rfl) ?_
              repeat (go_big_quiet_step (((go_at_call 24; exact aboveC (HMO6.out _ (above_below _ _))))))
              refine wpQuiet_nil ?_
              intro w7 b7
              have X7 := Lib.hid (X6.out.up b7)
              have V7 := Lib.hid (V6.out.up b7)
              have U7 := Lib.hid (U6.out.up b7)
              have B7 := Lib.hid (bnext B6.out b7)
              clear b7 X6 V6 U6 B6 HMO6 x0 x1 x2 xl
              go_wp2_with fail
              go_ret2
              exact ⟨_, [], by rw [e.out]; try rfl, nest_nil _ _ _, by rw [e.out]; try rfl, B7.out⟩
            · have tm : decide (mo < x.mass) = false := decide_eq_false hgt
              cases hI : (idM ms x.id).isSome with
              | true =>
                have HI := Lib.hid hI
                have e := Lib.hid (addM_has HVV.out HEE.out (by rw [HMS.out]; exact hgt) hI)
                have HGT := Lib.hid hgt
                clear hI hgt
                go_enter Tryz.func6, Tryz.ntmps6
                go_wp2_with fail
                refine (HAT.out _ U0.out).mono ?_; rintro e w1 ⟨⟨i, rfl, hfo⟩, b1⟩
                have X1 := Lib.hid (X0.out.up b1)
                have V1 := Lib.hid (V0.out.up b1)
                have U1 := Lib.hid (U0.out.up b1)
                have B1 := Lib.hid (bnext B0.out b1)
                clear b1 X0 V0 U0 B0 HAT
                obtain ⟨f1, f2, f3, f4, f5⟩ := found_idM HRM.out hfo
                rw [f1, HI.out]
                clear hfo f1 f2 HI
                go_wp2_with fail
                refine (HVI.out _ _ V1.out HV.out).mono ?_; rintro e w2 ⟨rfl, b2⟩
                have X2 := Lib.hid (X1.out.up b2)
                have V2 := Lib.hid (V1.out.up b2)
                have U2 := Lib.hid (U1.out.up b2)
                have B2 := Lib.hid (bnext B1.out b2)
                clear b2 X1 V1 U1 B1 HVI
                go_wp2_with fail
                refine (HVM.out _ _ U2.out HM.out).mono ?_; rintro e w3 ⟨rfl, b3⟩
                have X3 := Lib.hid (X2.out.up b3)
                have V3 := Lib.hid (V2.out.up b3)
                have U3 := Lib.hid (U2.out.up b3)
                have B3 := Lib.hid (bnext B2.out b3)
                clear b3 X2 V2 U2 B2 HVM
                have x0 : w3.cell? ⟨w.heap.size, 0, none⟩ = some (.string x.id) := X3.out.1.cell 0
                have x1 : w3.cell? ⟨w.heap.size, 1, none⟩ = some (.slice lo x.ingots.length lc) := X3.out.1.cell 1
                have x2 : w3.cell? ⟨w.heap.size, 2, none⟩ = some (.int .i64 x.mass) := X3.out.1.cell 2
                have xl := X3.out.1.lt
                go_wp2_with fail
                refine (HONE.out _ _ X3.out HO.out).mono ?_; rintro e w4 ⟨rfl, b4⟩
                have X4 := Lib.hid (X3.out.up b4)
                have V4 := Lib.hid (V3.out.up b4)
                have U4 := Lib.hid (U3.out.up b4)
                have B4 := Lib.hid (bnext B3.out b4)
                clear b4 X3 V3 U3 B3 HONE x0 x1 x2 xl
                go_wp2_with fail
                refine (HEX.out _ _ HRI.out V4.out U4.out HE.out).mono ?_; rintro e w5 ⟨rfl, b5⟩
                have X5 := Lib.hid (X4.out.up b5)
                have V5 := Lib.hid (V4.out.up b5)
                have U5 := Lib.hid (U4.out.up b5)
                have B5 := Lib.hid (bnext B4.out b5)
                clear b5 X4 V4 U4 B4 HEX
                have x0 : w5.cell? ⟨w.heap.size, 0, none⟩ = some (.string x.id) := X5.out.1.cell 0
                have x1 : w5.cell? ⟨w.heap.size, 1, none⟩ = some (.slice lo x.ingots.length lc) := X5.out.1.cell 1
                have x2 : w5.cell? ⟨w.heap.size, 2, none⟩ = some (.int .i64 x.mass) := X5.out.1.cell 2
                have xl := X5.out.1.lt
                go_wp2_with fail
                refine (HE1.out _ _ HRI.out V5.out X5.out HC.out).mono ?_; rintro e w6 ⟨rfl, b6⟩
                have c6 : Below w5.heap.size w5 w6 := Below.trans (by (repeat' (first | (with_reducible exact Below.refl _ _) | (with_reducible assumption) | (with_reducible refine below_dn ?_ _) | (with_reducible refine Below.drew ?_) | (with_reducible refine Below.alloc ?_ ?_ _) | (with_reducible refine Below.setCell ?_ ?_ _) | go_size))) (b6.mono (by first | omega | (simp <;> omega)))
                have X6 := Lib.hid (X5.out.up c6)
                have V6 := Lib.hid (V5.out.up c6)
                have U6 := Lib.hid (U5.out.up c6)
                have B6 := Lib.hid (bnext B5.out c6)
                clear b6 c6 X5 V5 U5 B5 HE1 x0 x1 x2 xl
                have x0 : w6.cell? ⟨w.heap.size, 0, none⟩ = some (.string x.id) := X6.out.1.cell 0
                have x1 : w6.cell? ⟨w.heap.size, 1, none⟩ = some (.slice lo x.ingots.length lc) := X6.out.1.cell 1
                have x2 : w6.cell? ⟨w.heap.size, 2, none⟩ = some (.int .i64 x.mass) := X6.out.1.cell 2
                have xl := X6.out.1.lt
                have HMO6 := Lib.hid (fun (w' : World) (hb : Below w6.heap.size w6 w') => (by have q := impl_mostFrom w' _ xs x lo lc cs (V6.out.up hb) h16 HRI.out HALL.out (X6.out.2.up hb) HXF.out.2.2.2 HCS.out HCH.out; rw [HMO.out] at q; exact q : Calls Tryz.prog 24 #[.slice vo xs.length vc, .agg #[.string x.id, .slice lo x.ingots.length lc, .int .i64 x.mass]] w' fun e w'' => e = .returned (.int .i64 mo) ∧ Below w'.heap.size w' w''))
                go_wp2_with fail
                refine wp_region_above (by kernel_rfl) (by kernel_rfl) ?_
                repeat (go_big_quiet_step (((go_at_call 24; exact aboveC (HMO6.out _ (above_below _ _))))))
                refine wpQuiet_nil ?_
                intro w7 b7
                have X7 := Lib.hid (X6.out.up b7)
                have V7 := Lib.hid (V6.out.up b7)
                have U7 := Lib.hid (U6.out.up b7)
                have B7 := Lib.hid (bnext B6.out b7)
                clear b7 X6 V6 U6 B6 HMO6 x0 x1 x2 xl
                go_wp2_with fail
                go_ret2
                exact ⟨_, [], by rw [e.out]; try rfl, nest_nil _ _ _, by rw [e.out]; try rfl, B7.out⟩
              | false =>
                have hcm : (ms.any fun y => commonB x.ingots y.ingots) = (ms.any fun y => commonB y.ingots x.ingots) := by rw [show (fun y : Melt => commonB x.ingots y.ingots) = fun y => commonB y.ingots x.ingots from funext fun y => commonB_comm _ _]
                cases hC : (ms.any fun y => commonB y.ingots x.ingots) with
                | true =>
                  have HI := Lib.hid hI
                  have HCM : Hid ((ms.any fun y => commonB x.ingots y.ingots) = true) := Lib.hid (by rw [hcm, hC]; try rfl)
                  have e := Lib.hid (addM_com HVV.out HEE.out (by rw [HMS.out]; exact hgt) hI hC)
                  clear hI hC hcm hgt
                  go_enter Tryz.func6, Tryz.ntmps6
                  go_wp2_with fail
                  refine (HAT.out _ U0.out).mono ?_; rintro e w1 ⟨⟨i, rfl, hfo⟩, b1⟩
                  have X1 := Lib.hid (X0.out.up b1)
                  have V1 := Lib.hid (V0.out.up b1)
                  have U1 := Lib.hid (U0.out.up b1)
                  have B1 := Lib.hid (bnext B0.out b1)
                  clear b1 X0 V0 U0 B0 HAT
                  obtain ⟨f1, f2, f3, f4, f5⟩ := found_idM HRM.out hfo
                  rw [f1, HI.out]
                  clear hfo f1 f2 HI
                  go_wp2_with fail
                  refine (HVI.out _ _ V1.out HV.out).mono ?_; rintro e w2 ⟨rfl, b2⟩
                  have X2 := Lib.hid (X1.out.up b2)
                  have V2 := Lib.hid (V1.out.up b2)
                  have U2 := Lib.hid (U1.out.up b2)
                  have B2 := Lib.hid (bnext B1.out b2)
                  clear b2 X1 V1 U1 B1 HVI
                  go_wp2_with fail
                  refine (HVM.out _ _ U2.out HM.out).mono ?_; rintro e w3 ⟨rfl, b3⟩
                  have X3 := Lib.hid (X2.out.up b3)
                  have V3 := Lib.hid (V2.out.up b3)
                  have U3 := Lib.hid (U2.out.up b3)
                  have B3 := Lib.hid (bnext B2.out b3)
                  clear b3 X2 V2 U2 B2 HVM
                  have x0 : w3.cell? ⟨w.heap.size, 0, none⟩ = some (.string x.id) := X3.out.1.cell 0
                  have x1 : w3.cell? ⟨w.heap.size, 1, none⟩ = some (.slice lo x.ingots.length lc) := X3.out.1.cell 1
                  have x2 : w3.cell? ⟨w.heap.size, 2, none⟩ = some (.int .i64 x.mass) := X3.out.1.cell 2
                  have xl := X3.out.1.lt
                  go_wp2_with fail
                  refine (HONE.out _ _ X3.out HO.out).mono ?_; rintro e w4 ⟨rfl, b4⟩
                  have X4 := Lib.hid (X3.out.up b4)
                  have V4 := Lib.hid (V3.out.up b4)
                  have U4 := Lib.hid (U3.out.up b4)
                  have B4 := Lib.hid (bnext B3.out b4)
                  clear b4 X3 V3 U3 B3 HONE x0 x1 x2 xl
                  go_wp2_with fail
                  refine (HEX.out _ _ HRI.out V4.out U4.out HE.out).mono ?_; rintro e w5 ⟨rfl, b5⟩
                  have X5 := Lib.hid (X4.out.up b5)
                  have V5 := Lib.hid (V4.out.up b5)
                  have U5 := Lib.hid (U4.out.up b5)
                  have B5 := Lib.hid (bnext B4.out b5)
                  clear b5 X4 V4 U4 B4 HEX
                  have x0 : w5.cell? ⟨w.heap.size, 0, none⟩ = some (.string x.id) := X5.out.1.cell 0
                  have x1 : w5.cell? ⟨w.heap.size, 1, none⟩ = some (.slice lo x.ingots.length lc) := X5.out.1.cell 1
                  have x2 : w5.cell? ⟨w.heap.size, 2, none⟩ = some (.int .i64 x.mass) := X5.out.1.cell 2
                  have xl := X5.out.1.lt
                  go_wp2_with fail
                  refine (HE1.out _ _ HRI.out V5.out X5.out HC.out).mono ?_; rintro e w6 ⟨rfl, b6⟩
                  have c6 : Below w5.heap.size w5 w6 := Below.trans (by (repeat' (first | (with_reducible exact Below.refl _ _) | (with_reducible assumption) | (with_reducible refine below_dn ?_ _) | (with_reducible refine Below.drew ?_) | (with_reducible refine Below.alloc ?_ ?_ _) | (with_reducible refine Below.setCell ?_ ?_ _) | go_size))) (b6.mono (by first | omega | (simp <;> omega)))
                  have X6 := Lib.hid (X5.out.up c6)
                  have V6 := Lib.hid (V5.out.up c6)
                  have U6 := Lib.hid (U5.out.up c6)
                  have B6 := Lib.hid (bnext B5.out c6)
                  clear b6 c6 X5 V5 U5 B5 HE1 x0 x1 x2 xl
                  have x0 : w6.cell? ⟨w.heap.size, 0, none⟩ = some (.string x.id) := X6.out.1.cell 0
                  have x1 : w6.cell? ⟨w.heap.size, 1, none⟩ = some (.slice lo x.ingots.length lc) := X6.out.1.cell 1
                  have x2 : w6.cell? ⟨w.heap.size, 2, none⟩ = some (.int .i64 x.mass) := X6.out.1.cell 2
                  have xl := X6.out.1.lt
                  have HMO6 := Lib.hid (fun (w' : World) (hb : Below w6.heap.size w6 w') => (by have q := impl_mostFrom w' _ xs x lo lc cs (V6.out.up hb) h16 HRI.out HALL.out (X6.out.2.up hb) HXF.out.2.2.2 HCS.out HCH.out; rw [HMO.out] at q; exact q : Calls Tryz.prog 24 #[.slice vo xs.length vc, .agg #[.string x.id, .slice lo x.ingots.length lc, .int .i64 x.mass]] w' fun e w'' => e = .returned (.int .i64 mo) ∧ Below w'.heap.size w' w''))
                  go_wp2_with fail
                  refine wp_region_above (by kernel_rfl) (by kernel_rfl) ?_
                  repeat (go_big_quiet_step (((go_at_call 24; exact aboveC (HMO6.out _ (above_below _ _))))))
                  refine wpQuiet_nil ?_
                  intro w7 b7
                  have X7 := Lib.hid (X6.out.up b7)
                  have V7 := Lib.hid (V6.out.up b7)
                  have U7 := Lib.hid (U6.out.up b7)
                  have B7 := Lib.hid (bnext B6.out b7)
                  clear b7 X6 V6 U6 B6 HMO6 x0 x1 x2 xl
                  have HCF := Lib.hid (ContainsFunc_AddMelt1 w.heap.size w7 _ ms (fun y => commonB x.ingots y.ingots) U7.out hn2 (fun wr hb k hk lo2 lc2 hr => impl_AddMelt1 x ms[k] w.heap.size (.slice lo x.ingots.length lc) _ wr ((X7.out.up hb).1.cell 0) ((X7.out.up hb).1.cell 1) ((X7.out.up hb).1.cell 2) (X7.out.up hb).1.lt (X7.out.up hb).2 hr HXF.out.2.2.2 (Hf.out _ (List.getElem_mem hk)).2.2.2 rfl))
                  rw [HCM.out] at HCF
                  go_wp2_with fail
                  refine HCF.out.mono ?_; rintro e w8 ⟨rfl, b8⟩
                  have X8 := Lib.hid (X7.out.up b8)
                  have V8 := Lib.hid (V7.out.up b8)
                  have U8 := Lib.hid (U7.out.up b8)
                  have B8 := Lib.hid (bnext B7.out b8)
                  clear b8 X7 V7 U7 B7 HCF
                  go_wp2_with fail
                  go_ret2
                  exact ⟨_, [], by rw [e.out]; try rfl, nest_nil _ _ _, by rw [e.out]; try rfl, B8.out⟩
                | false =>
                  by_cases h12 : ms.length = 12
                  · have t12 : decide ((12 : Int) ≤ (ms.length : Int)) = true := decide_eq_true (by omega)
                    have HI := Lib.hid hI
                    have HCM : Hid ((ms.any fun y => commonB x.ingots y.ingots) = false) := Lib.hid (by rw [hcm, hC]; try rfl)
                    have e := Lib.hid (addM_full HVV.out HEE.out (by rw [HMS.out]; exact hgt) hI hC h12)
                    have H12 := Lib.hid h12
                    clear hI hC hcm h12 hgt
                    go_enter Tryz.func6, Tryz.ntmps6
                    go_wp2_with fail
                    refine (HAT.out _ U0.out).mono ?_; rintro e w1 ⟨⟨i, rfl, hfo⟩, b1⟩
                    have X1 := Lib.hid (X0.out.up b1)
                    have V1 := Lib.hid (V0.out.up b1)
                    have U1 := Lib.hid (U0.out.up b1)
                    have B1 := Lib.hid (bnext B0.out b1)
                    clear b1 X0 V0 U0 B0 HAT
                    obtain ⟨f1, f2, f3, f4, f5⟩ := found_idM HRM.out hfo
                    rw [f1, HI.out]
                    clear hfo f1 f2 HI
                    go_wp2_with fail
                    refine (HVI.out _ _ V1.out HV.out).mono ?_; rintro e w2 ⟨rfl, b2⟩
                    have X2 := Lib.hid (X1.out.up b2)
                    have V2 := Lib.hid (V1.out.up b2)
                    have U2 := Lib.hid (U1.out.up b2)
                    have B2 := Lib.hid (bnext B1.out b2)
                    clear b2 X1 V1 U1 B1 HVI
                    go_wp2_with fail
                    refine (HVM.out _ _ U2.out HM.out).mono ?_; rintro e w3 ⟨rfl, b3⟩
                    have X3 := Lib.hid (X2.out.up b3)
                    have V3 := Lib.hid (V2.out.up b3)
                    have U3 := Lib.hid (U2.out.up b3)
                    have B3 := Lib.hid (bnext B2.out b3)
                    clear b3 X2 V2 U2 B2 HVM
                    have x0 : w3.cell? ⟨w.heap.size, 0, none⟩ = some (.string x.id) := X3.out.1.cell 0
                    have x1 : w3.cell? ⟨w.heap.size, 1, none⟩ = some (.slice lo x.ingots.length lc) := X3.out.1.cell 1
                    have x2 : w3.cell? ⟨w.heap.size, 2, none⟩ = some (.int .i64 x.mass) := X3.out.1.cell 2
                    have xl := X3.out.1.lt
                    go_wp2_with fail
                    refine (HONE.out _ _ X3.out HO.out).mono ?_; rintro e w4 ⟨rfl, b4⟩
                    have X4 := Lib.hid (X3.out.up b4)
                    have V4 := Lib.hid (V3.out.up b4)
                    have U4 := Lib.hid (U3.out.up b4)
                    have B4 := Lib.hid (bnext B3.out b4)
                    clear b4 X3 V3 U3 B3 HONE x0 x1 x2 xl
                    go_wp2_with fail
                    refine (HEX.out _ _ HRI.out V4.out U4.out HE.out).mono ?_; rintro e w5 ⟨rfl, b5⟩
                    have X5 := Lib.hid (X4.out.up b5)
                    have V5 := Lib.hid (V4.out.up b5)
                    have U5 := Lib.hid (U4.out.up b5)
                    have B5 := Lib.hid (bnext B4.out b5)
                    clear b5 X4 V4 U4 B4 HEX
                    have x0 : w5.cell? ⟨w.heap.size, 0, none⟩ = some (.string x.id) := X5.out.1.cell 0
                    have x1 : w5.cell? ⟨w.heap.size, 1, none⟩ = some (.slice lo x.ingots.length lc) := X5.out.1.cell 1
                    have x2 : w5.cell? ⟨w.heap.size, 2, none⟩ = some (.int .i64 x.mass) := X5.out.1.cell 2
                    have xl := X5.out.1.lt
                    go_wp2_with fail
                    refine (HE1.out _ _ HRI.out V5.out X5.out HC.out).mono ?_; rintro e w6 ⟨rfl, b6⟩
                    have c6 : Below w5.heap.size w5 w6 := Below.trans (by (repeat' (first | (with_reducible exact Below.refl _ _) | (with_reducible assumption) | (with_reducible refine below_dn ?_ _) | (with_reducible refine Below.drew ?_) | (with_reducible refine Below.alloc ?_ ?_ _) | (with_reducible refine Below.setCell ?_ ?_ _) | go_size))) (b6.mono (by first | omega | (simp <;> omega)))
                    have X6 := Lib.hid (X5.out.up c6)
                    have V6 := Lib.hid (V5.out.up c6)
                    have U6 := Lib.hid (U5.out.up c6)
                    have B6 := Lib.hid (bnext B5.out c6)
                    clear b6 c6 X5 V5 U5 B5 HE1 x0 x1 x2 xl
                    have x0 : w6.cell? ⟨w.heap.size, 0, none⟩ = some (.string x.id) := X6.out.1.cell 0
                    have x1 : w6.cell? ⟨w.heap.size, 1, none⟩ = some (.slice lo x.ingots.length lc) := X6.out.1.cell 1
                    have x2 : w6.cell? ⟨w.heap.size, 2, none⟩ = some (.int .i64 x.mass) := X6.out.1.cell 2
                    have xl := X6.out.1.lt
                    have HMO6 := Lib.hid (fun (w' : World) (hb : Below w6.heap.size w6 w') => (by have q := impl_mostFrom w' _ xs x lo lc cs (V6.out.up hb) h16 HRI.out HALL.out (X6.out.2.up hb) HXF.out.2.2.2 HCS.out HCH.out; rw [HMO.out] at q; exact q : Calls Tryz.prog 24 #[.slice vo xs.length vc, .agg #[.string x.id, .slice lo x.ingots.length lc, .int .i64 x.mass]] w' fun e w'' => e = .returned (.int .i64 mo) ∧ Below w'.heap.size w' w''))
                    go_wp2_with fail
                    refine wp_region_above (by kernel_rfl) (by kernel_rfl) ?_
                    repeat (go_big_quiet_step (((go_at_call 24; exact aboveC (HMO6.out _ (above_below _ _))))))
                    refine wpQuiet_nil ?_
                    intro w7 b7
                    have X7 := Lib.hid (X6.out.up b7)
                    have V7 := Lib.hid (V6.out.up b7)
                    have U7 := Lib.hid (U6.out.up b7)
                    have B7 := Lib.hid (bnext B6.out b7)
                    clear b7 X6 V6 U6 B6 HMO6 x0 x1 x2 xl
                    have HCF := Lib.hid (ContainsFunc_AddMelt1 w.heap.size w7 _ ms (fun y => commonB x.ingots y.ingots) U7.out hn2 (fun wr hb k hk lo2 lc2 hr => impl_AddMelt1 x ms[k] w.heap.size (.slice lo x.ingots.length lc) _ wr ((X7.out.up hb).1.cell 0) ((X7.out.up hb).1.cell 1) ((X7.out.up hb).1.cell 2) (X7.out.up hb).1.lt (X7.out.up hb).2 hr HXF.out.2.2.2 (Hf.out _ (List.getElem_mem hk)).2.2.2 rfl))
                    rw [HCM.out] at HCF
                    go_wp2_with fail
                    refine HCF.out.mono ?_; rintro e w8 ⟨rfl, b8⟩
                    have X8 := Lib.hid (X7.out.up b8)
                    have V8 := Lib.hid (V7.out.up b8)
                    have U8 := Lib.hid (U7.out.up b8)
                    have B8 := Lib.hid (bnext B7.out b8)
                    clear b8 X7 V7 U7 B7 HCF
                    go_wp2_with fail
                    go_ret2
                    exact ⟨_, [], by rw [e.out]; try rfl, nest_nil _ _ _, by rw [e.out]; try rfl, B8.out⟩
                  · have HI := Lib.hid hI
                    have HCM : Hid ((ms.any fun y => commonB x.ingots y.ingots) = false) := Lib.hid (by rw [hcm, hC]; try rfl)
                    have e := Lib.hid (addM_ok HVV.out HEE.out (by rw [HMS.out]; exact hgt) hI hC h12)
                    have hN : idM ms x.id = none := by simpa using hI
                    have HN := Lib.hid hN
                    have t12 : decide ((12 : Int) ≤ (ms.length : Int)) = false := decide_eq_false (by omega)
                    clear hI hC hcm hN hgt
                    go_enter Tryz.func6, Tryz.ntmps6
                    go_wp2_with fail
                    refine (HAT.out _ U0.out).mono ?_; rintro e w1 ⟨⟨i, rfl, hfo⟩, b1⟩
                    have X1 := Lib.hid (X0.out.up b1)
                    have V1 := Lib.hid (V0.out.up b1)
                    have U1 := Lib.hid (U0.out.up b1)
                    have B1 := Lib.hid (bnext B0.out b1)
                    clear b1 X0 V0 U0 B0 HAT
                    obtain ⟨f1, f2, f3, f4, f5⟩ := found_idM HRM.out hfo
                    rw [f1, HI.out]
                    clear hfo f1 f2 HI
                    go_wp2_with fail
                    refine (HVI.out _ _ V1.out HV.out).mono ?_; rintro e w2 ⟨rfl, b2⟩
                    have X2 := Lib.hid (X1.out.up b2)
                    have V2 := Lib.hid (V1.out.up b2)
                    have U2 := Lib.hid (U1.out.up b2)
                    have B2 := Lib.hid (bnext B1.out b2)
                    clear b2 X1 V1 U1 B1 HVI
                    go_wp2_with fail
                    refine (HVM.out _ _ U2.out HM.out).mono ?_; rintro e w3 ⟨rfl, b3⟩
                    have X3 := Lib.hid (X2.out.up b3)
                    have V3 := Lib.hid (V2.out.up b3)
                    have U3 := Lib.hid (U2.out.up b3)
                    have B3 := Lib.hid (bnext B2.out b3)
                    clear b3 X2 V2 U2 B2 HVM
                    have x0 : w3.cell? ⟨w.heap.size, 0, none⟩ = some (.string x.id) := X3.out.1.cell 0
                    have x1 : w3.cell? ⟨w.heap.size, 1, none⟩ = some (.slice lo x.ingots.length lc) := X3.out.1.cell 1
                    have x2 : w3.cell? ⟨w.heap.size, 2, none⟩ = some (.int .i64 x.mass) := X3.out.1.cell 2
                    have xl := X3.out.1.lt
                    go_wp2_with fail
                    refine (HONE.out _ _ X3.out HO.out).mono ?_; rintro e w4 ⟨rfl, b4⟩
                    have X4 := Lib.hid (X3.out.up b4)
                    have V4 := Lib.hid (V3.out.up b4)
                    have U4 := Lib.hid (U3.out.up b4)
                    have B4 := Lib.hid (bnext B3.out b4)
                    clear b4 X3 V3 U3 B3 HONE x0 x1 x2 xl
                    go_wp2_with fail
                    refine (HEX.out _ _ HRI.out V4.out U4.out HE.out).mono ?_; rintro e w5 ⟨rfl, b5⟩
                    have X5 := Lib.hid (X4.out.up b5)
                    have V5 := Lib.hid (V4.out.up b5)
                    have U5 := Lib.hid (U4.out.up b5)
                    have B5 := Lib.hid (bnext B4.out b5)
                    clear b5 X4 V4 U4 B4 HEX
                    have x0 : w5.cell? ⟨w.heap.size, 0, none⟩ = some (.string x.id) := X5.out.1.cell 0
                    have x1 : w5.cell? ⟨w.heap.size, 1, none⟩ = some (.slice lo x.ingots.length lc) := X5.out.1.cell 1
                    have x2 : w5.cell? ⟨w.heap.size, 2, none⟩ = some (.int .i64 x.mass) := X5.out.1.cell 2
                    have xl := X5.out.1.lt
                    go_wp2_with fail
                    refine (HE1.out _ _ HRI.out V5.out X5.out HC.out).mono ?_; rintro e w6 ⟨rfl, b6⟩
                    have c6 : Below w5.heap.size w5 w6 := Below.trans (by (repeat' (first | (with_reducible exact Below.refl _ _) | (with_reducible assumption) | (with_reducible refine below_dn ?_ _) | (with_reducible refine Below.drew ?_) | (with_reducible refine Below.alloc ?_ ?_ _) | (with_reducible refine Below.setCell ?_ ?_ _) | go_size))) (b6.mono (by first | omega | (simp <;> omega)))
                    have X6 := Lib.hid (X5.out.up c6)
                    have V6 := Lib.hid (V5.out.up c6)
                    have U6 := Lib.hid (U5.out.up c6)
                    have B6 := Lib.hid (bnext B5.out c6)
                    clear b6 c6 X5 V5 U5 B5 HE1 x0 x1 x2 xl
                    have x0 : w6.cell? ⟨w.heap.size, 0, none⟩ = some (.string x.id) := X6.out.1.cell 0
                    have x1 : w6.cell? ⟨w.heap.size, 1, none⟩ = some (.slice lo x.ingots.length lc) := X6.out.1.cell 1
                    have x2 : w6.cell? ⟨w.heap.size, 2, none⟩ = some (.int .i64 x.mass) := X6.out.1.cell 2
                    have xl := X6.out.1.lt
                    have HMO6 := Lib.hid (fun (w' : World) (hb : Below w6.heap.size w6 w') => (by have q := impl_mostFrom w' _ xs x lo lc cs (V6.out.up hb) h16 HRI.out HALL.out (X6.out.2.up hb) HXF.out.2.2.2 HCS.out HCH.out; rw [HMO.out] at q; exact q : Calls Tryz.prog 24 #[.slice vo xs.length vc, .agg #[.string x.id, .slice lo x.ingots.length lc, .int .i64 x.mass]] w' fun e w'' => e = .returned (.int .i64 mo) ∧ Below w'.heap.size w' w''))
                    go_wp2_with fail
                    refine wp_region_above (by kernel_rfl) (by kernel_rfl) ?_
                    repeat (go_big_quiet_step (((go_at_call 24; exact aboveC (HMO6.out _ (above_below _ _))))))
                    refine wpQuiet_nil ?_
                    intro w7 b7
                    have X7 := Lib.hid (X6.out.up b7)
                    have V7 := Lib.hid (V6.out.up b7)
                    have U7 := Lib.hid (U6.out.up b7)
                    have B7 := Lib.hid (bnext B6.out b7)
                    clear b7 X6 V6 U6 B6 HMO6 x0 x1 x2 xl
                    have HCF := Lib.hid (ContainsFunc_AddMelt1 w.heap.size w7 _ ms (fun y => commonB x.ingots y.ingots) U7.out hn2 (fun wr hb k hk lo2 lc2 hr => impl_AddMelt1 x ms[k] w.heap.size (.slice lo x.ingots.length lc) _ wr ((X7.out.up hb).1.cell 0) ((X7.out.up hb).1.cell 1) ((X7.out.up hb).1.cell 2) (X7.out.up hb).1.lt (X7.out.up hb).2 hr HXF.out.2.2.2 (Hf.out _ (List.getElem_mem hk)).2.2.2 rfl))
                    rw [HCM.out] at HCF
                    go_wp2_with fail
                    refine HCF.out.mono ?_; rintro e w8 ⟨rfl, b8⟩
                    have X8 := Lib.hid (X7.out.up b8)
                    have V8 := Lib.hid (V7.out.up b8)
                    have U8 := Lib.hid (U7.out.up b8)
                    have B8 := Lib.hid (bnext B7.out b8)
                    clear b8 X7 V7 U7 B7 HCF
                    have hpos : i = posM ms x.id := posM_eq HRM.out HN.out f3 f4 (f5 HN.out)
                    have HPOS := Lib.hid hpos
                    clear f4 f5 hpos t12 HCM
                    have x0 : w8.cell? ⟨w.heap.size, 0, none⟩ = some (.string x.id) := X8.out.1.cell 0
                    have x1 : w8.cell? ⟨w.heap.size, 1, none⟩ = some (.slice lo x.ingots.length lc) := X8.out.1.cell 1
                    have x2 : w8.cell? ⟨w.heap.size, 2, none⟩ = some (.int .i64 x.mass) := X8.out.1.cell 2
                    have xl := X8.out.1.lt
                    have XD : Hid (Rd w8.drew.heap.size w8.drew (.slice lo x.ingots.length lc) 1 x.ingots.length (x.ingots.flatMap putStr)) := Lib.hid (X8.out.2)
                    have HCA := Lib.hid (fun (w' : World) (hb : Below w8.heap.size w8 w') => (impl_copyMelts w' _ ms (U8.out.up hb) (by omega) (fun m hm => by have := meltB_parts (HMB.out m hm); omega)).mono (fun e w'' ⟨r, os, gs, h1, h2, h3, h4, h5⟩ => (⟨r, os, gs, h1, ⟨h2, h3, h4⟩, h5⟩ : ∃ r os gs, e = Ending.returned r ∧ CpM w'.heap.size w'' r os gs ms ∧ Below w'.heap.size w' w'')))
                    have HCC := Lib.hid (fun (w' : World) (v' : Value) (hr : RdM w'.heap.size w' v' [x]) => copy_x w' v' x hr (by have := meltB_parts HO.out; omega) HXF.out.2.2.2)
                    have HD := Lib.hid (fun (wD : World) (r : Value) (os : List Melt) (gs : List Nat) (vb gx cx : Nat) (hc : CpM w8.heap.size wD r os gs ms) (hv : Own wD vb 28 [.string x.id, .slice (some ⟨gx, 0, none⟩) x.ingots.length cx, .int .i64 x.mass]) (hx : KidX w8.heap.size wD gx cx x) (hne : ∀ g, r.ownBlock = some g → vb ≠ g) (hgn : ∀ g' ∈ gs, g' ≠ gx) (hb : Below w8.heap.size w8 wD) => ins_fin w8.heap.size w8 wD ms x r os gs i vb gx cx hc hv hx hne hgn f3 (by omega) hb (Nat.le_refl _) hb.size)
                    have h01 : (0 : Int) < (1 : Int) := by decide
                    go_wp2_with fail
                    have f0 : w8.drew.cell? ⟨w.heap.size, 0, none⟩ = some (.string x.id) := x0
                    have f1 : w8.drew.cell? ⟨w.heap.size, 1, none⟩ = some (.slice lo x.ingots.length lc) := x1
                    have f2 : w8.drew.cell? ⟨w.heap.size, 2, none⟩ = some (.int .i64 x.mass) := x2
                    go_region_with (first
                      | (go_at_call_of 29 uo
                         refine (HCA.out _ (by (repeat' (first | (with_reducible exact Below.refl _ _) | (with_reducible assumption) | (with_reducible refine below_dn ?_ _) | (with_reducible refine Below.drew ?_) | (with_reducible refine Below.alloc ?_ ?_ _) | (with_reducible refine Below.setCell ?_ ?_ _) | go_size)))).mono ?_
                         rintro e wA ⟨rA, osA, gsA, rfl, cpA, bA⟩
                         have BA : Below w8.heap.size w8 wA := Below.trans (by (repeat' (first | (with_reducible exact Below.refl _ _) | (with_reducible assumption) | (with_reducible refine below_dn ?_ _) | (with_reducible refine Below.drew ?_) | (with_reducible refine Below.alloc ?_ ?_ _) | (with_reducible refine Below.setCell ?_ ?_ _) | go_size))) (bA.mono (by first | omega | (simp <;> omega)))
                         have szA : w8.heap.size ≤ wA.heap.size := BA.size
                         have xlA : w.heap.size < wA.heap.size := Nat.lt_of_lt_of_le xl szA
                         have z0 : wA.cell? ⟨w.heap.size, 0, none⟩ = some (.string x.id) := (BA.cell (p := ⟨w.heap.size, 0, none⟩) xl).trans x0
                         have z1 : wA.cell? ⟨w.heap.size, 1, none⟩ = some (.slice lo x.ingots.length lc) := (BA.cell (p := ⟨w.heap.size, 1, none⟩) xl).trans x1
                         have z2 : wA.cell? ⟨w.heap.size, 2, none⟩ = some (.int .i64 x.mass) := (BA.cell (p := ⟨w.heap.size, 2, none⟩) xl).trans x2
                         have CPA := Lib.hid cpA
                         try (have bX : Below (w8.drew.alloc (.cells #[.string x.id, .slice lo x.ingots.length lc, .int .i64 x.mass] 28)).heap.size (w8.drew.alloc (.cells #[.string x.id, .slice lo x.ingots.length lc, .int .i64 x.mass] 28)) wA := bA; have RX := Lib.hid ((rdm_one w8.drew x lo lc (XD.out)).up bX); clear bX)
                         try (have BCA : Below wC.heap.size wC wA := Below.trans (by (repeat' (first | (with_reducible exact Below.refl _ _) | (with_reducible assumption) | (with_reducible refine below_dn ?_ _) | (with_reducible refine Below.drew ?_) | (with_reducible refine Below.alloc ?_ ?_ _) | (with_reducible refine Below.setCell ?_ ?_ _) | go_size))) (bA.mono (by first | omega | (simp <;> omega))); have KX2 := Lib.hid (KX.out.below BCA); have y0 := (BCA.cell (p := ⟨gC, 0, none⟩) hgC).trans y0; have y1 := (BCA.cell (p := ⟨gC, 1, none⟩) hgC).trans y1; have y2 := (BCA.cell (p := ⟨gC, 2, none⟩) hgC).trans y2; have hgC : gC < wA.heap.size := Nat.lt_of_lt_of_le hgC BCA.size)
                         try (have bY : Below (wC.alloc (.cells #[.string x.id, .slice (some ⟨gx, 0, none⟩) x.ingots.length cx, .int .i64 x.mass] 28)).heap.size (wC.alloc (.cells #[.string x.id, .slice (some ⟨gx, 0, none⟩) x.ingots.length cx, .int .i64 x.mass] 28)) wA := bA; have OY := Lib.hid ((Own.new wC 28 [.string x.id, .slice (some ⟨gx, 0, none⟩) x.ingots.length cx, .int .i64 x.mass]).below bY (Own.new wC _ _).lt); clear bY)
                         clear bA cpA)
                      | (go_at_call 29
                         go_loud (
                           first
                             | go_loud (refine (HCC.out _ _ (by exact RX.out)).mono ?_)
                             | go_loud (have hb9 := BA; refine (HCC.out _ _ (by exact rdm_one wA x lo lc (X8.out.2.up BA))).mono ?_)
                             | go_loud (refine (HCC.out _ _ (by exact rdm_one w8.drew x lo lc XD.out)).mono ?_)
                           rintro e wC ⟨gC, cC, gx, cx, rfl, hgCl, hgC, y0, y1, y2, kx, bC⟩
                           have BC : Below w8.heap.size w8 wC := Below.trans (by (repeat' (first | (with_reducible exact Below.refl _ _) | (with_reducible assumption) | (with_reducible refine below_dn ?_ _) | (with_reducible refine Below.drew ?_) | (with_reducible refine Below.alloc ?_ ?_ _) | (with_reducible refine Below.setCell ?_ ?_ _) | go_size))) (bC.mono (by first | omega | (simp <;> omega)))
                           have szC : w8.heap.size ≤ wC.heap.size := BC.size
                           have xlC : w.heap.size < wC.heap.size := Nat.lt_of_lt_of_le xl szC
                           have KX := Lib.hid kx
                           have h01 : (0 : Int) < (1 : Int) := by decide
                           try (have BAC : Below wA.heap.size wA wC := Below.trans (by (repeat' (first | (with_reducible exact Below.refl _ _) | (with_reducible assumption) | (with_reducible refine below_dn ?_ _) | (with_reducible refine Below.drew ?_) | (with_reducible refine Below.alloc ?_ ?_ _) | (with_reducible refine Below.setCell ?_ ?_ _) | go_size))) (bC.mono (by first | omega | (simp <;> omega))); have CPC := Lib.hid (CPA.out.below BAC))
                           clear bC kx))
                      | (go_at_call 28
                         go_loud (
                           first
                             | (have hv := OY.out
                                refine (HD.out wA rA osA gsA wC.heap.size gx cx ⟨own_base CPA.out.1 (by first | omega | (simp <;> omega)), CPA.out.2.1.base (by first | omega | (simp <;> omega)), CPA.out.2.2⟩ hv (KX2.out.base (by first | omega | (simp <;> omega))) (by exact fun g hg => by have q := (CPA.out.1.lt g hg).1; (try simp at q); omega) (by exact fun g hg => by have q := CPA.out.2.1.ge g hg; have q2 := KX.out.lt; (try simp at q); omega) BA).mono ?_)
                             | (have hv := BCA
                                refine (HD.out (wA.alloc (.cells #[.string x.id, .slice (some ⟨gx, 0, none⟩) x.ingots.length cx, .int .i64 x.mass] 28)) rA osA gsA wA.heap.size gx cx ⟨own_base (CPA.out.1.alloc _) (by first | omega | (simp <;> omega)), (CPA.out.2.1.base (by first | omega | (simp <;> omega))).below ((Below.refl _ _).alloc (Nat.le_refl _) _), CPA.out.2.2⟩ (Own.new wA _ _) ((KX2.out.base (by first | omega | (simp <;> omega))).below ((Below.refl _ _).alloc (Nat.le_refl _) _)) (by exact fun g hg => by have q := (CPA.out.1.lt g hg).2; omega) (by exact fun g hg => by have q := CPA.out.2.1.ge g hg; have q2 := KX.out.lt; (try simp at q); omega) (BA.alloc szA _)).mono ?_)
                             | (have hv := BAC
                                refine (HD.out (wC.alloc (.cells #[.string x.id, .slice (some ⟨gx, 0, none⟩) x.ingots.length cx, .int .i64 x.mass] 28)) rA osA gsA wC.heap.size gx cx ⟨own_base (CPC.out.1.alloc _) (by first | omega | (simp <;> omega)), (CPC.out.2.1.base (by first | omega | (simp <;> omega))).below ((Below.refl _ _).alloc (Nat.le_refl _) _), CPC.out.2.2⟩ (Own.new wC _ _) ((KX.out.base (by first | omega | (simp <;> omega))).below ((Below.refl _ _).alloc (Nat.le_refl _) _)) (by exact fun g hg => by have q := (CPC.out.1.lt g hg).2; omega) (by exact fun g hg => by have q := CPA.out.2.1.lt g hg; have q2 := KX.out.1; (try simp at q2); omega) (BC.alloc szC _)).mono ?_)
                           rintro e wD ⟨rD, osD, rfl, nD, sD, bD⟩
                           have ND := Lib.hid nD
                           have SD := Lib.hid sD
                           have BD := Lib.hid bD
                           clear nD sD bD)))
                    all_goals
                      go_wp2_with fail
                      go_ret2
                      exact ⟨_, osD, by rw [e.out]; try rfl, Nest.lower ND.out B8.out.size, by rw [e.out]; unfold insM; rw [← HPOS.out]; exact SD.out, B8.out.trans (BD.out.mono B8.out.size)⟩
end Go.Proofs.YtnbodmbagendnaaGreatDoor
