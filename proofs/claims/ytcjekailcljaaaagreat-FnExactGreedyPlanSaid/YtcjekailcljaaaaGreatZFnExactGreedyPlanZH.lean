/- Contracts and plain facts, joined: GrdK, RawS2. -/
import Derived.Test.YtcjekailcljaaaaGreatRows
import Derived.Test.YtcjekailcljaaaaGreatZFnExactGreedyPlanI
import Derived.Test.YtcjekailcljaaaaGreatZFnExactGreedyPlanZB
import Derived.Test.YtcjekailcljaaaaGreatZFnExactGreedyPlanZG
namespace Go.Proofs.YtcjekailcljaaaaGreat
open Go.ChangeShapes Go.WideShapes Go.ChangeAt Go.RowKit Go.Deep Go.Joins
set_option linter.unusedVariables false
set_option maxRecDepth 100000
set_option linter.unusedSimpArgs false
def schL (bm bp bq : Nat) (rv sv : Value) : List Value := [.pointer (some ⟨bm, 0, none⟩), .pointer (some ⟨bp, 0, none⟩), .pointer (some ⟨bq, 0, none⟩), rv, sv, .int .i64 (-1), .int .i64 0, .bool false, .bool false, .slice none 0 0, .int .i64 (-1), .int .i64 0, .int .i64 0, .int .i64 1, .bool false]
/-- the boxes, the search itself in block X, and the room; gs is the steps' own block -/
def GrdK (w0 wr : World) (X gs bm bp bq : Nat) (zo wo bo lo : Option Addr) (zc wc bc lc : Nat) (m : Mdl) (x : Profile) (g : GoalX) (E : TypeId) (L : List Value) (rl rh : Nat) (rv : Value) (R : List Int) : Prop :=
  Below w0.heap.size w0 wr ∧ Own wr bm 39 [.slice zo m.zones.length zc, .slice wo m.rows.length wc, .slice bo m.base.length bc] ∧ Own wr bp 43 [.string x.name, .slice lo x.rings.length lc] ∧ Own wr bq 47 g.put ∧ Own wr X E L ∧ Held rl rh wr 2 1 rv R.length (R.flatMap putI) ∧
    (w0.heap.size ≤ gs ∧ gs < wr.heap.size) ∧ (bm ≠ gs ∧ bp ≠ gs ∧ bq ≠ gs ∧ X ≠ gs) ∧ (gs < rl ∨ rh ≤ gs)
section
variable {w0 wr wr' : World} {X gs bm bp bq : Nat} {zo wo bo lo : Option Addr} {zc wc bc lc : Nat} {m : Mdl} {x : Profile} {g : GoalX} {E : TypeId} {L : List Value} {rl rh : Nat} {rv : Value} {R : List Int}
theorem GrdK.turn (h : GrdK w0 wr X gs bm bp bq zo wo bo lo zc wc bc lc m x g E L rl rh rv R) (t : Turn gs (gs + 1) wr wr') : GrdK w0 wr' X gs bm bp bq zo wo bo lo zc wc bc lc m x g E L rl rh rv R := by
  obtain ⟨h1, h2, h3, h4, h5, h6, ⟨h7, h8⟩, ⟨h9, h10, h11, h12⟩, h13⟩ := h
  exact ⟨h1.trans (t.below h7 h1.size), h2.turn t (by omega), h3.turn t (by omega), h4.turn t (by omega), h5.turn t (by omega), h6.turn t (by omega), ⟨h7, Nat.lt_of_lt_of_le h8 t.size⟩, ⟨h9, h10, h11, h12⟩, h13⟩
theorem GrdK.below (h : GrdK w0 wr X gs bm bp bq zo wo bo lo zc wc bc lc m x g E L rl rh rv R) (b : Below wr.heap.size wr wr') : GrdK w0 wr' X gs bm bp bq zo wo bo lo zc wc bc lc m x g E L rl rh rv R :=
  h.turn (Turn.of_below b)
theorem turn_one (w : World) (gs i : Nat) (v : Value) : Turn gs (gs + 1) w (w.setCell ⟨gs, i, none⟩ v) := (Turn.refl _ _ _).set (Nat.le_refl _) (Nat.lt_succ_self _) i v
theorem GrdK.mdl (h : GrdK w0 wr X gs bm bp bq zo wo bo lo zc wc bc lc m x g E L rl rh rv R) : MdlAt wr bm (.slice zo m.zones.length zc) (.slice wo m.rows.length wc) (.slice bo m.base.length bc) := ⟨h.2.1.cell 0, h.2.1.cell 1, h.2.1.cell 2, h.2.1.lt⟩
theorem GrdK.prof (h : GrdK w0 wr X gs bm bp bq zo wo bo lo zc wc bc lc m x g E L rl rh rv R) : ProfAt wr bp x lo lc := ⟨h.2.2.1.cell 0, h.2.2.1.cell 1, h.2.2.1.lt⟩
theorem GrdK.goal (h : GrdK w0 wr X gs bm bp bq zo wo bo lo zc wc bc lc m x g E L rl rh rv R) : GoalAt wr bq g := GoalAt.of h.2.2.2.1
theorem GrdK.sch (h : GrdK w0 wr X gs bm bp bq zo wo bo lo zc wc bc lc m x g E L rl rh rv R) : Own wr X E L := h.2.2.2.2.1
theorem GrdK.room (h : GrdK w0 wr X gs bm bp bq zo wo bo lo zc wc bc lc m x g E L rl rh rv R) : Held rl rh wr 2 1 rv R.length (R.flatMap putI) := h.2.2.2.2.2.1
theorem GrdK.ltg (h : GrdK w0 wr X gs bm bp bq zo wo bo lo zc wc bc lc m x g E L rl rh rv R) : w0.heap.size ≤ gs ∧ gs < wr.heap.size := h.2.2.2.2.2.2.1
end
/-- steps, and zeros behind them -/
def padK (st : List Int) (k : Nat) : List Int := st.take k ++ List.replicate (8 - k) 0
theorem padK_len {st : List Int} {k : Nat} (hk : k ≤ st.length) (h8 : st.length ≤ 8) : (padK st k).length = 8 := by
  unfold padK; rw [List.length_append, List.length_take, List.length_replicate]; omega
theorem padK_set {st : List Int} {k : Nat} (hk : k < st.length) (h8 : st.length ≤ 8) : (padK st k).set k st[k] = padK st (k + 1) := by
  have hl : (st.take k).length = k := by rw [List.length_take]; omega
  obtain ⟨f, hf⟩ : ∃ f, 8 - k = f + 1 := ⟨8 - k - 1, by omega⟩
  have e : 8 - (k + 1) = f := by omega
  unfold padK
  rw [hf, e, List.replicate_succ, List.take_succ_eq_append_getElem hk, List.set_append, if_neg (by rw [hl]; exact Nat.lt_irrefl _), hl, Nat.sub_self, List.set_cons_zero, List.append_assoc]
  rfl
theorem padK_at {st : List Int} {k : Nat} (hk : k < st.length) (h8 : st.length ≤ 8) : (padK st k)[k]? = some 0 := by
  have hl : (st.take k).length = k := by rw [List.length_take]; omega
  unfold padK
  rw [List.getElem?_append_right (by rw [hl]; exact Nat.le_refl _), hl, Nat.sub_self, List.getElem?_replicate, if_pos (by omega)]
theorem padK_getD {st : List Int} {z : Nat} (hz : z < st.length) : (padK st st.length).getD z 0 = st.getD z 0 := by
  unfold padK
  rw [List.take_of_length_le (Nat.le_refl _), List.getD_eq_getElem?_getD, List.getElem?_append_left hz, List.getD_eq_getElem?_getD]
theorem padK_bd {st : List Int} (h : ∀ n ∈ st, 0 ≤ n ∧ n ≤ 20) (k : Nat) : ∀ n ∈ padK st k, 0 ≤ n ∧ n ≤ 1280 := fun n hn => by
  unfold padK at hn
  rcases List.mem_append.1 hn with h1 | h1
  · have := h n (List.mem_of_mem_take h1); omega
  · have := (List.mem_replicate.1 h1).2; omega
theorem padK_zero (st : List Int) : padK st 0 = List.replicate 8 0 := by unfold padK; rw [List.take_zero]; rfl
theorem pad_turn {zs st : List Int} (rs : List Ring) (h1 : 1 ≤ zs.length) (hl : st.length = zs.length) : turnedS zs (padK st zs.length) rs = turnedS zs st rs :=
  turnedS_congr rs h1 fun z hz => by rw [← hl]; exact padK_getD (by rw [hl]; exact hz)
/-- what a store of a step needs -/
theorem pad_store {w : World} {G k : Nat} {st : List Int} (o : Own w G 2 ((padK st k).flatMap putI)) (hk : k < st.length) (h8 : st.length ≤ 8) : Own (w.setCell ⟨G, k, none⟩ (.int .i64 st[k])) G 2 ((padK st (k + 1)).flatMap putI) := by
  have := o.set k (.int .i64 st[k])
  rw [set_putI _ _ _ (by rw [padK_len (by omega) h8]; omega), padK_set hk h8] at this
  exact this
theorem pad_cell {w : World} {G k : Nat} {st : List Int} (o : Own w G 2 ((padK st k).flatMap putI)) (hk : k < st.length) (h8 : st.length ≤ 8) : w.cell? ⟨G, k, none⟩ = some (.int .i64 0) := by
  have hl : k < (padK st k).length := by rw [padK_len (by omega) h8]; omega
  rw [o.cell, putI_get _ k hl]
  have := padK_at hk h8
  rw [List.getElem?_eq_getElem hl] at this
  rw [Option.some.inj this]
end Go.Proofs.YtcjekailcljaaaaGreat
namespace Go.Proofs.YtcjekailcljaaaaGreat
open Go.ChangeShapes Go.WideShapes Go.ChangeAt Go.RowKit Go.Deep Go.Joins
set_option linter.unusedVariables false
set_option maxRecDepth 100000
set_option linter.unusedSimpArgs false
set_option maxHeartbeats 4000000 in
theorem spec_l08Moment (w : World) (a : Nat) (zv bv : Value) (wo vo : Option Addr) (wc vc : Nat) (m : Mdl) (walls : List Int) (k : Nat) (hm : MdlAt w a zv (.slice wo m.rows.length wc) bv) (hr : RdL w.heap.size w (.slice wo m.rows.length wc) m.rows) (hmb : mdlB m = true) (hk : k < 5)
    (hw : Rd w.heap.size w (.slice vo walls.length vc) 1 walls.length (walls.flatMap putI)) (hwl : walls.length = m.zones.length) (hwb : ∀ x ∈ walls, 0 ≤ x ∧ x ≤ 150000) :
    Calls Tryz.prog 69 #[.pointer (some ⟨a, 0, none⟩), .slice vo walls.length vc, .int .i64 k] w fun e w' => e = .returned (.int .i64 (momK (m.rows.getD k []) walls walls.length)) ∧ Below w.heap.size w w' := by
  obtain ⟨h1, h2, hrl, hrb, hbb, hrg, _⟩ := mdl_row hmb hk
  obtain ⟨wb, woff, lo, lc, rfl, hwb0, cW, hrow⟩ := hr.at k h1
  have hl8 := (zonesB_parts (mdlB_parts hmb).1).1.2
  rw [hrg]
  obtain ⟨row, hrow2⟩ : ∃ row, m.rows[k] = row := ⟨_, rfl⟩
  rw [hrow2] at hrl hrb cW hrow ⊢
  obtain ⟨n, hn⟩ : ∃ n, walls.length = n := ⟨_, rfl⟩
  have hrn : row.length = n := by omega
  have hn8 : n ≤ 8 := by omega
  have HB := Lib.hid hrb
  have HWB := Lib.hid hwb
  have HW := Lib.hid hw
  have HROW := Lib.hid hrow
  have HNW := Lib.hid hn
  have HNR := Lib.hid hrn
  have h5 : m.rows.length ≤ 1048576 := by have := (mdlB_parts hmb).2.1; omega
  have a1 := hm.2.1
  have al := hm.2.2.2
  have A1 := Lib.hid a1
  have CW := Lib.hid cW
  have hkI : (k : Int) < (m.rows.length : Int) := by omega
  have hk0 : (0 : Int) ≤ (k : Int) := by omega
  rw [hn] at HW ⊢
  rw [hrn] at CW HROW
  clear hm hr hmb hw hwl hwb hrl hrb hrow hrow2 hn hrn a1 cW
  go_enter Tryz.func69, Tryz.ntmps69
  go_wp2_with fail
  go_loopw [7, 8] (fun s i wr => ∃ (z : Nat), z ≤ n ∧ i = .int .i64 z ∧ s = .int .i64 (momK row walls z) ∧ Below w.heap.size w wr) (fun _ i _ => n - (intOf i).toNat)
  case atStart => exact ⟨0, Nat.zero_le _, rfl, rfl, Below.refl _ _⟩
  case round =>
    obtain ⟨z, hz, rfl, rfl, hb⟩ := hrel
    have HBW := Lib.hid hb
    have hmb := momK_bd HB.out HWB.out z (by rw [HNR.out]; exact hz) (by rw [HNW.out]; exact hz)
    by_cases hlt : z < n
    · have hz1 : z < row.length := by rw [HNR.out]; exact hlt
      have hz2 : z < walls.length := by rw [HNW.out]; exact hlt
      have HS := Lib.hid (momK_succ (row := row) (walls := walls) hz1 hz2)
      have hm2 := mul_bd (HB.out row[z] (List.getElem_mem hz1)) (HWB.out walls[z] (List.getElem_mem hz2))
      have a1 := (hb.cell (p := ⟨a, 1, none⟩) al).trans A1.out
      have alr : a < wr.heap.size := Nat.lt_of_lt_of_le al hb.size
      have cw := (hb.cell (p := ⟨wb, woff + k, none⟩) hwb0).trans CW.out
      have wbr : wb < wr.heap.size := Nat.lt_of_lt_of_le hwb0 hb.size
      have hR : Rd wr.heap.size wr (.slice lo row.length lc) 1 row.length (row.flatMap putI) := by rw [HNR.out]; exact HROW.out.up hb
      have hW : Rd wr.heap.size wr (.slice vo walls.length vc) 1 walls.length (walls.flatMap putI) := by rw [HNW.out]; exact HW.out.up hb
      obtain ⟨rb, roff, rfl, hrb, cR⟩ := Rd.at hR z hz1
      obtain ⟨vb, voff, rfl, hvb, cV⟩ := Rd.at hW z hz2
      obtain ⟨p, hp⟩ : ∃ p, row[z] * walls[z] = p := ⟨_, rfl⟩
      have hw1 : IntKind.i64.wrap (row[z] * walls[z]) = p := by rw [IntKind.wrap_i64]; omega
      rw [hp] at HS hm2
      have hzI : (z : Int) < (n : Int) := by omega
      have hz0 : (0 : Int) ≤ (z : Int) := by omega
      have hsum : IntKind.i64.wrap (momK row walls z + p) = momK row walls z + p := by rw [IntKind.wrap_i64]; omega
      generalize momK row walls z = S at *
      generalize row[z] = x at *
      generalize walls[z] = y at *
      clear hb hR hW hp
      go_wp2_with fail
      refine wp_region_above (by kernel_rfl) (by kernel_rfl) ?_
      repeat (go_big_quiet_step ((fail)))
      refine wpQuiet_nil ?_
      intro w1 b1
      have HB1 := Lib.hid (HBW.out.trans (b1.mono HBW.out.size)); clear b1
      go_wp2_with fail
      go_roundw
      case rel => exact ⟨z + 1, by omega, by go_num, by rw [HS.out], HB1.out⟩
      case measure => simp [intOf]; omega
    · obtain rfl : z = n := by omega
      clear hb
      go_wp2_with fail
      go_ret
      exact ⟨rfl, HBW.out⟩
theorem spec_l08Area (w : World) (p : Nat) (x : Profile) (lo : Option Addr) (lc : Nat) (hp : ProfAt w p x lo lc) (hR : RdR w lo lc x.rings) (hv : ∀ r ∈ x.rings, ringB r = true) (h1 : 1 ≤ x.rings.length) (h32 : x.rings.length ≤ 32) :
    Calls Tryz.prog 70 #[.pointer (some ⟨p, 0, none⟩)] w fun e w' => e = .returned (.int .i64 (areaZ2 x.rings)) ∧ Below w.heap.size w w' := by
  have e : Hid (areaZ2 x.rings = divR (((2 : Int) * (x.rings[0]'(by omega)).outer) * ((2 : Int) * (x.rings[0]'(by omega)).outer)) 1000000) := Lib.hid (by unfold areaZ2; rw [head_at (by omega)])
  have hr := ringB_nums (hv x.rings[0] (List.getElem_mem (by omega)))
  have hb := lip_bd hr.1
  have p1 := hp.2.1
  have pl := hp.2.2
  obtain ⟨_, ro2, rc2, ee, _, _, _, hsome⟩ := hR
  injection ee with q1 q2 q3
  subst q1 q3
  obtain ⟨b, off, rfl, hbB, hc⟩ := hsome (by omega)
  have c0 : w.cell? ⟨b, off, none⟩ = some (.int .i64 (x.rings[0]).outer) := by
    have := hc 0 (by omega)
    rw [Nat.add_zero] at this
    rw [this]; exact Ring_get0 x.rings 0 (by omega)
  have hn0 : (0 : Int) < (x.rings.length : Int) := by omega
  obtain ⟨o, ho⟩ : ∃ o, (x.rings[0]).outer = o := ⟨_, rfl⟩
  rw [ho] at e hr hb c0
  have hD := Lib.hid (fun w' => spec_divZ (((2 : Int) * o) * ((2 : Int) * o)) 1000000 w' (by decide) (by decide) (by omega) (by omega))
  have hw1 : IntKind.i64.wrap (2 * o) = 2 * o := by rw [IntKind.wrap_i64]; omega
  obtain ⟨A, hA⟩ : ∃ A, (2 * o) * (2 * o) = A := ⟨_, rfl⟩
  have hw2 : IntKind.i64.wrap ((2 * o) * (2 * o)) = A := by rw [IntKind.wrap_i64]; omega
  rw [hA] at hD e
  generalize divR A 1000000 = R at *
  clear hp hv hc hsome hb hA ho q2
  go_enter Tryz.func70, Tryz.ntmps70
  go_wp2_with fail
  refine (hD.out _).mono ?_; rintro e1 w2 ⟨rfl, rfl⟩
  go_wp2_with fail
  go_ret
  exact ⟨by rw [e.out]; rfl, Below.refl _ _⟩
end Go.Proofs.YtcjekailcljaaaaGreat
