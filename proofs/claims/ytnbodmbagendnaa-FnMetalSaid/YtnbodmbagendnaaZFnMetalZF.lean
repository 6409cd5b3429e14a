/- Contracts and plain facts, joined: OwnMelt, SearchMelt. -/
import Derived.Test.YtnbodmbagendnaaRows
import Derived.Test.YtnbodmbagendnaaZFnMetalB
import Derived.Test.YtnbodmbagendnaaZFnMetalO
import Derived.Test.YtnbodmbagendnaaZFnMetalR
import Derived.Test.YtnbodmbagendnaaZFnMetalZC
import Derived.Test.YtnbodmbagendnaaZFnMetalZE
import Derived.Deep.RegionLaw
namespace Go.Proofs.Ytnbodmbagendnaa
open Go.ChangeShapes Go.WideShapes Go.ChangeAt Go.RowKit Go.Deep Go.Joins
set_option linter.unusedVariables false
set_option maxRecDepth 100000
set_option linter.unusedSimpArgs false
theorem sapp_slE {P : Program} {w1 : World} {ops : Array Oper} {o : Oper} {a : Act} {K : Act → World → Prop} {Q : Exit → Act → World → Prop} {X : Prop} (hgd : o.guard = none) (s x : Operand) (T E : TypeId)
    (ho : o.op = .call { callee := .builtin .append, args := #[s, x], argTypes := #[T, T] }) (i : TypeInfo) (z : Value) (sz bytes : Nat)
    (hT : P.underlying T = some (.slice E)) (hi : P.info? E = some i) (hz : i.zero = some z) (h1 : i.size = sz) (h2 : i.bytes = bytes) (hzs : z.cells.size = sz) (hsz : 0 < sz)
    (w0 : World) (hs : a.eval s = .slice (some ⟨w0.heap.size, 0, none⟩) 0 0) (xv : Value) (m : Nat) (cs : List Value) (hx : a.eval x = xv) (hr : Rd w0.heap.size w0 xv sz m cs) (hone : ∀ u ∈ cs, u.oneCell' = true) (hm : 0 < m) (hn : m ≤ 2097152) (hby : bytes ≤ 64)
    (hw : w1 = w0.alloc (.cells #[] E))
    (h : ∀ g cap w', Hid (w'.ownsRow w0.heap.size E sz (.slice (some ⟨g, 0, none⟩) m cap) m cs) → Hid (Below w0.heap.size w0 w') → K (a.put o.dst (.slice (some ⟨g, 0, none⟩) m cap)) w') :
    if Region.wanted o (yielded ops a.tmps) = true then Oper.wp P o a w1 K Q else X := by
  have hwt : Region.wanted o (yielded ops a.tmps) = true := by simp [Region.wanted, hgd]
  rw [if_pos hwt]
  subst hw
  have hb : (0 + m) * bytes ≤ 140737488355328 := by
    have := Nat.mul_le_mul hn hby
    rw [Nat.zero_add]
    omega
  have b0 : Below w0.heap.size w0 (w0.alloc (.cells #[] E)) := (Below.refl _ w0).alloc (Nat.le_refl _) _
  obtain ⟨hl, ao, cap, rfl, hc, hmx, hnil, hsome⟩ := hr
  obtain ⟨b, off, rfl, hbB, hcell⟩ := hsome hm
  refine wp_append_lies _ s x T ho w0.heap.size E i z sz bytes hT hi hz h1 h2 hzs hsz _ 0 [] hs (own_empty w0 w0.heap.size E sz (Nat.le_refl _)) ⟨b, off, none⟩ m cap cs hx hl (fun j u hj => ?_) hone hm (by unfold maxLen; omega) hb b0.size _ rfl ?_
  · have hj' := (List.getElem?_eq_some_iff.1 hj).1
    rw [Addr.add_lit, b0.cell (p := ⟨b, off + j, none⟩) hbB, hcell j (by omega), hj]
  · intro g cap' w' hown hgrow _ _
    rw [Nat.zero_add, List.nil_append] at hown
    rw [Nat.zero_add]
    exact h g cap' w' (Lib.hid hown) (Lib.hid (grown_below b0 (own_empty w0 w0.heap.size E sz (Nat.le_refl _)) b0.size hgrow))
theorem infoOM : (Try.prog.info? 9).map (fun i => (i.zero, i.size, i.bytes)) = some (some (.string ByteArray.empty), 1, 16) := by kernel_rfl
theorem putStr_one (xs : List ByteArray) : ∀ u ∈ xs.flatMap putStr, u.oneCell' = true := by
  intro u hu
  obtain ⟨x, _, hx⟩ := List.mem_flatMap.1 hu
  obtain rfl : u = .string x := by simpa [putStr] using hx
  rfl
/-- a list of one's own that is not empty: its block -/
theorem own_kid {w : World} {base : Nat} {n : Nat} {v : Value} {E : TypeId} {L : List Value} (h : w.ownsRow base E 1 v n L) (h0 : 0 < n) : ∃ g c V, v = .slice (some ⟨g, 0, none⟩) n c ∧ n ≤ c ∧ c ≤ maxLen ∧ base ≤ g ∧ Own w g E (L ++ V) := by
  rcases own_form h with ⟨_, q⟩ | ⟨g, cap, rfl⟩
  · omega
  obtain ⟨U, ou⟩ := own_block h
  obtain ⟨_, ao, c2, e, h2, h3, _⟩ := own_rd h
  injection e with _ _ e3
  subst e3
  have hb : base ≤ g := (h.lt g rfl).1
  exact ⟨g, cap, U, rfl, h2, h3, hb, ou⟩
set_option maxHeartbeats 4000000 in
theorem spec_l14Own (w : World) (a o : Nat) (id : ByteArray) (ids : List ByteArray) (mass : Int) (v : Value) (c0 : w.cell? ⟨a, o, none⟩ = some (.string id)) (c1 : w.cell? ⟨a, o + 1, none⟩ = some v) (c2 : w.cell? ⟨a, o + 2, none⟩ = some (.int .i64 mass)) (ha : a < w.heap.size)
    (h : Rd w.heap.size w v 1 ids.length (ids.flatMap putStr)) (h0 : 1 ≤ ids.length) (hn : ids.length ≤ 1048576) :
    Calls Try.prog 73 #[.pointer (some ⟨a, o, none⟩)] w fun e w' => ∃ g c V, e = .returned (.agg #[.string id, .slice (some ⟨g, 0, none⟩) ids.length c, .int .i64 mass]) ∧ ids.length ≤ c ∧ c ≤ maxLen ∧ w.heap.size ≤ g ∧ Own w' g 9 (ids.flatMap putStr ++ V) ∧ Below w.heap.size w w' := by
  obtain ⟨i0, hi, hz0, hz1, hz2⟩ := info_parts infoOM
  have hR0 : Hid (Own (w.alloc (.cells #[.string ⟨#[]⟩, .slice none 0 0, .int .i64 0] 63)) w.heap.size 63 [.string ⟨#[]⟩, .slice none 0 0, .int .i64 0]) := Lib.hid (Own.new w _ _)
  have HB0 : Hid (Below w.heap.size w (w.alloc (.cells #[.string ⟨#[]⟩, .slice none 0 0, .int .i64 0] 63)).drew) := Lib.hid (((Below.refl _ _).alloc (Nat.le_refl _) _).drew)
  have HR := Lib.hid (h.up ((Below.refl _ w).alloc (Nat.le_refl _) (.cells #[.string ⟨#[]⟩, .slice none 0 0, .int .i64 0] 63)))
  obtain ⟨lo, lc, rfl⟩ := h.form
  have h1 := putStr_one ids
  have mixed : Try.prog.follows .mixedOrders = true := by kernel_rfl
  clear h
  go_enter Try.func73, Try.ntmps73
  go_wp2_with fail
  go_region_law_o (refine sapp_slE rfl _ _ 51 9 rfl i0 (.string ByteArray.empty) 1 16 Try.underlying51 hi hz0 hz1 hz2 (by rfl) (by decide) (w.alloc (.cells #[.string ⟨#[]⟩, .slice none 0 0, .int .i64 0] 63)).drew (by simp [Act.eval, Act.put]) _ ids.length (ids.flatMap putStr) (by simp [Act.eval, Act.put]; try rfl) HR.out h1 (by omega) (by omega) (by decide) (by rfl) ?_; intro g cap w1 HO1 HB1; have HBW : Hid (Below w.heap.size w w1) := Lib.hid (HB0.out.trans (HB1.out.mono HB0.out.size)); have R1 : Hid (Own w1 w.heap.size 63 [.string ⟨#[]⟩, .slice none 0 0, .int .i64 0]) := Lib.hid (Own.below (w := (w.alloc (.cells #[.string ⟨#[]⟩, .slice none 0 0, .int .i64 0] 63)).drew) hR0.out HB1.out hR0.out.lt); have d0 := (HBW.out.cell (p := ⟨a, o, none⟩) ha).trans c0; have d1 := (HBW.out.cell (p := ⟨a, o + 1, none⟩) ha).trans c1; have d2 := (HBW.out.cell (p := ⟨a, o + 2, none⟩) ha).trans c2; have q0 : w1.cell? ⟨w.heap.size, 0, none⟩ = some (.string ⟨#[]⟩) := R1.out.cell 0; have q1 : w1.cell? ⟨w.heap.size, 1, none⟩ = some (.slice none 0 0) := R1.out.cell 1; have q2 : w1.cell? ⟨w.heap.size, 2, none⟩ = some (.int .i64 0) := R1.out.cell 2; have f0 := R1.out.free 0; have f1 := R1.out.free 1; have f2 := R1.out.free 2; have hlt := R1.out.lt; have hne : ¬ w.heap.size = w1.heap.size := (by omega))
  all_goals go_wp2_with fail
  all_goals obtain ⟨g', c', V, e1, k2, k3, k4, k5⟩ := own_kid HO1.out (by omega)
  all_goals cases e1
  all_goals have hgs : w.heap.size + 1 ≤ g := by simpa using k4
  all_goals have hb := HBW.out
  all_goals refine bodyPost_ret (v := .agg #[.string id, .slice (some ⟨g, 0, none⟩) ids.length cap, .int .i64 mass]) (by simp [results, Try.results73, go_sem, q0, q1, q2, hlt, hne]) rfl ?_
  all_goals exact ⟨g, cap, V, rfl, k2, k3, by omega, ((k5.other (by show w.heap.size ≠ g; omega) _).other (by show w.heap.size ≠ g; omega) _).other (by show w.heap.size ≠ g; omega) _, by (repeat' (first | (with_reducible exact Below.refl _ _) | (with_reducible assumption) | (with_reducible refine below_dn ?_ _) | (with_reducible refine Below.drew ?_) | (with_reducible refine Below.alloc ?_ ?_ _) | (with_reducible refine Below.setCell ?_ ?_ _) | go_size))⟩
end Go.Proofs.Ytnbodmbagendnaa
namespace Go.Proofs.Ytnbodmbagendnaa
open Go.ChangeShapes Go.WideShapes Go.ChangeAt Go.RowKit Go.Deep Go.Joins
set_option linter.unusedVariables false
set_option maxRecDepth 100000
set_option linter.unusedSimpArgs false
theorem impl_meltAt1 (x : Melt) (lo : Option Addr) (lc : Nat) (a : ByteArray) (w : World) : Calls Try.prog 124 #[.agg #[.string x.id, .slice lo x.ingots.length lc, .int .i64 x.mass], .string a] w fun e w' => e = .returned (.int .i64 (cmpS x.id a)) ∧ Below w.heap.size w w' := by
  go_enter Try.func124, Try.ntmps124
  go_wp2_with (first | (go_at_call 125; refine (cmp_Compare_str _ _ _).mono ?_; rintro e w' ⟨rfl, rfl⟩))
  go_ret
  exact ⟨rfl, by (repeat' (first | (with_reducible exact Below.refl _ _) | (with_reducible assumption) | (with_reducible refine below_dn ?_ _) | (with_reducible refine Below.drew ?_) | (with_reducible refine Below.alloc ?_ ?_ _) | (with_reducible refine Below.setCell ?_ ?_ _) | go_size))⟩

def cmpMelt (xs : List Melt) (t : ByteArray) (k : Nat) : Int := (xs[k]?).elim 1 fun x => cmpS x.id t
theorem cmpMelt_at {xs : List Melt} {t : ByteArray} {k : Nat} (h : k < xs.length) : cmpMelt xs t k = (fun x : Melt => cmpS x.id t) xs[k] := by
  unfold cmpMelt
  rw [List.getElem?_eq_getElem h]
  rfl

set_option maxHeartbeats 2000000 in
theorem BinarySearch_Melt (w : World) (v : Value) (xs : List Melt) (t : ByteArray) (h : RdM w.heap.size w v xs) (hn : xs.length ≤ 1048576) :
    Calls Try.prog 123 #[v, .string t, .func (.func 124) #[] #[]] w fun e w' => (∃ i : Nat, e = .returned (.tuple #[.int .i64 i, .bool (decide (i < xs.length) && decide (cmpMelt xs t i = 0))]) ∧ Found (cmpMelt xs t) xs.length i) ∧ Below w.heap.size w w' := by
  obtain ⟨ao, cap, rfl, hcap, hmax, hsome⟩ := h
  go_enter Try.func123, Try.ntmps123
  go_wp2
  go_loopw [9, 10] (fun i j wr => ∃ (a b : Nat), a ≤ b ∧ b ≤ xs.length ∧ i = .int .i64 a ∧ j = .int .i64 b ∧ Part (cmpMelt xs t) xs.length a b ∧ Below w.heap.size w wr) (fun i j _ => (intOf j).toNat - (intOf i).toNat)
  case atStart => exact ⟨0, xs.length, Nat.zero_le _, Nat.le_refl _, rfl, rfl, part_start _ _, Below.refl _ _⟩
  case round =>
    obtain ⟨a, b, hab, hbn, rfl, rfl, hpart, hb⟩ := hrel
    have HP := Lib.hid hpart; clear hpart
    by_cases hlt : a < b
    · obtain ⟨b0, off, rfl, hbB, hc⟩ := hsome (by omega)
      obtain ⟨m, hm, ham, hmb⟩ : ∃ m : Nat, ((a : Int) + (b : Int)) / 2 = ((m : Nat) : Int) ∧ a ≤ m ∧ m < b := ⟨(a + b) / 2, by omega, by omega, by omega⟩
      have hml : m < xs.length := by omega
      obtain ⟨l, p0, p1, p2, hr⟩ := hc m hml
      obtain ⟨lo, lc, rfl⟩ := hr.form
      have c0 := (hb.cell (p := ⟨b0, off + m * 3, none⟩) hbB).trans p0
      have c1 := (hb.cell (p := ⟨b0, off + m * 3 + 1, none⟩) hbB).trans p1
      have c2 := (hb.cell (p := ⟨b0, off + m * 3 + 2, none⟩) hbB).trans p2
      clear p0 p1 p2 hr
      have HC := Lib.hid (cmpMelt_at (t := t) hml)
      have HB := Lib.hid hb
      have hws := hb.size
      have hbr : b0 < wr.heap.size := Nat.lt_of_lt_of_le hbB hws
      clear hc hsome hb
      by_cases hneg : cmpMelt xs t m < 0
      · have HN := Lib.hid hneg
        rw [HC.out] at hneg
        go_wp2_with fail
        go_at_call 124
        refine (impl_meltAt1 xs[m] _ _ t _).mono ?_; rintro e1 w1 ⟨rfl, b1⟩
        have HB1 := Lib.hid (HB.out.trans (b1.mono HB.out.size)); clear b1 HB
        go_wp2_with fail
        go_roundw
        case rel => exact ⟨m + 1, b, by omega, by omega, by go_num, rfl, part_up HP.out hml HN.out, HB1.out⟩
        case measure => simp [intOf]; omega
      · have HN := Lib.hid hneg
        rw [HC.out] at hneg
        go_wp2_with fail
        go_at_call 124
        refine (impl_meltAt1 xs[m] _ _ t _).mono ?_; rintro e1 w1 ⟨rfl, b1⟩
        have HB1 := Lib.hid (HB.out.trans (b1.mono HB.out.size)); clear b1 HB
        go_wp2_with fail
        go_roundw
        case rel => exact ⟨a, m, by omega, by omega, rfl, by go_num, part_down HP.out (by have := HN.out; omega), HB1.out⟩
        case measure => simp [intOf]; omega
    · obtain rfl : a = b := by omega
      by_cases hml : a < xs.length
      · obtain ⟨b0, off, rfl, hbB, hc⟩ := hsome (by omega)
        obtain ⟨l, p0, p1, p2, hr⟩ := hc a hml
        obtain ⟨lo, lc, rfl⟩ := hr.form
        have c0 := (hb.cell (p := ⟨b0, off + a * 3, none⟩) hbB).trans p0
        have c1 := (hb.cell (p := ⟨b0, off + a * 3 + 1, none⟩) hbB).trans p1
        have c2 := (hb.cell (p := ⟨b0, off + a * 3 + 2, none⟩) hbB).trans p2
        clear p0 p1 p2 hr
        have HC := Lib.hid (cmpMelt_at (t := t) hml)
        have HB := Lib.hid hb
        have hws := hb.size
        have hbr : b0 < wr.heap.size := Nat.lt_of_lt_of_le hbB hws
        clear hc hsome hb
        by_cases hz : cmpMelt xs t a = 0
        · have E : Hid ((decide (a < xs.length) && decide (cmpMelt xs t a = 0)) = true) := (by simp [hml, hz] : (decide (a < xs.length) && decide (cmpMelt xs t a = 0)) = true)
          rw [HC.out] at hz
          have hz2 := (beq_iff_eq (α := Int)).2 hz
          have HZ := Lib.hid hz; clear hz
          simp only at hz2
          go_wp2_with fail
          go_at_call 124
          refine (impl_meltAt1 xs[a] _ _ t _).mono ?_; rintro e1 w1 ⟨rfl, b1⟩
          have HB1 := Lib.hid (HB.out.trans (b1.mono HB.out.size)); clear b1 HB
          go_wp2_with fail
          go_ret2
          exact ⟨⟨a, by rw [E.out]; rfl, part_end HP.out hbn⟩, HB1.out⟩
        · have E : Hid ((decide (a < xs.length) && decide (cmpMelt xs t a = 0)) = false) := (by simp [hz] : (decide (a < xs.length) && decide (cmpMelt xs t a = 0)) = false)
          rw [HC.out] at hz
          have hz2 := (beq_eq_false_iff_ne (α := Int)).2 hz
          have HZ := Lib.hid hz; clear hz
          simp only at hz2
          go_wp2_with fail
          go_at_call 124
          refine (impl_meltAt1 xs[a] _ _ t _).mono ?_; rintro e1 w1 ⟨rfl, b1⟩
          have HB1 := Lib.hid (HB.out.trans (b1.mono HB.out.size)); clear b1 HB
          go_wp2_with fail
          go_ret2
          exact ⟨⟨a, by rw [E.out]; rfl, part_end HP.out hbn⟩, HB1.out⟩
      · have E : Hid ((decide (a < xs.length) && decide (cmpMelt xs t a = 0)) = false) := (by simp [hml] : (decide (a < xs.length) && decide (cmpMelt xs t a = 0)) = false)
        have HB := Lib.hid hb; clear hb
        go_wp2_with fail
        go_ret2
        exact ⟨⟨a, by rw [E.out]; rfl, part_end HP.out hbn⟩, HB.out⟩
end Go.Proofs.Ytnbodmbagendnaa
