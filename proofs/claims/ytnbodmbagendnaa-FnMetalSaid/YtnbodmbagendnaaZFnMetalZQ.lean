/- Contracts and plain facts, joined: Unused, Mix. -/
import Derived.Test.YtnbodmbagendnaaRows
import Derived.Test.YtnbodmbagendnaaZFnMetalB
import Derived.Test.YtnbodmbagendnaaZFnMetalC
import Derived.Test.YtnbodmbagendnaaZFnMetalK
import Derived.Test.YtnbodmbagendnaaZFnMetalS
import Derived.Test.YtnbodmbagendnaaZFnMetalZL
namespace Go.Proofs.Ytnbodmbagendnaa
open Go.ChangeShapes Go.WideShapes Go.ChangeAt Go.RowKit Go.Deep Go.Joins
set_option linter.unusedVariables false
set_option maxRecDepth 100000
set_option linter.unusedSimpArgs false
/-- a melt's list names it -/
def namesB (a : ByteArray) (m : Melt) : Bool := m.ingots.any fun t => strEq t a
def freeL (xs : List Ingot) (ms : List Melt) : List ByteArray := (xs.filter fun x => !(ms.any (namesB x.id))).map Ingot.id
def unusedS (xs : List Ingot) (ms : List Melt) : List ByteArray := if allS xs ms = 0 then freeL xs ms else []
theorem namesB_has (a : ByteArray) (m : Melt) : namesB a m = hasB m.ingots a := by
  unfold namesB hasB
  congr 1
  funext t
  exact strEq_comm t a
theorem free_no {xs : List Ingot} {ms : List Melt} {k : Nat} (hk : k < xs.length) (h : ms.any (namesB xs[k].id) = true) : freeL (xs.take (k + 1)) ms = freeL (xs.take k) ms := by
  unfold freeL
  rw [List.take_succ_eq_append_getElem hk, List.filter_append, List.map_append]
  simp [h]
theorem free_yes {xs : List Ingot} {ms : List Melt} {k : Nat} (hk : k < xs.length) (h : ms.any (namesB xs[k].id) = false) : freeL (xs.take (k + 1)) ms = freeL (xs.take k) ms ++ [xs[k].id] := by
  unfold freeL
  rw [List.take_succ_eq_append_getElem hk, List.filter_append, List.map_append]
  have e : (!(ms.any (namesB xs[k].id))) = true := by rw [h]; rfl
  simp only [List.filter_cons, e, if_true, List.filter_nil, List.map_cons, List.map_nil]
theorem free_len (xs : List Ingot) (ms : List Melt) : (freeL xs ms).length ≤ xs.length := by
  unfold freeL
  rw [List.length_map]
  exact List.length_filter_le _ _
theorem unused_len (xs : List Ingot) (ms : List Melt) : (unusedS xs ms).length ≤ xs.length := by
  unfold unusedS
  split
  · exact free_len xs ms
  · simp
theorem free_take_len (xs : List Ingot) (ms : List Melt) (k : Nat) : (freeL (xs.take k) ms).length ≤ k := by
  have := free_len (xs.take k) ms
  rw [List.length_take] at this
  omega
theorem str_snoc (xs : List ByteArray) (a : ByteArray) : (xs ++ [a]).flatMap putStr = xs.flatMap putStr ++ [.string a] := by rw [List.flatMap_append]; rfl
theorem info_string : (Try.prog.info? 9).map (fun i => (i.zero, i.size, i.bytes)) = some (some (.string ByteArray.empty), 1, 16) := by kernel_rfl

set_option maxHeartbeats 1000000 in
theorem impl_Unused1 (x : Melt) (lo : Option Addr) (lc : Nat) (g : Nat) (a : ByteArray) (w : World) (g0 : w.cell? ⟨g, 0, none⟩ = some (.string a)) (hg : g < w.heap.size)
    (h2 : Rd w.heap.size w (.slice lo x.ingots.length lc) 1 x.ingots.length (x.ingots.flatMap putStr)) (hn2 : x.ingots.length ≤ 1048576) :
    Calls Try.prog 96 #[.agg #[.string x.id, .slice lo x.ingots.length lc, .int .i64 x.mass], .pointer (some ⟨g, 0, none⟩)] w fun e w' => e = .returned (.bool (namesB a x)) ∧ Below w.heap.size w w' := by
  have en : Hid (namesB a x = hasB x.ingots a) := (namesB_has a x : namesB a x = hasB x.ingots a)
  have H2 := Lib.hid h2; clear h2
  go_enter Try.func96, Try.ntmps96
  go_wp2_with fail
  refine (slices_Contains_str _ _ x.ingots a (by exact H2.out.up (by (repeat' (first | (with_reducible exact Below.refl _ _) | (with_reducible assumption) | (with_reducible refine below_dn ?_ _) | (with_reducible refine Below.drew ?_) | (with_reducible refine Below.alloc ?_ ?_ _) | (with_reducible refine Below.setCell ?_ ?_ _) | go_size)))) hn2).mono ?_; rintro e w1 ⟨rfl, b1⟩
  have HB1 := Lib.hid (show Below w.heap.size w w1 from Below.trans (by (repeat' (first | (with_reducible exact Below.refl _ _) | (with_reducible assumption) | (with_reducible refine below_dn ?_ _) | (with_reducible refine Below.drew ?_) | (with_reducible refine Below.alloc ?_ ?_ _) | (with_reducible refine Below.setCell ?_ ?_ _) | go_size))) (b1.mono (by simp <;> omega))); clear b1
  go_wp2_with fail
  go_ret
  exact ⟨by rw [en.out]; rfl, HB1.out⟩

set_option maxHeartbeats 1000000 in
theorem IndexFunc_unused1 (g : Nat) (w : World) (v : Value) (xs : List Melt) (p : Melt → Bool) (h : RdM w.heap.size w v xs) (hn : xs.length ≤ 1048576)
    (H : ∀ (wr : World) (hb : Below w.heap.size w wr) (k : Nat) (hk : k < xs.length) (lo : Option Addr) (lc : Nat) (hr : Rd wr.heap.size wr (.slice lo xs[k].ingots.length lc) 1 xs[k].ingots.length (xs[k].ingots.flatMap putStr)), Calls Try.prog 96 #[.agg #[.string xs[k].id, .slice lo xs[k].ingots.length lc, .int .i64 xs[k].mass], .pointer (some ⟨g, 0, none⟩)] wr fun e w' => e = .returned (.bool (p xs[k])) ∧ Below wr.heap.size wr w') :
    Calls Try.prog 131 #[v, .func (.func 96) #[] #[.pointer (some ⟨g, 0, none⟩)]] w fun e w' => (∃ r : Int, e = .returned (.int .i64 r) ∧ decide (0 ≤ r) = xs.any p) ∧ Below w.heap.size w w' := by
  obtain ⟨ao, cap, rfl, hcap, hmax, hsome⟩ := h
  go_enter Try.func131, Try.ntmps131
  have HH := Lib.hid H; clear H
  go_wp2
  go_loopw [8] (fun i wr => ∃ (k : Nat), k ≤ xs.length ∧ i = .int .i64 k ∧ (xs.take k).any p = false ∧ Below w.heap.size w wr) (fun i _ => xs.length - (intOf i).toNat)
  case atStart => exact ⟨0, Nat.zero_le _, rfl, rfl, Below.refl _ _⟩
  case round =>
    obtain ⟨k, hk, rfl, hall, hb⟩ := hrel
    have Hall := Lib.hid hall; clear hall
    by_cases hlt : k < xs.length
    · obtain ⟨b, off, rfl, hbB, hc⟩ := hsome (by omega)
      obtain ⟨l, p0, p1, p2, hr⟩ := hc k hlt
      obtain ⟨lo, lc, rfl⟩ := hr.form
      have c0 := (hb.cell (p := ⟨b, off + k * 3, none⟩) hbB).trans p0
      have c1 := (hb.cell (p := ⟨b, off + k * 3 + 1, none⟩) hbB).trans p1
      have c2 := (hb.cell (p := ⟨b, off + k * 3 + 2, none⟩) hbB).trans p2
      have hbr : b < wr.heap.size := Nat.lt_of_lt_of_le hbB hb.size
      have HC := Lib.hid (HH.out wr hb k hlt lo lc (hr.up hb)); clear HH
      have HB := Lib.hid hb
      clear hc hsome hb p0 p1 p2 hr
      cases hO : p xs[k]
      all_goals rw [hO] at HC
      · have e : Hid ((xs.take (k + 1)).any p = false) := (by rw [any_take xs k hlt, Hall.out, hO]; rfl : (xs.take (k + 1)).any p = false)
        clear hO
        go_wp2_with fail
        go_at_call 96
        refine HC.out.mono ?_; rintro e1 w1 ⟨rfl, b1⟩
        have HB1 := Lib.hid (HB.out.trans (b1.mono HB.out.size)); clear b1 HB
        go_wp2_with fail
        go_roundw
        case rel => exact ⟨k + 1, by omega, by go_num, e.out, HB1.out⟩
        case measure => simp [intOf]; omega
      · have e : Hid (xs.any p = true) := (any_at xs k hlt hO : xs.any p = true)
        clear hO
        go_wp2_with fail
        go_at_call 96
        refine HC.out.mono ?_; rintro e1 w1 ⟨rfl, b1⟩
        have HB1 := Lib.hid (HB.out.trans (b1.mono HB.out.size)); clear b1 HB
        go_wp2_with fail
        go_ret
        exact ⟨⟨_, rfl, by rw [e.out]; simp⟩, HB1.out⟩
    · have e : Hid (xs.any p = false) := (by
        have := Hall.out
        rwa [List.take_of_length_le (by omega)] at this : xs.any p = false)
      clear HH
      go_wp2
      go_ret
      exact ⟨⟨_, rfl, by rw [e.out]; rfl⟩, hb⟩

theorem ContainsFunc_unused1 (g : Nat) (w : World) (v : Value) (xs : List Melt) (p : Melt → Bool) (h : RdM w.heap.size w v xs) (hn : xs.length ≤ 1048576)
    (H : ∀ (wr : World) (hb : Below w.heap.size w wr) (k : Nat) (hk : k < xs.length) (lo : Option Addr) (lc : Nat) (hr : Rd wr.heap.size wr (.slice lo xs[k].ingots.length lc) 1 xs[k].ingots.length (xs[k].ingots.flatMap putStr)), Calls Try.prog 96 #[.agg #[.string xs[k].id, .slice lo xs[k].ingots.length lc, .int .i64 xs[k].mass], .pointer (some ⟨g, 0, none⟩)] wr fun e w' => e = .returned (.bool (p xs[k])) ∧ Below wr.heap.size wr w') :
    Calls Try.prog 82 #[v, .func (.func 96) #[] #[.pointer (some ⟨g, 0, none⟩)]] w fun e w' => e = .returned (.bool (xs.any p)) ∧ Below w.heap.size w w' := by
  have H2 := Lib.hid (IndexFunc_unused1 g w v xs p h hn H)
  clear h H
  go_enter Try.func82, Try.ntmps82
  go_wp2_with fail
  refine H2.out.mono ?_; rintro e w1 ⟨⟨r, rfl, hr⟩, b1⟩
  have Hr := Lib.hid hr; clear hr
  go_wp2_with fail
  go_ret
  exact ⟨by rw [← Hr.out]; rfl, b1⟩

set_option maxHeartbeats 4000000 in
theorem impl_UnusedIngots (w : World) (v u : Value) (xs : List Ingot) (ms : List Melt) (h : Rd w.heap.size w v 5 xs.length (xs.flatMap Ingot.put)) (hn : xs.length ≤ 1048576) (hok : ∀ x ∈ xs, x.ok) (h2 : RdM w.heap.size w u ms) (hn2 : ms.length ≤ 1048576) (hf : ∀ m ∈ ms, m.fine) :
    Calls Try.prog 41 #[v, u] w fun e w' => ∃ r : Value, e = .returned (.tuple #[r, .int .i64 (allS xs ms)]) ∧ w'.ownsRow w.heap.size 9 1 r (unusedS xs ms).length ((unusedS xs ms).flatMap putStr) ∧ Below w.heap.size w w' := by
  have H2' := h2
  have H1' := h
  obtain ⟨hL, vo, vc, rfl, hcap1, hmax1, hnil1, hsome1⟩ := h
  obtain ⟨ao, cap, rfl, hcap, hmax, hsome⟩ := h2
  have H1 := Lib.hid H1'; clear H1'
  have H2 := Lib.hid H2'; clear H2'
  have Hok := Lib.hid hok; clear hok
  have Hf := Lib.hid hf; clear hf
  by_cases h0 : allS xs ms = 0
  case neg =>
    have e : Hid (unusedS xs ms = []) := (if_neg h0 : unusedS xs ms = [])
    have t0 : (allS xs ms != 0) = true := bne_iff_ne.2 h0
    clear h0 hsome hsome1 hnil1
    go_enter Try.func41, Try.ntmps41
    go_wp2_with fail
    refine (impl_meltsOf_is _ _ _ xs ms H1.out hn Hok.out H2.out hn2 Hf.out rfl).mono ?_; rintro e1 w1 ⟨rfl, b1⟩
    go_wp2_with fail
    go_ret2
    exact ⟨_, rfl, by rw [e.out]; exact own_nil _ _ _ _, b1⟩
  have e : Hid (unusedS xs ms = freeL xs ms) := (if_pos h0 : unusedS xs ms = freeL xs ms)
  have H0 := Lib.hid h0; clear h0
  obtain ⟨i0, hi, hz0, hz1, hz2⟩ := info_parts info_string
  go_enter Try.func41, Try.ntmps41
  go_wp2_with fail
  refine (impl_meltsOf_is _ _ _ xs ms H1.out hn Hok.out H2.out hn2 Hf.out H0.out).mono ?_; rintro e1 w1 ⟨rfl, b1⟩
  have HB1 := Lib.hid b1
  have hs1 := b1.size
  clear b1
  go_wp2_with fail
  go_loopw [7, 18] (fun r i wr => ∃ (k : Nat), k ≤ xs.length ∧ i = .int .i64 k ∧ wr.ownsRow w.heap.size 9 1 r (freeL (xs.take k) ms).length ((freeL (xs.take k) ms).flatMap putStr) ∧ Below w.heap.size w wr) (fun _ i _ => xs.length - (intOf i).toNat)
  case atStart => exact ⟨0, Nat.zero_le _, rfl, own_nil _ _ _ _, HB1.out⟩
  case round =>
    obtain ⟨k, hk, rfl, hown, hb⟩ := hrel
    have HO := Lib.hid hown; clear hown
    by_cases hlt : k < xs.length
    · have hfl := free_take_len xs ms k
      obtain ⟨b3, off3, rfl, hbB3, hc3⟩ := hsome1 (by omega)
      have c0 : wr.cell? ⟨b3, off3 + k * 5, none⟩ = some (.string xs[k].id) := by rw [show off3 + k * 5 = off3 + (k * 5 + 0) from by omega, hb.cell (p := ⟨b3, off3 + (k * 5 + 0), none⟩) hbB3, hc3 (k * 5 + 0) (by omega), Ingot_get0 xs k hlt]
      have c1 : wr.cell? ⟨b3, off3 + k * 5 + 1, none⟩ = some (.int .i64 xs[k].mass) := by rw [show off3 + k * 5 + 1 = off3 + (k * 5 + 1) from by omega, hb.cell (p := ⟨b3, off3 + (k * 5 + 1), none⟩) hbB3, hc3 (k * 5 + 1) (by omega), Ingot_get1 xs k hlt]
      have c2 : wr.cell? ⟨b3, off3 + k * 5 + 2, none⟩ = some (.int .i64 xs[k].alloy.copper) := by rw [show off3 + k * 5 + 2 = off3 + (k * 5 + 2) from by omega, hb.cell (p := ⟨b3, off3 + (k * 5 + 2), none⟩) hbB3, hc3 (k * 5 + 2) (by omega), Ingot_get2 xs k hlt]
      have c3 : wr.cell? ⟨b3, off3 + k * 5 + 3, none⟩ = some (.int .i64 xs[k].alloy.tin) := by rw [show off3 + k * 5 + 3 = off3 + (k * 5 + 3) from by omega, hb.cell (p := ⟨b3, off3 + (k * 5 + 3), none⟩) hbB3, hc3 (k * 5 + 3) (by omega), Ingot_get3 xs k hlt]
      have c4 : wr.cell? ⟨b3, off3 + k * 5 + 4, none⟩ = some (.int .i64 xs[k].alloy.other) := by rw [show off3 + k * 5 + 4 = off3 + (k * 5 + 4) from by omega, hb.cell (p := ⟨b3, off3 + (k * 5 + 4), none⟩) hbB3, hc3 (k * 5 + 4) (by omega), Ingot_get4 xs k hlt]
      have HN := Lib.hid (Own.new wr 85 xs[k].put)
      have hws := hb.size
      have HB := Lib.hid hb
      have HCF := Lib.hid (ContainsFunc_unused1 wr.heap.size (wr.alloc (.cells xs[k].put.toArray 85)) (.slice ao ms.length cap) ms (namesB xs[k].id) ((H2.out.up hb).up (by (repeat' (first | (with_reducible exact Below.refl _ _) | (with_reducible assumption) | (with_reducible refine below_dn ?_ _) | (with_reducible refine Below.drew ?_) | (with_reducible refine Below.alloc ?_ ?_ _) | (with_reducible refine Below.setCell ?_ ?_ _) | go_size)))) hn2 (fun wq hq j hj lo lc hr => by
        have hO := HN.out.below hq HN.out.lt
        exact impl_Unused1 ms[j] lo lc _ _ wq (hO.cell 0) hO.lt hr (Hf.out ms[j] (List.getElem_mem hj)).2.2.2))
      clear hc3 hsome hsome1 hnil1 hb
      cases hU : ms.any (namesB xs[k].id)
      all_goals rw [hU] at HCF
      · have ef : Hid (freeL (xs.take (k + 1)) ms = freeL (xs.take k) ms ++ [xs[k].id]) := free_yes hlt hU
        clear hU
        go_wp2_with fail
        refine HCF.out.mono ?_; rintro e2 w2 ⟨rfl, b2⟩
        have HB2 := Lib.hid (show Below w.heap.size w w2 from HB.out.trans (Below.trans (by (repeat' (first | (with_reducible exact Below.refl _ _) | (with_reducible assumption) | (with_reducible refine below_dn ?_ _) | (with_reducible refine Below.drew ?_) | (with_reducible refine Below.alloc ?_ ?_ _) | (with_reducible refine Below.setCell ?_ ?_ _) | go_size))) (b2.mono (by simp <;> omega)) |>.mono hws))
        have HO2 := Lib.hid (own_below HO.out (Below.trans (show Below wr.heap.size wr _ from by (repeat' (first | (with_reducible exact Below.refl _ _) | (with_reducible assumption) | (with_reducible refine below_dn ?_ _) | (with_reducible refine Below.drew ?_) | (with_reducible refine Below.alloc ?_ ?_ _) | (with_reducible refine Below.setCell ?_ ?_ _) | go_size))) (b2.mono (by simp <;> omega))) (Nat.le_refl _))
        have f0 : w2.cell? ⟨wr.heap.size, 0, none⟩ = some (.string xs[k].id) := (HN.out.below b2 HN.out.lt).cell 0
        have hws1 : w.heap.size ≤ w2.heap.size := HB2.out.size
        have hlw : wr.heap.size < w2.heap.size := (HN.out.below b2 HN.out.lt).lt
        clear b2 HO HN HCF
        go_wp2_with (at_builtin; refine app_el rfl _ _ 51 9 i0 (.string ByteArray.empty) 1 16 Try.underlying51 hi hz0 hz1 hz2 rfl (by decide) rfl w2 w.heap.size _ _ ((freeL (xs.take k) ms).flatMap putStr) (by rfl) HO2.out [.string xs[k].id] rfl (by intro u hu; simp at hu; subst hu; rfl) (by rfl) (by omega) (by decide) hws1 ?_; intro g gc w3 hown3 hB3 hz)
        have HB3 := Lib.hid (hB3 w HB2.out)
        have HO3 := Lib.hid hown3
        clear hown3 hB3
        go_roundw
        case rel => exact ⟨k + 1, by omega, by go_num, by rw [ef.out, str_snoc, List.length_append]; exact HO3.out, HB3.out⟩
        case measure => simp [intOf]; omega
      · have ef : Hid (freeL (xs.take (k + 1)) ms = freeL (xs.take k) ms) := free_no hlt hU
        clear hU hi hz0 hz1 hz2
        go_wp2_with fail
        refine HCF.out.mono ?_; rintro e2 w2 ⟨rfl, b2⟩
        have HB2 := Lib.hid (show Below w.heap.size w w2 from HB.out.trans (Below.trans (by (repeat' (first | (with_reducible exact Below.refl _ _) | (with_reducible assumption) | (with_reducible refine below_dn ?_ _) | (with_reducible refine Below.drew ?_) | (with_reducible refine Below.alloc ?_ ?_ _) | (with_reducible refine Below.setCell ?_ ?_ _) | go_size))) (b2.mono (by simp <;> omega)) |>.mono hws))
        have HO2 := Lib.hid (own_below HO.out (Below.trans (show Below wr.heap.size wr _ from by (repeat' (first | (with_reducible exact Below.refl _ _) | (with_reducible assumption) | (with_reducible refine below_dn ?_ _) | (with_reducible refine Below.drew ?_) | (with_reducible refine Below.alloc ?_ ?_ _) | (with_reducible refine Below.setCell ?_ ?_ _) | go_size))) (b2.mono (by simp <;> omega))) (Nat.le_refl _))
        clear b2 HO HN HCF
        go_wp2_with fail
        go_roundw
        case rel => exact ⟨k + 1, by omega, by go_num, by rw [ef.out]; exact HO2.out, HB2.out⟩
        case measure => simp [intOf]; omega
    · have em : Hid (xs.take k = xs) := (take_all (by omega) : xs.take k = xs)
      rw [em.out] at HO
      have HB := Lib.hid hb; clear hb hsome hsome1 hnil1 hi hz0 hz1 hz2
      go_wp2
      go_ret2
      exact ⟨_, by rw [H0.out]; rfl, by rw [e.out]; exact HO.out, HB.out⟩
end Go.Proofs.Ytnbodmbagendnaa
namespace Go.Proofs.Ytnbodmbagendnaa
open Go.ChangeShapes Go.WideShapes Go.ChangeAt Go.RowKit Go.Deep Go.Joins
set_option linter.unusedVariables false
set_option maxRecDepth 100000
set_option linter.unusedSimpArgs false
set_option maxHeartbeats 4000000 in
theorem impl_mix (w : World) (v c : Value) (xs : List Ingot) (cs : List Int) (h1 : Rd w.heap.size w v 5 xs.length (xs.flatMap Ingot.put)) (h2 : Rd w.heap.size w c 1 cs.length (cs.flatMap putI)) (hn : xs.length ≤ 16) (hv : ∀ x ∈ xs, ingotB x = true) (hch : choiceB xs.length cs = true) (h0 : 0 < cs.length) :
    Calls Try.prog 144 #[v, c] w fun e w' => e = .returned (.tuple #[.agg #[.int .i64 (mixA xs cs).copper, .int .i64 (mixA xs cs).tin, .int .i64 (mixA xs cs).other], .int .i64 (sumK massF xs cs)]) ∧ Below w.heap.size w w' := by
  have H1 := Lib.hid h1
  have H2 := Lib.hid h2
  obtain ⟨lo, lc, rfl⟩ := h1.form
  obtain ⟨lo2, lc2, rfl⟩ := h2.form
  clear h1 h2
  have hX := Lib.hid (Own.new w 80 [.int .i64 0, .int .i64 0, .int .i64 0])
  have hpos := mass_pos hv hch h0
  have hcl : cs.length ≤ 16 := Nat.le_trans (choice_len hch) hn
  have hmb := massF_bd hv hcl cs.length
  have htb := tinF_bd hv hcl cs.length
  have hob := otherF_bd hv hcl cs.length
  rw [take_all (Nat.le_refl _)] at hmb htb hob
  obtain ⟨r1, r2⟩ := quot_bd _ _ htb hpos
  obtain ⟨r3, r4⟩ := quot_bd _ _ hob hpos
  have hd0 : (sumK massF xs cs == 0) = false := beq_eq_false_iff_ne.2 (by omega)
  have HS := Lib.hid (fun w' (hb : Below w.heap.size w w') => impl_sums w' (.slice lo xs.length lc) (.slice lo2 cs.length lc2) xs cs (H1.out.up hb) (H2.out.up hb) hn hv hch)
  clear hv hch
  unfold mixA
  generalize sumK massF xs cs = m at *
  generalize sumK tinF xs cs = t at *
  generalize sumK otherF xs cs = u at *
  go_enter Try.func144, Try.ntmps144
  go_wp2_with fail
  refine (HS.out _ (by (repeat' (first | (with_reducible exact Below.refl _ _) | (with_reducible assumption) | (with_reducible refine below_dn ?_ _) | (with_reducible refine Below.drew ?_) | (with_reducible refine Below.alloc ?_ ?_ _) | (with_reducible refine Below.setCell ?_ ?_ _) | go_size)))).mono ?_; rintro e1 w1 ⟨rfl, b1⟩
  have O1 := hX.out.below b1 hX.out.lt
  have q0 : w1.cell? ⟨w.heap.size, 0, none⟩ = some (.int .i64 0) := O1.cell 0
  have q1 : w1.cell? ⟨w.heap.size, 1, none⟩ = some (.int .i64 0) := O1.cell 1
  have q2 : w1.cell? ⟨w.heap.size, 2, none⟩ = some (.int .i64 0) := O1.cell 2
  have f0 := O1.free 0
  have f1 := O1.free 1
  have f2 := O1.free 2
  have hlt := O1.lt
  have hne : ¬ w.heap.size = w1.heap.size := by omega
  have HO1 := Lib.hid O1; clear O1
  have HB := Lib.hid (show Below w.heap.size w w1 from Below.trans (by (repeat' (first | (with_reducible exact Below.refl _ _) | (with_reducible assumption) | (with_reducible refine below_dn ?_ _) | (with_reducible refine Below.drew ?_) | (with_reducible refine Below.alloc ?_ ?_ _) | (with_reducible refine Below.setCell ?_ ?_ _) | go_size))) (b1.mono (by simp <;> omega)))
  clear b1 HS
  go_wp2_with fail
  go_region
  go_wp2_with fail
  have hb := HB.out
  exact bodyPost_ret (v := .tuple #[.agg #[.int .i64 (1000000 - t / m - u / m), .int .i64 (t / m), .int .i64 (u / m)], .int .i64 m]) (by simp [results, Try.results144, go_sem, q0, q1, q2, hlt, hne]) rfl ⟨rfl, by (repeat' (first | (with_reducible exact Below.refl _ _) | (with_reducible assumption) | (with_reducible refine below_dn ?_ _) | (with_reducible refine Below.drew ?_) | (with_reducible refine Below.alloc ?_ ?_ _) | (with_reducible refine Below.setCell ?_ ?_ _) | go_size))⟩
end Go.Proofs.Ytnbodmbagendnaa
