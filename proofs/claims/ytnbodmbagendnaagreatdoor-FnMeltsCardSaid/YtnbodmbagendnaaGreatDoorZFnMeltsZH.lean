/- Contracts and plain facts, joined: DelMelt, DropMI. -/
import Derived.Test.YtnbodmbagendnaaGreatDoorRows
import Derived.Test.YtnbodmbagendnaaGreatDoorZFnMeltsM
import Derived.Test.YtnbodmbagendnaaGreatDoorZFnMeltsV
import Derived.Test.YtnbodmbagendnaaGreatDoorZFnMeltsZC
import Derived.Deep.RegionLaw
import Derived.Shelf.Spec.SlicesInsertGrow
namespace Go.Proofs.YtnbodmbagendnaaGreatDoor
open Go.ChangeShapes Go.WideShapes Go.ChangeAt Go.RowKit Go.Deep Go.Joins
set_option linter.unusedVariables false
set_option maxRecDepth 100000
set_option linter.unusedSimpArgs false
set_option maxHeartbeats 8000000 in
/-- slices.Delete of one element, on a slice of one's own -/
theorem del_Melt (w : World) (base : Nat) (r : Value) (n k : Nat) (L : List Value) (hr : w.ownsRow base 28 3 r n L) (h1c : ∀ u ∈ L, u.oneCell' = true) (hk : k < n) (hn : n ≤ 1048576) (hbase : base ≤ w.heap.size) :
    Calls Tryz.prog 30 #[r, .int .i64 k, .int .i64 ((k : Int) + 1)] w fun e w' => ∃ ao cap, e = .returned (.slice ao (n - 1) cap) ∧ w'.ownsRow base 28 3 (.slice ao (n - 1) cap) (n - 1) (L.take (k * 3) ++ L.drop ((k + 1) * 3)) ∧ Below base w w' ∧ KeptO w r w' := by
  obtain ⟨i0, hi, hz0, hz1, hz2⟩ := info_parts Melt_info
  have mixed : Tryz.prog.follows .mixedOrders = true := by kernel_rfl
  obtain ⟨h1, h2⟩ := hr
  rcases h2 with ⟨rfl, h0⟩ | ⟨g, cap, cur, rfl, hb, hg, hnc, hmx, hs, ht⟩
  · omega
  have HG : Hid (Own w g 28 cur.toList) := Lib.hid (by unfold Own; simpa using hg)
  have hgw : g < w.heap.size := HG.out.lt
  have H1c := Lib.hid h1c
  have hmx2 : cap ≤ 9223372036854775807 := hmx
  obtain ⟨A, hA⟩ : ∃ A, A = L.take (k * 3) := ⟨_, rfl⟩
  obtain ⟨X, hX⟩ : ∃ X, X = (L.drop (k * 3)).take 3 := ⟨_, rfl⟩
  obtain ⟨D, hD⟩ : ∃ D, D = L.drop ((k + 1) * 3) := ⟨_, rfl⟩
  have hk1 : (k + 1) * 3 = k * 3 + 3 := by rw [Nat.add_mul, Nat.one_mul]
  have hk2 : (k + 1 + (n - (k + 1))) * 3 = n * 3 := by rw [show k + 1 + (n - (k + 1)) = n from by omega]
  rw [Nat.add_mul] at hk2
  have hkn : (n - 1) * 3 + 3 = n * 3 := by rw [← Nat.succ_mul, show (n - 1).succ = n from by omega]
  have hk3 : (k + (n - (k + 1))) * 3 = (n - 1) * 3 := by rw [show k + (n - (k + 1)) = n - 1 from by omega]
  rw [Nat.add_mul] at hk3
  have hncS : n * 3 ≤ cap * 3 := Nat.mul_le_mul_right _ hnc
  have hAl : A.length = k * 3 := by rw [hA, List.length_take, h1]; omega
  have hXl : X.length = 3 := by rw [hX, List.length_take, List.length_drop, h1]; omega
  have hDl : D.length = (n - (k + 1)) * 3 := by rw [hD, List.length_drop, h1]; omega
  have hAB : L = A ++ (X ++ D) := by rw [hA, hX, hD, hk1, ← List.drop_drop, List.take_append_drop, List.take_append_drop]
  obtain ⟨S, hS⟩ : ∃ S, S = cur.toList.drop (n * 3) := ⟨_, rfl⟩
  have hcur : cur.toList = A ++ (X ++ (D ++ S)) := by rw [← List.append_assoc X, ← List.append_assoc, ← hAB, hS, ← ht, List.take_append_drop]
  have hSl : S.length = cap * 3 - n * 3 := by rw [hS, List.length_drop, Array.length_toList, hs]
  have hcs : Hid (∀ j u, D[j]? = some u → w.cell? ⟨g, k * 3 + 3 + j, none⟩ = some u) := Lib.hid fun j u hj => by
    have hj' := (List.getElem?_eq_some_iff.1 hj).1
    rw [HG.out.cell, hcur, ← hAl, List.getElem?_append_right (by omega), show A.length + 3 + j - A.length = X.length + j from by omega, List.getElem?_append_right (by omega), show X.length + j - X.length = j from by omega, List.getElem?_append_left hj', hj]
  have h1D : Hid (∀ u ∈ D, u.oneCell' = true) := Lib.hid fun u hu => H1c.out u (by rw [hAB]; exact List.mem_append_right _ (List.mem_append_right _ hu))
  rw [hcur] at HG
  rw [← hA, ← hD]
  have hne : ((k : Int) == (k : Int) + 1) = false := beq_eq_false_iff_ne.2 (by omega)
  have hb1 : (0 : Int) ≤ (k : Int) + 1 := by omega
  have htn : ((k : Int) + 1).toNat = k + 1 := by omega
  have hb2 : (k : Int) + 1 ≤ (n : Int) := by omega
  have hb3 : (n : Int) ≤ (cap : Int) := by omega
  have hb4 : (k : Int) ≤ (k : Int) + 1 := by omega
  have hb5 : (k : Int) ≤ (cap : Int) := by omega
  have hb6 : ¬ (cap = k) := by omega
  have ekn : k + (n - (k + 1)) = n - 1 := by omega
  have ekc : ((n - 1 : Nat) : Int) ≤ (n : Int) := by omega
  have hb7 : ¬ (cap = n - 1) := by omega
  have hnn : n - (n - 1) = 1 := by omega
  clear ht hs hcur hS hg hA hX hD hAB h1c h1
  have fin : ∀ w3 (Z : List Value), Hid (Z.length = 1 * 3) → Hid (Own w3 g 28 (splice (splice (A ++ (X ++ (D ++ S))) (k * 3) D) ((n - 1) * 3) Z)) → w3.ownsRow base 28 3 (.slice (some ⟨g, 0, none⟩) (n - 1) cap) (n - 1) (A ++ D) := fun w3 Z hZ ho => by
    have hZ' := hZ.out
    have hl1 : (splice (A ++ (X ++ (D ++ S))) (k * 3) D).length = cap * 3 := by rw [length_splice _ _ _ (by simp only [List.length_append]; omega)]; simp only [List.length_append]; omega
    refine row_of_own ho.out hb (by omega) hmx (by rw [length_splice _ _ _ (by rw [hl1]; omega), hl1]) (by simp only [List.length_append]; omega) ?_
    have := splice_del A X D S Z (by omega)
    rw [show A.length + D.length = (n - 1) * 3 from by omega, hAl] at this
    exact this
  go_enter Tryz.func30, Tryz.ntmps30
  by_cases hcj : cap = k + 1
  · obtain rfl : n = k + 1 := by omega
    subst hcj
    have hD0 : D = [] := List.eq_nil_of_length_eq_zero (by rw [hDl]; simp)
    clear hb6 hb7
    go_wp2_with fail
    go_region_law_o (refine sappN rfl _ _ 25 28 rfl i0 3 Tryz.underlying25 hi hz1 g k (k + 1) (by simp [Act.eval, Act.put]) ⟨g, 0, none⟩ 0 0 (by simp [Act.eval, Act.put]) (A ++ (X ++ (D ++ S))) (by exact HG.out) D (by rw [hD0]; rfl) (fun j u hj => by rw [hD0] at hj; cases hj) h1D.out (by omega) (by simp only [List.length_append]; omega) base w ((Below.refl _ _).drew) hb ?_; intro w1 ho1 hb1' hk1'; rw [Nat.add_zero])
    go_wp2_with (refine clrN rfl _ 25 28 rfl Tryz.underlying25 (.agg #[.string ByteArray.empty, .slice none 0 0, .int .i64 0]) Tryz.zeroValue28 (by decide) 3 (by rfl) g (k * 3) 1 _ (by rfl) (by decide) _ ho1.out (by rw [length_splice _ _ _ (by simp only [List.length_append]; omega)]; simp only [List.length_append]; omega) base w hb1'.out hb ?_; intro Z w2 hZ ho2 hb2' hk2')
    go_ret
    exact ⟨some ⟨g, 0, none⟩, k + 1, rfl, fin _ Z hZ ho2, hb2'.out, fun b _ hb0 => (hk2'.out b (fun e => hb0 g rfl e.symm)).trans (hk1'.out b (fun e => hb0 g rfl e.symm))⟩
  · go_wp2_with fail
    go_region_law_o (refine sappN rfl _ _ 25 28 rfl i0 3 Tryz.underlying25 hi hz1 g k cap (by simp [Act.eval, Act.put]) ⟨g, k * 3 + 3, none⟩ (n - (k + 1)) (cap - (k + 1)) (by simp [Act.eval, Act.put]) (A ++ (X ++ (D ++ S))) (by exact HG.out) D hDl (fun j u hj => by rw [Addr.add_lit]; exact hcs.out j u hj) h1D.out (by omega) (by simp only [List.length_append]; omega) base w ((Below.refl _ _).drew) hb ?_; intro w1 ho1 hb1' hk1'; rw [ekn])
    go_wp2_with (refine clrN rfl _ 25 28 rfl Tryz.underlying25 (.agg #[.string ByteArray.empty, .slice none 0 0, .int .i64 0]) Tryz.zeroValue28 (by decide) 3 (by rfl) g ((n - 1) * 3) 1 _ (by rfl) (by decide) _ ho1.out (by rw [length_splice _ _ _ (by simp only [List.length_append]; omega)]; simp only [List.length_append]; omega) base w hb1'.out hb ?_; intro Z w2 hZ ho2 hb2' hk2')
    go_ret
    exact ⟨some ⟨g, 0, none⟩, cap, rfl, fin _ Z hZ ho2, hb2'.out, fun b _ hb0 => (hk2'.out b (fun e => hb0 g rfl e.symm)).trans (hk1'.out b (fun e => hb0 g rfl e.symm))⟩
end Go.Proofs.YtnbodmbagendnaaGreatDoor
namespace Go.Proofs.YtnbodmbagendnaaGreatDoor
open Go.ChangeShapes Go.WideShapes Go.ChangeAt Go.RowKit Go.Deep Go.Joins
set_option linter.unusedVariables false
set_option maxRecDepth 100000
set_option linter.unusedSimpArgs false
theorem own_setN {w : World} {base g : Nat} {E E' : TypeId} {s n : Nat} {v : Value} {L L' : List Value} (h : w.ownsRow base E s v n L) (hg : Own w g E' L') (hne : ∀ g', v.ownBlock = some g' → g' ≠ g) (i : Nat) (u : Value) : (w.setCell ⟨g, i, none⟩ u).ownsRow base E s v n L := by
  obtain ⟨h1, h2⟩ := h
  refine ⟨h1, ?_⟩
  rcases h2 with h2 | ⟨g1, cap, cur, rfl, hg0, hg1, rest⟩
  · exact .inl h2
  · refine .inr ⟨g1, cap, cur, rfl, hg0, ?_, rest⟩
    rw [Below.heap_setCell _ _ _ _ (fun e => hne g1 rfl e)]
    exact hg1
theorem impl_meltAt (w : World) (v : Value) (xs : List Melt) (t : ByteArray) (h : RdM w.heap.size w v xs) (hn : xs.length ≤ 1048576) :
    Calls Tryz.prog 19 #[v, .string t] w fun e w' => (∃ i : Nat, e = .returned (.tuple #[.int .i64 i, .bool (decide (i < xs.length) && decide (cmpMelt xs t i = 0))]) ∧ Found (cmpMelt xs t) xs.length i) ∧ Below w.heap.size w w' := by
  have H := Lib.hid (BinarySearch_Melt w v xs t h hn)
  clear h
  go_enter Tryz.func19, Tryz.ntmps19
  go_wp2_with fail
  refine H.out.mono ?_; rintro e w1 ⟨⟨i, rfl, hf⟩, b1⟩
  have HF := Lib.hid hf; clear hf
  go_wp2_with fail
  go_ret2
  exact ⟨⟨i, rfl, HF.out⟩, b1⟩
theorem clone_String (w : World) (v : Value) (n : Nat) (cs : List Value) (h : Rd w.heap.size w v 1 n cs) (h1 : ∀ u ∈ cs, u.oneCell' = true) (hn : n ≤ 1048576) :
    Calls Tryz.prog 67 #[v] w fun e w' => ∃ r, e = .returned r ∧ w'.ownsRow w.heap.size 9 1 r n cs ∧ Below w.heap.size w w' := by
  obtain ⟨i0, hi, hz0, hz1, hz2⟩ := info_parts infoOM
  have q22 : ∀ (w : World) (a : Option Addr) (n c n' c' : Nat), (binOp .eql 26 (.slice a n c) (.slice none n' c')).run Tryz.prog w = .ok (.bool a.isNone) w := fun w a n c n' c' => Lib.run_eql_slice_nil w _ _ a n c n' c' Tryz.underlying26
  have H := Lib.hid h
  have H1 := Lib.hid h1
  obtain ⟨hL, ao, cap, rfl, hcap, hmax, hnil, hsome⟩ := h
  clear h1 hsome
  cases ao with
  | none =>
    obtain ⟨rfl, rfl⟩ := hnil rfl
    have e : cs = [] := List.eq_nil_of_length_eq_zero (by simpa using hL)
    subst e
    go_enter Tryz.func67, Tryz.ntmps67
    go_wp2_with fail
    go_ret
    exact ⟨_, rfl, own_nil _ _ _ _, Below.refl _ _⟩
  | some p =>
    clear hnil
    go_enter Tryz.func67, Tryz.ntmps67
    go_wp2_with (at_builtin; go_loud (refine app_slE rfl _ _ 26 9 i0 (.string ByteArray.empty) 1 16 Tryz.underlying26 hi hz0 hz1 hz2 (by rfl) (by decide) rfl w (by rfl) _ n cs (by rfl) H.out H1.out (by omega) (by decide) ?_; intro ao' cap' w' hown hb; have HO := Lib.hid hown; have HB := Lib.hid hb; clear hown hb))
    go_ret
    exact ⟨_, rfl, HO.out, HB.out⟩
set_option maxHeartbeats 4000000 in
theorem impl_copyMelts (w : World) (v : Value) (xs : List Melt) (h : RdM w.heap.size w v xs) (hn : xs.length ≤ 1048575) (hx : ∀ x ∈ xs, 1 ≤ x.ingots.length ∧ x.ingots.length ≤ 1048576) :
    Calls Tryz.prog 29 #[v] w fun e w' => ∃ r os gs, e = .returned r ∧ w'.ownsRow w.heap.size 28 3 r os.length (os.flatMap Melt.put) ∧ Kids w.heap.size w' os gs ∧ os.map Melt.said = xs.map Melt.said ∧ Below w.heap.size w w' := by
  obtain ⟨ao, cap, rfl, hcap, hmax, hsome⟩ := h
  obtain ⟨i0, hi, hz0, hz1, hz2⟩ := info_parts Melt_info1
  have HX := Lib.hid hx; clear hx
  go_enter Tryz.func29, Tryz.ntmps29
  go_wp2_with fail
  go_loopw [3, 5, 8] (fun r _ i wr => ∃ (k : Nat) (os : List Melt) (gs : List Nat), k ≤ xs.length ∧ i = .int .i64 k ∧ os.map Melt.said = (xs.take k).map Melt.said ∧ wr.ownsRow w.heap.size 28 3 r os.length (os.flatMap Melt.put) ∧ Kids w.heap.size wr os gs ∧ Below w.heap.size w wr) (fun _ _ i _ => xs.length - (intOf i).toNat)
  case atStart => exact ⟨0, [], [], Nat.zero_le _, rfl, rfl, own_nil _ _ _ _, Kids.nil _ _, Below.refl _ _⟩
  case round =>
    obtain ⟨k, os, gs, hk, rfl, hsd, hown, hkd, hb⟩ := hrel
    have hol := congrArg List.length hsd
    rw [List.length_map, List.length_map, List.length_take] at hol
    have HOL : Hid (os.length ≤ k) := Lib.hid (by omega)
    clear hol
    have HS := Lib.hid hsd
    have HO := Lib.hid hown
    obtain ⟨ro, rc, er0⟩ := (own_rd hown).form
    subst er0
    have HKD := Lib.hid hkd
    have HB := Lib.hid hb
    have hws := hb.size
    clear hown hkd hsd
    by_cases hlt : k < xs.length
    · obtain ⟨b, off, rfl, hbB, hc⟩ := hsome (by omega)
      obtain ⟨l, p0, p1, p2, hrd⟩ := hc k hlt
      obtain ⟨lo, lc, rfl⟩ := hrd.form
      have hx1 := HX.out xs[k] (List.getElem_mem hlt)
      have c0 := (hb.cell (p := ⟨b, off + k * 3, none⟩) hbB).trans p0
      have c1 := (hb.cell (p := ⟨b, off + k * 3 + 1, none⟩) hbB).trans p1
      have c2 := (hb.cell (p := ⟨b, off + k * 3 + 2, none⟩) hbB).trans p2
      have hbr : b < wr.heap.size := Nat.lt_of_lt_of_le hbB hb.size
      have HX1 : Hid (Own (wr.alloc (.cells #[.string xs[k].id, .slice lo xs[k].ingots.length lc, .int .i64 xs[k].mass] 28)) wr.heap.size 28 [.string xs[k].id, .slice lo xs[k].ingots.length lc, .int .i64 xs[k].mass]) := Lib.hid (Own.new wr _ _)
      have HB1 : Hid (Below w.heap.size w (wr.alloc (.cells #[.string xs[k].id, .slice lo xs[k].ingots.length lc, .int .i64 xs[k].mass] 28))) := Lib.hid (hb.alloc hws _)
      have HL := Lib.hid (clone_String (wr.alloc (.cells #[.string xs[k].id, .slice lo xs[k].ingots.length lc, .int .i64 xs[k].mass] 28)) _ _ _ (hrd.up (hb.alloc hws _)) (putStr_one _) hx1.2)
      have hst : Hid (xs.take (k + 1) = xs.take k ++ [xs[k]]) := Lib.hid (List.take_succ_eq_append_getElem hlt)
      clear hb hc hsome p0 p1 p2 hrd
      go_wp2_with fail
      refine HL.out.mono ?_; rintro e w2 ⟨rv, rfl, o2, b2⟩
      obtain ⟨gk, ck, V, rfl, k1, k2, k3, k4⟩ := own_kid o2 (by omega)
      have hgk : wr.heap.size + 1 ≤ gk := by have q := k3; simp at q; omega
      have HX2 := Lib.hid (HX1.out.below b2 HX1.out.lt)
      have HO2 := Lib.hid (own_below (HO.out.alloc (.cells #[.string xs[k].id, .slice lo xs[k].ingots.length lc, .int .i64 xs[k].mass] 28)) b2 (Nat.le_refl _))
      have HKD2 : Hid (Kids w.heap.size w2 (os ++ [⟨xs[k].id, .slice (some ⟨gk, 0, none⟩) xs[k].ingots.length ck, xs[k].ingots, xs[k].mass⟩]) (gs ++ [gk])) := Lib.hid (kids_snoc2 ((HKD.out.below ((Below.refl _ _).alloc (Nat.le_refl _) _)).below b2) (fun g' hg' => by have := HKD.out.lt g' hg'; omega) k1 k2 (by omega) k4)
      have HB2 := Lib.hid (bnext HB1.out b2)
      have d0 : w2.cell? ⟨wr.heap.size, 0, none⟩ = some (.string xs[k].id) := HX2.out.cell 0
      have d1 : w2.cell? ⟨wr.heap.size, 1, none⟩ = some (.slice lo xs[k].ingots.length lc) := HX2.out.cell 1
      have d2 : w2.cell? ⟨wr.heap.size, 2, none⟩ = some (.int .i64 xs[k].mass) := HX2.out.cell 2
      have f1 := HX2.out.free 1
      have hlt2 := HX2.out.lt
      have hro : Hid (∀ g', Value.ownBlock (.slice ro os.length rc) = some g' → g' ≠ wr.heap.size) := Lib.hid (fun g' e => by have := (HO.out.lt g' e).2; omega)
      have HO4 := Lib.hid (own_setN HO2.out HX2.out hro.out 1 (.slice (some ⟨gk, 0, none⟩) xs[k].ingots.length ck))
      have HKD4 : Hid (Kids w.heap.size (w2.setCell ⟨wr.heap.size, 1, none⟩ (.slice (some ⟨gk, 0, none⟩) xs[k].ingots.length ck)) (os ++ [⟨xs[k].id, .slice (some ⟨gk, 0, none⟩) xs[k].ingots.length ck, xs[k].ingots, xs[k].mass⟩]) (gs ++ [gk])) := Lib.hid (HKD2.out.kept fun b L o => o.other (a := ⟨wr.heap.size, 1, none⟩) (own_neT HX2.out o (by decide)) _)
      have HB4 : Hid (Below w.heap.size w (w2.setCell ⟨wr.heap.size, 1, none⟩ (.slice (some ⟨gk, 0, none⟩) xs[k].ingots.length ck))) := Lib.hid (Below.setCell HB2.out (by show w.heap.size ≤ wr.heap.size; omega) _)
      have hws4 := HB4.out.size
      have hs4 : Hid ((w2.setCell ⟨wr.heap.size, 1, none⟩ (.slice (some ⟨gk, 0, none⟩) xs[k].ingots.length ck)).heap.size = w2.heap.size) := Lib.hid (by simp [World.setCell])
      clear b2 o2 k1 k2 k3 k4 HO HKD HB HL HO2 HKD2 HB2 HX1 HB1 hro
      go_wp2_with (at_builtin; go_loud (refine app_elK rfl _ _ 25 28 i0 (.agg #[.string ByteArray.empty, .slice none 0 0, .int .i64 0]) 3 48 Tryz.underlying25 hi hz0 hz1 hz2 (by rfl) (by decide) rfl (w2.setCell ⟨wr.heap.size, 1, none⟩ (.slice (some ⟨gk, 0, none⟩) xs[k].ingots.length ck)) w.heap.size _ os.length (os.flatMap Melt.put) (by rfl) HO4.out [.string xs[k].id, .slice (some ⟨gk, 0, none⟩) xs[k].ingots.length ck, .int .i64 xs[k].mass] rfl (melt_one _ _ _ _ _) (by rw [hs4.out]; rfl) (by have := HOL.out; omega) (by decide) hws4 (by rfl) ?_; intro g3 gc3 w3 hown3 hB3 hK3 hy3; have HO3 := Lib.hid hown3; have HB3 := Lib.hid (HB4.out.trans (hB3 _ (Below.refl _ _))); have HK3 := Lib.hid (kids_app HKD4.out HO4.out hK3); clear hown3 hB3 hK3 hy3))
      go_roundw
      case rel => exact ⟨k + 1, _, _, by omega, by go_num, by rw [hst.out]; exact said_snoc HS.out rfl, by rw [melt_snoc, List.length_append]; exact HO3.out, HK3.out, HB3.out⟩
      case measure => simp [intOf]; omega
    · obtain rfl : k = xs.length := by omega
      have hs := HS.out
      rw [List.take_length] at hs
      have HS2 := Lib.hid hs
      clear hb hsome hs HS
      go_wp2_with fail
      go_ret
      exact ⟨_, os, gs, rfl, HO.out, HKD.out, HS2.out, HB.out⟩
theorem melt_cells (os : List Melt) (h : ∀ x ∈ os, ∃ ao n c, x.list = .slice ao n c) : ∀ u ∈ os.flatMap Melt.put, u.oneCell' = true := by
  intro u hu
  obtain ⟨x, hx, hu⟩ := List.mem_flatMap.1 hu
  obtain ⟨ao, n, c, e⟩ := h x hx
  simp [Melt.put, e] at hu
  rcases hu with rfl | rfl | rfl <;> rfl
theorem Kids.forms {base : Nat} {w : World} {xs : List Melt} {gs : List Nat} (h : Kids base w xs gs) : ∀ x ∈ xs, ∃ ao n c, x.list = .slice ao n c := by
  intro x hx
  obtain ⟨i, hi, rfl⟩ := List.mem_iff_getElem.1 hx
  obtain ⟨V, c, e1, _⟩ := h.2.2 i hi (by have := h.1; omega)
  exact ⟨_, _, _, e1⟩
theorem take_put (xs : List Melt) : ∀ k, (xs.flatMap Melt.put).take (k * 3) = (xs.take k).flatMap Melt.put := by
  induction xs with
  | nil => intro k; simp
  | cons x xs ih =>
    intro k
    cases k with
    | zero => simp
    | succ k => simp only [List.flatMap_cons, List.take_succ_cons, Melt.put, Nat.succ_mul]; rw [show k * 3 + 3 = (k * 3) + 1 + 1 + 1 from rfl]; simp only [List.cons_append, List.nil_append, List.take_succ_cons, ih]
theorem drop_put (xs : List Melt) : ∀ k, (xs.flatMap Melt.put).drop (k * 3) = (xs.drop k).flatMap Melt.put := by
  induction xs with
  | nil => intro k; simp
  | cons x xs ih =>
    intro k
    cases k with
    | zero => simp
    | succ k => simp only [List.flatMap_cons, List.drop_succ_cons, Melt.put, Nat.succ_mul]; rw [show k * 3 + 3 = (k * 3) + 1 + 1 + 1 from rfl]; simp only [List.cons_append, List.nil_append, List.drop_succ_cons, ih]
theorem erase_put (xs : List Melt) (k : Nat) : (xs.flatMap Melt.put).take (k * 3) ++ (xs.flatMap Melt.put).drop ((k + 1) * 3) = (xs.eraseIdx k).flatMap Melt.put := by
  rw [take_put, drop_put, ← List.flatMap_append, List.eraseIdx_eq_take_drop_succ]
theorem said_erase {os xs : List Melt} (h : os.map Melt.said = xs.map Melt.said) (k : Nat) : (os.eraseIdx k).map Melt.said = (xs.eraseIdx k).map Melt.said := by
  rw [List.eraseIdx_eq_take_drop_succ, List.eraseIdx_eq_take_drop_succ, List.map_append, List.map_append, List.map_take, List.map_drop, List.map_take, List.map_drop, h]
set_option maxHeartbeats 4000000 in
theorem impl_DropMelt (w : World) (v : Value) (xs : List Melt) (a : ByteArray) (h : RdM w.heap.size w v xs) (hn : xs.length ≤ 1048576) (hf : ∀ x ∈ xs, x.fine) :
    Calls Tryz.prog 7 #[v, .string a] w fun e w' => ∃ r os, e = .returned (.tuple #[r, .int .i64 (dropS xs a).2]) ∧ Nest w.heap.size w'.heap.size w' r os ∧ os.map Melt.said = (dropS xs a).1.map Melt.said ∧ Below w.heap.size w w' := by
  have HV := Lib.hid (impl_ValidMelts w v xs h (by omega) hf)
  have H := Lib.hid h
  have hform : ∃ ao cap, v = .slice ao xs.length cap := by obtain ⟨ao, cap, e, _⟩ := h; exact ⟨ao, cap, e⟩
  obtain ⟨ao, cap, rfl⟩ := hform
  clear h
  cases hM : meltsB xs with
  | false =>
    have e := Lib.hid (drop_bad (a := a) hM)
    rw [hM] at HV
    clear hM
    go_enter Tryz.func7, Tryz.ntmps7
    go_wp2_with fail
    refine HV.out.mono ?_; rintro e w1 ⟨rfl, b1⟩
    have HB1 := Lib.hid b1; clear b1
    go_wp2_with fail
    go_ret2
    exact ⟨_, [], by rw [e.out]; try rfl, nest_nil _ _ _, by rw [e.out], HB1.out⟩
  | true =>
    obtain ⟨h12, hall⟩ := meltsB_all hM
    have HA := Lib.hid hall; clear hall
    have HR := Lib.hid (risesM_of hM)
    have HM := Lib.hid hM
    rw [hM] at HV
    clear hM
    go_enter Tryz.func7, Tryz.ntmps7
    go_wp2_with fail
    refine HV.out.mono ?_; rintro e w1 ⟨rfl, b1⟩
    have HB1 := Lib.hid b1; clear b1
    go_wp2_with fail
    refine (impl_meltAt _ _ xs a (by exact H.out.up HB1.out) (by omega)).mono ?_; rintro e w2 ⟨⟨i, rfl, hfo⟩, b2⟩
    have HB2 := Lib.hid (bnext HB1.out b2); clear b2
    obtain ⟨f1, f2, f3, _, _⟩ := found_idM HR.out hfo
    rw [f1]
    clear hfo f1
    cases hI : idM xs a with
    | none =>
      have e := Lib.hid (drop_no (a := a) HM.out (by rw [hI]; rfl))
      have t1 : (none : Option Nat).isSome = false := rfl
      clear f2 hI
      go_wp2_with fail
      go_ret2
      exact ⟨_, [], by rw [e.out]; try rfl, nest_nil _ _ _, by rw [e.out], HB2.out⟩
    | some k =>
      obtain rfl := f2 k hI
      have e := Lib.hid (drop_yes (a := a) HM.out (by rw [hI]; rfl))
      obtain ⟨hdr, hkl⟩ := dropF_some HR.out hI
      have HDR := Lib.hid hdr
      have t1 : (some i : Option Nat).isSome = true := rfl
      clear f2 hI hdr
      go_wp2_with fail
      refine (impl_copyMelts _ _ xs (by exact H.out.up HB2.out) (by omega) (fun x hx => by have := meltB_parts (HA.out x hx); omega)).mono ?_; rintro e w3 ⟨r, os, gs, rfl, o3, k3, s3, b3⟩
      have hol1 : i < os.length := by have := said_len s3; omega
      have hol2 : os.length ≤ 12 := by have := said_len s3; omega
      have HB3 := Lib.hid (bnext HB2.out b3)
      have O3 : Hid (w3.ownsRow w.heap.size 28 3 r os.length (os.flatMap Melt.put)) := Lib.hid (own_base o3 HB2.out.size)
      have K3 := Lib.hid k3
      have S3 := Lib.hid s3
      have hW2 := HB2.out.size
      clear o3 k3 s3 b3
      go_wp2_with fail
      refine (del_Melt w3 w.heap.size r os.length i (os.flatMap Melt.put) O3.out (melt_cells os K3.out.forms) (by omega) (by omega) HB3.out.size).mono ?_; rintro e w4 ⟨ao4, cap4, rfl, o4, b4, kp4⟩
      have O4 : Hid (w4.ownsRow w.heap.size 28 3 (.slice ao4 (os.length - 1) cap4) (os.eraseIdx i).length ((os.eraseIdx i).flatMap Melt.put)) := Lib.hid (by rw [← erase_put, List.length_eraseIdx_of_lt (by omega)]; exact o4)
      have K4 : Hid (Kids w.heap.size w4 (os.eraseIdx i) (gs.eraseIdx i)) := Lib.hid (Kids.base ((K3.out.kept fun b L o => kp4.own o (own_apart_type O3.out o (by decide))).erase i) hW2)
      have HB4 := Lib.hid (HB3.out.trans b4)
      clear o4 b4 kp4
      go_wp2_with fail
      go_ret2
      exact ⟨_, os.eraseIdx i, by rw [e.out]; try rfl, Nest.of O4.out K4.out, by rw [e.out, HDR.out]; exact said_erase S3.out i, HB4.out⟩
end Go.Proofs.YtnbodmbagendnaaGreatDoor
