/- Contracts and plain facts, joined: DropMI, MarkMelt, MarkNest, LWFnExactDropMelt. -/
import Derived.Test.YtklgkbiobggbiaaRows
import Derived.Test.YtklgkbiobggbiaaZFnExactDropMeltI
namespace Go.Proofs.Ytklgkbiobggbiaa
open Go.ChangeShapes Go.WideShapes Go.ChangeAt Go.RowKit Go.Deep Go.Joins
set_option linter.unusedVariables false
set_option maxRecDepth 100000
set_option linter.unusedSimpArgs false
theorem own_setN {w : World} {base g : Nat} {E E' : TypeId} {s n : Nat} {v : Value} {L L' : List Value} (h : w.ownsRow base E s v n L) (hg : Own w g E' L') (hne : ∀ g', v.ownBlock = some g' → g' ≠ g) (i : Nat) (u : Value) : (w.setCell ⟨g, i, none⟩ u).ownsRow base E s v n L := by
  obtain ⟨h1, h2⟩ := h
  refine ⟨h1, ?_⟩
  rcases h2 with h2 | ⟨g1, cap, cur, rfl, hg0, hg1, rest⟩
  · exact .inl h2
  · refine .inr ⟨g1, cap, cur, rfl, hg0, ?_, rest⟩
    rw [Below.heap_setCell _ _ _ _ (fun e => hne g1 rfl e)]
    exact hg1
theorem impl_meltAt (w : World) (v : Value) (xs : List Melt) (t : ByteArray) (h : RdM w.heap.size w v xs) (hn : xs.length ≤ 1048576) :
    Calls Try.prog 72 #[v, .string t] w fun e w' => (∃ i : Nat, e = .returned (.tuple #[.int .i64 i, .bool (decide (i < xs.length) && decide (cmpMelt xs t i = 0))]) ∧ Found (cmpMelt xs t) xs.length i) ∧ Below w.heap.size w w' := by
  have H := Lib.hid (BinarySearch_Melt w v xs t h hn)
  clear h
  go_enter Try.func72, Try.ntmps72
  go_wp2_with fail
  refine H.out.mono ?_; rintro e w1 ⟨⟨i, rfl, hf⟩, b1⟩
  have HF := Lib.hid hf; clear hf
  go_wp2_with fail
  go_ret2
  exact ⟨⟨i, rfl, HF.out⟩, b1⟩
theorem clone_String (w : World) (v : Value) (n : Nat) (cs : List Value) (h : Rd w.heap.size w v 1 n cs) (h1 : ∀ u ∈ cs, u.oneCell' = true) (hn : n ≤ 1048576) :
    Calls Try.prog 125 #[v] w fun e w' => ∃ r, e = .returned r ∧ w'.ownsRow w.heap.size 9 1 r n cs ∧ Below w.heap.size w w' := by
  obtain ⟨i0, hi, hz0, hz1, hz2⟩ := info_parts infoOM
  have q22 : ∀ (w : World) (a : Option Addr) (n c n' c' : Nat), (binOp .eql 59 (.slice a n c) (.slice none n' c')).run Try.prog w = .ok (.bool a.isNone) w := fun w a n c n' c' => Lib.run_eql_slice_nil w _ _ a n c n' c' Try.underlying59
  have H := Lib.hid h
  have H1 := Lib.hid h1
  obtain ⟨hL, ao, cap, rfl, hcap, hmax, hnil, hsome⟩ := h
  clear h1 hsome
  cases ao with
  | none =>
    obtain ⟨rfl, rfl⟩ := hnil rfl
    have e : cs = [] := List.eq_nil_of_length_eq_zero (by simpa using hL)
    subst e
    go_enter Try.func125, Try.ntmps125
    go_wp2_with fail
    go_ret
    exact ⟨_, rfl, own_nil _ _ _ _, Below.refl _ _⟩
  | some p =>
    clear hnil
    go_enter Try.func125, Try.ntmps125
    go_wp2_with (at_builtin; go_loud (refine app_slE rfl _ _ 59 9 i0 (.string ByteArray.empty) 1 16 Try.underlying59 hi hz0 hz1 hz2 (by rfl) (by decide) rfl w (by rfl) _ n cs (by rfl) H.out H1.out (by omega) (by decide) ?_; intro ao' cap' w' hown hb; have HO := Lib.hid hown; have HB := Lib.hid hb; clear hown hb))
    go_ret
    exact ⟨_, rfl, HO.out, HB.out⟩
set_option maxHeartbeats 4000000 in
theorem impl_copyMelts (w : World) (v : Value) (xs : List Melt) (h : RdM w.heap.size w v xs) (hn : xs.length ≤ 1048575) (hx : ∀ x ∈ xs, 1 ≤ x.ingots.length ∧ x.ingots.length ≤ 1048576) :
    Calls Try.prog 74 #[v] w fun e w' => ∃ r os gs, e = .returned r ∧ w'.ownsRow w.heap.size 67 3 r os.length (os.flatMap Melt.put) ∧ Kids w.heap.size w' os gs ∧ os.map Melt.said = xs.map Melt.said ∧ Below w.heap.size w w' := by
  obtain ⟨ao, cap, rfl, hcap, hmax, hsome⟩ := h
  obtain ⟨i0, hi, hz0, hz1, hz2⟩ := info_parts Melt_info1
  have HX := Lib.hid hx; clear hx
  go_enter Try.func74, Try.ntmps74
  go_wp2_with fail
  go_loopw [3, 5, 8] (fun r _ i wr => ∃ (k : Nat) (os : List Melt) (gs : List Nat), k ≤ xs.length ∧ i = .int .i64 k ∧ os.map Melt.said = (xs.take k).map Melt.said ∧ wr.ownsRow w.heap.size 67 3 r os.length (os.flatMap Melt.put) ∧ Kids w.heap.size wr os gs ∧ Below w.heap.size w wr) (fun _ _ i _ => xs.length - (intOf i).toNat)
  case atStart => exact ⟨0, [], [], Nat.zero_le _, rfl, rfl, own_nil _ _ _ _, Kids.nil _ _, Below.refl _ _⟩
  case round =>
    obtain ⟨k, os, gs, hk, rfl, hsd, hown, hkd, hb⟩ := hrel
    have hol := congrArg List.length hsd
    rw [List.length_map, List.length_map, List.length_take] at hol
    have HOL : Hid (os.length ≤ k) := Lib.hid (by omega)
    clear hol
    have HS := Lib.hid hsd
    have HO := Lib.hid hown
    obtain ⟨ro, rc, er0⟩ := (own_rd hown).form
    subst er0
    have HKD := Lib.hid hkd
    have HB := Lib.hid hb
    have hws := hb.size
    clear hown hkd hsd
    by_cases hlt : k < xs.length
    · obtain ⟨b, off, rfl, hbB, hc⟩ := hsome (by omega)
      obtain ⟨l, p0, p1, p2, hrd⟩ := hc k hlt
      obtain ⟨lo, lc, rfl⟩ := hrd.form
      have hx1 := HX.out xs[k] (List.getElem_mem hlt)
      have c0 := (hb.cell (p := ⟨b, off + k * 3, none⟩) hbB).trans p0
      have c1 := (hb.cell (p := ⟨b, off + k * 3 + 1, none⟩) hbB).trans p1
      have c2 := (hb.cell (p := ⟨b, off + k * 3 + 2, none⟩) hbB).trans p2
      have hbr : b < wr.heap.size := Nat.lt_of_lt_of_le hbB hb.size
      have HX1 : Hid (Own (wr.alloc (.cells #[.string xs[k].id, .slice lo xs[k].ingots.length lc, .int .i64 xs[k].mass] 67)) wr.heap.size 67 [.string xs[k].id, .slice lo xs[k].ingots.length lc, .int .i64 xs[k].mass]) := Lib.hid (Own.new wr _ _)
      have HB1 : Hid (Below w.heap.size w (wr.alloc (.cells #[.string xs[k].id, .slice lo xs[k].ingots.length lc, .int .i64 xs[k].mass] 67))) := Lib.hid (hb.alloc hws _)
      have HL := Lib.hid (clone_String (wr.alloc (.cells #[.string xs[k].id, .slice lo xs[k].ingots.length lc, .int .i64 xs[k].mass] 67)) _ _ _ (hrd.up (hb.alloc hws _)) (putStr_one _) hx1.2)
      have hst : Hid (xs.take (k + 1) = xs.take k ++ [xs[k]]) := Lib.hid (List.take_succ_eq_append_getElem hlt)
      clear hb hc hsome p0 p1 p2 hrd
      go_wp2_with fail
      refine HL.out.mono ?_; rintro e w2 ⟨rv, rfl, o2, b2⟩
      obtain ⟨gk, ck, V, rfl, k1, k2, k3, k4⟩ := own_kid o2 (by omega)
      have hgk : wr.heap.size + 1 ≤ gk := by have q := k3; simp at q; omega
      have HX2 := Lib.hid (HX1.out.below b2 HX1.out.lt)
      have HO2 := Lib.hid (own_below (HO.out.alloc (.cells #[.string xs[k].id, .slice lo xs[k].ingots.length lc, .int .i64 xs[k].mass] 67)) b2 (Nat.le_refl _))
      have HKD2 : Hid (Kids w.heap.size w2 (os ++ [⟨xs[k].id, .slice (some ⟨gk, 0, none⟩) xs[k].ingots.length ck, xs[k].ingots, xs[k].mass⟩]) (gs ++ [gk])) := Lib.hid (kids_snoc2 ((HKD.out.below ((Below.refl _ _).alloc (Nat.le_refl _) _)).below b2) (fun g' hg' => by have := HKD.out.lt g' hg'; omega) k1 k2 (by omega) k4)
      have HB2 := Lib.hid (bnext HB1.out b2)
      have d0 : w2.cell? ⟨wr.heap.size, 0, none⟩ = some (.string xs[k].id) := HX2.out.cell 0
      have d1 : w2.cell? ⟨wr.heap.size, 1, none⟩ = some (.slice lo xs[k].ingots.length lc) := HX2.out.cell 1
      have d2 : w2.cell? ⟨wr.heap.size, 2, none⟩ = some (.int .i64 xs[k].mass) := HX2.out.cell 2
      have f1 := HX2.out.free 1
      have hlt2 := HX2.out.lt
      have hro : Hid (∀ g', Value.ownBlock (.slice ro os.length rc) = some g' → g' ≠ wr.heap.size) := Lib.hid (fun g' e => by have := (HO.out.lt g' e).2; omega)
      have HO4 := Lib.hid (own_setN HO2.out HX2.out hro.out 1 (.slice (some ⟨gk, 0, none⟩) xs[k].ingots.length ck))
      have HKD4 : Hid (Kids w.heap.size (w2.setCell ⟨wr.heap.size, 1, none⟩ (.slice (some ⟨gk, 0, none⟩) xs[k].ingots.length ck)) (os ++ [⟨xs[k].id, .slice (some ⟨gk, 0, none⟩) xs[k].ingots.length ck, xs[k].ingots, xs[k].mass⟩]) (gs ++ [gk])) := Lib.hid (HKD2.out.kept fun b L o => o.other (a := ⟨wr.heap.size, 1, none⟩) (own_neT HX2.out o (by decide)) _)
      have HB4 : Hid (Below w.heap.size w (w2.setCell ⟨wr.heap.size, 1, none⟩ (.slice (some ⟨gk, 0, none⟩) xs[k].ingots.length ck))) := Lib.hid (Below.setCell HB2.out (by show w.heap.size ≤ wr.heap.size; omega) _)
      have hws4 := HB4.out.size
      have hs4 : Hid ((w2.setCell ⟨wr.heap.size, 1, none⟩ (.slice (some ⟨gk, 0, none⟩) xs[k].ingots.length ck)).heap.size = w2.heap.size) := Lib.hid (by simp [World.setCell])
      clear b2 o2 k1 k2 k3 k4 HO HKD HB HL HO2 HKD2 HB2 HX1 HB1 hro
      go_wp2_with (at_builtin; go_loud (refine app_elK rfl _ _ 51 67 i0 (.agg #[.string ByteArray.empty, .slice none 0 0, .int .i64 0]) 3 48 Try.underlying51 hi hz0 hz1 hz2 (by rfl) (by decide) rfl (w2.setCell ⟨wr.heap.size, 1, none⟩ (.slice (some ⟨gk, 0, none⟩) xs[k].ingots.length ck)) w.heap.size _ os.length (os.flatMap Melt.put) (by rfl) HO4.out [.string xs[k].id, .slice (some ⟨gk, 0, none⟩) xs[k].ingots.length ck, .int .i64 xs[k].mass] rfl (melt_one _ _ _ _ _) (by rw [hs4.out]; rfl) (by have := HOL.out; omega) (by decide) hws4 (by rfl) ?_; intro g3 gc3 w3 hown3 hB3 hK3 hy3; have HO3 := Lib.hid hown3; have HB3 := Lib.hid (HB4.out.trans (hB3 _ (Below.refl _ _))); have HK3 := Lib.hid (kids_app HKD4.out HO4.out hK3); clear hown3 hB3 hK3 hy3))
      go_roundw
      case rel => exact ⟨k + 1, _, _, by omega, by go_num, by rw [hst.out]; exact said_snoc HS.out rfl, by rw [melt_snoc, List.length_append]; exact HO3.out, HK3.out, HB3.out⟩
      case measure => simp [intOf]; omega
    · obtain rfl : k = xs.length := by omega
      have hs := HS.out
      rw [List.take_length] at hs
      have HS2 := Lib.hid hs
      clear hb hsome hs HS
      go_wp2_with fail
      go_ret
      exact ⟨_, os, gs, rfl, HO.out, HKD.out, HS2.out, HB.out⟩
theorem melt_cells (os : List Melt) (h : ∀ x ∈ os, ∃ ao n c, x.list = .slice ao n c) : ∀ u ∈ os.flatMap Melt.put, u.oneCell' = true := by
  intro u hu
  obtain ⟨x, hx, hu⟩ := List.mem_flatMap.1 hu
  obtain ⟨ao, n, c, e⟩ := h x hx
  simp [Melt.put, e] at hu
  rcases hu with rfl | rfl | rfl <;> rfl
theorem Kids.forms {base : Nat} {w : World} {xs : List Melt} {gs : List Nat} (h : Kids base w xs gs) : ∀ x ∈ xs, ∃ ao n c, x.list = .slice ao n c := by
  intro x hx
  obtain ⟨i, hi, rfl⟩ := List.mem_iff_getElem.1 hx
  obtain ⟨V, c, e1, _⟩ := h.2.2 i hi (by have := h.1; omega)
  exact ⟨_, _, _, e1⟩
theorem take_put (xs : List Melt) : ∀ k, (xs.flatMap Melt.put).take (k * 3) = (xs.take k).flatMap Melt.put := by
  induction xs with
  | nil => intro k; simp
  | cons x xs ih =>
    intro k
    cases k with
    | zero => simp
    | succ k => simp only [List.flatMap_cons, List.take_succ_cons, Melt.put, Nat.succ_mul]; rw [show k * 3 + 3 = (k * 3) + 1 + 1 + 1 from rfl]; simp only [List.cons_append, List.nil_append, List.take_succ_cons, ih]
theorem drop_put (xs : List Melt) : ∀ k, (xs.flatMap Melt.put).drop (k * 3) = (xs.drop k).flatMap Melt.put := by
  induction xs with
  | nil => intro k; simp
  | cons x xs ih =>
    intro k
    cases k with
    | zero => simp
    | succ k => simp only [List.flatMap_cons, List.drop_succ_cons, Melt.put, Nat.succ_mul]; rw [show k * 3 + 3 = (k * 3) + 1 + 1 + 1 from rfl]; simp only [List.cons_append, List.nil_append, List.drop_succ_cons, ih]
theorem erase_put (xs : List Melt) (k : Nat) : (xs.flatMap Melt.put).take (k * 3) ++ (xs.flatMap Melt.put).drop ((k + 1) * 3) = (xs.eraseIdx k).flatMap Melt.put := by
  rw [take_put, drop_put, ← List.flatMap_append, List.eraseIdx_eq_take_drop_succ]
theorem said_erase {os xs : List Melt} (h : os.map Melt.said = xs.map Melt.said) (k : Nat) : (os.eraseIdx k).map Melt.said = (xs.eraseIdx k).map Melt.said := by
  rw [List.eraseIdx_eq_take_drop_succ, List.eraseIdx_eq_take_drop_succ, List.map_append, List.map_append, List.map_take, List.map_drop, List.map_take, List.map_drop, h]
set_option maxHeartbeats 4000000 in
theorem impl_DropMelt (w : World) (v : Value) (xs : List Melt) (a : ByteArray) (h : RdM w.heap.size w v xs) (hn : xs.length ≤ 1048576) (hf : ∀ x ∈ xs, x.fine) :
    Calls Try.prog 27 #[v, .string a] w fun e w' => ∃ r os, e = .returned (.tuple #[r, .int .i64 (dropS xs a).2]) ∧ Nest w.heap.size w'.heap.size w' r os ∧ os.map Melt.said = (dropS xs a).1.map Melt.said ∧ Below w.heap.size w w' := by
  have HV := Lib.hid (impl_ValidMelts w v xs h (by omega) hf)
  have H := Lib.hid h
  have hform : ∃ ao cap, v = .slice ao xs.length cap := by obtain ⟨ao, cap, e, _⟩ := h; exact ⟨ao, cap, e⟩
  obtain ⟨ao, cap, rfl⟩ := hform
  clear h
  cases hM : meltsB xs with
  | false =>
    have e := Lib.hid (drop_bad (a := a) hM)
    rw [hM] at HV
    clear hM
    go_enter Try.func27, Try.ntmps27
    go_wp2_with fail
    refine HV.out.mono ?_; rintro e w1 ⟨rfl, b1⟩
    have HB1 := Lib.hid b1; clear b1
    go_wp2_with fail
    go_ret2
    exact ⟨_, [], by rw [e.out]; try rfl, nest_nil _ _ _, by rw [e.out], HB1.out⟩
  | true =>
    obtain ⟨h12, hall⟩ := meltsB_all hM
    have HA := Lib.hid hall; clear hall
    have HR := Lib.hid (risesM_of hM)
    have HM := Lib.hid hM
    rw [hM] at HV
    clear hM
    go_enter Try.func27, Try.ntmps27
    go_wp2_with fail
    refine HV.out.mono ?_; rintro e w1 ⟨rfl, b1⟩
    have HB1 := Lib.hid b1; clear b1
    go_wp2_with fail
    refine (impl_meltAt _ _ xs a (by exact H.out.up HB1.out) (by omega)).mono ?_; rintro e w2 ⟨⟨i, rfl, hfo⟩, b2⟩
    have HB2 := Lib.hid (bnext HB1.out b2); clear b2
    obtain ⟨f1, f2, f3, _, _⟩ := found_idM HR.out hfo
    rw [f1]
    clear hfo f1
    cases hI : idM xs a with
    | none =>
      have e := Lib.hid (drop_no (a := a) HM.out (by rw [hI]; rfl))
      have t1 : (none : Option Nat).isSome = false := rfl
      clear f2 hI
      go_wp2_with fail
      go_ret2
      exact ⟨_, [], by rw [e.out]; try rfl, nest_nil _ _ _, by rw [e.out], HB2.out⟩
    | some k =>
      obtain rfl := f2 k hI
      have e := Lib.hid (drop_yes (a := a) HM.out (by rw [hI]; rfl))
      obtain ⟨hdr, hkl⟩ := dropF_some HR.out hI
      have HDR := Lib.hid hdr
      have t1 : (some i : Option Nat).isSome = true := rfl
      clear f2 hI hdr
      go_wp2_with fail
      refine (impl_copyMelts _ _ xs (by exact H.out.up HB2.out) (by omega) (fun x hx => by have := meltB_parts (HA.out x hx); omega)).mono ?_; rintro e w3 ⟨r, os, gs, rfl, o3, k3, s3, b3⟩
      have hol1 : i < os.length := by have := said_len s3; omega
      have hol2 : os.length ≤ 12 := by have := said_len s3; omega
      have HB3 := Lib.hid (bnext HB2.out b3)
      have O3 : Hid (w3.ownsRow w.heap.size 67 3 r os.length (os.flatMap Melt.put)) := Lib.hid (own_base o3 HB2.out.size)
      have K3 := Lib.hid k3
      have S3 := Lib.hid s3
      have hW2 := HB2.out.size
      clear o3 k3 s3 b3
      go_wp2_with fail
      refine (del_Melt w3 w.heap.size r os.length i (os.flatMap Melt.put) O3.out (melt_cells os K3.out.forms) (by omega) (by omega) HB3.out.size).mono ?_; rintro e w4 ⟨ao4, cap4, rfl, o4, b4, kp4⟩
      have O4 : Hid (w4.ownsRow w.heap.size 67 3 (.slice ao4 (os.length - 1) cap4) (os.eraseIdx i).length ((os.eraseIdx i).flatMap Melt.put)) := Lib.hid (by rw [← erase_put, List.length_eraseIdx_of_lt (by omega)]; exact o4)
      have K4 : Hid (Kids w.heap.size w4 (os.eraseIdx i) (gs.eraseIdx i)) := Lib.hid (Kids.base ((K3.out.kept fun b L o => kp4.own o (own_apart_type O3.out o (by decide))).erase i) hW2)
      have HB4 := Lib.hid (HB3.out.trans b4)
      clear o4 b4 kp4
      go_wp2_with fail
      go_ret2
      exact ⟨_, os.eraseIdx i, by rw [e.out]; try rfl, Nest.of O4.out K4.out, by rw [e.out, HDR.out]; exact said_erase S3.out i, HB4.out⟩
end Go.Proofs.Ytklgkbiobggbiaa
namespace Go.Proofs.Ytklgkbiobggbiaa
open Go.ChangeShapes Go.WideShapes Go.ChangeAt Go.RowKit Go.Deep Go.Joins
set_option linter.unusedVariables false
set_option maxRecDepth 100000
set_option linter.unusedSimpArgs false
/-- how many ingots melts name -/
def cntM (xs : List Melt) : Nat := (xs.map fun x => x.ingots.length).sum
theorem cntM_succ (xs : List Melt) (k : Nat) (hk : k < xs.length) : cntM (xs.take (k + 1)) = cntM (xs.take k) + xs[k].ingots.length := by
  unfold cntM
  rw [List.take_succ_eq_append_getElem hk, List.map_append, List.sum_append]
  simp
theorem cntM_take (xs : List Melt) (k : Nat) : cntM (xs.take k) ≤ cntM xs := by
  have h : cntM xs = cntM (xs.take k) + cntM (xs.drop k) := by
    unfold cntM
    rw [← List.sum_append, ← List.map_append, List.take_append_drop]
  omega
theorem cntM_said {ys xs : List Melt} (h : ys.map Melt.said = xs.map Melt.said) : cntM ys = cntM xs := by
  have e : ∀ zs : List Melt, cntM zs = ((zs.map Melt.said).map fun t => t.2.1.length).sum := fun zs => by unfold cntM; rw [List.map_map]; rfl
  rw [e, e, h]

/-- melts in blocks of lo .. hi -/
def MeltsIn (lo hi : Nat) (w : World) (g : Nat) (ys xs : List Melt) : Prop := MeltsAt w g ys xs ∧ lo ≤ g ∧ g < hi ∧ ∀ y ∈ ys, ∀ b n c, y.list = .slice (some ⟨b, 0, none⟩) n c → b < hi
theorem MeltsIn.of {lo : Nat} {w : World} {g : Nat} {ys xs : List Melt} (h : MeltsAt w g ys xs) (hl : lo ≤ g) : MeltsIn lo w.heap.size w g ys xs := by
  refine ⟨h, hl, h.lt, fun y hy b n c e => ?_⟩
  obtain ⟨g', h1, h2, h3⟩ := h.2.2 y hy
  rw [h1] at e
  cases e
  exact h3.lt
theorem MeltsIn.turn {lo hi lo' hi' : Nat} {w w' : World} {g : Nat} {ys xs : List Melt} (h : MeltsIn lo hi w g ys xs) (t : Turn lo' hi' w w') (hd : hi ≤ lo' ∨ hi' ≤ lo) : MeltsIn lo hi w' g ys xs := by
  obtain ⟨⟨h1, h2, h3⟩, h4, h5, h6⟩ := h
  refine ⟨⟨h1.turn t (by omega), h2, fun y hy => ?_⟩, h4, h5, h6⟩
  obtain ⟨g', e1, e2, e3⟩ := h3 y hy
  have := h6 y hy _ _ _ e1
  exact ⟨g', e1, e2, e3.turn t (by omega)⟩

theorem MeltsIn.below {lo hi : Nat} {w w' : World} {g : Nat} {ys xs : List Melt} (h : MeltsIn lo hi w g ys xs) (b : Below w.heap.size w w') (_ : g < w.heap.size) : MeltsIn lo hi w' g ys xs := h.turn (Turn.of_below (lo := hi) (hi := hi) b) (.inl (Nat.le_refl _))
theorem MeltsIn.lt {lo hi : Nat} {w : World} {g : Nat} {ys xs : List Melt} (h : MeltsIn lo hi w g ys xs) : g < w.heap.size := h.1.lt
theorem cntM_wt : ∀ (xs : List Melt), cntM xs ≤ wtMelt xs
  | [] => by simp [cntM]
  | x :: xs => by
    have h := cntM_wt xs
    have e : cntM (x :: xs) = x.ingots.length + cntM xs := by simp [cntM]
    rw [e]
    simp only [wtMelt, Melt.wt, List.map_cons, List.sum_cons] at *
    omega

set_option maxHeartbeats 4000000 in
theorem markMeltS (k : Int) (w : World) (lo hi g : Nat) (ys xs : List Melt) (h : MeltsIn lo hi w g ys xs) (hn : xs.length ≤ 1048576) (hc : cntM xs ≤ 1048576) (h1 : 1 ≤ k) (hk : k ≤ 268435456) :
    Calls Try.prog 29 #[.slice (some ⟨g, 0, none⟩) xs.length xs.length, .int .i64 k] w fun e w' => e = .returned (.int .i64 (k + 2 * (xs.length : Int) + (cntM xs : Int))) ∧ Turn lo hi w w' := by
  obtain ⟨⟨ho, hs, hm⟩, hlo, hhi, hin⟩ := h
  have hl := said_len hs
  have hcs := cntM_said hs
  rw [← hl]
  rw [← hcs] at hc ⊢
  have hn' : ys.length ≤ 1048576 := by omega
  clear hl hcs hs hn
  have HM := Lib.hid hm; clear hm
  have HIN := Lib.hid hin; clear hin
  have HO0 := Lib.hid ho; clear ho
  go_enter Try.func29, Try.ntmps29
  go_wp2
  go_loopw [1, 5] (fun q i wr => ∃ (j : Nat) (A : List Value), j ≤ ys.length ∧ i = .int .i64 j ∧ q = .int .i64 (k + 2 * (j : Int) + (cntM (ys.take j) : Int)) ∧ A.length = j * 3 ∧ Own wr g 67 (A ++ (ys.drop j).flatMap Melt.put) ∧ Turn lo hi w wr) (fun _ i _ => ys.length - (intOf i).toNat)
  case atStart => exact ⟨0, [], Nat.zero_le _, rfl, by simp [cntM], rfl, by simpa using HO0.out, Turn.refl _ _ _⟩
  case round =>
    obtain ⟨j, A, hj, rfl, rfl, hA, ho, ht⟩ := hrel
    by_cases hlt : j < ys.length
    · have hct := cntM_take ys j
      have hcn := cntM_take ys (j + 1)
      have hcs := cntM_succ ys j hlt
      obtain ⟨gy, y1, y2, y3⟩ := HM.out ys[j] (List.getElem_mem hlt)
      have y4 := HIN.out ys[j] (List.getElem_mem hlt) _ _ _ y1
      obtain ⟨L1, hL1, o1⟩ := ht.shape y3
      rw [putStr_len] at hL1
      obtain ⟨q, hq, hq1, hq2⟩ : ∃ q : Int, k + 2 * (j : Int) + (cntM (ys.take j) : Int) = q ∧ 1 ≤ q ∧ q ≤ 300000000 := ⟨_, rfl, by omega, by omega⟩
      have e2 : Hid (k + 2 * ((j + 1 : Nat) : Int) + (cntM (ys.take (j + 1)) : Int) = q + 1 + (ys[j].ingots.length : Int) + 1) := (by omega : k + 2 * ((j + 1 : Nat) : Int) + (cntM (ys.take (j + 1)) : Int) = q + 1 + (ys[j].ingots.length : Int) + 1)
      have hni : ys[j].ingots.length ≤ 1048576 := by omega
      rw [hq]
      have ed : ys.drop j = ys[j] :: ys.drop (j + 1) := List.drop_eq_getElem_cons hlt
      rw [ed, List.flatMap_cons] at ho
      have HO : Hid (Own wr g 67 (A ++ .string ys[j].id :: .slice (some ⟨gy, 0, none⟩) ys[j].ingots.length ys[j].ingots.length :: .int .i64 ys[j].mass :: (ys.drop (j + 1)).flatMap Melt.put)) := (by rw [← y1]; exact ho : Own wr g 67 (A ++ .string ys[j].id :: .slice (some ⟨gy, 0, none⟩) ys[j].ingots.length ys[j].ingots.length :: .int .i64 ys[j].mass :: (ys.drop (j + 1)).flatMap Melt.put))
      have HT := Lib.hid ht
      have HA := Lib.hid hA
      have HL := Lib.hid (Held.of_own (n := ys[j].ingots.length) (s := 1) o1 (by omega) (by unfold maxLen; omega))
      have Y2 := y2
      clear ho ht hA ed hq hcs hcn hct y1 y2 y3 o1 hL1 HO0
      go_wp2_with fail
      refine (markTextI q _ (by omega) (by omega)).mono ?_; rintro e w1 ⟨rfl, b1⟩
      have ho1 := HO.out.below b1 HO.out.lt
      have hA := HA.out
      have d0 : w1.cell? ⟨g, j * 3, none⟩ = some (.string ys[j].id) := by rw [ho1.cell, List.getElem?_append_right (by omega), hA]; simp
      have d1 : w1.cell? ⟨g, j * 3 + 1, none⟩ = some (.slice (some ⟨gy, 0, none⟩) ys[j].ingots.length ys[j].ingots.length) := by rw [ho1.cell, List.getElem?_append_right (by omega), hA]; simp
      have f0 := ho1.free (j * 3)
      have hO2 := Lib.hid (ho1.set (j * 3) (.string (markT q.toNat)))
      have hT2 := Lib.hid (Turn.set (HT.out.trans (Turn.of_below b1)) hlo hhi (j * 3) (.string (markT q.toNat)))
      have hL2 := Lib.hid ((HL.out.below b1).turn (Turn.set (Turn.refl g (g + 1) _) (Nat.le_refl _) (Nat.lt_succ_self _) (j * 3) (.string (markT q.toNat))) (.inr (by omega)))
      clear HO HT HL b1 ho1 hA
      go_wp2_with fail
      refine (markStringS (q + 1) _ gy (gy + 1) _ _ L1 hL2.out hni (by omega) (by omega)).mono ?_; rintro e w2 ⟨rfl, t2, _⟩
      have hT3 := Lib.hid (hT2.out.trans (t2.wide (by omega) (by omega)))
      have hO3' := hO2.out.turn t2 (.inl Y2)
      rw [List.set_append_right _ _ (by have := HA.out; omega), show j * 3 - A.length = 0 from by have := HA.out; omega] at hO3'
      have hO3 := Lib.hid hO3'
      have d2 : w2.cell? ⟨g, j * 3 + 2, none⟩ = some (.int .i64 ys[j].mass) := by rw [hO3'.cell, List.getElem?_append_right (by have := HA.out; omega), HA.out]; simp
      have f2 := hO3'.free (j * 3 + 2)
      have hO4' := hO3'.set (j * 3 + 2) (.int .i64 (q + 1 + (ys[j].ingots.length : Int)))
      have hT4 := Lib.hid (Turn.set hT3.out hlo hhi (j * 3 + 2) (.int .i64 (q + 1 + (ys[j].ingots.length : Int))))
      rw [List.set_append_right _ _ (by have := HA.out; omega), show j * 3 + 2 - A.length = 2 from by have := HA.out; omega] at hO4'
      have hO4 := Lib.hid hO4'
      clear hO4' hO3' hO3 hT3 hO2 hT2 hL2 t2 d0 d1 f0
      go_wp2_with fail
      go_roundw
      case rel => exact ⟨j + 1, A ++ [.string (markT q.toNat), .slice (some ⟨gy, 0, none⟩) ys[j].ingots.length ys[j].ingots.length, .int .i64 (q + 1 + (ys[j].ingots.length : Int))], by omega, by go_num, by rw [e2.out] <;> go_num, by have := HA.out; simp; omega, by have := hO4.out; simpa using this, hT4.out⟩
      case measure => simp [intOf]; omega
    · have hjn : j = ys.length := by omega
      subst hjn
      have e1 : Hid (ys.take ys.length = ys) := (List.take_length : ys.take ys.length = ys)
      have HT := Lib.hid ht; clear ht ho hA HO0
      go_wp2
      go_ret
      exact ⟨by rw [e1.out]; rfl, HT.out⟩
end Go.Proofs.Ytklgkbiobggbiaa
namespace Go.Proofs.Ytklgkbiobggbiaa
open Go.ChangeShapes Go.WideShapes Go.ChangeAt Go.RowKit Go.Deep Go.Joins
set_option linter.unusedVariables false
set_option maxRecDepth 100000
set_option linter.unusedSimpArgs false
def marksTs (q : Int) (n : Nat) : List ByteArray := (List.range n).map fun i => markT (q + 1 * (i : Nat)).toNat
theorem marksTs_put (q : Int) (n : Nat) : (marksTs q n).flatMap putStr = marksString q n := by
  unfold marksTs marksString
  rw [List.flatMap_map]
  rfl
theorem marksTs_len (q : Int) (n : Nat) : (marksTs q n).length = n := by simp [marksTs]
def markM1 (q : Int) (x : Melt) : Melt := ⟨markT q.toNat, x.list, marksTs (q + 1) x.ingots.length, q + 1 + (x.ingots.length : Int)⟩
def markedM (k : Int) : List Melt → List Melt
  | [] => []
  | x :: xs => markM1 k x :: markedM (k + 2 + (x.ingots.length : Int)) xs
theorem cntM_cons (x : Melt) (xs : List Melt) : cntM (x :: xs) = x.ingots.length + cntM xs := by simp [cntM]
theorem markedM_append : ∀ (ps qs : List Melt) (k : Int), markedM k (ps ++ qs) = markedM k ps ++ markedM (k + 2 * (ps.length : Int) + (cntM ps : Int)) qs
  | [], qs, k => by simp [markedM, cntM]
  | a :: ps, qs, k => by
    simp only [List.cons_append, markedM]
    rw [markedM_append ps qs, cntM_cons, List.length_cons]
    congr 3
    push_cast
    omega
theorem markedM_snoc (k : Int) (xs : List Melt) (j : Nat) (h : j < xs.length) : markedM k (xs.take (j + 1)) = markedM k (xs.take j) ++ [markM1 (k + 2 * (j : Int) + (cntM (xs.take j) : Int)) xs[j]] := by
  have hl : (xs.take j).length = j := by rw [List.length_take]; omega
  rw [List.take_succ_eq_append_getElem h, markedM_append, hl]
  rfl
theorem markedM_len : ∀ (xs : List Melt) (k : Int), (markedM k xs).length = xs.length
  | [], _ => rfl
  | x :: xs, k => by simp only [markedM, List.length_cons, markedM_len xs]
theorem markedM_cnt : ∀ (xs : List Melt) (k : Int), cntM (markedM k xs) = cntM xs
  | [], _ => rfl
  | x :: xs, k => by simp only [markedM, cntM_cons, markedM_cnt xs]; simp [markM1, marksTs_len]
theorem Kids.step {base : Nat} {w w' : World} {A B : List Melt} {x y : Melt} {gs : List Nat} (h : Kids base w (A ++ x :: B) gs) (hj : A.length < gs.length) (hk : ∀ b L, b ≠ gs[A.length] → Own w b 9 L → Own w' b 9 L)
    (hy : Held gs[A.length] (gs[A.length] + 1) w' 9 1 x.list x.ingots.length (y.ingots.flatMap putStr)) (h0 : 0 < x.ingots.length) (hl : y.list = x.list) (hn : y.ingots.length = x.ingots.length) : Kids base w' (A ++ y :: B) gs := by
  obtain ⟨h1, h2, h3⟩ := h
  refine ⟨by simpa using h1, h2, fun i hi hi' => ?_⟩
  by_cases q : i = A.length
  · subst q
    obtain ⟨V, c, e1, e2, e3, e4, e5⟩ := h3 A.length (by simp) hi'
    have a1 : (A ++ x :: B)[A.length]'(by simp) = x := by simp
    have a2 : (A ++ y :: B)[A.length] = y := by simp
    rw [a1] at e1 e2
    rw [a2]
    obtain ⟨_, ao, cap, q1, q2, q3, q4, q5⟩ := hy
    obtain ⟨g, U, q6, q7, q8, q9⟩ := q5 h0
    rw [e1] at q1
    cases q1
    cases q6
    exact ⟨U, c, by rw [hl, e1, hn], by omega, e3, e4, q9⟩
  · have hi2 : i < (A ++ x :: B).length := by simpa using hi
    obtain ⟨V, c, e1, e2, e3, e4, e5⟩ := h3 i hi2 hi'
    have a1 : (A ++ y :: B)[i] = (A ++ x :: B)[i] := by
      rcases Nat.lt_or_ge i A.length with z | z
      · rw [List.getElem_append_left z, List.getElem_append_left z]
      · obtain ⟨m, hm⟩ : ∃ m, i = A.length + (m + 1) := ⟨i - A.length - 1, by omega⟩
        subst hm
        rw [List.getElem_append_right (by omega), List.getElem_append_right (by omega)]
        simp
    rw [a1]
    refine ⟨V, c, e1, e2, e3, e4, hk _ _ (fun e => ?_) e5⟩
    exact q ((List.getElem_inj h2).1 e)
theorem own_ne {w : World} {a b : Nat} {E E' : TypeId} {L L' : List Value} (h : Own w a E L) (h' : Own w b E' L') (hne : E ≠ E') : a ≠ b := by
  rintro rfl
  unfold Own at h h'
  rw [h] at h'
  injection h' with h'
  injection h' with _ q _
  exact hne q

set_option maxHeartbeats 4000000 in
theorem markMeltN (k : Int) (w : World) (lo hi : Nat) (v : Value) (xs : List Melt) (h : Nest lo hi w v xs) (hn : xs.length ≤ 1048576) (hc : cntM xs ≤ 1048576) (h0 : ∀ x ∈ xs, 1 ≤ x.ingots.length) (h1 : 1 ≤ k) (hk : k ≤ 268435456) :
    Calls Try.prog 29 #[v, .int .i64 k] w fun e w' => e = .returned (.int .i64 (k + 2 * (xs.length : Int) + (cntM xs : Int))) ∧ Turn lo hi w w' ∧ Nest lo hi w' v (markedM k xs) := by
  obtain ⟨hH, gs, hK, hgs⟩ := h
  obtain ⟨hL, ao, cap, rfl, hcap, hmax, hnil, hsome⟩ := hH
  obtain ⟨g, U, hg⟩ : ∃ g U, 0 < xs.length → ao = some ⟨g, 0, none⟩ ∧ lo ≤ g ∧ g < hi ∧ Own w g 67 (xs.flatMap Melt.put ++ U) := by
    by_cases h0 : 0 < xs.length
    · obtain ⟨g, U, h⟩ := hsome h0; exact ⟨g, U, fun _ => h⟩
    · exact ⟨0, [], fun h => absurd h h0⟩
  have HG := Lib.hid hg; clear hg hsome
  have HN := Lib.hid hnil; clear hnil
  have HK0 := Lib.hid hK; clear hK
  have HGS := Lib.hid hgs; clear hgs
  have H0 := Lib.hid h0; clear h0
  go_enter Try.func29, Try.ntmps29
  go_wp2
  go_loopw [1, 5] (fun q i wr => ∃ (j : Nat), j ≤ xs.length ∧ i = .int .i64 j ∧ q = .int .i64 (k + 2 * (j : Int) + (cntM (xs.take j) : Int)) ∧ Turn lo hi w wr ∧ Kids lo wr (markedM k (xs.take j) ++ xs.drop j) gs ∧ (0 < xs.length → Own wr g 67 ((markedM k (xs.take j) ++ xs.drop j).flatMap Melt.put ++ U))) (fun _ i _ => xs.length - (intOf i).toNat)
  case atStart => exact ⟨0, Nat.zero_le _, rfl, by simp [cntM], Turn.refl _ _ _, HK0.out, fun h0 => (HG.out h0).2.2.2⟩
  case round =>
    obtain ⟨j, hj, rfl, rfl, ht, hkd, hO⟩ := hrel
    by_cases hlt : j < xs.length
    · obtain ⟨rfl, hlo, hhi, _⟩ := HG.out (by omega)
      have ho := hO (by omega)
      have hct := cntM_take xs j
      have hcn := cntM_take xs (j + 1)
      have hcs := cntM_succ xs j hlt
      have hx0 := H0.out xs[j] (List.getElem_mem hlt)
      have hsn := Lib.hid (markedM_snoc k xs j hlt)
      have hAl : (markedM k (xs.take j)).length = j := by rw [markedM_len, List.length_take]; omega
      obtain ⟨A, hA⟩ : ∃ A, markedM k (xs.take j) = A := ⟨_, rfl⟩
      rw [hA] at hkd ho hsn hAl
      have ed : xs.drop j = xs[j] :: xs.drop (j + 1) := List.drop_eq_getElem_cons hlt
      rw [ed] at hkd ho
      have hgl := hkd.1
      rw [List.length_append, List.length_cons] at hgl
      have hjg : A.length < gs.length := by omega
      obtain ⟨V, c, y1, y2, y3, y4, y5⟩ := hkd.2.2 A.length (by simp; omega) hjg
      have ea : (A ++ xs[j] :: xs.drop (j + 1))[A.length]'(by simp; omega) = xs[j] := by simp
      rw [ea] at y1 y2 y5
      have y6 := HGS.out gs[A.length] (List.getElem_mem hjg)
      obtain ⟨gy, hgy⟩ : ∃ gy, gs[A.length] = gy := ⟨_, rfl⟩
      have HGY := Lib.hid hgy
      rw [hgy] at y1 y4 y5 y6
      have hgne : g ≠ gy := own_ne ho y5 (by decide)
      have hAL : (A.flatMap Melt.put).length = j * 3 := by rw [Melt_len, hAl]
      rw [List.flatMap_append, List.flatMap_cons, List.append_assoc, List.append_assoc] at ho
      obtain ⟨AV, hAV⟩ : ∃ AV, A.flatMap Melt.put = AV := ⟨_, rfl⟩
      obtain ⟨R, hR⟩ : ∃ R, (xs.drop (j + 1)).flatMap Melt.put ++ U = R := ⟨_, rfl⟩
      rw [hAV] at ho hAL
      rw [hR] at ho
      obtain ⟨q, hq, hq1, hq2⟩ : ∃ q : Int, k + 2 * (j : Int) + (cntM (xs.take j) : Int) = q ∧ 1 ≤ q ∧ q ≤ 300000000 := ⟨_, rfl, by omega, by omega⟩
      have e2 : Hid (k + 2 * ((j + 1 : Nat) : Int) + (cntM (xs.take (j + 1)) : Int) = q + 1 + (xs[j].ingots.length : Int) + 1) := (by omega : k + 2 * ((j + 1 : Nat) : Int) + (cntM (xs.take (j + 1)) : Int) = q + 1 + (xs[j].ingots.length : Int) + 1)
      have hni : xs[j].ingots.length ≤ 1048576 := by omega
      rw [hq] at hsn ⊢
      have HO : Hid (Own wr g 67 (AV ++ .string xs[j].id :: .slice (some ⟨gy, 0, none⟩) xs[j].ingots.length c :: .int .i64 xs[j].mass :: R)) := (by rw [← y1]; exact ho : Own wr g 67 (AV ++ .string xs[j].id :: .slice (some ⟨gy, 0, none⟩) xs[j].ingots.length c :: .int .i64 xs[j].mass :: R))
      have HT := Lib.hid ht
      have HKD := Lib.hid hkd
      have HAL := Lib.hid hAL
      have HY1 := Lib.hid y1
      have HL : Hid (Held gy (gy + 1) wr 9 1 (.slice (some ⟨gy, 0, none⟩) xs[j].ingots.length c) xs[j].ingots.length (xs[j].ingots.flatMap putStr)) := Lib.hid ⟨putStr_len _, _, _, rfl, y2, y3, (fun q => by cases q), fun _ => ⟨gy, V, rfl, Nat.le_refl _, Nat.lt_succ_self _, y5⟩⟩
      have HPK := Lib.hid ((And.intro hA (And.intro hAV hR)))
      clear ho ht hkd hAL ed hq hcs hcn hct y1 y2 y3 y5 hO hgy hA hAV hR HK0 HG ea
      go_wp2_with fail
      refine (markTextI q _ (by omega) (by omega)).mono ?_; rintro e w1 ⟨rfl, b1⟩
      have ho1 := HO.out.below b1 HO.out.lt
      have hA := HAL.out
      have d0 : w1.cell? ⟨g, j * 3, none⟩ = some (.string xs[j].id) := by rw [ho1.cell, List.getElem?_append_right (by omega), hA]; simp <;> omega
      have d1 : w1.cell? ⟨g, j * 3 + 1, none⟩ = some (.slice (some ⟨gy, 0, none⟩) xs[j].ingots.length c) := by rw [ho1.cell, List.getElem?_append_right (by omega), hA]; simp <;> omega
      have f0 := ho1.free (j * 3)
      have hO2 := Lib.hid (ho1.set (j * 3) (.string (markT q.toNat)))
      have hT2 := Lib.hid (Turn.set (HT.out.trans (Turn.of_below b1)) hlo hhi (j * 3) (.string (markT q.toNat)))
      have hL2 := Lib.hid ((HL.out.below b1).turn (Turn.set (Turn.refl g (g + 1) _) (Nat.le_refl _) (Nat.lt_succ_self _) (j * 3) (.string (markT q.toNat))) (by omega))
      have hK2 : Hid (Kids lo (w1.setCell ⟨g, j * 3, none⟩ (.string (markT q.toNat))) (A ++ xs[j] :: xs.drop (j + 1)) gs) := Lib.hid ((HKD.out.below b1).kept fun b L o => o.other (a := ⟨g, j * 3, none⟩) (own_ne ho1 o (by decide)) _)
      clear HO HT HL HKD b1 ho1 hA
      go_wp2_with fail
      refine (markStringS (q + 1) _ gy (gy + 1) _ _ _ hL2.out hni (by omega) (by omega)).mono ?_; rintro e w2 ⟨rfl, t2, hl2⟩
      have hT3 := Lib.hid (hT2.out.trans (t2.wide (by omega) (by omega)))
      have hO3' := hO2.out.turn t2 (by omega)
      have hK3 : Hid (Kids lo w2 (A ++ markM1 q xs[j] :: xs.drop (j + 1)) gs) := Lib.hid (by
        refine hK2.out.step hjg (fun b L hb o => o.turn t2 (by have := HGY.out; omega)) ?_ (by omega) rfl (marksTs_len _ _)
        rw [HGY.out, HY1.out]
        show Held gy (gy + 1) w2 _ 1 _ _ ((marksTs (q + 1) xs[j].ingots.length).flatMap putStr)
        rw [marksTs_put]; exact hl2)
      rw [List.set_append_right _ _ (by have := HAL.out; omega), show j * 3 - AV.length = 0 from by have := HAL.out; omega] at hO3'
      have hO3 := Lib.hid hO3'
      have d2 : w2.cell? ⟨g, j * 3 + 2, none⟩ = some (.int .i64 xs[j].mass) := by rw [hO3'.cell, List.getElem?_append_right (by have := HAL.out; omega), HAL.out]; simp <;> omega
      have f2 := hO3'.free (j * 3 + 2)
      have hO4' := hO3'.set (j * 3 + 2) (.int .i64 (q + 1 + (xs[j].ingots.length : Int)))
      have hT4 := Lib.hid (Turn.set hT3.out hlo hhi (j * 3 + 2) (.int .i64 (q + 1 + (xs[j].ingots.length : Int))))
      have hK4 : Hid (Kids lo (w2.setCell ⟨g, j * 3 + 2, none⟩ (.int .i64 (q + 1 + (xs[j].ingots.length : Int)))) (A ++ markM1 q xs[j] :: xs.drop (j + 1)) gs) := Lib.hid (hK3.out.kept fun b L o => o.other (a := ⟨g, j * 3 + 2, none⟩) (own_ne hO3' o (by decide)) _)
      rw [List.set_append_right _ _ (by have := HAL.out; omega), show j * 3 + 2 - AV.length = 2 from by have := HAL.out; omega] at hO4'
      have hO4 := Lib.hid hO4'
      clear hO4' hO3' hO3 hT3 hO2 hT2 hL2 t2 d0 d1 f0 hK2 hK3 hl2
      go_wp2_with fail
      go_roundw
      case rel =>
        refine ⟨j + 1, by omega, by go_num, by rw [e2.out] <;> go_num, hT4.out, ?_, fun _ => ?_⟩
        · rw [hsn.out, List.append_assoc]; exact hK4.out
        · rw [hsn.out, List.append_assoc, List.flatMap_append, HPK.out.2.1]
          show Own _ _ _ (AV ++ (Melt.put (markM1 q xs[j]) ++ (xs.drop (j + 1)).flatMap Melt.put) ++ U)
          rw [List.append_assoc, List.append_assoc, HPK.out.2.2]
          have := hO4.out
          rw [← HY1.out] at this
          exact this
      case measure => simp [intOf]; omega
    · have hjn : j = xs.length := by omega
      subst hjn
      have e1 : Hid (xs.take xs.length = xs) := (List.take_length : xs.take xs.length = xs)
      have HT := Lib.hid ht; clear ht
      have HKD := Lib.hid hkd
      have HO := Lib.hid hO
      rw [e1.out, List.drop_length, List.append_nil] at HKD HO
      clear hkd hO HK0
      go_wp2
      go_ret
      refine ⟨by rw [e1.out]; rfl, HT.out, ⟨?_, ao, cap, ?_, ?_, hmax, ?_, fun hp => ?_⟩, gs, HKD.out, HGS.out⟩
      · rw [Melt_len]
      · rw [markedM_len]
      · rw [markedM_len]; exact hcap
      · rw [markedM_len]; exact HN.out
      · rw [markedM_len] at hp
        obtain ⟨q1, q2, q3, _⟩ := HG.out hp
        exact ⟨g, U, q1, q2, q3, HO.out hp⟩

theorem markedM_get (k : Int) (xs : List Melt) (j : Nat) (h : j < (markedM k xs).length) (hx : j < xs.length) : (markedM k xs)[j] = markM1 (k + 2 * (j : Int) + (cntM (xs.take j) : Int)) xs[j] := by
  have e : markedM k xs = markedM k (xs.take (j + 1)) ++ markedM (k + 2 * ((xs.take (j + 1)).length : Int) + (cntM (xs.take (j + 1)) : Int)) (xs.drop (j + 1)) := by rw [← markedM_append, List.take_append_drop]
  have hl : (markedM k (xs.take j)).length = j := by rw [markedM_len, List.length_take]; omega
  rw [List.getElem_of_eq e, List.getElem_append_left (by rw [markedM_len, List.length_take]; omega), List.getElem_of_eq (markedM_snoc k xs j hx), List.getElem_append_right (by omega)]
  simp [hl]
set_option maxHeartbeats 4000000 in
theorem heldMeltN (k : Int) (w : World) (lo hi : Nat) (v : Value) (xs : List Melt) (h : Nest lo hi w v (markedM k xs)) (hn : xs.length ≤ 1048576) (hc : cntM xs ≤ 1048576) (h1 : 1 ≤ k) (hk : k ≤ 268435456) :
    Calls Try.prog 30 #[v, .int .i64 k] w fun e w' => e = .returned (.int .i64 (k + 2 * (xs.length : Int) + (cntM xs : Int))) ∧ Below w.heap.size w w' := by
  have hkids := h.kids
  obtain ⟨hL, ao, cap, rfl, hcap, hmax, hnil, hsome⟩ := h.rd
  clear hnil h
  have HKS := Lib.hid hkids; clear hkids
  have hml := markedM_len xs k
  rw [hml] at hcap hsome ⊢
  go_enter Try.func30, Try.ntmps30
  go_wp2
  go_loopw [1, 5] (fun q i wr => ∃ (j : Nat), j ≤ xs.length ∧ i = .int .i64 j ∧ q = .int .i64 (k + 2 * (j : Int) + (cntM (xs.take j) : Int)) ∧ Below w.heap.size w wr) (fun _ i _ => xs.length - (intOf i).toNat)
  case atStart => exact ⟨0, Nat.zero_le _, rfl, by simp [cntM], Below.refl _ _⟩
  case round =>
    obtain ⟨j, hj, rfl, rfl, hb⟩ := hrel
    by_cases hlt : j < xs.length
    · obtain ⟨b, off, rfl, hbB, hcl⟩ := hsome (by omega)
      have hjm : j < (markedM k xs).length := by omega
      have hge := markedM_get k xs j hjm hlt
      have hkd := HKS.out (markedM k xs)[j] (List.getElem_mem hjm)
      have hct := cntM_take xs j
      have hcn := cntM_take xs (j + 1)
      have hcs := cntM_succ xs j hlt
      obtain ⟨q, hq, hq1, hq2⟩ : ∃ q : Int, k + 2 * (j : Int) + (cntM (xs.take j) : Int) = q ∧ 1 ≤ q ∧ q ≤ 300000000 := ⟨_, rfl, by omega, by omega⟩
      have e2 : Hid (k + 2 * ((j + 1 : Nat) : Int) + (cntM (xs.take (j + 1)) : Int) = q + 1 + (xs[j].ingots.length : Int) + 1) := (by omega : k + 2 * ((j + 1 : Nat) : Int) + (cntM (xs.take (j + 1)) : Int) = q + 1 + (xs[j].ingots.length : Int) + 1)
      have hni : xs[j].ingots.length ≤ 1048576 := by omega
      have g0 := Melt_get0 (markedM k xs) j hjm
      have g1 := Melt_get1 (markedM k xs) j hjm
      have g2 := Melt_get2 (markedM k xs) j hjm
      rw [hge] at g0 g1 g2 hkd
      rw [hq] at g0 g1 g2 hkd ⊢
      have hkd2 : Rd w.heap.size w xs[j].list 1 xs[j].ingots.length (marksString (q + 1) xs[j].ingots.length) := by
        have := hkd
        unfold markM1 at this
        simp only [marksTs_len, marksTs_put] at this
        exact this
      obtain ⟨lo', lc, el⟩ := hkd2.form
      have c0 : wr.cell? ⟨b, off + j * 3, none⟩ = some (.string (markT q.toNat)) := by
        rw [hb.cell (p := ⟨b, off + j * 3, none⟩) hbB, show off + j * 3 = off + (j * 3 + 0) from rfl, hcl (j * 3 + 0) (by omega), g0]; rfl
      have c1 : wr.cell? ⟨b, off + j * 3 + 1, none⟩ = some (.slice lo' xs[j].ingots.length lc) := by
        rw [hb.cell (p := ⟨b, off + j * 3 + 1, none⟩) hbB, Nat.add_assoc, hcl (j * 3 + 1) (by omega), g1, ← el]; rfl
      have c2 : wr.cell? ⟨b, off + j * 3 + 2, none⟩ = some (.int .i64 (q + 1 + (xs[j].ingots.length : Int))) := by
        rw [hb.cell (p := ⟨b, off + j * 3 + 2, none⟩) hbB, Nat.add_assoc, hcl (j * 3 + 2) (by omega), g2]; rfl
      have hbr : b < wr.heap.size := Nat.lt_of_lt_of_le hbB hb.size
      have HR : Hid (Rd wr.heap.size wr (.slice lo' xs[j].ingots.length lc) 1 xs[j].ingots.length (marksString (q + 1) xs[j].ingots.length)) := Lib.hid (by rw [← el]; exact hkd2.up hb)
      have HB := Lib.hid hb
      clear hcl hsome hb hq hL g0 g1 g2 hkd hkd2 hge el hcs hcn hct
      go_wp2_with fail
      refine wp_region_above (by kernel_rfl) (by kernel_rfl) ?_
      repeat (go_big_quiet_step (((go_at_call 75; exact aboveC (markTextI q _ (by omega) (by omega))))))
      refine wpQuiet_nil ?_
      intro w1 b1
      have HB1 := Lib.hid (HB.out.trans (b1.mono HB.out.size))
      have C1 := (b1.cell (p := ⟨b, off + j * 3 + 1, none⟩) hbr).trans c1
      have C2 := (b1.cell (p := ⟨b, off + j * 3 + 2, none⟩) hbr).trans c2
      have HR1 := Lib.hid (HR.out.up b1)
      have hbr1 := Nat.lt_of_lt_of_le hbr b1.size
      clear c0 c1 c2 b1 HR HB
      go_wp2_with fail
      refine (heldStringS (q + 1) _ _ _ HR1.out hni (by omega) (by omega)).mono ?_; rintro e w2 ⟨rfl, b2⟩
      have HB2 := Lib.hid (bnext HB1.out b2)
      have C2' := (b2.cell (p := ⟨b, off + j * 3 + 2, none⟩) hbr1).trans C2
      clear C1 C2 b2 HB1
      go_wp2_with fail
      go_roundw
      case rel => exact ⟨j + 1, by omega, by go_num, by rw [e2.out] <;> go_num, HB2.out⟩
      case measure => simp [intOf]; omega
    · have hjn : j = xs.length := by omega
      subst hjn
      have e1 : Hid (xs.take xs.length = xs) := (List.take_length : xs.take xs.length = xs)
      have HB := Lib.hid hb; clear hb hsome
      go_wp2
      go_ret
      exact ⟨by rw [e1.out]; rfl, HB.out⟩
end Go.Proofs.Ytklgkbiobggbiaa
namespace Go.Proofs.Ytklgkbiobggbiaa
open Go.ChangeShapes Go.WideShapes Go.ChangeAt Go.RowKit Go.Deep Go.Joins
set_option linter.unusedVariables false
set_option maxRecDepth 100000
set_option linter.unusedSimpArgs false
theorem nest_sizes {os R : List Melt} (h : os.map Melt.said = R.map Melt.said) (h12 : R.length ≤ 13) (hi : ∀ x ∈ R, 1 ≤ x.ingots.length ∧ x.ingots.length ≤ 16) : os.length = R.length ∧ cntM os = cntM R ∧ (∀ x ∈ os, x.ingots.length ≤ 1048576) ∧ (∀ x ∈ os, 1 ≤ x.ingots.length) ∧ cntM R ≤ 208 := by
  have hc : ∀ (zs : List Melt), (∀ x ∈ zs, x.ingots.length ≤ 16) → cntM zs ≤ 16 * zs.length := by
    intro zs
    induction zs with
    | nil => intro _; simp [cntM]
    | cons z zs ih =>
      intro hz
      have := ih (fun x hx => hz x (List.mem_cons_of_mem _ hx))
      have h1 := hz z (List.mem_cons_self ..)
      rw [cntM_cons, List.length_cons]; omega
  refine ⟨said_len h, cntM_said h, ?_, ?_, ?_⟩
  · exact said_lens h (fun n => n ≤ 1048576) (fun x hx => by have := (hi x hx).2; omega)
  · exact said_lens h (fun n => 1 ≤ n) (fun x hx => (hi x hx).1)
  · have := hc R (fun x hx => (hi x hx).2); omega
theorem nest_bounds {os R : List Melt} (h : os.map Melt.said = R.map Melt.said) (h12 : R.length ≤ 13) (hi : ∀ x ∈ R, 1 ≤ x.ingots.length ∧ x.ingots.length ≤ 16) : os.length ≤ 13 ∧ cntM os ≤ 208 ∧ (∀ x ∈ os, x.ingots.length ≤ 1048576) ∧ ∀ x ∈ os, 1 ≤ x.ingots.length := by
  obtain ⟨h1, h2, h3, h4, h5⟩ := nest_sizes h h12 hi
  exact ⟨by omega, by omega, h3, h4⟩
set_option maxHeartbeats 4000000 in
theorem FnExactDropMelt_walk (w : World) (v1 : Value) (x1 : List Melt) (k1 : Rd w.heap.size w v1 3 x1.length (x1.flatMap Melt.put) ∧ x1.length ≤ maxLen ∧ ∀ x ∈ x1, x.ok w) (a1 : ByteArray) (ka : a1.size ≤ maxLen) :
    Calls Try.prog 5 #[v1, .string a1] w fun e w' => e = .returned (.bool true) ∧ Below w.heap.size w w' := by
  obtain ⟨h1, hm1, hok1⟩ := k1
  have H1 := Lib.hid h1; clear h1
  have Hok1 := Lib.hid hok1; clear hok1
  unfold maxLen at ka
  by_cases hna : a1.size ≤ 1048576
  case neg =>
    have t1 : decide ((1048576 : Int) < (a1.size : Int)) = true := decide_eq_true (by omega)
    go_enter Try.func5, Try.ntmps5
    go_wp2_with fail
    go_ret
    exact ⟨rfl, Below.refl _ _⟩
  have t1 : decide ((1048576 : Int) < (a1.size : Int)) = false := decide_eq_false (by omega)
  by_cases hq1 : (x1.length + wtMelt x1) ≤ 1048576
  case neg =>
    have e0 : Hid (szR 1048576 (x1.length + wtMelt x1) = -1) := (if_neg (by omega) : szR 1048576 (x1.length + wtMelt x1) = -1)
    go_enter Try.func5, Try.ntmps5
    go_wp2_with fail
    refine (szMeltS _ _ x1 1048576 (by exact H1.out) hm1 (by exact Hok1.out) (by omega) (by omega)).mono ?_; rw [e0.out]; rintro e w1 ⟨rfl, b1⟩
    go_wp2_with fail
    go_ret
    exact ⟨rfl, b1⟩
  obtain ⟨z1, hz1, hy1⟩ : ∃ z : Int, szR 1048576 (x1.length + wtMelt x1) = z ∧ (0 ≤ z ∧ z ≤ 1048576) := ⟨_, rfl, by unfold szR; rw [if_pos (by omega)]; omega⟩
  have Hz1 := Lib.hid hz1; clear hz1
  have hn1 : x1.length ≤ 1048576 := by omega
  have Hin1 := Lib.hid (fun x (hx : x ∈ x1) => (show x.ingots.length ≤ 1048576 by have := wtMelt_mem x1 x hx; unfold Melt.wt at this; omega))
  have hcnt1 : cntM x1 ≤ 1048576 := by have := cntM_wt x1; omega
  have Hf1 := Lib.hid (fun x hx => (⟨(Hok1.out x hx).1, (Hok1.out x hx).2.1.2.2, (Hok1.out x hx).2.2, Hin1.out x hx⟩ : Melt.fine x))
  obtain ⟨hR12, hRi⟩ := dropS_fine x1 a1
  have HRI := Lib.hid hRi; clear hRi
  obtain ⟨R, hR⟩ : ∃ R, (dropS x1 a1).1 = R := ⟨_, rfl⟩
  obtain ⟨cc, hcc⟩ : ∃ cc, (dropS x1 a1).2 = cc := ⟨_, rfl⟩
  have HS := Lib.hid (fun (w' : World) (v : Value) (h : RdM w'.heap.size w' v x1) => spec_DropMelt w' v x1 a1 h hn1 Hf1.out)
  have HI := Lib.hid (fun (w' : World) (v : Value) (h : RdM w'.heap.size w' v x1) => impl_DropMelt w' v x1 a1 h (by omega) Hf1.out)
  rw [hR, hcc] at HS HI
  rw [hR] at hR12 HRI
  clear hR hcc
  have tb : (cc != cc) = false := by simp
  go_enter Try.func5, Try.ntmps5
  go_wp2_with fail
  refine (szMeltS _ _ x1 1048576 (by exact H1.out) hm1 (by exact Hok1.out) (by omega) (by omega)).mono ?_; rw [Hz1.out]; rintro e w1 ⟨rfl, b1⟩
  have B1 : Below w.heap.size w w1 := b1
  have sz1 : w.heap.size ≤ w1.heap.size := b1.size
  clear b1 Hz1 hq1
  go_wp2_with fail
  refine (toMeltL _ _ x1 (by exact H1.out.up B1) hn1 (by exact fun x hx => ⟨(Hok1.out x hx).up B1, Hin1.out x hx⟩)).mono ?_; rintro e w2 ⟨g2, y2, rfl, hg2, o2, b2⟩
  have B2 := bnext B1 b2
  have sz2 : w1.heap.size ≤ w2.heap.size := b2.size
  have ga2 : w1.heap.size ≤ g2 := hg2
  have gb2 : g2 < w2.heap.size := o2.lt
  have OA := Lib.hid (MeltsIn.of o2 hg2); clear o2 hg2
  clear b2 B1
  go_wp2_with fail
  refine (HS.out _ _ (OA.out.1.rdm hn1 Hin1.out)).mono ?_; rintro e w3 ⟨r3, os3, rfl, k3, s3, b3⟩
  have B3 := bnext B2 b3
  have OA' := Lib.hid (OA.out.below b3 OA.out.lt); clear OA; have OA := OA'; clear OA'
  have sz3 : w2.heap.size ≤ w3.heap.size := b3.size
  obtain ⟨ra3, rc3, rfl⟩ := k3.form
  have RS := Lib.hid k3; clear k3
  obtain ⟨hl3, hc3, hi3, h03⟩ := nest_bounds s3 (by omega) HRI.out
  have S3 := Lib.hid s3; clear s3
  have Hi3 := Lib.hid hi3; clear hi3
  have H03 := Lib.hid h03; clear h03
  clear b3 B2
  clear OA
  go_wp2_with fail
  refine (toMeltL _ _ x1 (by exact H1.out.up B3) hn1 (by exact fun x hx => ⟨(Hok1.out x hx).up B3, Hin1.out x hx⟩)).mono ?_; rintro e w4 ⟨g4, y4, rfl, hg4, o4, b4⟩
  have B4 := bnext B3 b4
  have RS' := Lib.hid (RS.out.below b4); clear RS; have RS := RS'; clear RS'
  have sz4 : w3.heap.size ≤ w4.heap.size := b4.size
  have ga4 : w3.heap.size ≤ g4 := hg4
  have gb4 : g4 < w4.heap.size := o4.lt
  have OX := Lib.hid (MeltsIn.of o4 hg4); clear o4 hg4
  clear b4 B3
  go_wp2_with fail
  refine (HI.out _ _ (OX.out.1.rdm hn1 Hin1.out)).mono ?_; rintro e w5 ⟨r5, os5, rfl, k5, s5, b5⟩
  have B5 := bnext B4 b5
  have RS' := Lib.hid (RS.out.below b5); clear RS; have RS := RS'; clear RS'
  have OX' := Lib.hid (OX.out.below b5 OX.out.lt); clear OX; have OX := OX'; clear OX'
  have sz5 : w4.heap.size ≤ w5.heap.size := b5.size
  obtain ⟨ra5, rc5, rfl⟩ := k5.form
  have RI := Lib.hid k5; clear k5
  obtain ⟨hl5, hc5, hi5, h05⟩ := nest_bounds s5 (by omega) HRI.out
  have S5 := Lib.hid s5; clear s5
  have Hi5 := Lib.hid hi5; clear hi5
  have H05 := Lib.hid h05; clear h05
  clear b5 B4
  go_wp2_with fail
  refine (eqMeltN _ _ _ _ _ _ _ os5 os3 RI.out RS.out (S5.out.trans S3.out.symm) (by omega) Hi5.out).mono ?_; rintro e w6 ⟨rfl, b6⟩
  have B6 := bnext B5 b6
  have RS' := Lib.hid (RS.out.below b6); clear RS; have RS := RS'; clear RS'
  have OX' := Lib.hid (OX.out.below b6 OX.out.lt); clear OX; have OX := OX'; clear OX'
  have RI' := Lib.hid (RI.out.below b6); clear RI; have RI := RI'; clear RI'
  have sz6 : w5.heap.size ≤ w6.heap.size := b6.size
  clear b6 B5
  go_wp2_with fail
  refine (toMeltL _ _ x1 (by exact H1.out.up B6) hn1 (by exact fun x hx => ⟨(Hok1.out x hx).up B6, Hin1.out x hx⟩)).mono ?_; rintro e w7 ⟨g7, y7, rfl, hg7, o7, b7⟩
  have B7 := bnext B6 b7
  have RS' := Lib.hid (RS.out.below b7); clear RS; have RS := RS'; clear RS'
  have OX' := Lib.hid (OX.out.below b7 OX.out.lt); clear OX; have OX := OX'; clear OX'
  have RI' := Lib.hid (RI.out.below b7); clear RI; have RI := RI'; clear RI'
  have sz7 : w6.heap.size ≤ w7.heap.size := b7.size
  have ga7 : w6.heap.size ≤ g7 := hg7
  have gb7 : g7 < w7.heap.size := o7.lt
  have OB := Lib.hid (MeltsIn.of o7 hg7); clear o7 hg7
  clear b7 B6
  go_wp2_with fail
  refine (eqMeltL _ _ _ _ _ x1 OX.out.1 OB.out.1 hn1 Hin1.out).mono ?_; rintro e w8 ⟨rfl, b8⟩
  have B8 := bnext B7 b8
  have RS' := Lib.hid (RS.out.below b8); clear RS; have RS := RS'; clear RS'
  have OX' := Lib.hid (OX.out.below b8 OX.out.lt); clear OX; have OX := OX'; clear OX'
  have RI' := Lib.hid (RI.out.below b8); clear RI; have RI := RI'; clear RI'
  have OB' := Lib.hid (OB.out.below b8 OB.out.lt); clear OB; have OB := OB'; clear OB'
  have sz8 : w7.heap.size ≤ w8.heap.size := b8.size
  clear b8 B7
  clear OB
  go_wp2_with fail
  refine (mA (c := 8388609) (markMeltS _ _ _ _ _ _ _ (by exact OX.out) hn1 hcnt1 (by omega) (by omega)) (by omega) (by omega)).mono ?_; rintro e w9 ⟨q9, rfl, qa9, qb9, t9⟩
  have B9 := B8.trans (t9.below (B := w.heap.size) (by omega) (by omega))
  have sz9 := t9.size
  have RS' := Lib.hid (RS.out.turn t9 (by omega)); clear RS; have RS := RS'; clear RS'
  have RI' := Lib.hid (RI.out.turn t9 (by omega)); clear RI; have RI := RI'; clear RI'
  have tk : decide (q9 < (0 : Int)) = false := decide_eq_false (by omega)
  clear t9 B8 OX
  go_wp2_with fail
  refine (eqMeltN _ _ _ _ _ _ _ os5 os3 RI.out RS.out (S5.out.trans S3.out.symm) (by omega) Hi5.out).mono ?_; rintro e w10 ⟨rfl, b10⟩
  have B10 := bnext B9 b10
  have RS' := Lib.hid (RS.out.below b10); clear RS; have RS := RS'; clear RS'
  have RI' := Lib.hid (RI.out.below b10); clear RI; have RI := RI'; clear RI'
  have sz10 : w9.heap.size ≤ w10.heap.size := b10.size
  clear b10 B9
  obtain ⟨mm, hmm, hm1⟩ : ∃ mm : Int, 1 + 2 * ((os5.length : Nat) : Int) + ((cntM os5 : Nat) : Int) = mm ∧ 1 ≤ mm := ⟨_, rfl, by omega⟩
  have tm : decide (mm < (0 : Int)) = false := decide_eq_false (by omega)
  have HMM := Lib.hid hmm; clear hmm
  go_wp2_with fail
  refine (toM (markMeltN _ _ _ _ _ os5 (by exact RI.out) (by omega) (by omega) H05.out (by omega) (by omega)) HMM.out).mono ?_; rintro e w11 ⟨rfl, t11, o11⟩
  have B11 := B10.trans (t11.below (B := w.heap.size) (by omega) (by omega))
  have sz11 := t11.size
  have RS' := Lib.hid (RS.out.turn t11 (by omega)); clear RS; have RS := RS'; clear RS'
  have RM := Lib.hid o11; clear o11
  clear t11 B10 RI
  go_wp2_with fail
  refine (toM (heldMeltN _ _ _ _ _ os5 (by exact RM.out) (by omega) (by omega) (by omega) (by omega)) HMM.out).mono ?_; rintro e w12 ⟨rfl, b12⟩
  have B12 := bnext B11 b12
  have RS' := Lib.hid (RS.out.below b12); clear RS; have RS := RS'; clear RS'
  have RM' := Lib.hid (RM.out.below b12); clear RM; have RM := RM'; clear RM'
  have sz12 : w11.heap.size ≤ w12.heap.size := b12.size
  clear b12 B11
  go_wp2_with fail
  refine (toMeltL _ _ x1 (by exact H1.out.up B12) hn1 (by exact fun x hx => ⟨(Hok1.out x hx).up B12, Hin1.out x hx⟩)).mono ?_; rintro e w13 ⟨g13, y13, rfl, hg13, o13, b13⟩
  have B13 := bnext B12 b13
  have RS' := Lib.hid (RS.out.below b13); clear RS; have RS := RS'; clear RS'
  have RM' := Lib.hid (RM.out.below b13); clear RM; have RM := RM'; clear RM'
  have sz13 : w12.heap.size ≤ w13.heap.size := b13.size
  have ga13 : w12.heap.size ≤ g13 := hg13
  have gb13 : g13 < w13.heap.size := o13.lt
  have OC := Lib.hid (MeltsIn.of o13 hg13); clear o13 hg13
  clear b13 B12
  go_wp2_with fail
  refine (HI.out _ _ (OC.out.1.rdm hn1 Hin1.out)).mono ?_; rintro e w14 ⟨r14, os14, rfl, k14, s14, b14⟩
  have B14 := bnext B13 b14
  have RS' := Lib.hid (RS.out.below b14); clear RS; have RS := RS'; clear RS'
  have RM' := Lib.hid (RM.out.below b14); clear RM; have RM := RM'; clear RM'
  have OC' := Lib.hid (OC.out.below b14 OC.out.lt); clear OC; have OC := OC'; clear OC'
  have sz14 : w13.heap.size ≤ w14.heap.size := b14.size
  obtain ⟨ra14, rc14, rfl⟩ := k14.form
  have RJ := Lib.hid k14; clear k14
  obtain ⟨hl14, hc14, hi14, h014⟩ := nest_bounds s14 (by omega) HRI.out
  have S14 := Lib.hid s14; clear s14
  have Hi14 := Lib.hid hi14; clear hi14
  have H014 := Lib.hid h014; clear h014
  clear b14 B13
  clear OC
  go_wp2_with fail
  refine (eqMeltN _ _ _ _ _ _ _ os14 os3 RJ.out RS.out (S14.out.trans S3.out.symm) (by omega) Hi14.out).mono ?_; rintro e w15 ⟨rfl, b15⟩
  have B15 := bnext B14 b15
  have RS' := Lib.hid (RS.out.below b15); clear RS; have RS := RS'; clear RS'
  have RM' := Lib.hid (RM.out.below b15); clear RM; have RM := RM'; clear RM'
  have RJ' := Lib.hid (RJ.out.below b15); clear RJ; have RJ := RJ'; clear RJ'
  have sz15 : w14.heap.size ≤ w15.heap.size := b15.size
  clear b15 B14
  go_wp2_with fail
  refine (toM (heldMeltN _ _ _ _ _ os5 (by exact RM.out) (by omega) (by omega) (by omega) (by omega)) HMM.out).mono ?_; rintro e w16 ⟨rfl, b16⟩
  have B16 := bnext B15 b16
  have RS' := Lib.hid (RS.out.below b16); clear RS; have RS := RS'; clear RS'
  have RM' := Lib.hid (RM.out.below b16); clear RM; have RM := RM'; clear RM'
  have RJ' := Lib.hid (RJ.out.below b16); clear RJ; have RJ := RJ'; clear RJ'
  have sz16 : w15.heap.size ≤ w16.heap.size := b16.size
  clear b16 B15
  go_wp2_with fail
  all_goals go_ret
  all_goals exact ⟨rfl, B16⟩
end Go.Proofs.Ytklgkbiobggbiaa
