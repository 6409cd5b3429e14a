/- Contracts and plain facts, joined: ErrLaid, LWFnAlloys. -/
import Derived.Test.YtklgkbiobggbiaaDoorRows
import Derived.Test.YtklgkbiobggbiaaDoorZFnAlloysH
import Derived.Stop.LaidErr
namespace Go.Proofs.YtklgkbiobggbiaaDoor
open Go.ChangeShapes Go.WideShapes Go.ChangeAt Go.RowKit Go.Deep Go.Joins
set_option linter.unusedVariables false
set_option maxRecDepth 100000
set_option linter.unusedSimpArgs false
theorem gES : Tryd.prog.globalNamed "strconv.ErrSyntax" = some 1 := by kernel_rfl
theorem star_err : "*" ++ "errors.errorString" = "*errors.errorString" := by decide
theorem row_errS (u : TypeId) (h : Tryd.prog.typeName? 3 u = some "*errors.errorString") : u = 189 :=
  typeName_ptr_named (nm := "errors.errorString") (by rw [star_err]; kernel_rfl) (by kernel_rfl) (by decide) u (by rw [star_err]; exact h)
theorem errS_of {W : World} {text : List UInt8} {rest : List (String × DataW Unit)} (h : laidMet Tryd.prog (("strconv.ErrSyntax", .iface "*errors.errorString" (.ptr (.agg [.lit (.string text)]))) :: rest) W) : ErrS W := by
  obtain ⟨a0, s0, hv0, -, -, -⟩ := laid_sentinel h gES (by kernel_rfl) Tryd.underlying109 row_errS Tryd.underlying189 Tryd.underlying191 rfl rfl Tryd.underlying9 (by kernel_rfl) cells_str
  have h0 := World.var?_cell gES hv0 0
  exact ⟨_, by simpa using h0, Or.inr ⟨_, _, rfl⟩⟩
end Go.Proofs.YtklgkbiobggbiaaDoor
namespace Go.Proofs.YtklgkbiobggbiaaDoor
open Go.ChangeShapes Go.WideShapes Go.ChangeAt Go.RowKit Go.Deep Go.Joins
set_option linter.unusedVariables false
set_option maxRecDepth 100000
set_option linter.unusedSimpArgs false
theorem ingOk_ok {x : Ingot} (h : ingotB x = true) : x.ok := by
  have h1 := ingotB_nums h
  have h2 := (ingotB_facts h).1
  have h3 := alloyB_true (show alloyB x.alloy = true by have := h; unfold ingotB at this; simp only [Bool.and_eq_true] at this; exact this.2.2)
  exact ⟨by unfold maxLen; omega, ⟨by omega, by omega⟩, ⟨by omega, by omega⟩, ⟨by omega, by omega⟩, ⟨by omega, by omega⟩⟩
theorem int_snocA (xs : List Int) (a : Int) : (xs ++ [a]).flatMap putI = xs.flatMap putI ++ [.int .i64 a] := by rw [List.flatMap_append]; rfl
theorem picked_i64 {xs : List Ingot} {i : Nat} {cs : List Int} {m lo hi : Int} (h : Picked xs i cs m lo hi) (hi2 : i ≤ 100) : ∀ c ∈ cs, I64 c := by
  intro c hc
  obtain ⟨j, hj, e, _⟩ := h.2.2.2.1 c hc
  have := h.2.1 c hc
  exact ⟨by omega, by omega⟩
set_option maxHeartbeats 3000000 in
theorem FnAlloys_walk (w : World) (v0 : Value) (xs : List UInt8) (k0 : Rd w.heap.size w v0 1 xs.length (xs.flatMap putB) ∧ xs.length ≤ maxLen ∧ ∀ x ∈ xs, True) (v1 : Value) (ys : List UInt8) (k1 : Rd w.heap.size w v1 1 ys.length (ys.flatMap putB) ∧ ys.length ≤ maxLen ∧ ∀ x ∈ ys, True) (hL : laidMetH Tryd.prog Rows.fnAlloysRow.laid w) (hS : w.ShapedOpen Tryd.prog) :
    Calls Tryd.prog 7 #[v0, v1] w fun e w' => e = .returned (.bool true) ∧ Below w.heap.size w w' := by
  have hL1 : laidMet Tryd.prog Rows.fnAlloysRow.laid w := hL
  have HP : Hid (Pow10 w) := Lib.hid (pow10_of (laid_tail (laid_tail hL1)))
  have HE : Hid (ErrS w) := Lib.hid (errS_of (laid_tail (laid_tail (laid_tail (laid_tail (laid_tail hL1))))))
  have HM : Hid (MaxL w) := Lib.hid (maxL_of hS)
  clear hL hL1 hS
  obtain ⟨h0, hm0, _⟩ := k0
  obtain ⟨h1, hm1, _⟩ := k1
  have H0 := Lib.hid h0
  have H1 := Lib.hid h1
  obtain ⟨o0, c0, rfl⟩ := h0.form
  obtain ⟨o1, c1, rfl⟩ := h1.form
  have HLG := Lib.hid (laws_r8Long w _ _ xs.length ys.length o0 o1 c0 c1 rfl rfl)
  clear h0 h1
  by_cases hn : xs.length ≤ 1048576 ∧ ys.length ≤ 1048576
  case neg =>
    have tl : (decide ((1048576 : Int) < xs.length) || decide ((1048576 : Int) < ys.length)) = true := by
      rw [Bool.or_eq_true, decide_eq_true_eq, decide_eq_true_eq]; omega
    rw [tl] at HLG
    clear tl hn H0 H1
    go_enter Tryd.func7, Tryd.ntmps7
    go_wp2_with fail
    refine HLG.out.mono ?_; rintro e w1 ⟨rfl, rfl⟩
    go_wp2_with fail
    go_ret
    exact ⟨rfl, Below.refl _ _⟩
  obtain ⟨hn0, hn1⟩ := hn
  have tl : (decide ((1048576 : Int) < xs.length) || decide ((1048576 : Int) < ys.length)) = false := by
    rw [Bool.or_eq_false_iff, decide_eq_false_iff_not, decide_eq_false_iff_not]; omega
  rw [tl] at HLG
  have HDR := Lib.hid (draw_R8Ingots w _ xs H0.out hm0)
  obtain ⟨i0, hi, hz0, hz1, hz2⟩ := info_parts info_i64
  clear tl hm0 hm1 H0
  go_enter Tryd.func7, Tryd.ntmps7
  go_wp2_with fail
  refine HLG.out.mono ?_; rintro e w1 ⟨rfl, rfl⟩
  go_wp2_with fail
  refine HDR.out.mono ?_; rintro e w1 ⟨lv, gs, rfl, hd, ho, b1⟩
  have HR := Lib.hid (own_rd ho)
  have HD := Lib.hid hd
  have BA := Lib.hid b1
  have HY := Lib.hid (H1.out.up b1)
  have HP1 := Lib.hid (HP.out.below b1)
  have HE1 := Lib.hid (HE.out.below b1)
  have HM1 := Lib.hid (HM.out.below b1)
  have hl2 : gs.length ≤ 7 := hd.1
  have HB1 := Lib.hid (drawn_one hd)
  have Hok : Hid (∀ x ∈ gs, x.ok) := Lib.hid (fun x hx => ingOk_ok (drawn_one hd x hx))
  obtain ⟨_, lo, lc, rfl, _, _, _, hsome⟩ := own_rd ho
  have HSM := Lib.hid hsome
  have O2 : Hid ((w1.alloc (.cells #[] 2)).ownsRow w1.heap.size 2 1 (.slice (some ⟨w1.heap.size, 0, none⟩) 0 0) 0 []) := Lib.hid (own_empty w1 w1.heap.size _ 1 (Nat.le_refl _))
  have C2 : Hid (Below w1.heap.size w1 (w1.alloc (.cells #[] 2))) := Lib.hid ((Below.refl _ _).alloc (Nat.le_refl _) _)
  clear hd ho b1 hsome HLG HDR H1 HP HE HM
  go_wp2_with fail
  go_loopw [6, 7, 8, 9, 10] (fun c m lo hi i wr => ∃ (k : Nat) (cs : List Int) (M LO HI : Int), k ≤ gs.length ∧ i = .int .i64 k ∧ m = .int .i64 M ∧ lo = .int .i64 LO ∧ hi = .int .i64 HI ∧ Picked gs k cs M LO HI ∧ wr.ownsRow w1.heap.size 2 1 c cs.length (cs.flatMap putI) ∧ Below w1.heap.size w1 wr) (fun _ _ _ _ i _ => gs.length - (intOf i).toNat)
  case atStart => exact ⟨0, [], 0, 1000000, 0, Nat.zero_le _, rfl, rfl, rfl, rfl, Picked.start gs, O2.out, C2.out⟩
  case round =>
    clear O2 C2
    obtain ⟨k, cs, M, LO, HI, hk, rfl, rfl, rfl, rfl, hpk, hown, hb⟩ := hrel
    have HPK := Lib.hid hpk
    have OR := Lib.hid hown
    have CR := Lib.hid hb
    have hws := hb.size
    obtain ⟨ro, rx, er0⟩ := (own_rd hown).form
    subst er0
    have hcl : cs.length ≤ 7 := Nat.le_trans hpk.2.2.2.2.2.2.1 (by omega)
    have hMb := hpk.2.2.2.2.2.2.2
    have hLO := hpk.2.2.2.2.1
    have hHI := hpk.2.2.2.2.2.1
    clear hpk hown
    by_cases hlt : k < gs.length
    · obtain ⟨bb, off, rfl, hbb, hcc⟩ := HSM.out (by omega)
      have d0 : wr.cell? ⟨bb, off + k * 5, none⟩ = some (.string gs[k].id) := (hb.cell (p := ⟨bb, off + k * 5, none⟩) hbb).trans ((hcc (k * 5) (by omega)).trans (Ingot_get0 gs k hlt))
      have d1 : wr.cell? ⟨bb, off + k * 5 + 1, none⟩ = some (.int .i64 gs[k].mass) := by rw [Nat.add_assoc]; exact (hb.cell (p := ⟨bb, off + (k * 5 + 1), none⟩) hbb).trans ((hcc (k * 5 + 1) (by omega)).trans (Ingot_get1 gs k hlt))
      have d2 : wr.cell? ⟨bb, off + k * 5 + 2, none⟩ = some (.int .i64 gs[k].alloy.copper) := by rw [Nat.add_assoc]; exact (hb.cell (p := ⟨bb, off + (k * 5 + 2), none⟩) hbb).trans ((hcc (k * 5 + 2) (by omega)).trans (Ingot_get2 gs k hlt))
      have d3 : wr.cell? ⟨bb, off + k * 5 + 3, none⟩ = some (.int .i64 gs[k].alloy.tin) := by rw [Nat.add_assoc]; exact (hb.cell (p := ⟨bb, off + (k * 5 + 3), none⟩) hbb).trans ((hcc (k * 5 + 3) (by omega)).trans (Ingot_get3 gs k hlt))
      have d4 : wr.cell? ⟨bb, off + k * 5 + 4, none⟩ = some (.int .i64 gs[k].alloy.other) := by rw [Nat.add_assoc]; exact (hb.cell (p := ⟨bb, off + (k * 5 + 4), none⟩) hbb).trans ((hcc (k * 5 + 4) (by omega)).trans (Ingot_get4 gs k hlt))
      have hbr : bb < wr.heap.size := Nat.lt_of_lt_of_le hbb hws
      have hib := HB1.out gs[k] (List.getElem_mem hlt)
      have HOX := Lib.hid (Hok.out gs[k] (List.getElem_mem hlt))
      have hnum := ingotB_nums hib
      obtain ⟨tn0, tn1, tn2⟩ := tin_law hib
      have HBK := Lib.hid (ing_back hib)
      have hsz := ing_size hib
      have HAt := Lib.hid (laws_r8At wr _ ys _ (HY.out.up hb) hn1 k 2 (by omega) (by omega) (by omega) (by omega))
      obtain ⟨zz, hzz⟩ : ∃ zz, r8at ys k 2 = zz := ⟨_, rfl⟩
      rw [hzz] at HAt
      have HTN := Lib.hid (fun w' => by have q := impl_TinOf gs[k] HOX.out w'; rw [tn0] at q; exact q)
      have HTX := Lib.hid (fun w' h => impl_IngotText gs[k] w' HOX.out h)
      have HRD := Lib.hid (fun (w' : World) (h1 : MaxL w') (h2 : Pow10 w') (h3 : ErrS w') => by
        have q := impl_ReadIngot (ingT gs[k]) w' hsz h1 h2 h3
        rw [(ingV_some HBK.out).1, (ingV_some HBK.out).2] at q; exact q)
      have HST := Lib.hid (fun lo' hi' a1 a2 a3 a4 a5 a6 => Picked.step (lo' := lo') (hi' := hi') HD.out HPK.out hlt a1 a2 a3 a4 a5 a6)
      have HSK := Lib.hid HPK.out.skip
      clear hzz hib hsz HBK hcc hb
      generalize (tinS gs[k]).1 = tt at *
      generalize ingT gs[k] = TX at *
      generalize gs[k] = X at *
      obtain ⟨xid, xm, xc, xt, xo⟩ := X
      have hnm : (1 ≤ xm ∧ xm ≤ 20000000) := hnum.1
      have hnt : (0 ≤ xt ∧ xt ≤ 1000000) := hnum.2.1
      have tt2 : tt ≤ xm := tn2
      have q1 : decide (tt < 0) = false := decide_eq_false (by omega)
      have q2 : decide (xm < tt) = false := decide_eq_false (by omega)
      clear tn0 tn1 tn2 hnum
      by_cases hz : zz = 0
      · subst hz
        go_wp2_with fail
        refine HAt.out.mono ?_; rintro e w2 ⟨rfl, rfl⟩
        clear HAt HSK
        go_wp2_with (at_builtin; refine app_el rfl _ _ 53 2 i0 (.int .i64 0) 1 8 Tryd.underlying53 hi hz0 hz1 hz2 (by rfl) (by decide) rfl wr w1.heap.size _ cs.length (cs.flatMap putI) (by rfl) OR.out [.int .i64 k] rfl (by intro u hu; simp at hu; subst hu; rfl) (by rfl) (by omega) (by decide) hws ?_; intro g7 gc7 w7 hown7 hB7 hz7; have CR := Lib.hid (hB7 w1 CR.out); have HB7 := Lib.hid (hB7 wr (Below.refl _ _)); have OR := Lib.hid hown7; have d0 := (HB7.out.cell (p := ⟨bb, off + k * 5, none⟩) hbb).trans d0; have d1 := (HB7.out.cell (p := ⟨bb, off + k * 5 + 1, none⟩) hbb).trans d1; have d2 := (HB7.out.cell (p := ⟨bb, off + k * 5 + 2, none⟩) hbb).trans d2; have d3 := (HB7.out.cell (p := ⟨bb, off + k * 5 + 3, none⟩) hbb).trans d3; have d4 := (HB7.out.cell (p := ⟨bb, off + k * 5 + 4, none⟩) hbb).trans d4; have hbr : bb < w7.heap.size := (by omega); have hws : w1.heap.size ≤ w7.heap.size := (by omega); clear hown7 hB7 HB7)
        refine (HTN.out _).mono ?_; rintro e w3 ⟨rfl, b3⟩
        have C3 := Lib.hid (CR.out.trans (b3.mono hws))
        have O3 := Lib.hid (own_below OR.out b3 (Nat.le_refl _))
        have s0 := (b3.cell (p := ⟨bb, off + k * 5, none⟩) hbr).trans d0
        have s1 := (b3.cell (p := ⟨bb, off + k * 5 + 1, none⟩) hbr).trans d1
        have s2 := (b3.cell (p := ⟨bb, off + k * 5 + 2, none⟩) hbr).trans d2
        have s3 := (b3.cell (p := ⟨bb, off + k * 5 + 3, none⟩) hbr).trans d3
        have s4 := (b3.cell (p := ⟨bb, off + k * 5 + 4, none⟩) hbr).trans d4
        have sl : bb < w3.heap.size := Nat.lt_of_lt_of_le hbr b3.size
        have hw3 := Nat.le_trans hws b3.size
        clear b3 OR CR HTN d0 d1 d2 d3 d4
        go_wp2_with fail
        refine (HTX.out _ (HP1.out.below C3.out)).mono ?_; rintro e w4 ⟨rfl, b4⟩
        have C4 := Lib.hid (C3.out.trans (b4.mono hw3))
        have O4 := Lib.hid (own_below O3.out b4 (Nat.le_refl _))
        have u0 := (b4.cell (p := ⟨bb, off + k * 5, none⟩) sl).trans s0
        have u1 := (b4.cell (p := ⟨bb, off + k * 5 + 1, none⟩) sl).trans s1
        have u2 := (b4.cell (p := ⟨bb, off + k * 5 + 2, none⟩) sl).trans s2
        have u3 := (b4.cell (p := ⟨bb, off + k * 5 + 3, none⟩) sl).trans s3
        have u4 := (b4.cell (p := ⟨bb, off + k * 5 + 4, none⟩) sl).trans s4
        have ul : bb < w4.heap.size := Nat.lt_of_lt_of_le sl b4.size
        have hw4 := Nat.le_trans hw3 b4.size
        clear b4 O3 C3 HTX s0 s1 s2 s3 s4 sl
        go_wp2_with fail
        refine (HRD.out _ (HM1.out.below C4.out) (HP1.out.below C4.out) (HE1.out.below C4.out)).mono ?_; rintro e w5 ⟨rfl, b5⟩
        have C5 := Lib.hid (C4.out.trans (b5.mono hw4))
        have O5 := Lib.hid (own_below O4.out b5 (Nat.le_refl _))
        have v0 := (b5.cell (p := ⟨bb, off + k * 5, none⟩) ul).trans u0
        have v1 := (b5.cell (p := ⟨bb, off + k * 5 + 1, none⟩) ul).trans u1
        have v2 := (b5.cell (p := ⟨bb, off + k * 5 + 2, none⟩) ul).trans u2
        have v3 := (b5.cell (p := ⟨bb, off + k * 5 + 3, none⟩) ul).trans u3
        have v4 := (b5.cell (p := ⟨bb, off + k * 5 + 4, none⟩) ul).trans u4
        have vl : bb < w5.heap.size := Nat.lt_of_lt_of_le ul b5.size
        have hw5 := Nat.le_trans hw4 b5.size
        have hne : ¬ bb = w5.heap.size := by omega
        have C6 : Hid (Below w1.heap.size w1 (w5.alloc (.cells #[.string xid, .int .i64 xm, .int .i64 xc, .int .i64 xt, .int .i64 xo] 25))) := Lib.hid (C5.out.alloc hw5 _)
        have O6 : Hid ((w5.alloc (.cells #[.string xid, .int .i64 xm, .int .i64 xc, .int .i64 xt, .int .i64 xo] 25)).ownsRow w1.heap.size 2 1 (.slice (some ⟨g7, 0, none⟩) (cs.length + 1) gc7) (cs.length + 1) (cs.flatMap putI ++ [.int .i64 k])) := Lib.hid (O5.out.alloc _)
        clear b5 O4 C4 O5 C5 HRD u0 u1 u2 u3 u4 ul
        go_wp2_with fail
        go_quiet (fail)
        go_wp2_with fail
        go_roundw
        case rel =>
          refine ⟨k + 1, cs ++ [(k : Int)], _, _, _, by omega, by go_num, rfl, rfl, rfl, ?_, (by rw [int_snocA, List.length_append, List.length_singleton]; first | exact O6.out | exact O6.out.dn _), (by first | exact C6.out | exact below_dn C6.out _)⟩
          first
            | (refine HST.out _ _ ?_ ?_ ?_ ?_ ?_ ?_ <;> (try split) <;> omega)
            | (refine HST.out _ _ ?_ ?_ ?_ ?_ ?_ ?_ <;> omega)
        case measure => simp [intOf]; omega
      · have tz : (zz == 0) = false := beq_eq_false_iff_ne.2 hz
        go_wp2_with fail
        refine HAt.out.mono ?_; rintro e w2 ⟨rfl, rfl⟩
        clear HAt HST
        go_wp2_with fail
        refine (HTN.out _).mono ?_; rintro e w3 ⟨rfl, b3⟩
        have C3 := Lib.hid (CR.out.trans (b3.mono hws))
        have O3 := Lib.hid (own_below OR.out b3 (Nat.le_refl _))
        have s0 := (b3.cell (p := ⟨bb, off + k * 5, none⟩) hbr).trans d0
        have s1 := (b3.cell (p := ⟨bb, off + k * 5 + 1, none⟩) hbr).trans d1
        have s2 := (b3.cell (p := ⟨bb, off + k * 5 + 2, none⟩) hbr).trans d2
        have s3 := (b3.cell (p := ⟨bb, off + k * 5 + 3, none⟩) hbr).trans d3
        have s4 := (b3.cell (p := ⟨bb, off + k * 5 + 4, none⟩) hbr).trans d4
        have sl : bb < w3.heap.size := Nat.lt_of_lt_of_le hbr b3.size
        have hw3 := Nat.le_trans hws b3.size
        clear b3 OR CR HTN d0 d1 d2 d3 d4
        go_wp2_with fail
        refine (HTX.out _ (HP1.out.below C3.out)).mono ?_; rintro e w4 ⟨rfl, b4⟩
        have C4 := Lib.hid (C3.out.trans (b4.mono hw3))
        have O4 := Lib.hid (own_below O3.out b4 (Nat.le_refl _))
        have u0 := (b4.cell (p := ⟨bb, off + k * 5, none⟩) sl).trans s0
        have u1 := (b4.cell (p := ⟨bb, off + k * 5 + 1, none⟩) sl).trans s1
        have u2 := (b4.cell (p := ⟨bb, off + k * 5 + 2, none⟩) sl).trans s2
        have u3 := (b4.cell (p := ⟨bb, off + k * 5 + 3, none⟩) sl).trans s3
        have u4 := (b4.cell (p := ⟨bb, off + k * 5 + 4, none⟩) sl).trans s4
        have ul : bb < w4.heap.size := Nat.lt_of_lt_of_le sl b4.size
        have hw4 := Nat.le_trans hw3 b4.size
        clear b4 O3 C3 HTX s0 s1 s2 s3 s4 sl
        go_wp2_with fail
        refine (HRD.out _ (HM1.out.below C4.out) (HP1.out.below C4.out) (HE1.out.below C4.out)).mono ?_; rintro e w5 ⟨rfl, b5⟩
        have C5 := Lib.hid (C4.out.trans (b5.mono hw4))
        have O5 := Lib.hid (own_below O4.out b5 (Nat.le_refl _))
        have v0 := (b5.cell (p := ⟨bb, off + k * 5, none⟩) ul).trans u0
        have v1 := (b5.cell (p := ⟨bb, off + k * 5 + 1, none⟩) ul).trans u1
        have v2 := (b5.cell (p := ⟨bb, off + k * 5 + 2, none⟩) ul).trans u2
        have v3 := (b5.cell (p := ⟨bb, off + k * 5 + 3, none⟩) ul).trans u3
        have v4 := (b5.cell (p := ⟨bb, off + k * 5 + 4, none⟩) ul).trans u4
        have vl : bb < w5.heap.size := Nat.lt_of_lt_of_le ul b5.size
        have hw5 := Nat.le_trans hw4 b5.size
        have hne : ¬ bb = w5.heap.size := by omega
        have C6 : Hid (Below w1.heap.size w1 (w5.alloc (.cells #[.string xid, .int .i64 xm, .int .i64 xc, .int .i64 xt, .int .i64 xo] 25))) := Lib.hid (C5.out.alloc hw5 _)
        have O6 : Hid ((w5.alloc (.cells #[.string xid, .int .i64 xm, .int .i64 xc, .int .i64 xt, .int .i64 xo] 25)).ownsRow w1.heap.size 2 1 (.slice ro cs.length rx) cs.length (cs.flatMap putI)) := Lib.hid (O5.out.alloc _)
        clear b5 O4 C4 O5 C5 HRD u0 u1 u2 u3 u4 ul
        go_wp2_with fail
        go_quiet (fail)
        go_wp2_with fail
        go_roundw
        case rel => exact ⟨k + 1, cs, M, LO, HI, by omega, by go_num, rfl, rfl, rfl, HSK.out, (by first | exact O6.out | exact O6.out.dn _), (by first | exact C6.out | exact below_dn C6.out _)⟩
        case measure => simp [intOf]; omega
    · obtain rfl : k = gs.length := by omega
      have tl : decide ((gs.length : Int) < (gs.length : Int)) = false := decide_eq_false (by omega)
      have HX := Lib.hid (impl_MixOf wr _ _ gs cs (HR.out.up hb) (own_rd OR.out) (by omega) (by omega) Hok.out (picked_i64 HPK.out (by omega)))
      by_cases h0 : cs.length = 0
      · obtain rfl : cs = [] := List.eq_nil_of_length_eq_zero h0
        rw [picked_none HD.out] at HX
        clear hb HPK OR
        go_wp2_with fail
        refine HX.out.mono ?_; rintro e w3 ⟨rfl, b3⟩
        have C3 := Lib.hid (CR.out.trans (b3.mono hws))
        clear b3 CR HX
        go_wp2_with fail
        go_ret
        exact ⟨rfl, bnext BA.out (C3.out.alloc C3.out.size _)⟩
      · obtain ⟨m1, m2, m3, m4⟩ := picked_law HD.out HPK.out (by omega)
        obtain ⟨n1, n2, n3⟩ := dens_law m2
        rw [m1] at HX
        have HDN := Lib.hid (fun w' => by have q := impl_DensityOf (mixA gs cs) w'; rw [n1] at q; exact q)
        have HVA := Lib.hid (fun w' => by have q := spec_ValidAlloy (mixA gs cs) w'; rw [m2] at q; exact q)
        have t0 : ((cs.length : Int) == 0) = false := beq_eq_false_iff_ne.2 (by omega)
        clear hb HPK OR m1 m2 n1
        generalize (densS (mixA gs cs)).1 = dd at *
        generalize mixA gs cs = A at *
        have t1 : decide (LO ≤ A.tin) = true := decide_eq_true m3
        have t2 : decide (A.tin ≤ HI) = true := decide_eq_true m4
        have t3 : decide (7310 ≤ dd) = true := decide_eq_true n2
        have t4 : decide (dd ≤ 8960) = true := decide_eq_true n3
        go_wp2_with fail
        refine HX.out.mono ?_; rintro e w3 ⟨rfl, b3⟩
        have C3 := Lib.hid (CR.out.trans (b3.mono hws))
        have hw3 := C3.out.size
        have V3 : Hid (Own (w3.alloc (.cells #[.int .i64 A.copper, .int .i64 A.tin, .int .i64 A.other] 23)) w3.heap.size 23 [.int .i64 A.copper, .int .i64 A.tin, .int .i64 A.other]) := Lib.hid (Own.new w3 _ _)
        have C4 : Hid (Below w1.heap.size w1 (w3.alloc (.cells #[.int .i64 A.copper, .int .i64 A.tin, .int .i64 A.other] 23))) := Lib.hid (C3.out.alloc hw3 _)
        clear b3 CR HX C3
        go_wp2_with fail
        refine (HDN.out _).mono ?_; rintro e w5 ⟨rfl, b5⟩
        have V5 := Lib.hid (V3.out.below b5 V3.out.lt)
        have C5 := Lib.hid (bnext C4.out b5)
        have a0 : w5.cell? ⟨w3.heap.size, 0, none⟩ = some (.int .i64 A.copper) := V5.out.cell 0
        have a1 : w5.cell? ⟨w3.heap.size, 1, none⟩ = some (.int .i64 A.tin) := V5.out.cell 1
        have a2 : w5.cell? ⟨w3.heap.size, 2, none⟩ = some (.int .i64 A.other) := V5.out.cell 2
        have al := V5.out.lt
        clear b5 C4 V3 HDN
        go_wp2_with fail
        refine (HVA.out _).mono ?_; rintro e w6 ⟨rfl, b6⟩
        have V6 := Lib.hid (V5.out.below b6 V5.out.lt)
        have C6 := Lib.hid (bnext C5.out b6)
        clear a0 a1 a2 al
        have a1 : w6.cell? ⟨w3.heap.size, 1, none⟩ = some (.int .i64 A.tin) := V6.out.cell 1
        have al := V6.out.lt
        clear b6 V5 C5 HVA
        go_wp2_with fail
        go_ret
        exact ⟨rfl, bnext BA.out C6.out⟩
end Go.Proofs.YtklgkbiobggbiaaDoor
