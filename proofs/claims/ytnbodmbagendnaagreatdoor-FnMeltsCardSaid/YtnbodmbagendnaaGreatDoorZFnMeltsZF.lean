/- Contracts and plain facts, joined: Draw14. -/
import Derived.Test.YtnbodmbagendnaaGreatDoorRows
import Derived.Test.YtnbodmbagendnaaGreatDoorZFnMeltsW
import Derived.Test.YtnbodmbagendnaaGreatDoorZFnMeltsZ
import Derived.Test.YtnbodmbagendnaaGreatDoorZFnMeltsZC
import Derived.Test.YtnbodmbagendnaaGreatDoorZFnMeltsZE
namespace Go.Proofs.YtnbodmbagendnaaGreatDoor
open Go.ChangeShapes Go.WideShapes Go.ChangeAt Go.RowKit Go.Deep Go.Joins
set_option linter.unusedVariables false
set_option maxRecDepth 100000
set_option linter.unusedSimpArgs false
theorem Kids.turn {base lo hi : Nat} {w w' : World} {xs : List Melt} {gs : List Nat} (h : Kids base w xs gs) (t : Turn lo hi w w') (hh : hi ≤ base) : Kids base w' xs gs := by
  obtain ⟨h1, h2, h3⟩ := h
  refine ⟨h1, h2, fun i hi' hi2 => ?_⟩
  obtain ⟨V, c, e1, e2, e3, e4, e5⟩ := h3 i hi' hi2
  exact ⟨V, c, e1, e2, e3, e4, e5.turn t (.inr (by omega))⟩
theorem said_all {os ys : List Melt} (h : os.map Melt.said = ys.map Melt.said) (hy : ∀ y ∈ ys, y.fine) : ∀ o ∈ os, o.fine := by
  intro o ho
  have : o.said ∈ ys.map Melt.said := by rw [← h]; exact List.mem_map.2 ⟨o, ho, rfl⟩
  obtain ⟨y, hy1, e⟩ := List.mem_map.1 this
  have hf := hy y hy1
  unfold Melt.said at e
  simp only [Prod.mk.injEq] at e
  unfold Melt.fine at *
  rw [← e.1, ← e.2.1, ← e.2.2]; exact hf
theorem addM_fineAll {xs : List Ingot} {ms : List Melt} {x : Melt} (h : ∀ m ∈ ms, m.fine) (hx : x.fine) : ∀ y ∈ (addM xs ms x).1, y.fine := by
  intro y hy
  have key : ∀ z ∈ insM x ms, z.fine := fun z hz => by
    unfold insM at hz
    rcases List.mem_append.1 hz with q | q
    · exact h z (List.mem_of_mem_take q)
    · rcases List.mem_cons.1 q with q | q
      · rw [q]; exact hx
      · exact h z (List.mem_of_mem_drop q)
  unfold addM at hy
  repeat' split at hy
  all_goals first
    | exact key y hy
    | (simp at hy)
theorem kids_mass {base : Nat} {w : World} {o : Melt} {rest : List Melt} {gs : List Nat} (m : Int) (h : Kids base w (o :: rest) gs) : Kids base w (⟨o.id, o.list, o.ingots, m⟩ :: rest) gs := by
  obtain ⟨h1, h2, h3⟩ := h
  refine ⟨h1, h2, fun i hi hi2 => ?_⟩
  cases i with
  | zero => exact h3 0 (by simp) hi2
  | succ i => exact h3 (i + 1) hi hi2
/-- what a draw of ingots and melts leaves -/
def D14 (b B g N : Nat) (w w' : World) (r u : Value) : Prop := ∃ (xs : List Ingot) (os : List Melt) (gs : List Nat), fineI xs ∧ w'.ownsRow B 77 5 r xs.length (xs.flatMap Ingot.put) ∧ w'.ownsRow B 28 3 u os.length (os.flatMap Melt.put) ∧ Kids B w' os gs ∧ os.length ≤ b ∧ (∀ m ∈ os, m.fine) ∧ Src w' g N ∧ Turn g (g + 1) w w'
theorem fine_snoc {os : List Melt} {x : Melt} (h : ∀ m ∈ os, m.fine) (hx : x.fine) : ∀ m ∈ os ++ [x], m.fine := by
  intro m hm
  rcases List.mem_append.1 hm with q | q
  · exact h m q
  · rw [List.mem_singleton.1 q]; exact hx
/-- another row stays when one is grown -/
theorem own_apart_row {w0 w' : World} {base base' : Nat} {E E' : TypeId} {s s' n n' : Nat} {v v' : Value} {L L' : List Value} (h : w0.ownsRow base E s v n L) (k : w0.ownsRow base' E' s' v' n' L') (hK : ∀ b E2 L2, Own w0 b E2 L2 → (∀ g', v'.ownBlock = some g' → g' ≠ b) → Own w' b E2 L2) (hne : E' ≠ E) : w'.ownsRow base E s v n L := by
  obtain ⟨h1, h2⟩ := h
  refine ⟨h1, ?_⟩
  rcases h2 with h2 | ⟨g, cap, cur, rfl, hb, hg, hn, hm, hs, ht⟩
  · exact .inl h2
  · have ho : Own w0 g E cur.toList := by unfold Own; simpa using hg
    have ho2 := hK g E cur.toList ho (own_apart_type k ho hne)
    refine .inr ⟨g, cap, cur, rfl, hb, ?_, hn, hm, hs, ht⟩
    unfold Own at ho2; simpa using ho2
theorem own_apart_typeI {w : World} {base : Nat} {E E' : TypeId} {s n : Nat} {v : Value} {L L' : List Value} {g : Nat} (h : w.ownsRow base E s v n L) (k : ∃ V, Own w g E' (L' ++ V)) (hne : E ≠ E') : ∀ g', v.ownBlock = some g' → g' ≠ g := by
  obtain ⟨V, ov⟩ := k
  exact own_apart_type h ov hne
set_option maxHeartbeats 4000000 in
theorem draw_ok (w : World) (g n : Nat) (h : Src w g n) (hn : n ≤ 40000) :
    Calls Tryz.prog 42 #[.pointer (some ⟨g, 0, none⟩)] w fun e w' => ∃ r u : Value, e = .returned (.tuple #[r, u]) ∧ D14 12 w.heap.size g (n + 800) w w' r u := by
  have hg := h.lt
  have HD := Lib.hid (draw_ingots w g n h (by omega))
  clear h
  go_enter Tryz.func42, Tryz.ntmps42
  go_wp2_with fail
  refine HD.out.mono ?_; rintro e w1 ⟨r, xs, rfl, hd, ho, s1, t1⟩
  obtain ⟨ro, rc, er⟩ := (own_rd ho).form
  subst er
  have F1 := Lib.hid (fineI_drawn hd)
  have hx20 : xs.length ≤ 20 := Nat.le_trans hd.1 (by decide)
  have zz1 : w.heap.size ≤ w1.heap.size := t1.size
  have O1 : Hid ((w1.alloc (.cells #[] 28)).ownsRow w.heap.size 77 5 (.slice ro xs.length rc) xs.length (xs.flatMap Ingot.put)) := Lib.hid (ho.alloc _)
  have T1 : Hid (Turn g (g + 1) w (w1.alloc (.cells #[] 28))) := Lib.hid (t1.allocR _)
  have HP := Lib.hid (src_pick (w1.alloc (.cells #[] 28)) g (n + 100) 5 (s1.below ((Below.refl _ _).alloc (Nat.le_refl _) _)) (by omega) (by omega))
  have U1 : Hid ((w1.alloc (.cells #[] 28)).ownsRow w.heap.size 28 3 (.slice (some ⟨w1.heap.size, 0, none⟩) 0 0) 0 []) := Lib.hid (own_empty w1 w.heap.size _ 3 zz1)
  clear hd ho s1 t1 HD
  go_wp2_with fail
  refine HP.out.mono ?_; rintro e w2 ⟨p, rfl, p0, _, p1, s2, t2⟩
  obtain ⟨P, rfl⟩ : ∃ P : Nat, p = (P : Int) := ⟨p.toNat, by omega⟩
  have hP : P ≤ 4 := by have := p1 (by omega); omega
  have O2 := Lib.hid (own_turn O1.out t2 (by omega))
  have U2 := Lib.hid (own_turn U1.out t2 (by omega))
  have T2 := Lib.hid (T1.out.trans t2)
  have S2 := Lib.hid s2
  clear s2 t2 O1 U1 T1 HP p0 p1
  go_wp2_with fail
  go_loopw [5, 6, 7, 8] (fun u k _ _ wr => ∃ (kk : Nat) (os : List Melt) (gs : List Nat), kk ≤ P ∧ k = .int .i64 kk ∧ os.length ≤ 12 ∧ (∀ m ∈ os, m.fine) ∧ wr.ownsRow w.heap.size 77 5 (.slice ro xs.length rc) xs.length (xs.flatMap Ingot.put) ∧ wr.ownsRow w.heap.size 28 3 u os.length (os.flatMap Melt.put) ∧ Kids w.heap.size wr os gs ∧ Src wr g (n + 102 + 100 * (P - kk)) ∧ Turn g (g + 1) w wr) (fun _ k _ _ _ => (intOf k).toNat)
  case atStart => exact ⟨P, [], [], Nat.le_refl _, rfl, by simp, fun m hm => (by cases hm), O2.out, U2.out, Kids.nil _ _, S2.out.mono (by omega), T2.out⟩
  case round =>
    clear O2 U2 T2 S2
    obtain ⟨kk, os, gs, hkk, rfl, hol, hof, hoI, hoU, hkd, hsr, htr⟩ := hrel
    have HOF := Lib.hid hof
    have OI := Lib.hid hoI
    have OU := Lib.hid hoU
    have KD := Lib.hid hkd
    have SR := Lib.hid hsr
    have TR := Lib.hid htr
    have hwr : w.heap.size ≤ wr.heap.size := htr.size
    obtain ⟨uo, uc, eu⟩ := (own_rd hoU).form
    subst eu
    clear hof hoI hoU hkd hsr htr
    by_cases hlt : 0 < kk
    · have tl : decide ((0 : Int) < (kk : Int)) = true := decide_eq_true (by omega)
      have HON := Lib.hid (draw_one wr g (n + 102 + 100 * (P - kk)) w.heap.size _ xs SR.out (by omega) OI.out hg F1.out)
      go_wp2_with fail
      refine HON.out.mono ?_; rintro e w5 ⟨x, lo, lc, rfl, fx, lx, s5, t5⟩
      have FX := Lib.hid fx
      have OI5 := Lib.hid (own_turn OI.out t5 (by omega))
      have OU5 := Lib.hid (own_turn OU.out t5 (by omega))
      have KD5 := Lib.hid (KD.out.turn t5 (by omega))
      have T5 := Lib.hid (TR.out.trans t5)
      have S5 := Lib.hid s5
      have zz5 : wr.heap.size ≤ w5.heap.size := t5.size
      have HAD := Lib.hid (spec_AddMelt2O w5 _ _ xs os x lo lc (own_rd OI5.out) (by omega) (fun y hy => (F1.out.2 y hy).1) (Nest.of OU5.out KD5.out).rdm (by omega) HOF.out (own_rd lx) fx.fine)
      have hfl := (addM_fine xs os x).1
      have HFA := Lib.hid (addM_fineAll (xs := xs) HOF.out fx.fine)
      obtain ⟨cc, hcc⟩ : ∃ cc, (addM xs os x).2 = cc := ⟨_, rfl⟩
      rw [hcc] at HAD
      clear fx lx s5 t5 OI OU KD TR SR HON hcc
      go_wp2_with fail
      refine HAD.out.mono ?_; rintro e w6 ⟨r6, os6, gs6, rfl, o6, k6, sd6, b6⟩
      have hz6 : w5.heap.size ≤ w6.heap.size := b6.size
      have OI6 := Lib.hid (own_below OI5.out b6 (Nat.le_refl _))
      have OU6 := Lib.hid (own_below OU5.out b6 (Nat.le_refl _))
      have KD6 := Lib.hid (KD5.out.below b6)
      have T6 := Lib.hid (T5.out.trans (Turn.of_below b6))
      have S6 := Lib.hid (S5.out.below b6)
      have HO6 := Lib.hid o6
      have HK6 := Lib.hid k6
      have hl6 : os6.length ≤ 12 := by have := said_len sd6; omega
      have HF6 := Lib.hid (said_all sd6 HFA.out)
      obtain ⟨qo, qc, eq6⟩ := (own_rd o6).form
      subst eq6
      clear o6 k6 sd6 b6 OI5 OU5 KD5 T5 S5 HAD HFA
      by_cases hc : cc = 0
      · subst hc
        go_wp2_with fail
        go_roundw
        case rel => exact ⟨kk - 1, os6, gs6, by omega, by go_num, hl6, HF6.out, OI6.out, own_base HO6.out (by omega), HK6.out.base (by omega), S6.out.mono (by omega), T6.out⟩
        case measure => simp [intOf]; omega
      · have tz : (cc == 0) = false := beq_eq_false_iff_ne.2 hc
        go_wp2_with fail
        go_roundw
        case rel => exact ⟨kk - 1, os, gs, by omega, by go_num, hol, HOF.out, OI6.out, OU6.out, KD6.out, S6.out.mono (by omega), T6.out⟩
        case measure => simp [intOf]; omega
    · have tl : decide ((0 : Int) < (kk : Int)) = false := decide_eq_false (by omega)
      go_wp2_with fail
      go_ret2
      exact ⟨_, _, rfl, xs, os, gs, F1.out, OI.out, OU.out, KD.out, hol, HOF.out, SR.out.mono (by omega), TR.out⟩
set_option maxHeartbeats 4000000 in
theorem draw14 (w : World) (g n : Nat) (h : Src w g n) (hn : n ≤ 30000) :
    Calls Tryz.prog 16 #[.pointer (some ⟨g, 0, none⟩)] w fun e w' => ∃ r u : Value, e = .returned (.tuple #[r, u]) ∧ D14 13 w.heap.size g (n + 1200) w w' r u := by
  have hg := h.lt
  have HD := Lib.hid (draw_ok w g n h (by omega))
  obtain ⟨i0, hi, hz0, hz1, hz2⟩ := info_parts Melt_info1
  clear h
  go_enter Tryz.func16, Tryz.ntmps16
  go_wp2_with fail
  refine HD.out.mono ?_; rintro e w1 ⟨r, u, rfl, xs, os, gs, hfx, ho, hu, hk, hol, hof, s1, t1⟩
  obtain ⟨ro, rc, er⟩ := (own_rd ho).form
  obtain ⟨uo, uc, eu⟩ := (own_rd hu).form
  subst er eu
  have F1 := Lib.hid hfx
  have HOF := Lib.hid hof
  have O1 := Lib.hid ho
  have U1 := Lib.hid hu
  have K1 := Lib.hid hk
  have T1 := Lib.hid t1
  have zz1 : w.heap.size ≤ w1.heap.size := t1.size
  have HP := Lib.hid (src_pick w1 g (n + 800) 20 s1 (by omega) (by omega))
  clear hfx hof ho hu hk s1 t1 HD
  go_wp2_with fail
  refine HP.out.mono ?_; rintro e w2 ⟨p, rfl, p0, _, p1, s2, t2⟩
  have O2 := Lib.hid (own_turn O1.out t2 (by omega))
  have U2 := Lib.hid (own_turn U1.out t2 (by omega))
  have K2 := Lib.hid (K1.out.turn t2 (by omega))
  have T2 := Lib.hid (T1.out.trans t2)
  have S2 := Lib.hid s2
  have zz2 : w1.heap.size ≤ w2.heap.size := t2.size
  clear s2 t2 O1 U1 K1 T1 HP p1
  by_cases h0 : p = 0
  · subst h0
    have HB := Lib.hid (draw_bent w2 g (n + 802) S2.out (by omega))
    go_wp2_with fail
    refine HB.out.mono ?_; rintro e w3 ⟨r3, ys, rfl, fy, o3, s3, t3⟩
    obtain ⟨qo, qc, eq3⟩ := (own_rd o3).form
    subst eq3
    have FY := Lib.hid fy
    have O3 := Lib.hid (own_base o3 (show w.heap.size ≤ w2.heap.size by omega))
    have U3 := Lib.hid (own_turn U2.out t3 (by omega))
    have K3 := Lib.hid (K2.out.turn t3 (by omega))
    have T3 := Lib.hid (T2.out.trans t3)
    have S3 := Lib.hid s3
    clear fy o3 s3 t3 O2 U2 K2 T2 S2 HB
    go_wp2_with fail
    go_ret2
    exact ⟨_, _, rfl, ys, os, gs, FY.out, O3.out, U3.out, K3.out, by omega, HOF.out, S3.out.mono (by omega), T3.out⟩
  have p0f : (p == 0) = false := beq_eq_false_iff_ne.2 h0
  by_cases h1 : p = 1
  · subst h1
    by_cases hl0 : 0 < os.length
    case neg =>
      have tl : decide ((0 : Int) < (os.length : Int)) = false := decide_eq_false (by omega)
      go_wp2_with fail
      go_ret2
      exact ⟨_, _, rfl, xs, os, gs, F1.out, O2.out, U2.out, K2.out, by omega, HOF.out, S2.out.mono (by omega), T2.out⟩
    have tl : decide ((0 : Int) < (os.length : Int)) = true := decide_eq_true (by omega)
    rcases own_form U2.out with ⟨_, q⟩ | ⟨gU, capU, eU⟩
    · omega
    injection eU with q1 q2 q3
    subst q1 q3
    obtain ⟨o, rest, rfl⟩ : ∃ o rest, os = o :: rest := by
      cases os with
      | nil => simp at hl0
      | cons o rest => exact ⟨o, rest, rfl⟩
    have hlz : (0 : Int) < ((o :: rest).length : Int) := by rw [List.length_cons]; omega
    have hl1 : 1 ≤ (o :: rest).length := by simp
    obtain ⟨W3, hW3⟩ : ∃ W3, w2.alloc (.cells #[.int .i64 0, .int .i64 320000000, .int .i64 320000001] 2) = W3 := ⟨_, rfl⟩
    have e3 : W3.heap.size = w2.heap.size + 1 := by rw [← hW3]; simp
    have L3 : Rd W3.heap.size W3 (.slice (some ⟨w2.heap.size, 0, none⟩) 3 3) 1 3 ([(0 : Int), 320000000, 320000001].flatMap putI) := by
      have o : Own W3 w2.heap.size 2 [.int .i64 0, .int .i64 320000000, .int .i64 320000001] := by rw [← hW3]; exact Own.new w2 _ _
      exact o.rd o.lt (n := 3) rfl (by unfold maxLen; omega) _ (Nat.le_refl _) (by unfold maxLen; omega)
    have S3 : Src W3 g (n + 802) := by rw [← hW3]; exact S2.out.below ((Below.refl _ _).alloc (Nat.le_refl _) _)
    have O3 : Hid (W3.ownsRow w.heap.size 77 5 (.slice ro xs.length rc) xs.length (xs.flatMap Ingot.put)) := Lib.hid (by rw [← hW3]; exact O2.out.alloc _)
    have U3 : Hid (W3.ownsRow w.heap.size 28 3 (.slice (some ⟨gU, 0, none⟩) (o :: rest).length uc) (o :: rest).length ((o :: rest).flatMap Melt.put)) := Lib.hid (by rw [← hW3]; exact U2.out.alloc _)
    have K3 : Hid (Kids w.heap.size W3 (o :: rest) gs) := Lib.hid (by rw [← hW3]; exact K2.out.below ((Below.refl _ _).alloc (Nat.le_refl _) _))
    have T3 : Hid (Turn g (g + 1) w W3) := Lib.hid (by rw [← hW3]; exact T2.out.allocR _)
    have HX := Lib.hid (src_among W3 g (n + 802) _ _ S3 (by omega) L3 (by decide) (by decide) (by rintro b off l c e; injection e with e _ _; injection e with e; injection e with e; omega))
    clear L3 S3 O2 U2 K2 T2 S2
    go_wp2_with fail
    refine HX.out.mono ?_; rintro e w4 ⟨m, rfl, hm, s4, t4⟩
    have O4 := Lib.hid (own_turn O3.out t4 (by omega))
    have U4 := Lib.hid (own_turn U3.out t4 (by omega))
    have K4 := Lib.hid (K3.out.turn t4 (by omega))
    have T4 := Lib.hid (T3.out.trans t4)
    have S4 := Lib.hid s4
    have zz4 := t4.size
    have hmb : 0 ≤ m ∧ m ≤ 320000001 := by
      have h1 : m = 0 ∨ m = 320000000 ∨ m = 320000001 := by simpa using hm
      omega
    obtain ⟨c2, fz2, hgU, hbU⟩ := own_cellI U4.out 2 (by omega)
    have c2' : w4.cell? ⟨gU, 2, none⟩ = some (.int .i64 o.mass) := c2
    have hUO : Hid (∃ V, Own w4 gU 28 ((o :: rest).flatMap Melt.put ++ V)) := Lib.hid (own_block U4.out)
    have hap := own_apart_typeI O4.out hUO.out (by decide)
    have O5 := Lib.hid (own_farO O4.out hap 2 (.int .i64 m))
    have U5 : Hid ((w4.setCell ⟨gU, 2, none⟩ (.int .i64 m)).ownsRow w.heap.size 28 3 (.slice (some ⟨gU, 0, none⟩) (o :: rest).length uc) (o :: rest).length ((⟨o.id, o.list, o.ingots, m⟩ :: rest : List Melt).flatMap Melt.put)) := Lib.hid (own_setI U4.out 2 (by omega) (.int .i64 m))
    have K5 : Hid (Kids w.heap.size (w4.setCell ⟨gU, 2, none⟩ (.int .i64 m)) (⟨o.id, o.list, o.ingots, m⟩ :: rest) gs) := Lib.hid (kids_mass m (K4.out.kept fun b L ob => by
      obtain ⟨V, ov⟩ := hUO.out
      exact ob.other (a := ⟨gU, 2, none⟩) (own_neT ov ob (by decide)) _))
    have S5 := Lib.hid (Src.set S4.out (show g < gU by omega) 2 (.int .i64 m))
    have T5 := Lib.hid (Turn.setNew T4.out hbU 2 (.int .i64 m))
    have HF5 : Hid (∀ y ∈ (⟨o.id, o.list, o.ingots, m⟩ :: rest : List Melt), y.fine) := Lib.hid (fun y hy => by
      rcases List.mem_cons.1 hy with q | q
      · have hfo := HOF.out o (List.mem_cons_self ..)
        rw [q]; exact ⟨hfo.1, hfo.2.1, ⟨by show _ ≤ m; omega, by show m ≤ _; omega⟩, hfo.2.2.2⟩
      · exact HOF.out y (List.mem_cons_of_mem _ q))
    clear hm s4 t4 O3 U3 K3 T3 HX O4 U4 K4 T4 S4 hUO hap c2 hW3
    go_wp2_with fail
    go_ret2
    exact ⟨_, _, rfl, xs, ⟨o.id, o.list, o.ingots, m⟩ :: rest, gs, F1.out, O5.out, U5.out, K5.out, (by show (o :: rest).length ≤ 13; omega), HF5.out, S5.out.mono (by omega), T5.out⟩
  have p1f : (p == 1) = false := beq_eq_false_iff_ne.2 h1
  by_cases h2 : p = 2
  · subst h2
    obtain ⟨W3, hW3⟩ : ∃ W3, w2.alloc (.cells #[.string ⟨#[97]⟩, .string ⟨#[113]⟩, .string ⟨#[65]⟩] 9) = W3 := ⟨_, rfl⟩
    have e3 : W3.heap.size = w2.heap.size + 1 := by rw [← hW3]; simp
    have L3 : Rd W3.heap.size W3 (.slice (some ⟨w2.heap.size, 0, none⟩) 3 3) 1 3 ([(⟨#[97]⟩ : ByteArray), ⟨#[113]⟩, ⟨#[65]⟩].flatMap putStr) := by
      have o : Own W3 w2.heap.size 9 [.string ⟨#[97]⟩, .string ⟨#[113]⟩, .string ⟨#[65]⟩] := by rw [← hW3]; exact Own.new w2 _ _
      exact o.rd o.lt (n := 3) rfl (by unfold maxLen; omega) _ (Nat.le_refl _) (by unfold maxLen; omega)
    have S3 : Src W3 g (n + 802) := by rw [← hW3]; exact S2.out.below ((Below.refl _ _).alloc (Nat.le_refl _) _)
    have O3 : Hid (W3.ownsRow w.heap.size 77 5 (.slice ro xs.length rc) xs.length (xs.flatMap Ingot.put)) := Lib.hid (by rw [← hW3]; exact O2.out.alloc _)
    have U3 : Hid (W3.ownsRow w.heap.size 28 3 (.slice uo os.length uc) os.length (os.flatMap Melt.put)) := Lib.hid (by rw [← hW3]; exact U2.out.alloc _)
    have K3 : Hid (Kids w.heap.size W3 os gs) := Lib.hid (by rw [← hW3]; exact K2.out.below ((Below.refl _ _).alloc (Nat.le_refl _) _))
    have T3 : Hid (Turn g (g + 1) w W3) := Lib.hid (by rw [← hW3]; exact T2.out.allocR _)
    have HX := Lib.hid (src_text W3 g (n + 802) _ _ S3 (by omega) L3 (by decide) (by decide) (by rintro b off l c e; injection e with e _ _; injection e with e; injection e with e; omega))
    clear L3 S3 O2 U2 K2 T2 S2
    go_wp2_with fail
    refine HX.out.mono ?_; rintro e w4 ⟨t, rfl, ht, s4, t4⟩
    have htb : t.size ≤ 1 := by
      have h1 : t = ⟨#[97]⟩ ∨ t = ⟨#[113]⟩ ∨ t = ⟨#[65]⟩ := by simpa using ht
      rcases h1 with rfl | rfl | rfl <;> decide
    have zz4 := t4.size
    have N4 : Hid (Own (w4.alloc (.cells #[.string t] 9)) w4.heap.size 9 [.string t]) := Lib.hid (Own.new w4 _ _)
    have O4 := Lib.hid ((own_turn O3.out t4 (by omega)).alloc (.cells #[.string t] 9))
    have U4 := Lib.hid ((own_turn U3.out t4 (by omega)).alloc (.cells #[.string t] 9))
    have K4 : Hid (Kids w.heap.size (w4.alloc (.cells #[.string t] 9)) os gs) := Lib.hid ((K3.out.turn t4 (by omega)).below ((Below.refl _ _).alloc (Nat.le_refl _) _))
    have KL : Hid (∀ g' ∈ gs, g' ≠ w4.heap.size) := Lib.hid (fun g' hg' => by have := (K3.out.turn t4 (by omega)).lt g' hg'; omega)
    have T4 : Hid (Turn g (g + 1) w (w4.alloc (.cells #[.string t] 9))) := Lib.hid ((T3.out.trans t4).allocR _)
    have S4 : Hid (Src (w4.alloc (.cells #[.string t] 9)) g (n + 804)) := Lib.hid (s4.below ((Below.refl _ _).alloc (Nat.le_refl _) _))
    have K5 := Lib.hid (kids_snoc2 (id := ⟨#[122]⟩) (ids := [t]) (m := 5) (c := 1) (V := []) K4.out KL.out (Nat.le_refl 1) (by unfold maxLen; omega) (by omega) N4.out)
    have z5 : w4.heap.size ≤ (w4.alloc (.cells #[.string t] 9)).heap.size := by simp
    clear ht s4 t4 O3 U3 K3 T3 HX hW3 K4 N4
    go_wp2_with ((at_builtin; go_loud (refine app_elK rfl _ _ 25 28 i0 (.agg #[.string ByteArray.empty, .slice none 0 0, .int .i64 0]) 3 48 Tryz.underlying25 hi hz0 hz1 hz2 (by rfl) (by decide) rfl (w4.alloc (.cells #[.string t] 9)) w.heap.size _ os.length (os.flatMap Melt.put) (by rfl) U4.out [.string ⟨#[122]⟩, .slice (some ⟨w4.heap.size, 0, none⟩) 1 1, .int .i64 5] rfl (melt_one _ _ _ _ _) (by first | rfl | (rw [World.size_alloc]; rfl) | (rw [World.size_alloc, World.size_alloc]; rfl)) (by omega) (by decide) (by omega) (by rfl) ?_; intro g8 gc8 w8 hown8 hB8 hK8 hz8; have HB8 := Lib.hid (hB8 _ (Below.refl _ _)); have HO8 := Lib.hid hown8; have HK8 := Lib.hid (hK8); clear hown8 hB8 hK8)))
    have HKK := Lib.hid (kids_app K5.out U4.out HK8.out)
    have O8 := Lib.hid (own_apart_row O4.out U4.out HK8.out (by decide))
    go_wp2_with fail
    go_ret2
    exact ⟨_, _, rfl, xs, os ++ [⟨⟨#[122]⟩, .slice (some ⟨w4.heap.size, 0, none⟩) 1 1, [t], 5⟩], gs ++ [w4.heap.size], F1.out, O8.out, by rw [melt_snoc, List.length_append]; exact HO8.out, HKK.out, by rw [List.length_append, List.length_singleton]; omega, fine_snoc HOF.out ⟨by show 1 ≤ maxLen; unfold maxLen; omega, fun s hs => by rw [List.mem_singleton.1 hs]; unfold maxLen; omega, ⟨by show _ ≤ (5 : Int); omega, by show (5 : Int) ≤ _; omega⟩, by show 1 ≤ 1048576; decide⟩, (S4.out.belowB HB8.out (by omega)).mono (by omega), T4.out.thenB HB8.out (by omega)⟩
  have p2f : (p == 2) = false := beq_eq_false_iff_ne.2 h2
  by_cases h3 : p = 3
  · subst h3
    obtain ⟨W3, hW3⟩ : ∃ W3, w2.alloc (.cells #[.int .i64 12, .int .i64 13] 2) = W3 := ⟨_, rfl⟩
    have e3 : W3.heap.size = w2.heap.size + 1 := by rw [← hW3]; simp
    have L3 : Rd W3.heap.size W3 (.slice (some ⟨w2.heap.size, 0, none⟩) 2 2) 1 2 ([(12 : Int), 13].flatMap putI) := by
      have o : Own W3 w2.heap.size 2 [.int .i64 12, .int .i64 13] := by rw [← hW3]; exact Own.new w2 _ _
      exact o.rd o.lt (n := 2) rfl (by unfold maxLen; omega) _ (Nat.le_refl _) (by unfold maxLen; omega)
    have S3 : Src W3 g (n + 802) := by rw [← hW3]; exact S2.out.below ((Below.refl _ _).alloc (Nat.le_refl _) _)
    have O3 : Hid (W3.ownsRow w.heap.size 77 5 (.slice ro xs.length rc) xs.length (xs.flatMap Ingot.put)) := Lib.hid (by rw [← hW3]; exact O2.out.alloc _)
    have T3 : Hid (Turn g (g + 1) w W3) := Lib.hid (by rw [← hW3]; exact T2.out.allocR _)
    have HX := Lib.hid (src_among W3 g (n + 802) _ _ S3 (by omega) L3 (by decide) (by decide) (by rintro b off l c e; injection e with e _ _; injection e with e; injection e with e; omega))
    clear L3 S3 O2 U2 K2 T2 S2
    go_wp2_with fail
    refine HX.out.mono ?_; rintro e w4 ⟨m, rfl, hm, s4, t4⟩
    have hmb : 12 ≤ m ∧ m ≤ 13 := by
      have h1 : m = 12 ∨ m = 13 := by simpa using hm
      omega
    have zz4 := t4.size
    have O4 := Lib.hid ((own_turn O3.out t4 (by omega)).alloc (.cells #[] 28))
    have U4 : Hid ((w4.alloc (.cells #[] 28)).ownsRow w.heap.size 28 3 (.slice (some ⟨w4.heap.size, 0, none⟩) 0 0) 0 []) := Lib.hid (own_empty w4 w.heap.size _ 3 (by omega))
    have T4 : Hid (Turn g (g + 1) w (w4.alloc (.cells #[] 28))) := Lib.hid ((T3.out.trans t4).allocR _)
    have S4 : Hid (Src (w4.alloc (.cells #[] 28)) g (n + 804)) := Lib.hid (s4.below ((Below.refl _ _).alloc (Nat.le_refl _) _))
    clear hm s4 t4 O3 T3 HX hW3 HOF hol
    go_wp2_with fail
    go_loopw [5, 7, 8] (fun u i _ wr => ∃ (k : Nat) (os : List Melt) (gs : List Nat), (k : Int) ≤ m ∧ i = .int .i64 k ∧ os.length = k ∧ (∀ y ∈ os, y.fine) ∧ wr.ownsRow w.heap.size 77 5 (.slice ro xs.length rc) xs.length (xs.flatMap Ingot.put) ∧ wr.ownsRow w.heap.size 28 3 u os.length (os.flatMap Melt.put) ∧ Kids w.heap.size wr os gs ∧ Src wr g (n + 804) ∧ Turn g (g + 1) w wr) (fun _ i _ _ => (m - intOf i).toNat)
    case atStart => exact ⟨0, [], [], by omega, rfl, rfl, fun y hy => (by cases hy), O4.out, U4.out, Kids.nil _ _, S4.out, T4.out⟩
    case round =>
      clear O4 U4 T4 S4
      obtain ⟨k, os, gs, hk, rfl, hok, hof, hoI, hoU, hkd, hsr, htr⟩ := hrel
      have HOK := Lib.hid hok
      have hol : os.length ≤ 13 := by omega
      have HOF := Lib.hid hof
      have OI := Lib.hid hoI
      have OU := Lib.hid hoU
      have KD := Lib.hid hkd
      have SR := Lib.hid hsr
      have TR := Lib.hid htr
      have hwr : w.heap.size ≤ wr.heap.size := htr.size
      have hgr : g < wr.heap.size := hsr.lt
      obtain ⟨vo, vc, ev⟩ := (own_rd hoU).form
      subst ev
      clear hok hof hoI hoU hkd hsr htr
      by_cases hlt : (k : Int) < m
      · have tl : decide ((k : Int) < m) = true := decide_eq_true hlt
        have kc := byte_strC wr (97 + (k : Int)) (97 + k) (by omega) (by omega)
        have hol2 : os.length ≤ 12 := by have := HOK.out; omega
        have hsz : (⟨#[119]⟩ ++ ⟨#[UInt8.ofNat (97 + k)]⟩ : ByteArray).size ≤ 100 := by rw [ByteArray.size_append]; show 1 + 1 ≤ 100; decide
        generalize UInt8.ofNat (97 + k) = bt at *
        obtain ⟨nm, hnm⟩ : ∃ nm : ByteArray, ⟨#[119]⟩ ++ ⟨#[bt]⟩ = nm := ⟨_, rfl⟩
        rw [hnm] at hsz
        have b2 : Below wr.heap.size wr ((wr.alloc (.cells #[.int .u8 (97 + (k : Int))] 5)).alloc (.cells #[.string nm] 9)) := ((Below.refl _ _).alloc (Nat.le_refl _) _).alloc (by simp) _
        have N5 : Hid (Own ((wr.alloc (.cells #[.int .u8 (97 + (k : Int))] 5)).alloc (.cells #[.string nm] 9)) (wr.heap.size + 1) 9 [.string nm]) := Lib.hid (Own.newAt _ _ (by simp))
        have O5 : Hid (((wr.alloc (.cells #[.int .u8 (97 + (k : Int))] 5)).alloc (.cells #[.string nm] 9)).ownsRow w.heap.size 77 5 (.slice ro xs.length rc) xs.length (xs.flatMap Ingot.put)) := Lib.hid (own_below OI.out b2 (Nat.le_refl _))
        have U5 : Hid (((wr.alloc (.cells #[.int .u8 (97 + (k : Int))] 5)).alloc (.cells #[.string nm] 9)).ownsRow w.heap.size 28 3 (.slice vo os.length vc) os.length (os.flatMap Melt.put)) := Lib.hid (own_below OU.out b2 (Nat.le_refl _))
        have K5 : Hid (Kids w.heap.size ((wr.alloc (.cells #[.int .u8 (97 + (k : Int))] 5)).alloc (.cells #[.string nm] 9)) (os ++ [⟨nm, .slice (some ⟨wr.heap.size + 1, 0, none⟩) 1 1, [nm], 5⟩]) (gs ++ [wr.heap.size + 1])) := Lib.hid (kids_snoc2 (id := nm) (ids := [nm]) (m := 5) (c := 1) (V := []) (KD.out.below b2) (fun g' hg' => by have := KD.out.lt g' hg'; omega) (Nat.le_refl 1) (by unfold maxLen; omega) (by omega) N5.out)
        have T5 := Lib.hid (TR.out.trans (Turn.of_below (lo := g) (hi := g + 1) b2))
        have S5 := Lib.hid (SR.out.below b2)
        have z5 : wr.heap.size + 2 ≤ ((wr.alloc (.cells #[.int .u8 (97 + (k : Int))] 5)).alloc (.cells #[.string nm] 9)).heap.size := by simp
        clear b2 OI OU KD SR TR N5
        go_wp2_with ((at_builtin; go_loud (refine app_elK rfl _ _ 25 28 i0 (.agg #[.string ByteArray.empty, .slice none 0 0, .int .i64 0]) 3 48 Tryz.underlying25 hi hz0 hz1 hz2 (by rfl) (by decide) rfl ((wr.alloc (.cells #[.int .u8 (97 + (k : Int))] 5)).alloc (.cells #[.string nm] 9)) w.heap.size _ os.length (os.flatMap Melt.put) (by rfl) U5.out [.string nm, .slice (some ⟨wr.heap.size + 1, 0, none⟩) 1 1, .int .i64 5] rfl (melt_one _ _ _ _ _) (by first | rfl | (rw [World.size_alloc]; rfl) | (rw [World.size_alloc, World.size_alloc]; rfl)) (by omega) (by decide) (by omega) (by rfl) ?_; intro g8 gc8 w8 hown8 hB8 hK8 hz8; have HB8 := Lib.hid (hB8 _ (Below.refl _ _)); have HO8 := Lib.hid hown8; have HK8 := Lib.hid (hK8); clear hown8 hB8 hK8)))
        have HKK := Lib.hid (kids_app K5.out U5.out HK8.out)
        have O8 := Lib.hid (own_apart_row O5.out U5.out HK8.out (by decide))
        go_roundw
        case rel => exact ⟨k + 1, os ++ [⟨nm, .slice (some ⟨wr.heap.size + 1, 0, none⟩) 1 1, [nm], 5⟩], gs ++ [wr.heap.size + 1], by push_cast; omega, by go_num, by rw [List.length_append, HOK.out]; rfl, fine_snoc HOF.out ⟨by show nm.size ≤ maxLen; unfold maxLen; omega, fun s hs => by rw [List.mem_singleton.1 hs]; unfold maxLen; omega, ⟨by show _ ≤ (5 : Int); omega, by show (5 : Int) ≤ _; omega⟩, by show 1 ≤ 1048576; decide⟩, O8.out, by rw [melt_snoc, List.length_append]; exact HO8.out, HKK.out, S5.out.belowB HB8.out (by omega), T5.out.thenB HB8.out (by omega)⟩
        case measure => simp [intOf]; omega
      · have tl : decide ((k : Int) < m) = false := decide_eq_false hlt
        go_wp2_with fail
        go_ret2
        exact ⟨_, _, rfl, xs, os, gs, F1.out, OI.out, OU.out, KD.out, hol, HOF.out, SR.out.mono (by omega), TR.out⟩
  have p3f : (p == 3) = false := beq_eq_false_iff_ne.2 h3
  go_wp2_with fail
  go_ret2
  exact ⟨_, _, rfl, xs, os, gs, F1.out, O2.out, U2.out, K2.out, by omega, HOF.out, S2.out.mono (by omega), T2.out⟩
/-- fine ingots and melts that one reads -/
def L14 (B : World) (r u : Value) (xs : List Ingot) (os : List Melt) : Prop := fineI xs ∧ Rd B.heap.size B r 5 xs.length (xs.flatMap Ingot.put) ∧ RdM B.heap.size B u os ∧ os.length ≤ 13 ∧ ∀ m ∈ os, m.fine
end Go.Proofs.YtnbodmbagendnaaGreatDoor
