/- Contracts and plain facts, joined: ReadIn, Mix, DecLaid. -/
import Derived.Test.YtklgkbiobggbiaaDoorRows
import Derived.Test.YtklgkbiobggbiaaDoorZFnAlloysG
import Derived.Lib.LaidTab
namespace Go.Proofs.YtklgkbiobggbiaaDoor
open Go.ChangeShapes Go.WideShapes Go.ChangeAt Go.RowKit Go.Deep Go.Joins
set_option linter.unusedVariables false
set_option maxRecDepth 100000
set_option linter.unusedSimpArgs false
theorem ingR_list {s a b : ByteArray} (h : partsS 32 s = [a, b]) (hl : (listL b).length ≠ 4) : ingR s = none := by rw [(ingR_two h).1, ingOf_not4 hl]
theorem ingR_four {s a b : ByteArray} {m c t o : Int} (h : partsS 32 s = [a, b]) (hl : listL b = [m, c, t, o]) : ingR s = if ingotB ⟨a, m, ⟨c, t, o⟩⟩ = true then some ⟨a, m, ⟨c, t, o⟩⟩ else none := by rw [(ingR_two h).1, hl, ingOf_four]
theorem listL_ok {b : ByteArray} (h : (listL b).length = 4) : (listR b).isSome = true := by
  cases hr : listR b with
  | none => rw [(listL_none hr).1] at h; simp at h
  | some xs => rfl
theorem intI_get (xs : List Int) (k : Nat) (h : k < xs.length) : (xs.flatMap putI)[k]? = some (.int .i64 xs[k]) := putI_get xs k h
/-- the cells of a list of four -/
theorem four_cells {w : World} {base : Nat} {r : Value} {m c t o : Int} (h : w.ownsRow base 2 1 r 4 ([m, c, t, o].flatMap putI)) : ∃ g cap, r = .slice (some ⟨g, 0, none⟩) 4 cap ∧ g < w.heap.size ∧ w.cell? ⟨g, 0, none⟩ = some (.int .i64 m) ∧ w.cell? ⟨g, 1, none⟩ = some (.int .i64 c) ∧ w.cell? ⟨g, 2, none⟩ = some (.int .i64 t) ∧ w.cell? ⟨g, 3, none⟩ = some (.int .i64 o) := by
  rcases own_form h with ⟨_, q⟩ | ⟨g, cap, rfl⟩
  · omega
  obtain ⟨U, ou⟩ := own_block h
  exact ⟨g, cap, rfl, ou.lt, ou.cell 0, ou.cell 1, ou.cell 2, ou.cell 3⟩
theorem two_cells {w : World} {base : Nat} {r : Value} {a b : ByteArray} (h : w.ownsRow base 9 1 r 2 ([a, b].flatMap putStr)) : ∃ g cap, r = .slice (some ⟨g, 0, none⟩) 2 cap ∧ g < w.heap.size ∧ w.cell? ⟨g, 0, none⟩ = some (.string a) ∧ w.cell? ⟨g, 1, none⟩ = some (.string b) := by
  rcases own_form h with ⟨_, q⟩ | ⟨g, cap, rfl⟩
  · omega
  obtain ⟨U, ou⟩ := own_block h
  exact ⟨g, cap, rfl, ou.lt, ou.cell 0, ou.cell 1⟩

set_option maxHeartbeats 4000000 in
theorem spec_l13Read (s : ByteArray) (w : World) (hs : s.size ≤ 1048576) :
    Calls Tryd.prog 30 #[.string s] w fun e w' => e = .returned (.tuple #[.agg #[.string (ingV s).id, .int .i64 (ingV s).mass, .int .i64 (ingV s).alloy.copper, .int .i64 (ingV s).alloy.tin, .int .i64 (ingV s).alloy.other], .bool (ingR s).isSome]) ∧ Below w.heap.size w w' := by
  have HR0 : Hid (Own (w.alloc (.cells #[.string ⟨#[]⟩, .int .i64 0, .int .i64 0, .int .i64 0, .int .i64 0] 25)) w.heap.size 25 [.string ⟨#[]⟩, .int .i64 0, .int .i64 0, .int .i64 0, .int .i64 0]) := Lib.hid (Own.new w _ _)
  have HB0 : Hid (Below w.heap.size w (w.alloc (.cells #[.string ⟨#[]⟩, .int .i64 0, .int .i64 0, .int .i64 0, .int .i64 0] 25))) := Lib.hid ((Below.refl _ _).alloc (Nat.le_refl _) _)
  have H32 := Lib.hid (fun w' => spec_l01Split 32 s w' hs)
  have hwz := Lib.hid (fun x (hx : x ∈ partsS 32 s) => partsS_size x hx)
  by_cases h2 : (partsS 32 s).length = 2
  case neg =>
    have e := Lib.hid (ingV_none (ingR_not2 h2))
    have t2 : (((partsS 32 s).length : Int) != 2) = true := bne_iff_ne.2 (by omega)
    clear h2
    generalize partsS 32 s = ws at *
    go_enter Tryd.func30, Tryd.ntmps30
    go_wp2_with fail
    refine (H32.out _).mono ?_; rintro e w1 ⟨rv, rfl, o1, b1⟩
    obtain ⟨ro, rx, rfl⟩ := (own_rd o1).form
    have HR1 := Lib.hid (HR0.out.below b1 HR0.out.lt)
    have HB1 := Lib.hid (bnext HB0.out b1)
    clear o1 b1 HR0 HB0
    have q0 : w1.cell? ⟨w.heap.size, 0, none⟩ = some (.string ⟨#[]⟩) := HR1.out.cell 0
    have q1 : w1.cell? ⟨w.heap.size, 1, none⟩ = some (.int .i64 0) := HR1.out.cell 1
    have q2 : w1.cell? ⟨w.heap.size, 2, none⟩ = some (.int .i64 0) := HR1.out.cell 2
    have q3 : w1.cell? ⟨w.heap.size, 3, none⟩ = some (.int .i64 0) := HR1.out.cell 3
    have q4 : w1.cell? ⟨w.heap.size, 4, none⟩ = some (.int .i64 0) := HR1.out.cell 4
    have fq0 := HR1.out.free 0
    have fq1 := HR1.out.free 1
    have fq2 := HR1.out.free 2
    have fq3 := HR1.out.free 3
    have fq4 := HR1.out.free 4
    have hltq : w.heap.size < w1.heap.size := HR1.out.lt
    have hneq : ¬ w.heap.size = w1.heap.size := by omega
    go_wp2_with fail
    have hb := HB1.out
    exact bodyPost_ret (v := .tuple #[.agg #[.string ⟨#[]⟩, .int .i64 0, .int .i64 0, .int .i64 0, .int .i64 0], .bool false]) (by simp [results, Tryd.results30, go_sem, q0, q1, q2, q3, q4, hltq, hneq]) rfl ⟨by rw [e.out.1, e.out.2]; try rfl, by (repeat' (first | (with_reducible exact Below.refl _ _) | (with_reducible assumption) | (with_reducible refine below_dn ?_ _) | (with_reducible refine Below.drew ?_) | (with_reducible refine Below.alloc ?_ ?_ _) | (with_reducible refine Below.setCell ?_ ?_ _) | go_size))⟩
  obtain ⟨a, b, hab⟩ := two_of h2
  have hsa : a.size ≤ 1048576 := Nat.le_trans (hwz.out a (by rw [hab]; simp)) hs
  have hsb : b.size ≤ 1048576 := Nat.le_trans (hwz.out b (by rw [hab]; simp)) hs
  have hi4 := Lib.hid (fun hl : (listL b).length ≠ 4 => ingV_none (ingR_list hab hl))
  have hi5 := Lib.hid (fun (m c t o : Int) (hl : listL b = [m, c, t, o]) => ingR_four hab hl)
  rw [hab] at H32
  have H32' : Hid (∀ w' : World, Calls Tryd.prog 48 #[.string s, .int .u8 (32 : UInt8).toNat] w' fun e w'' => ∃ r, e = .returned r ∧ w''.ownsRow w'.heap.size 9 1 r 2 ([a, b].flatMap putStr) ∧ Below w'.heap.size w' w'') := H32
  have HL := Lib.hid (fun w' => spec_ReadList b w' hsb)
  have hbd := Lib.hid ((listL_bd b).2)
  clear h2 hwz hab H32
  by_cases h4 : (listL b).length = 4
  case neg =>
    have e := Lib.hid (hi4.out h4)
    have t4 : (((listL b).length : Int) != 4) = true := bne_iff_ne.2 (by omega)
    clear h4 hi4 hi5 hbd
    generalize listL b = ys at *
    cases hok : (listR b).isSome
    all_goals rw [hok] at HL
    all_goals clear hok
    all_goals go_enter Tryd.func30, Tryd.ntmps30
    all_goals go_wp2_with fail
    all_goals refine (H32'.out _).mono ?_
    all_goals rintro e w1 ⟨rv, rfl, o1, b1⟩
    all_goals obtain ⟨gx, cx, rfl, hgx, d0, d1⟩ := two_cells o1
    all_goals have HR1 := Lib.hid (HR0.out.below b1 HR0.out.lt)
    all_goals have HB1 := Lib.hid (bnext HB0.out b1)
    all_goals clear o1 b1 HR0 HB0
    all_goals go_wp2_with fail
    all_goals refine (HL.out _).mono ?_
    all_goals rintro e w2 ⟨rv, rfl, o2, b2⟩
    all_goals obtain ⟨ro, rx, rfl⟩ := (own_rd o2).form
    all_goals have HR2 := Lib.hid (HR1.out.below b2 HR1.out.lt)
    all_goals have HB2 := Lib.hid (bnext HB1.out b2)
    all_goals clear o2 b2 HR1 HB1 d0 d1
    all_goals have q0 : w2.cell? ⟨w.heap.size, 0, none⟩ = some (.string ⟨#[]⟩) := HR2.out.cell 0
    all_goals have q1 : w2.cell? ⟨w.heap.size, 1, none⟩ = some (.int .i64 0) := HR2.out.cell 1
    all_goals have q2 : w2.cell? ⟨w.heap.size, 2, none⟩ = some (.int .i64 0) := HR2.out.cell 2
    all_goals have q3 : w2.cell? ⟨w.heap.size, 3, none⟩ = some (.int .i64 0) := HR2.out.cell 3
    all_goals have q4 : w2.cell? ⟨w.heap.size, 4, none⟩ = some (.int .i64 0) := HR2.out.cell 4
    all_goals have fq0 := HR2.out.free 0
    all_goals have fq1 := HR2.out.free 1
    all_goals have fq2 := HR2.out.free 2
    all_goals have fq3 := HR2.out.free 3
    all_goals have fq4 := HR2.out.free 4
    all_goals have hltq : w.heap.size < w2.heap.size := HR2.out.lt
    all_goals have hneq : ¬ w.heap.size = w2.heap.size := by omega
    all_goals go_wp2_with fail
    all_goals have hb := HB2.out
    all_goals exact bodyPost_ret (v := .tuple #[.agg #[.string ⟨#[]⟩, .int .i64 0, .int .i64 0, .int .i64 0, .int .i64 0], .bool false]) (by simp [results, Tryd.results30, go_sem, q0, q1, q2, q3, q4, hltq, hneq]) rfl ⟨by rw [e.out.1, e.out.2]; try rfl, by (repeat' (first | (with_reducible exact Below.refl _ _) | (with_reducible assumption) | (with_reducible refine below_dn ?_ _) | (with_reducible refine Below.drew ?_) | (with_reducible refine Below.alloc ?_ ?_ _) | (with_reducible refine Below.setCell ?_ ?_ _) | go_size))⟩
  obtain ⟨m, c, t, o, hl⟩ := four_of h4
  have hok := listL_ok h4
  have hr := Lib.hid (hi5.out m c t o hl)
  rw [hl] at HL hbd
  rw [hok] at HL
  have HL' : Hid (∀ w' : World, Calls Tryd.prog 66 #[.string b] w' fun e w'' => ∃ r : Value, e = .returned (.tuple #[r, .bool true]) ∧ w''.ownsRow w'.heap.size 2 1 r 4 ([m, c, t, o].flatMap putI) ∧ Below w'.heap.size w' w'') := HL
  have hm := hbd.out m (by simp)
  have hc := hbd.out c (by simp)
  have ht := hbd.out t (by simp)
  have ho := hbd.out o (by simp)
  have hx : (⟨a, m, ⟨c, t, o⟩⟩ : Ingot).ok := ⟨by unfold maxLen; show a.size ≤ _; omega, ⟨by show _ ≤ m; omega, by show m ≤ _; omega⟩, ⟨by show _ ≤ c; omega, by show c ≤ _; omega⟩, ⟨by show _ ≤ t; omega, by show t ≤ _; omega⟩, ⟨by show _ ≤ o; omega, by show o ≤ _; omega⟩⟩
  have Hx := Lib.hid hx
  clear h4 hi4 hi5 hbd HL hl hok hm hc ht ho hx
  cases hb : ingotB ⟨a, m, ⟨c, t, o⟩⟩
  all_goals rw [hb] at hr
  · have e := Lib.hid (ingV_none (s := s) hr.out)
    have HV := Lib.hid (fun (w' : World) (g : Nat) (h0 : w'.cell? ⟨g, 0, none⟩ = some (.string a)) (h1 : w'.cell? ⟨g, 0 + 1, none⟩ = some (.int .i64 m)) (h2 : w'.cell? ⟨g, 0 + 2, none⟩ = some (.int .i64 c)) (h3 : w'.cell? ⟨g, 0 + 3, none⟩ = some (.int .i64 t)) (h4 : w'.cell? ⟨g, 0 + 4, none⟩ = some (.int .i64 o)) => spec_l13One_is ⟨a, m, ⟨c, t, o⟩⟩ g 0 w' hb h0 h1 h2 h3 h4 Hx.out)
    clear hb hr
    go_enter Tryd.func30, Tryd.ntmps30
    go_wp2_with fail
    refine (H32'.out _).mono ?_; rintro e w1 ⟨rv, rfl, o1, b1⟩
    obtain ⟨gx, cx, rfl, hgx, d0, d1⟩ := two_cells o1
    have HD := Lib.hid d0
    have HR1 := Lib.hid (HR0.out.below b1 HR0.out.lt)
    have HB1 := Lib.hid (bnext HB0.out b1)
    clear o1 b1 HR0 HB0
    go_wp2_with fail
    refine (HL'.out _).mono ?_; rintro e w2 ⟨rv, rfl, o2, b2⟩
    obtain ⟨gn, cn, rfl, hgn, n0, n1, n2, n3⟩ := four_cells o2
    have d0' : w2.cell? ⟨gx, 0, none⟩ = some (.string a) := (b2.cell (p := ⟨gx, 0, none⟩) hgx).trans HD.out
    have HR2 := Lib.hid (HR1.out.below b2 HR1.out.lt)
    have HB2 := Lib.hid (bnext HB1.out b2)
    have hgx2 : gx < w2.heap.size := Nat.lt_of_lt_of_le hgx b2.size
    have hlw : w.heap.size < w2.heap.size := HR2.out.lt
    clear o2 b2 HR1 HB1 d0 d1 HD
    go_wp2_with fail
    go_region
    have HX : Hid (Own (w2.alloc (.cells #[.string a, .int .i64 m, .int .i64 c, .int .i64 t, .int .i64 o] 25)).drew w2.heap.size 25 [.string a, .int .i64 m, .int .i64 c, .int .i64 t, .int .i64 o]) := Lib.hid (Own.new w2 _ _)
    have HB3' : Hid (Below w.heap.size w (w2.alloc (.cells #[.string a, .int .i64 m, .int .i64 c, .int .i64 t, .int .i64 o] 25)).drew) := Lib.hid ((HB2.out.alloc HB2.out.size _).drew)
    have HR2' : Hid (Own (w2.alloc (.cells #[.string a, .int .i64 m, .int .i64 c, .int .i64 t, .int .i64 o] 25)).drew w.heap.size 25 [.string ⟨#[]⟩, .int .i64 0, .int .i64 0, .int .i64 0, .int .i64 0]) := Lib.hid (HR2.out.alloc _)
    go_wp2_with fail
    refine (HV.out _ w2.heap.size (HX.out.cell 0) (HX.out.cell 1) (HX.out.cell 2) (HX.out.cell 3) (HX.out.cell 4)).mono ?_; rintro e w3 ⟨rfl, b3⟩
    have HX3 : Hid (Own w3 w2.heap.size 25 [.string a, .int .i64 m, .int .i64 c, .int .i64 t, .int .i64 o]) := Lib.hid (HX.out.below b3 HX.out.lt)
    have HR3 : Hid (Own w3 w.heap.size 25 [.string ⟨#[]⟩, .int .i64 0, .int .i64 0, .int .i64 0, .int .i64 0]) := Lib.hid (HR2'.out.below b3 HR2'.out.lt)
    have HB3 : Hid (Below w.heap.size w w3) := Lib.hid (bnext HB3'.out b3)
    clear b3 HX HR2 HB2 HB3' HR2' d0' n0 n1 n2 n3
    have q0 : w3.cell? ⟨w.heap.size, 0, none⟩ = some (.string ⟨#[]⟩) := HR3.out.cell 0
    have q1 : w3.cell? ⟨w.heap.size, 1, none⟩ = some (.int .i64 0) := HR3.out.cell 1
    have q2 : w3.cell? ⟨w.heap.size, 2, none⟩ = some (.int .i64 0) := HR3.out.cell 2
    have q3 : w3.cell? ⟨w.heap.size, 3, none⟩ = some (.int .i64 0) := HR3.out.cell 3
    have q4 : w3.cell? ⟨w.heap.size, 4, none⟩ = some (.int .i64 0) := HR3.out.cell 4
    have fq0 := HR3.out.free 0
    have fq1 := HR3.out.free 1
    have fq2 := HR3.out.free 2
    have fq3 := HR3.out.free 3
    have fq4 := HR3.out.free 4
    have hltq : w.heap.size < w3.heap.size := HR3.out.lt
    have hneq : ¬ w.heap.size = w3.heap.size := by omega
    go_wp2_with fail
    have hb := HB3.out
    exact bodyPost_ret (v := .tuple #[.agg #[.string ⟨#[]⟩, .int .i64 0, .int .i64 0, .int .i64 0, .int .i64 0], .bool false]) (by simp [results, Tryd.results30, go_sem, q0, q1, q2, q3, q4, hltq, hneq]) rfl ⟨by rw [e.out.1, e.out.2]; try rfl, by (repeat' (first | (with_reducible exact Below.refl _ _) | (with_reducible assumption) | (with_reducible refine below_dn ?_ _) | (with_reducible refine Below.drew ?_) | (with_reducible refine Below.alloc ?_ ?_ _) | (with_reducible refine Below.setCell ?_ ?_ _) | go_size))⟩
  · have e := Lib.hid (ingV_some (s := s) hr.out)
    have HV := Lib.hid (fun (w' : World) (g : Nat) (h0 : w'.cell? ⟨g, 0, none⟩ = some (.string a)) (h1 : w'.cell? ⟨g, 0 + 1, none⟩ = some (.int .i64 m)) (h2 : w'.cell? ⟨g, 0 + 2, none⟩ = some (.int .i64 c)) (h3 : w'.cell? ⟨g, 0 + 3, none⟩ = some (.int .i64 t)) (h4 : w'.cell? ⟨g, 0 + 4, none⟩ = some (.int .i64 o)) => spec_l13One_is ⟨a, m, ⟨c, t, o⟩⟩ g 0 w' hb h0 h1 h2 h3 h4 Hx.out)
    clear hb hr
    go_enter Tryd.func30, Tryd.ntmps30
    go_wp2_with fail
    refine (H32'.out _).mono ?_; rintro e w1 ⟨rv, rfl, o1, b1⟩
    obtain ⟨gx, cx, rfl, hgx, d0, d1⟩ := two_cells o1
    have HD := Lib.hid d0
    have HR1 := Lib.hid (HR0.out.below b1 HR0.out.lt)
    have HB1 := Lib.hid (bnext HB0.out b1)
    clear o1 b1 HR0 HB0
    go_wp2_with fail
    refine (HL'.out _).mono ?_; rintro e w2 ⟨rv, rfl, o2, b2⟩
    obtain ⟨gn, cn, rfl, hgn, n0, n1, n2, n3⟩ := four_cells o2
    have d0' : w2.cell? ⟨gx, 0, none⟩ = some (.string a) := (b2.cell (p := ⟨gx, 0, none⟩) hgx).trans HD.out
    have HR2 := Lib.hid (HR1.out.below b2 HR1.out.lt)
    have HB2 := Lib.hid (bnext HB1.out b2)
    have hgx2 : gx < w2.heap.size := Nat.lt_of_lt_of_le hgx b2.size
    have hlw : w.heap.size < w2.heap.size := HR2.out.lt
    clear o2 b2 HR1 HB1 d0 d1 HD
    go_wp2_with fail
    go_region
    have HX : Hid (Own (w2.alloc (.cells #[.string a, .int .i64 m, .int .i64 c, .int .i64 t, .int .i64 o] 25)).drew w2.heap.size 25 [.string a, .int .i64 m, .int .i64 c, .int .i64 t, .int .i64 o]) := Lib.hid (Own.new w2 _ _)
    have HB3' : Hid (Below w.heap.size w (w2.alloc (.cells #[.string a, .int .i64 m, .int .i64 c, .int .i64 t, .int .i64 o] 25)).drew) := Lib.hid ((HB2.out.alloc HB2.out.size _).drew)
    have HR2' : Hid (Own (w2.alloc (.cells #[.string a, .int .i64 m, .int .i64 c, .int .i64 t, .int .i64 o] 25)).drew w.heap.size 25 [.string ⟨#[]⟩, .int .i64 0, .int .i64 0, .int .i64 0, .int .i64 0]) := Lib.hid (HR2.out.alloc _)
    go_wp2_with fail
    refine (HV.out _ w2.heap.size (HX.out.cell 0) (HX.out.cell 1) (HX.out.cell 2) (HX.out.cell 3) (HX.out.cell 4)).mono ?_; rintro e w3 ⟨rfl, b3⟩
    have HX3 : Hid (Own w3 w2.heap.size 25 [.string a, .int .i64 m, .int .i64 c, .int .i64 t, .int .i64 o]) := Lib.hid (HX.out.below b3 HX.out.lt)
    have HR3 : Hid (Own w3 w.heap.size 25 [.string ⟨#[]⟩, .int .i64 0, .int .i64 0, .int .i64 0, .int .i64 0]) := Lib.hid (HR2'.out.below b3 HR2'.out.lt)
    have HB3 : Hid (Below w.heap.size w w3) := Lib.hid (bnext HB3'.out b3)
    clear b3 HX HR2 HB2 HB3' HR2' d0' n0 n1 n2 n3
    have q0 : w3.cell? ⟨w.heap.size, 0, none⟩ = some (.string ⟨#[]⟩) := HR3.out.cell 0
    have q1 : w3.cell? ⟨w.heap.size, 1, none⟩ = some (.int .i64 0) := HR3.out.cell 1
    have q2 : w3.cell? ⟨w.heap.size, 2, none⟩ = some (.int .i64 0) := HR3.out.cell 2
    have q3 : w3.cell? ⟨w.heap.size, 3, none⟩ = some (.int .i64 0) := HR3.out.cell 3
    have q4 : w3.cell? ⟨w.heap.size, 4, none⟩ = some (.int .i64 0) := HR3.out.cell 4
    have fq0 := HR3.out.free 0
    have fq1 := HR3.out.free 1
    have fq2 := HR3.out.free 2
    have fq3 := HR3.out.free 3
    have fq4 := HR3.out.free 4
    have hltq : w.heap.size < w3.heap.size := HR3.out.lt
    have hneq : ¬ w.heap.size = w3.heap.size := by omega
    have x0 : w3.cell? ⟨w2.heap.size, 0, none⟩ = some (.string a) := HX3.out.cell 0
    have x1 : w3.cell? ⟨w2.heap.size, 1, none⟩ = some (.int .i64 m) := HX3.out.cell 1
    have x2 : w3.cell? ⟨w2.heap.size, 2, none⟩ = some (.int .i64 c) := HX3.out.cell 2
    have x3 : w3.cell? ⟨w2.heap.size, 3, none⟩ = some (.int .i64 t) := HX3.out.cell 3
    have x4 : w3.cell? ⟨w2.heap.size, 4, none⟩ = some (.int .i64 o) := HX3.out.cell 4
    have fx0 := HX3.out.free 0
    have fx1 := HX3.out.free 1
    have fx2 := HX3.out.free 2
    have fx3 := HX3.out.free 3
    have fx4 := HX3.out.free 4
    have hltx : w2.heap.size < w3.heap.size := HX3.out.lt
    have hnex : ¬ w2.heap.size = w3.heap.size := by omega
    go_wp2_with fail
    have hb := HB3.out
    exact bodyPost_ret (v := .tuple #[.agg #[.string a, .int .i64 m, .int .i64 c, .int .i64 t, .int .i64 o], .bool true]) (by simp [results, Tryd.results30, go_sem, q0, q1, q2, q3, q4, hltq, hneq, x0, x1, x2, x3, x4, hltx, hnex]) rfl ⟨by rw [e.out.1, e.out.2]; try rfl, by (repeat' (first | (with_reducible exact Below.refl _ _) | (with_reducible assumption) | (with_reducible refine below_dn ?_ _) | (with_reducible refine Below.drew ?_) | (with_reducible refine Below.alloc ?_ ?_ _) | (with_reducible refine Below.setCell ?_ ?_ _) | go_size))⟩
theorem spec_ReadIngot (s : ByteArray) (w : World) (hs : s.size ≤ 1048576) :
    Calls Tryd.prog 8 #[.string s] w fun e w' => e = .returned (.tuple #[.agg #[.string (ingV s).id, .int .i64 (ingV s).mass, .int .i64 (ingV s).alloy.copper, .int .i64 (ingV s).alloy.tin, .int .i64 (ingV s).alloy.other], .bool (ingR s).isSome]) ∧ Below w.heap.size w w' := by
  have H := Lib.hid (fun w' => spec_l13Read s w' hs)
  generalize ingV s = x at *
  generalize (ingR s).isSome = bb at *
  have HR0 : Hid (Own (w.alloc (.cells #[.string ⟨#[]⟩, .int .i64 0, .int .i64 0, .int .i64 0, .int .i64 0] 25)) w.heap.size 25 [.string ⟨#[]⟩, .int .i64 0, .int .i64 0, .int .i64 0, .int .i64 0]) := Lib.hid (Own.new w _ _)
  have HB0 : Hid (Below w.heap.size w (w.alloc (.cells #[.string ⟨#[]⟩, .int .i64 0, .int .i64 0, .int .i64 0, .int .i64 0] 25))) := Lib.hid ((Below.refl _ _).alloc (Nat.le_refl _) _)
  go_enter Tryd.func8, Tryd.ntmps8
  go_wp2_with fail
  refine (H.out _).mono ?_; rintro e w1 ⟨rfl, b1⟩
  have HR1 := Lib.hid (HR0.out.below b1 HR0.out.lt)
  have HB1 := Lib.hid (bnext HB0.out b1)
  clear b1 HR0 HB0
  have q0 : w1.cell? ⟨w.heap.size, 0, none⟩ = some (.string ⟨#[]⟩) := HR1.out.cell 0
  have q1 : w1.cell? ⟨w.heap.size, 1, none⟩ = some (.int .i64 0) := HR1.out.cell 1
  have q2 : w1.cell? ⟨w.heap.size, 2, none⟩ = some (.int .i64 0) := HR1.out.cell 2
  have q3 : w1.cell? ⟨w.heap.size, 3, none⟩ = some (.int .i64 0) := HR1.out.cell 3
  have q4 : w1.cell? ⟨w.heap.size, 4, none⟩ = some (.int .i64 0) := HR1.out.cell 4
  have fq0 := HR1.out.free 0
  have fq1 := HR1.out.free 1
  have fq2 := HR1.out.free 2
  have fq3 := HR1.out.free 3
  have fq4 := HR1.out.free 4
  have hltq : w.heap.size < w1.heap.size := HR1.out.lt
  have hneq : ¬ w.heap.size = w1.heap.size := by omega
  go_wp2_with fail
  have hb := HB1.out
  exact bodyPost_ret (v := .tuple #[.agg #[.string x.id, .int .i64 x.mass, .int .i64 x.alloy.copper, .int .i64 x.alloy.tin, .int .i64 x.alloy.other], .bool bb]) (by simp [results, Tryd.results8, go_sem, q0, q1, q2, q3, q4, hltq, hneq]) rfl ⟨rfl, by (repeat' (first | (with_reducible exact Below.refl _ _) | (with_reducible assumption) | (with_reducible refine below_dn ?_ _) | (with_reducible refine Below.drew ?_) | (with_reducible refine Below.alloc ?_ ?_ _) | (with_reducible refine Below.setCell ?_ ?_ _) | go_size))⟩

set_option maxHeartbeats 4000000 in
theorem impl_ReadIngot (s : ByteArray) (w : World) (hs : s.size ≤ 1048576) (hm : MaxL w) (hp : Pow10 w) (he : ErrS w) :
    Calls Tryd.prog 9 #[.string s] w fun e w' => e = .returned (.tuple #[.agg #[.string (ingV s).id, .int .i64 (ingV s).mass, .int .i64 (ingV s).alloy.copper, .int .i64 (ingV s).alloy.tin, .int .i64 (ingV s).alloy.other], .bool (ingR s).isSome]) ∧ Below w.heap.size w w' := by
  have HM := Lib.hid hm; clear hm
  have HP := Lib.hid hp; clear hp
  have HE := Lib.hid he; clear he
  have HR0 : Hid (Own (w.alloc (.cells #[.string ⟨#[]⟩, .int .i64 0, .int .i64 0, .int .i64 0, .int .i64 0] 25)) w.heap.size 25 [.string ⟨#[]⟩, .int .i64 0, .int .i64 0, .int .i64 0, .int .i64 0]) := Lib.hid (Own.new w _ _)
  have HB0 : Hid (Below w.heap.size w (w.alloc (.cells #[.string ⟨#[]⟩, .int .i64 0, .int .i64 0, .int .i64 0, .int .i64 0] 25))) := Lib.hid ((Below.refl _ _).alloc (Nat.le_refl _) _)
  have hcs := cut_sizes 32 s
  have HC := Lib.hid (fun (w' : World) (h1 : MaxL w') => impl_Cut 32 s w' (by omega) h1)
  have HL := Lib.hid (fun (w' : World) (h1 : MaxL w') (h2 : Pow10 w') (h3 : ErrS w') => impl_ReadList (cutB 32 s) w' (by omega) h1 h2 h3)
  have hbd := Lib.hid ((listL_bd (cutB 32 s)).2)
  have hi4 := Lib.hid (fun hl : (listL (cutB 32 s)).length ≠ 4 => ingV_none (ingR_bad (ingOf_not4 (a := cutA 32 s) hl)))
  have hi5 := Lib.hid (fun (m c t o : Int) (hl : listL (cutB 32 s) = [m, c, t, o]) (hb : ingotB ⟨cutA 32 s, m, ⟨c, t, o⟩⟩ = false) => ingV_none (ingR_bad (s := s) (by rw [hl, ingOf_four, if_neg (by rw [hb]; simp)])))
  have hi6 := Lib.hid (fun (m c t o : Int) (hl : listL (cutB 32 s) = [m, c, t, o]) (hb : ingotB ⟨cutA 32 s, m, ⟨c, t, o⟩⟩ = true) => ingR_good (s := s) (x := ⟨cutA 32 s, m, ⟨c, t, o⟩⟩) (by rw [hl, ingOf_four, if_pos hb]))
  have hsa : (cutA 32 s).size ≤ 1048576 := by omega
  clear hcs
  generalize cutA 32 s = a at *
  generalize cutB 32 s = b at *
  generalize cutF 32 s = cf at *
  by_cases h4 : (listL b).length = 4
  case neg =>
    have e := Lib.hid (hi4.out h4)
    have t4 : (((listL b).length : Int) != 4) = true := bne_iff_ne.2 (by omega)
    clear h4 hi4 hi5 hi6 hbd
    generalize listL b = ys at *
    generalize (listR b).isSome = ok at *
    go_enter Tryd.func9, Tryd.ntmps9
    go_wp2_with fail
    refine (HC.out _ (HM.out.below HB0.out)).mono ?_; rintro e w1 ⟨rfl, b1⟩
    have HR1 := Lib.hid (HR0.out.below b1 HR0.out.lt)
    have HB1 := Lib.hid (bnext HB0.out b1)
    clear b1 HR0 HB0
    go_wp2_with fail
    refine (HL.out _ (HM.out.below HB1.out) (HP.out.below HB1.out) (HE.out.below HB1.out)).mono ?_; rintro e w2 ⟨rv, rfl, o2, b2⟩
    obtain ⟨ro, rx, rfl⟩ := (own_rd o2).form
    have HR2 := Lib.hid (HR1.out.below b2 HR1.out.lt)
    have HB2 := Lib.hid (bnext HB1.out b2)
    clear o2 b2 HR1 HB1
    have q0 : w2.cell? ⟨w.heap.size, 0, none⟩ = some (.string ⟨#[]⟩) := HR2.out.cell 0
    have q1 : w2.cell? ⟨w.heap.size, 1, none⟩ = some (.int .i64 0) := HR2.out.cell 1
    have q2 : w2.cell? ⟨w.heap.size, 2, none⟩ = some (.int .i64 0) := HR2.out.cell 2
    have q3 : w2.cell? ⟨w.heap.size, 3, none⟩ = some (.int .i64 0) := HR2.out.cell 3
    have q4 : w2.cell? ⟨w.heap.size, 4, none⟩ = some (.int .i64 0) := HR2.out.cell 4
    have fq0 := HR2.out.free 0
    have fq1 := HR2.out.free 1
    have fq2 := HR2.out.free 2
    have fq3 := HR2.out.free 3
    have fq4 := HR2.out.free 4
    have hltq : w.heap.size < w2.heap.size := HR2.out.lt
    have hneq : ¬ w.heap.size = w2.heap.size := by omega
    go_wp2_with fail
    have hb := HB2.out
    exact bodyPost_ret (v := .tuple #[.agg #[.string ⟨#[]⟩, .int .i64 0, .int .i64 0, .int .i64 0, .int .i64 0], .bool false]) (by simp [results, Tryd.results9, go_sem, q0, q1, q2, q3, q4, hltq, hneq]) rfl ⟨by rw [e.out.1, e.out.2]; try rfl, by (repeat' (first | (with_reducible exact Below.refl _ _) | (with_reducible assumption) | (with_reducible refine below_dn ?_ _) | (with_reducible refine Below.drew ?_) | (with_reducible refine Below.alloc ?_ ?_ _) | (with_reducible refine Below.setCell ?_ ?_ _) | go_size))⟩
  obtain ⟨m, c, t, o, hl⟩ := four_of h4
  rw [hl] at hbd
  have HL' : Hid (∀ w' : World, MaxL w' → Pow10 w' → ErrS w' → Calls Tryd.prog 32 #[.string b] w' fun e w'' => ∃ (r : Value) (ok : Bool), e = .returned (.tuple #[r, .bool ok]) ∧ w''.ownsRow w'.heap.size 2 1 r 4 ([m, c, t, o].flatMap putI) ∧ Below w'.heap.size w' w'') := Lib.hid (fun w' h1 h2 h3 => (HL.out w' h1 h2 h3).mono (by rintro e w2 ⟨r, e1, o1, b1⟩; rw [hl] at o1; exact ⟨r, _, e1, o1, b1⟩))
  have hm := hbd.out m (by simp)
  have hc := hbd.out c (by simp)
  have ht := hbd.out t (by simp)
  have ho := hbd.out o (by simp)
  have hx : (⟨a, m, ⟨c, t, o⟩⟩ : Ingot).ok := ⟨by unfold maxLen; show a.size ≤ _; omega, ⟨by show _ ≤ m; omega, by show m ≤ _; omega⟩, ⟨by show _ ≤ c; omega, by show c ≤ _; omega⟩, ⟨by show _ ≤ t; omega, by show t ≤ _; omega⟩, ⟨by show _ ≤ o; omega, by show o ≤ _; omega⟩⟩
  have Hx := Lib.hid hx
  have hi5' := Lib.hid (hi5.out m c t o hl)
  have hi6' := Lib.hid (hi6.out m c t o hl)
  clear h4 hi4 hi5 hi6 hbd HL hl hm hc ht ho hx
  cases hb : ingotB ⟨a, m, ⟨c, t, o⟩⟩
  · have e := Lib.hid (hi5'.out hb)
    have HV := Lib.hid (fun (w' : World) => impl_validIngot_is ⟨a, m, ⟨c, t, o⟩⟩ w' hb Hx.out)
    clear hb hi5' hi6'
    go_enter Tryd.func9, Tryd.ntmps9
    go_wp2_with fail
    refine (HC.out _ (HM.out.below HB0.out)).mono ?_; rintro e w1 ⟨rfl, b1⟩
    have HR1 := Lib.hid (HR0.out.below b1 HR0.out.lt)
    have HB1 := Lib.hid (bnext HB0.out b1)
    clear b1 HR0 HB0
    go_wp2_with fail
    refine (HL'.out _ (HM.out.below HB1.out) (HP.out.below HB1.out) (HE.out.below HB1.out)).mono ?_; rintro e w2 ⟨rv, ok, rfl, o2, b2⟩
    obtain ⟨gn, cn, rfl, hgn, n0, n1, n2, n3⟩ := four_cells o2
    have HR2 := Lib.hid (HR1.out.below b2 HR1.out.lt)
    have HB2 := Lib.hid (bnext HB1.out b2)
    clear o2 b2 HR1 HB1
    go_wp2_with fail
    go_region
    have HX3 : Hid (Own (w2.alloc (.cells #[.string a, .int .i64 m, .int .i64 c, .int .i64 t, .int .i64 o] 25)).drew w2.heap.size 25 [.string a, .int .i64 m, .int .i64 c, .int .i64 t, .int .i64 o]) := Lib.hid (Own.new w2 _ _)
    have HB3 : Hid (Below w.heap.size w (w2.alloc (.cells #[.string a, .int .i64 m, .int .i64 c, .int .i64 t, .int .i64 o] 25)).drew) := Lib.hid ((HB2.out.alloc HB2.out.size _).drew)
    have HR3 : Hid (Own (w2.alloc (.cells #[.string a, .int .i64 m, .int .i64 c, .int .i64 t, .int .i64 o] 25)).drew w.heap.size 25 [.string ⟨#[]⟩, .int .i64 0, .int .i64 0, .int .i64 0, .int .i64 0]) := Lib.hid (HR2.out.alloc _)
    clear HR2 HB2 n0 n1 n2 n3
    have y0 : (w2.alloc (.cells #[.string a, .int .i64 m, .int .i64 c, .int .i64 t, .int .i64 o] 25)).drew.cell? ⟨w2.heap.size, 0, none⟩ = some (.string a) := HX3.out.cell 0
    have y1 : (w2.alloc (.cells #[.string a, .int .i64 m, .int .i64 c, .int .i64 t, .int .i64 o] 25)).drew.cell? ⟨w2.heap.size, 1, none⟩ = some (.int .i64 m) := HX3.out.cell 1
    have y2 : (w2.alloc (.cells #[.string a, .int .i64 m, .int .i64 c, .int .i64 t, .int .i64 o] 25)).drew.cell? ⟨w2.heap.size, 2, none⟩ = some (.int .i64 c) := HX3.out.cell 2
    have y3 : (w2.alloc (.cells #[.string a, .int .i64 m, .int .i64 c, .int .i64 t, .int .i64 o] 25)).drew.cell? ⟨w2.heap.size, 3, none⟩ = some (.int .i64 t) := HX3.out.cell 3
    have y4 : (w2.alloc (.cells #[.string a, .int .i64 m, .int .i64 c, .int .i64 t, .int .i64 o] 25)).drew.cell? ⟨w2.heap.size, 4, none⟩ = some (.int .i64 o) := HX3.out.cell 4
    have fy0 := HX3.out.free 0
    have fy1 := HX3.out.free 1
    have fy2 := HX3.out.free 2
    have fy3 := HX3.out.free 3
    have fy4 := HX3.out.free 4
    have hlty : w2.heap.size < (w2.alloc (.cells #[.string a, .int .i64 m, .int .i64 c, .int .i64 t, .int .i64 o] 25)).drew.heap.size := HX3.out.lt
    have hney : ¬ w2.heap.size = (w2.alloc (.cells #[.string a, .int .i64 m, .int .i64 c, .int .i64 t, .int .i64 o] 25)).drew.heap.size := by omega
    go_wp2_with fail
    refine (HV.out _).mono ?_; rintro e w4 ⟨rfl, b4⟩
    have HR4 := Lib.hid (HR3.out.below b4 HR3.out.lt)
    have HB4 := Lib.hid (bnext HB3.out b4)
    clear b4 HR3 HB3
    have q0 : w4.cell? ⟨w.heap.size, 0, none⟩ = some (.string ⟨#[]⟩) := HR4.out.cell 0
    have q1 : w4.cell? ⟨w.heap.size, 1, none⟩ = some (.int .i64 0) := HR4.out.cell 1
    have q2 : w4.cell? ⟨w.heap.size, 2, none⟩ = some (.int .i64 0) := HR4.out.cell 2
    have q3 : w4.cell? ⟨w.heap.size, 3, none⟩ = some (.int .i64 0) := HR4.out.cell 3
    have q4 : w4.cell? ⟨w.heap.size, 4, none⟩ = some (.int .i64 0) := HR4.out.cell 4
    have fq0 := HR4.out.free 0
    have fq1 := HR4.out.free 1
    have fq2 := HR4.out.free 2
    have fq3 := HR4.out.free 3
    have fq4 := HR4.out.free 4
    have hltq : w.heap.size < w4.heap.size := HR4.out.lt
    have hneq : ¬ w.heap.size = w4.heap.size := by omega
    go_wp2_with fail
    have hb := HB4.out
    exact bodyPost_ret (v := .tuple #[.agg #[.string ⟨#[]⟩, .int .i64 0, .int .i64 0, .int .i64 0, .int .i64 0], .bool false]) (by simp [results, Tryd.results9, go_sem, q0, q1, q2, q3, q4, hltq, hneq]) rfl ⟨by rw [e.out.1, e.out.2]; try rfl, by (repeat' (first | (with_reducible exact Below.refl _ _) | (with_reducible assumption) | (with_reducible refine below_dn ?_ _) | (with_reducible refine Below.drew ?_) | (with_reducible refine Below.alloc ?_ ?_ _) | (with_reducible refine Below.setCell ?_ ?_ _) | go_size))⟩
  · have HV := Lib.hid (fun (w' : World) => impl_validIngot_is ⟨a, m, ⟨c, t, o⟩⟩ w' hb Hx.out)
    have HT := Lib.hid (fun (w' : World) (h1 : Pow10 w') => impl_IngotText ⟨a, m, ⟨c, t, o⟩⟩ w' Hx.out h1)
    have hi7 := Lib.hid (hi6'.out hb)
    obtain ⟨tx, htx⟩ : ∃ tx, ingT ⟨a, m, ⟨c, t, o⟩⟩ = tx := ⟨_, rfl⟩
    rw [htx] at HT hi7
    clear hb hi5' hi6' htx
    by_cases hq : tx = s
    · have e := Lib.hid (ingV_some (s := s) (hi7.out.1 hq))
      have t5 := text_eq hq
      clear hq hi7
      go_enter Tryd.func9, Tryd.ntmps9
      go_wp2_with fail
      refine (HC.out _ (HM.out.below HB0.out)).mono ?_; rintro e w1 ⟨rfl, b1⟩
      have HR1 := Lib.hid (HR0.out.below b1 HR0.out.lt)
      have HB1 := Lib.hid (bnext HB0.out b1)
      clear b1 HR0 HB0
      go_wp2_with fail
      refine (HL'.out _ (HM.out.below HB1.out) (HP.out.below HB1.out) (HE.out.below HB1.out)).mono ?_; rintro e w2 ⟨rv, ok, rfl, o2, b2⟩
      obtain ⟨gn, cn, rfl, hgn, n0, n1, n2, n3⟩ := four_cells o2
      have HR2 := Lib.hid (HR1.out.below b2 HR1.out.lt)
      have HB2 := Lib.hid (bnext HB1.out b2)
      clear o2 b2 HR1 HB1
      go_wp2_with fail
      go_region
      have HX3 : Hid (Own (w2.alloc (.cells #[.string a, .int .i64 m, .int .i64 c, .int .i64 t, .int .i64 o] 25)).drew w2.heap.size 25 [.string a, .int .i64 m, .int .i64 c, .int .i64 t, .int .i64 o]) := Lib.hid (Own.new w2 _ _)
      have HB3 : Hid (Below w.heap.size w (w2.alloc (.cells #[.string a, .int .i64 m, .int .i64 c, .int .i64 t, .int .i64 o] 25)).drew) := Lib.hid ((HB2.out.alloc HB2.out.size _).drew)
      have HR3 : Hid (Own (w2.alloc (.cells #[.string a, .int .i64 m, .int .i64 c, .int .i64 t, .int .i64 o] 25)).drew w.heap.size 25 [.string ⟨#[]⟩, .int .i64 0, .int .i64 0, .int .i64 0, .int .i64 0]) := Lib.hid (HR2.out.alloc _)
      clear HR2 HB2 n0 n1 n2 n3
      have y0 : (w2.alloc (.cells #[.string a, .int .i64 m, .int .i64 c, .int .i64 t, .int .i64 o] 25)).drew.cell? ⟨w2.heap.size, 0, none⟩ = some (.string a) := HX3.out.cell 0
      have y1 : (w2.alloc (.cells #[.string a, .int .i64 m, .int .i64 c, .int .i64 t, .int .i64 o] 25)).drew.cell? ⟨w2.heap.size, 1, none⟩ = some (.int .i64 m) := HX3.out.cell 1
      have y2 : (w2.alloc (.cells #[.string a, .int .i64 m, .int .i64 c, .int .i64 t, .int .i64 o] 25)).drew.cell? ⟨w2.heap.size, 2, none⟩ = some (.int .i64 c) := HX3.out.cell 2
      have y3 : (w2.alloc (.cells #[.string a, .int .i64 m, .int .i64 c, .int .i64 t, .int .i64 o] 25)).drew.cell? ⟨w2.heap.size, 3, none⟩ = some (.int .i64 t) := HX3.out.cell 3
      have y4 : (w2.alloc (.cells #[.string a, .int .i64 m, .int .i64 c, .int .i64 t, .int .i64 o] 25)).drew.cell? ⟨w2.heap.size, 4, none⟩ = some (.int .i64 o) := HX3.out.cell 4
      have fy0 := HX3.out.free 0
      have fy1 := HX3.out.free 1
      have fy2 := HX3.out.free 2
      have fy3 := HX3.out.free 3
      have fy4 := HX3.out.free 4
      have hlty : w2.heap.size < (w2.alloc (.cells #[.string a, .int .i64 m, .int .i64 c, .int .i64 t, .int .i64 o] 25)).drew.heap.size := HX3.out.lt
      have hney : ¬ w2.heap.size = (w2.alloc (.cells #[.string a, .int .i64 m, .int .i64 c, .int .i64 t, .int .i64 o] 25)).drew.heap.size := by omega
      go_wp2_with fail
      refine (HV.out _).mono ?_; rintro e w4 ⟨rfl, b4⟩
      have HR4 := Lib.hid (HR3.out.below b4 HR3.out.lt)
      have HB4 := Lib.hid (bnext HB3.out b4)
      have HX4 := Lib.hid (HX3.out.below b4 HX3.out.lt)
      clear b4 HR3 HB3 HX3
      have z0 : w4.cell? ⟨w2.heap.size, 0, none⟩ = some (.string a) := HX4.out.cell 0
      have z1 : w4.cell? ⟨w2.heap.size, 1, none⟩ = some (.int .i64 m) := HX4.out.cell 1
      have z2 : w4.cell? ⟨w2.heap.size, 2, none⟩ = some (.int .i64 c) := HX4.out.cell 2
      have z3 : w4.cell? ⟨w2.heap.size, 3, none⟩ = some (.int .i64 t) := HX4.out.cell 3
      have z4 : w4.cell? ⟨w2.heap.size, 4, none⟩ = some (.int .i64 o) := HX4.out.cell 4
      have fz0 := HX4.out.free 0
      have fz1 := HX4.out.free 1
      have fz2 := HX4.out.free 2
      have fz3 := HX4.out.free 3
      have fz4 := HX4.out.free 4
      have hltz : w2.heap.size < w4.heap.size := HX4.out.lt
      have hnez : ¬ w2.heap.size = w4.heap.size := by omega
      go_wp2_with fail
      refine (HT.out _ (HP.out.below HB4.out)).mono ?_; rintro e w5 ⟨rfl, b5⟩
      have HR5 := Lib.hid (HR4.out.below b5 HR4.out.lt)
      have HB5 := Lib.hid (bnext HB4.out b5)
      have HX5 := Lib.hid (HX4.out.below b5 HX4.out.lt)
      clear b5 HR4 HB4 HX4
      have q0 : w5.cell? ⟨w.heap.size, 0, none⟩ = some (.string ⟨#[]⟩) := HR5.out.cell 0
      have q1 : w5.cell? ⟨w.heap.size, 1, none⟩ = some (.int .i64 0) := HR5.out.cell 1
      have q2 : w5.cell? ⟨w.heap.size, 2, none⟩ = some (.int .i64 0) := HR5.out.cell 2
      have q3 : w5.cell? ⟨w.heap.size, 3, none⟩ = some (.int .i64 0) := HR5.out.cell 3
      have q4 : w5.cell? ⟨w.heap.size, 4, none⟩ = some (.int .i64 0) := HR5.out.cell 4
      have fq0 := HR5.out.free 0
      have fq1 := HR5.out.free 1
      have fq2 := HR5.out.free 2
      have fq3 := HR5.out.free 3
      have fq4 := HR5.out.free 4
      have hltq : w.heap.size < w5.heap.size := HR5.out.lt
      have hneq : ¬ w.heap.size = w5.heap.size := by omega
      have x0 : w5.cell? ⟨w2.heap.size, 0, none⟩ = some (.string a) := HX5.out.cell 0
      have x1 : w5.cell? ⟨w2.heap.size, 1, none⟩ = some (.int .i64 m) := HX5.out.cell 1
      have x2 : w5.cell? ⟨w2.heap.size, 2, none⟩ = some (.int .i64 c) := HX5.out.cell 2
      have x3 : w5.cell? ⟨w2.heap.size, 3, none⟩ = some (.int .i64 t) := HX5.out.cell 3
      have x4 : w5.cell? ⟨w2.heap.size, 4, none⟩ = some (.int .i64 o) := HX5.out.cell 4
      have fx0 := HX5.out.free 0
      have fx1 := HX5.out.free 1
      have fx2 := HX5.out.free 2
      have fx3 := HX5.out.free 3
      have fx4 := HX5.out.free 4
      have hltx : w2.heap.size < w5.heap.size := HX5.out.lt
      have hnex : ¬ w2.heap.size = w5.heap.size := by omega
      go_wp2_with fail
      have hb := HB5.out
      exact bodyPost_ret (v := .tuple #[.agg #[.string a, .int .i64 m, .int .i64 c, .int .i64 t, .int .i64 o], .bool true]) (by simp [results, Tryd.results9, go_sem, q0, q1, q2, q3, q4, hltq, hneq, x0, x1, x2, x3, x4, hltx, hnex]) rfl ⟨by rw [e.out.1, e.out.2]; try rfl, by (repeat' (first | (with_reducible exact Below.refl _ _) | (with_reducible assumption) | (with_reducible refine below_dn ?_ _) | (with_reducible refine Below.drew ?_) | (with_reducible refine Below.alloc ?_ ?_ _) | (with_reducible refine Below.setCell ?_ ?_ _) | go_size))⟩
    · have e := Lib.hid (ingV_none (s := s) (hi7.out.2 hq))
      have t5 := text_ne hq
      clear hq hi7
      go_enter Tryd.func9, Tryd.ntmps9
      go_wp2_with fail
      refine (HC.out _ (HM.out.below HB0.out)).mono ?_; rintro e w1 ⟨rfl, b1⟩
      have HR1 := Lib.hid (HR0.out.below b1 HR0.out.lt)
      have HB1 := Lib.hid (bnext HB0.out b1)
      clear b1 HR0 HB0
      go_wp2_with fail
      refine (HL'.out _ (HM.out.below HB1.out) (HP.out.below HB1.out) (HE.out.below HB1.out)).mono ?_; rintro e w2 ⟨rv, ok, rfl, o2, b2⟩
      obtain ⟨gn, cn, rfl, hgn, n0, n1, n2, n3⟩ := four_cells o2
      have HR2 := Lib.hid (HR1.out.below b2 HR1.out.lt)
      have HB2 := Lib.hid (bnext HB1.out b2)
      clear o2 b2 HR1 HB1
      go_wp2_with fail
      go_region
      have HX3 : Hid (Own (w2.alloc (.cells #[.string a, .int .i64 m, .int .i64 c, .int .i64 t, .int .i64 o] 25)).drew w2.heap.size 25 [.string a, .int .i64 m, .int .i64 c, .int .i64 t, .int .i64 o]) := Lib.hid (Own.new w2 _ _)
      have HB3 : Hid (Below w.heap.size w (w2.alloc (.cells #[.string a, .int .i64 m, .int .i64 c, .int .i64 t, .int .i64 o] 25)).drew) := Lib.hid ((HB2.out.alloc HB2.out.size _).drew)
      have HR3 : Hid (Own (w2.alloc (.cells #[.string a, .int .i64 m, .int .i64 c, .int .i64 t, .int .i64 o] 25)).drew w.heap.size 25 [.string ⟨#[]⟩, .int .i64 0, .int .i64 0, .int .i64 0, .int .i64 0]) := Lib.hid (HR2.out.alloc _)
      clear HR2 HB2 n0 n1 n2 n3
      have y0 : (w2.alloc (.cells #[.string a, .int .i64 m, .int .i64 c, .int .i64 t, .int .i64 o] 25)).drew.cell? ⟨w2.heap.size, 0, none⟩ = some (.string a) := HX3.out.cell 0
      have y1 : (w2.alloc (.cells #[.string a, .int .i64 m, .int .i64 c, .int .i64 t, .int .i64 o] 25)).drew.cell? ⟨w2.heap.size, 1, none⟩ = some (.int .i64 m) := HX3.out.cell 1
      have y2 : (w2.alloc (.cells #[.string a, .int .i64 m, .int .i64 c, .int .i64 t, .int .i64 o] 25)).drew.cell? ⟨w2.heap.size, 2, none⟩ = some (.int .i64 c) := HX3.out.cell 2
      have y3 : (w2.alloc (.cells #[.string a, .int .i64 m, .int .i64 c, .int .i64 t, .int .i64 o] 25)).drew.cell? ⟨w2.heap.size, 3, none⟩ = some (.int .i64 t) := HX3.out.cell 3
      have y4 : (w2.alloc (.cells #[.string a, .int .i64 m, .int .i64 c, .int .i64 t, .int .i64 o] 25)).drew.cell? ⟨w2.heap.size, 4, none⟩ = some (.int .i64 o) := HX3.out.cell 4
      have fy0 := HX3.out.free 0
      have fy1 := HX3.out.free 1
      have fy2 := HX3.out.free 2
      have fy3 := HX3.out.free 3
      have fy4 := HX3.out.free 4
      have hlty : w2.heap.size < (w2.alloc (.cells #[.string a, .int .i64 m, .int .i64 c, .int .i64 t, .int .i64 o] 25)).drew.heap.size := HX3.out.lt
      have hney : ¬ w2.heap.size = (w2.alloc (.cells #[.string a, .int .i64 m, .int .i64 c, .int .i64 t, .int .i64 o] 25)).drew.heap.size := by omega
      go_wp2_with fail
      refine (HV.out _).mono ?_; rintro e w4 ⟨rfl, b4⟩
      have HR4 := Lib.hid (HR3.out.below b4 HR3.out.lt)
      have HB4 := Lib.hid (bnext HB3.out b4)
      have HX4 := Lib.hid (HX3.out.below b4 HX3.out.lt)
      clear b4 HR3 HB3 HX3
      have z0 : w4.cell? ⟨w2.heap.size, 0, none⟩ = some (.string a) := HX4.out.cell 0
      have z1 : w4.cell? ⟨w2.heap.size, 1, none⟩ = some (.int .i64 m) := HX4.out.cell 1
      have z2 : w4.cell? ⟨w2.heap.size, 2, none⟩ = some (.int .i64 c) := HX4.out.cell 2
      have z3 : w4.cell? ⟨w2.heap.size, 3, none⟩ = some (.int .i64 t) := HX4.out.cell 3
      have z4 : w4.cell? ⟨w2.heap.size, 4, none⟩ = some (.int .i64 o) := HX4.out.cell 4
      have fz0 := HX4.out.free 0
      have fz1 := HX4.out.free 1
      have fz2 := HX4.out.free 2
      have fz3 := HX4.out.free 3
      have fz4 := HX4.out.free 4
      have hltz : w2.heap.size < w4.heap.size := HX4.out.lt
      have hnez : ¬ w2.heap.size = w4.heap.size := by omega
      go_wp2_with fail
      refine (HT.out _ (HP.out.below HB4.out)).mono ?_; rintro e w5 ⟨rfl, b5⟩
      have HR5 := Lib.hid (HR4.out.below b5 HR4.out.lt)
      have HB5 := Lib.hid (bnext HB4.out b5)
      have HX5 := Lib.hid (HX4.out.below b5 HX4.out.lt)
      clear b5 HR4 HB4 HX4
      have q0 : w5.cell? ⟨w.heap.size, 0, none⟩ = some (.string ⟨#[]⟩) := HR5.out.cell 0
      have q1 : w5.cell? ⟨w.heap.size, 1, none⟩ = some (.int .i64 0) := HR5.out.cell 1
      have q2 : w5.cell? ⟨w.heap.size, 2, none⟩ = some (.int .i64 0) := HR5.out.cell 2
      have q3 : w5.cell? ⟨w.heap.size, 3, none⟩ = some (.int .i64 0) := HR5.out.cell 3
      have q4 : w5.cell? ⟨w.heap.size, 4, none⟩ = some (.int .i64 0) := HR5.out.cell 4
      have fq0 := HR5.out.free 0
      have fq1 := HR5.out.free 1
      have fq2 := HR5.out.free 2
      have fq3 := HR5.out.free 3
      have fq4 := HR5.out.free 4
      have hltq : w.heap.size < w5.heap.size := HR5.out.lt
      have hneq : ¬ w.heap.size = w5.heap.size := by omega
      go_wp2_with fail
      have hb := HB5.out
      exact bodyPost_ret (v := .tuple #[.agg #[.string ⟨#[]⟩, .int .i64 0, .int .i64 0, .int .i64 0, .int .i64 0], .bool false]) (by simp [results, Tryd.results9, go_sem, q0, q1, q2, q3, q4, hltq, hneq]) rfl ⟨by rw [e.out.1, e.out.2]; try rfl, by (repeat' (first | (with_reducible exact Below.refl _ _) | (with_reducible assumption) | (with_reducible refine below_dn ?_ _) | (with_reducible refine Below.drew ?_) | (with_reducible refine Below.alloc ?_ ?_ _) | (with_reducible refine Below.setCell ?_ ?_ _) | go_size))⟩
end Go.Proofs.YtklgkbiobggbiaaDoor
namespace Go.Proofs.YtklgkbiobggbiaaDoor
open Go.ChangeShapes Go.WideShapes Go.ChangeAt Go.RowKit Go.Deep Go.Joins
set_option linter.unusedVariables false
set_option maxRecDepth 100000
set_option linter.unusedSimpArgs false
set_option maxHeartbeats 4000000 in
theorem impl_mix (w : World) (v c : Value) (xs : List Ingot) (cs : List Int) (h1 : Rd w.heap.size w v 5 xs.length (xs.flatMap Ingot.put)) (h2 : Rd w.heap.size w c 1 cs.length (cs.flatMap putI)) (hn : xs.length ≤ 16) (hv : ∀ x ∈ xs, ingotB x = true) (hch : choiceB xs.length cs = true) (h0 : 0 < cs.length) :
    Calls Tryd.prog 63 #[v, c] w fun e w' => e = .returned (.tuple #[.agg #[.int .i64 (mixA xs cs).copper, .int .i64 (mixA xs cs).tin, .int .i64 (mixA xs cs).other], .int .i64 (sumK massF xs cs)]) ∧ Below w.heap.size w w' := by
  have H1 := Lib.hid h1
  have H2 := Lib.hid h2
  obtain ⟨lo, lc, rfl⟩ := h1.form
  obtain ⟨lo2, lc2, rfl⟩ := h2.form
  clear h1 h2
  have hX := Lib.hid (Own.new w 23 [.int .i64 0, .int .i64 0, .int .i64 0])
  have hpos := mass_pos hv hch h0
  have hcl : cs.length ≤ 16 := Nat.le_trans (choice_len hch) hn
  have hmb := massF_bd hv hcl cs.length
  have htb := tinF_bd hv hcl cs.length
  have hob := otherF_bd hv hcl cs.length
  rw [take_all (Nat.le_refl _)] at hmb htb hob
  obtain ⟨r1, r2⟩ := quot_bd _ _ htb hpos
  obtain ⟨r3, r4⟩ := quot_bd _ _ hob hpos
  have hd0 : (sumK massF xs cs == 0) = false := beq_eq_false_iff_ne.2 (by omega)
  have HS := Lib.hid (fun w' (hb : Below w.heap.size w w') => impl_sums w' (.slice lo xs.length lc) (.slice lo2 cs.length lc2) xs cs (H1.out.up hb) (H2.out.up hb) hn hv hch)
  clear hv hch
  unfold mixA
  generalize sumK massF xs cs = m at *
  generalize sumK tinF xs cs = t at *
  generalize sumK otherF xs cs = u at *
  go_enter Tryd.func63, Tryd.ntmps63
  go_wp2_with fail
  refine (HS.out _ (by (repeat' (first | (with_reducible exact Below.refl _ _) | (with_reducible assumption) | (with_reducible refine below_dn ?_ _) | (with_reducible refine Below.drew ?_) | (with_reducible refine Below.alloc ?_ ?_ _) | (with_reducible refine Below.setCell ?_ ?_ _) | go_size)))).mono ?_; rintro e1 w1 ⟨rfl, b1⟩
  have O1 := hX.out.below b1 hX.out.lt
  have q0 : w1.cell? ⟨w.heap.size, 0, none⟩ = some (.int .i64 0) := O1.cell 0
  have q1 : w1.cell? ⟨w.heap.size, 1, none⟩ = some (.int .i64 0) := O1.cell 1
  have q2 : w1.cell? ⟨w.heap.size, 2, none⟩ = some (.int .i64 0) := O1.cell 2
  have f0 := O1.free 0
  have f1 := O1.free 1
  have f2 := O1.free 2
  have hlt := O1.lt
  have hne : ¬ w.heap.size = w1.heap.size := by omega
  have HO1 := Lib.hid O1; clear O1
  have HB := Lib.hid (show Below w.heap.size w w1 from Below.trans (by (repeat' (first | (with_reducible exact Below.refl _ _) | (with_reducible assumption) | (with_reducible refine below_dn ?_ _) | (with_reducible refine Below.drew ?_) | (with_reducible refine Below.alloc ?_ ?_ _) | (with_reducible refine Below.setCell ?_ ?_ _) | go_size))) (b1.mono (by simp <;> omega)))
  clear b1 HS
  go_wp2_with fail
  go_region
  go_wp2_with fail
  have hb := HB.out
  exact bodyPost_ret (v := .tuple #[.agg #[.int .i64 (1000000 - t / m - u / m), .int .i64 (t / m), .int .i64 (u / m)], .int .i64 m]) (by simp [results, Tryd.results63, go_sem, q0, q1, q2, hlt, hne]) rfl ⟨rfl, by (repeat' (first | (with_reducible exact Below.refl _ _) | (with_reducible assumption) | (with_reducible refine below_dn ?_ _) | (with_reducible refine Below.drew ?_) | (with_reducible refine Below.alloc ?_ ?_ _) | (with_reducible refine Below.setCell ?_ ?_ _) | go_size))⟩
set_option maxHeartbeats 4000000 in
theorem impl_MixOf (w : World) (v c : Value) (xs : List Ingot) (cs : List Int) (h1 : Rd w.heap.size w v 5 xs.length (xs.flatMap Ingot.put)) (h2 : Rd w.heap.size w c 1 cs.length (cs.flatMap putI)) (hn : xs.length ≤ 1048576) (hcn : cs.length ≤ 1048576) (hok : ∀ x ∈ xs, x.ok) (hi : ∀ c ∈ cs, I64 c) :
    Calls Tryd.prog 27 #[v, c] w fun e w' => e = .returned (.tuple #[.agg #[.int .i64 (mixS xs cs).1.copper, .int .i64 (mixS xs cs).1.tin, .int .i64 (mixS xs cs).1.other], .int .i64 (mixS xs cs).2.1, .int .i64 (mixS xs cs).2.2]) ∧ Below w.heap.size w w' := by
  unfold mixS
  have H1 := Lib.hid h1
  have H2 := Lib.hid h2
  obtain ⟨lo, lc, rfl⟩ := h1.form
  obtain ⟨lo2, lc2, rfl⟩ := h2.form
  clear h1 h2
  have Hok := Lib.hid hok; clear hok
  have Hi := Lib.hid hi; clear hi
  have hX := Lib.hid (Own.new w 23 [.int .i64 0, .int .i64 0, .int .i64 0])
  cases hV : validIngotS xs
  case false =>
    simp only [Bool.false_eq_true, if_false]
    have HV := Lib.hid hV; clear hV
    go_enter Tryd.func27, Tryd.ntmps27
    go_wp2_with fail
    refine (impl_ValidIngots_is _ _ xs (by exact H1.out.up (by (repeat' (first | (with_reducible exact Below.refl _ _) | (with_reducible assumption) | (with_reducible refine below_dn ?_ _) | (with_reducible refine Below.drew ?_) | (with_reducible refine Below.alloc ?_ ?_ _) | (with_reducible refine Below.setCell ?_ ?_ _) | go_size)))) hn Hok.out HV.out).mono ?_; rintro e1 w1 ⟨rfl, b1⟩
    have O1 := hX.out.below b1 hX.out.lt
    have q0 : w1.cell? ⟨w.heap.size, 0, none⟩ = some (.int .i64 0) := O1.cell 0
    have q1 : w1.cell? ⟨w.heap.size, 1, none⟩ = some (.int .i64 0) := O1.cell 1
    have q2 : w1.cell? ⟨w.heap.size, 2, none⟩ = some (.int .i64 0) := O1.cell 2
    have f0 := O1.free 0
    have f1 := O1.free 1
    have f2 := O1.free 2
    have hlt := O1.lt
    have hne : ¬ w.heap.size = w1.heap.size := by omega
    have HO1 := Lib.hid O1; clear O1
    have HB := Lib.hid (show Below w.heap.size w w1 from Below.trans (by (repeat' (first | (with_reducible exact Below.refl _ _) | (with_reducible assumption) | (with_reducible refine below_dn ?_ _) | (with_reducible refine Below.drew ?_) | (with_reducible refine Below.alloc ?_ ?_ _) | (with_reducible refine Below.setCell ?_ ?_ _) | go_size))) (b1.mono (by simp <;> omega)))
    clear b1
    go_wp2_with fail
    have hb := HB.out
    exact bodyPost_ret (v := .tuple #[.agg #[.int .i64 0, .int .i64 0, .int .i64 0], .int .i64 0, .int .i64 1]) (by simp [results, Tryd.results27, go_sem, q0, q1, q2, hlt, hne]) rfl ⟨rfl, by (repeat' (first | (with_reducible exact Below.refl _ _) | (with_reducible assumption) | (with_reducible refine below_dn ?_ _) | (with_reducible refine Below.drew ?_) | (with_reducible refine Below.alloc ?_ ?_ _) | (with_reducible refine Below.setCell ?_ ?_ _) | go_size))⟩
  obtain ⟨h16, hall⟩ := validIngotS_true hV
  have HV := Lib.hid hV; clear hV
  have HA := Lib.hid hall; clear hall
  cases hC : choiceB xs.length cs
  case false =>
    simp only [Bool.false_eq_true, if_false, if_true]
    have HC := Lib.hid hC; clear hC
    go_enter Tryd.func27, Tryd.ntmps27
    go_wp2_with fail
    refine (impl_ValidIngots_is _ _ xs (by exact H1.out.up (by (repeat' (first | (with_reducible exact Below.refl _ _) | (with_reducible assumption) | (with_reducible refine below_dn ?_ _) | (with_reducible refine Below.drew ?_) | (with_reducible refine Below.alloc ?_ ?_ _) | (with_reducible refine Below.setCell ?_ ?_ _) | go_size)))) hn Hok.out HV.out).mono ?_; rintro e1 w1 ⟨rfl, b1⟩
    have O1 := hX.out.below b1 hX.out.lt
    have q0 : w1.cell? ⟨w.heap.size, 0, none⟩ = some (.int .i64 0) := O1.cell 0
    have q1 : w1.cell? ⟨w.heap.size, 1, none⟩ = some (.int .i64 0) := O1.cell 1
    have q2 : w1.cell? ⟨w.heap.size, 2, none⟩ = some (.int .i64 0) := O1.cell 2
    have f0 := O1.free 0
    have f1 := O1.free 1
    have f2 := O1.free 2
    have hlt := O1.lt
    have hne : ¬ w.heap.size = w1.heap.size := by omega
    have HO1 := Lib.hid O1; clear O1
    have HB := Lib.hid (show Below w.heap.size w w1 from Below.trans (by (repeat' (first | (with_reducible exact Below.refl _ _) | (with_reducible assumption) | (with_reducible refine below_dn ?_ _) | (with_reducible refine Below.drew ?_) | (with_reducible refine Below.alloc ?_ ?_ _) | (with_reducible refine Below.setCell ?_ ?_ _) | go_size))) (b1.mono (by simp <;> omega)))
    clear b1
    clear q0 q1 q2 f0 f1 f2 hlt hne
    go_wp2_with fail
    refine (impl_isChoice_is _ _ _ _ _ cs (by exact H2.out.up HB.out) hn hcn Hi.out HC.out).mono ?_; rintro e2 w2 ⟨rfl, b2⟩
    have O2 := HO1.out.below b2 HO1.out.lt
    have q0 : w2.cell? ⟨w.heap.size, 0, none⟩ = some (.int .i64 0) := O2.cell 0
    have q1 : w2.cell? ⟨w.heap.size, 1, none⟩ = some (.int .i64 0) := O2.cell 1
    have q2 : w2.cell? ⟨w.heap.size, 2, none⟩ = some (.int .i64 0) := O2.cell 2
    have f0 := O2.free 0
    have f1 := O2.free 1
    have f2 := O2.free 2
    have hlt := O2.lt
    have hne : ¬ w.heap.size = w2.heap.size := by omega
    have HO2 := Lib.hid O2; clear O2
    have HB' := Lib.hid (bnext HB.out b2); clear HB; have HB := HB'; clear HB'
    clear b2 HO1
    go_wp2_with fail
    have hb := HB.out
    exact bodyPost_ret (v := .tuple #[.agg #[.int .i64 0, .int .i64 0, .int .i64 0], .int .i64 0, .int .i64 2]) (by simp [results, Tryd.results27, go_sem, q0, q1, q2, hlt, hne]) rfl ⟨rfl, by (repeat' (first | (with_reducible exact Below.refl _ _) | (with_reducible assumption) | (with_reducible refine below_dn ?_ _) | (with_reducible refine Below.drew ?_) | (with_reducible refine Below.alloc ?_ ?_ _) | (with_reducible refine Below.setCell ?_ ?_ _) | go_size))⟩
  have HC := Lib.hid hC; clear hC
  by_cases h0 : cs.length = 0
  · simp only [if_pos h0, if_true]
    have hz : ((cs.length : Int) == 0) = true := beq_iff_eq.2 (by omega)
    have H0 := Lib.hid h0; clear h0
    go_enter Tryd.func27, Tryd.ntmps27
    go_wp2_with fail
    refine (impl_ValidIngots_is _ _ xs (by exact H1.out.up (by (repeat' (first | (with_reducible exact Below.refl _ _) | (with_reducible assumption) | (with_reducible refine below_dn ?_ _) | (with_reducible refine Below.drew ?_) | (with_reducible refine Below.alloc ?_ ?_ _) | (with_reducible refine Below.setCell ?_ ?_ _) | go_size)))) hn Hok.out HV.out).mono ?_; rintro e1 w1 ⟨rfl, b1⟩
    have O1 := hX.out.below b1 hX.out.lt
    have q0 : w1.cell? ⟨w.heap.size, 0, none⟩ = some (.int .i64 0) := O1.cell 0
    have q1 : w1.cell? ⟨w.heap.size, 1, none⟩ = some (.int .i64 0) := O1.cell 1
    have q2 : w1.cell? ⟨w.heap.size, 2, none⟩ = some (.int .i64 0) := O1.cell 2
    have f0 := O1.free 0
    have f1 := O1.free 1
    have f2 := O1.free 2
    have hlt := O1.lt
    have hne : ¬ w.heap.size = w1.heap.size := by omega
    have HO1 := Lib.hid O1; clear O1
    have HB := Lib.hid (show Below w.heap.size w w1 from Below.trans (by (repeat' (first | (with_reducible exact Below.refl _ _) | (with_reducible assumption) | (with_reducible refine below_dn ?_ _) | (with_reducible refine Below.drew ?_) | (with_reducible refine Below.alloc ?_ ?_ _) | (with_reducible refine Below.setCell ?_ ?_ _) | go_size))) (b1.mono (by simp <;> omega)))
    clear b1
    clear q0 q1 q2 f0 f1 f2 hlt hne
    go_wp2_with fail
    refine (impl_isChoice_is _ _ _ _ _ cs (by exact H2.out.up HB.out) hn hcn Hi.out HC.out).mono ?_; rintro e2 w2 ⟨rfl, b2⟩
    have O2 := HO1.out.below b2 HO1.out.lt
    have q0 : w2.cell? ⟨w.heap.size, 0, none⟩ = some (.int .i64 0) := O2.cell 0
    have q1 : w2.cell? ⟨w.heap.size, 1, none⟩ = some (.int .i64 0) := O2.cell 1
    have q2 : w2.cell? ⟨w.heap.size, 2, none⟩ = some (.int .i64 0) := O2.cell 2
    have f0 := O2.free 0
    have f1 := O2.free 1
    have f2 := O2.free 2
    have hlt := O2.lt
    have hne : ¬ w.heap.size = w2.heap.size := by omega
    have HO2 := Lib.hid O2; clear O2
    have HB' := Lib.hid (bnext HB.out b2); clear HB; have HB := HB'; clear HB'
    clear b2 HO1
    go_wp2_with fail
    have hb := HB.out
    exact bodyPost_ret (v := .tuple #[.agg #[.int .i64 0, .int .i64 0, .int .i64 0], .int .i64 0, .int .i64 6]) (by simp [results, Tryd.results27, go_sem, q0, q1, q2, hlt, hne]) rfl ⟨rfl, by (repeat' (first | (with_reducible exact Below.refl _ _) | (with_reducible assumption) | (with_reducible refine below_dn ?_ _) | (with_reducible refine Below.drew ?_) | (with_reducible refine Below.alloc ?_ ?_ _) | (with_reducible refine Below.setCell ?_ ?_ _) | go_size))⟩
  simp only [if_true, if_neg h0]
  have hz : ((cs.length : Int) == 0) = false := beq_eq_false_iff_ne.2 (by omega)
  have hpos := mass_pos HA.out HC.out (by omega)
  have hcl : cs.length ≤ 16 := Nat.le_trans (choice_len HC.out) h16
  have hmb := massF_bd HA.out hcl cs.length
  have htb := tinF_bd HA.out hcl cs.length
  have hob := otherF_bd HA.out hcl cs.length
  rw [take_all (Nat.le_refl _)] at hmb htb hob
  obtain ⟨r1, r2⟩ := quot_bd _ _ htb hpos
  obtain ⟨r3, r4⟩ := quot_bd _ _ hob hpos
  have hd0 : (sumK massF xs cs == 0) = false := beq_eq_false_iff_ne.2 (by omega)
  have H0 := Lib.hid h0; clear h0
  have HS := Lib.hid (fun w' (hb : Below w.heap.size w w') => impl_mix w' (.slice lo xs.length lc) (.slice lo2 cs.length lc2) xs cs (H1.out.up hb) (H2.out.up hb) h16 HA.out HC.out (by have := H0.out; omega))
  generalize mixA xs cs = al at *
  generalize sumK massF xs cs = m at *
  go_enter Tryd.func27, Tryd.ntmps27
  go_wp2_with fail
  refine (impl_ValidIngots_is _ _ xs (by exact H1.out.up (by (repeat' (first | (with_reducible exact Below.refl _ _) | (with_reducible assumption) | (with_reducible refine below_dn ?_ _) | (with_reducible refine Below.drew ?_) | (with_reducible refine Below.alloc ?_ ?_ _) | (with_reducible refine Below.setCell ?_ ?_ _) | go_size)))) hn Hok.out HV.out).mono ?_; rintro e1 w1 ⟨rfl, b1⟩
  have O1 := hX.out.below b1 hX.out.lt
  have q0 : w1.cell? ⟨w.heap.size, 0, none⟩ = some (.int .i64 0) := O1.cell 0
  have q1 : w1.cell? ⟨w.heap.size, 1, none⟩ = some (.int .i64 0) := O1.cell 1
  have q2 : w1.cell? ⟨w.heap.size, 2, none⟩ = some (.int .i64 0) := O1.cell 2
  have f0 := O1.free 0
  have f1 := O1.free 1
  have f2 := O1.free 2
  have hlt := O1.lt
  have hne : ¬ w.heap.size = w1.heap.size := by omega
  have HO1 := Lib.hid O1; clear O1
  have HB := Lib.hid (show Below w.heap.size w w1 from Below.trans (by (repeat' (first | (with_reducible exact Below.refl _ _) | (with_reducible assumption) | (with_reducible refine below_dn ?_ _) | (with_reducible refine Below.drew ?_) | (with_reducible refine Below.alloc ?_ ?_ _) | (with_reducible refine Below.setCell ?_ ?_ _) | go_size))) (b1.mono (by simp <;> omega)))
  clear b1
  clear q0 q1 q2 f0 f1 f2 hlt hne
  go_wp2_with fail
  refine (impl_isChoice_is _ _ _ _ _ cs (by exact H2.out.up HB.out) hn hcn Hi.out HC.out).mono ?_; rintro e2 w2 ⟨rfl, b2⟩
  have O2 := HO1.out.below b2 HO1.out.lt
  have q0 : w2.cell? ⟨w.heap.size, 0, none⟩ = some (.int .i64 0) := O2.cell 0
  have q1 : w2.cell? ⟨w.heap.size, 1, none⟩ = some (.int .i64 0) := O2.cell 1
  have q2 : w2.cell? ⟨w.heap.size, 2, none⟩ = some (.int .i64 0) := O2.cell 2
  have f0 := O2.free 0
  have f1 := O2.free 1
  have f2 := O2.free 2
  have hlt := O2.lt
  have hne : ¬ w.heap.size = w2.heap.size := by omega
  have HO2 := Lib.hid O2; clear O2
  have HB' := Lib.hid (bnext HB.out b2); clear HB; have HB := HB'; clear HB'
  clear b2 HO1
  clear q0 q1 q2 f0 f1 f2 hlt hne
  go_wp2_with fail
  refine (HS.out _ HB.out).mono ?_; rintro e3 w3 ⟨rfl, b3⟩
  have O3 := HO2.out.below b3 HO2.out.lt
  have q0 : w3.cell? ⟨w.heap.size, 0, none⟩ = some (.int .i64 0) := O3.cell 0
  have q1 : w3.cell? ⟨w.heap.size, 1, none⟩ = some (.int .i64 0) := O3.cell 1
  have q2 : w3.cell? ⟨w.heap.size, 2, none⟩ = some (.int .i64 0) := O3.cell 2
  have f0 := O3.free 0
  have f1 := O3.free 1
  have f2 := O3.free 2
  have hlt := O3.lt
  have hne : ¬ w.heap.size = w3.heap.size := by omega
  have HO3 := Lib.hid O3; clear O3
  have HB' := Lib.hid (bnext HB.out b3); clear HB; have HB := HB'; clear HB' HO2 b3 HS
  go_wp2_with fail
  have hb := HB.out
  exact bodyPost_ret (v := .tuple #[.agg #[.int .i64 al.copper, .int .i64 al.tin, .int .i64 al.other], .int .i64 m, .int .i64 0]) (by simp [results, Tryd.results27, go_sem, q0, q1, q2, hlt, hne]) rfl ⟨rfl, by (repeat' (first | (with_reducible exact Below.refl _ _) | (with_reducible assumption) | (with_reducible refine below_dn ?_ _) | (with_reducible refine Below.drew ?_) | (with_reducible refine Below.alloc ?_ ?_ _) | (with_reducible refine Below.setCell ?_ ?_ _) | go_size))⟩
end Go.Proofs.YtklgkbiobggbiaaDoor
namespace Go.Proofs.YtklgkbiobggbiaaDoor
open Go.ChangeShapes Go.WideShapes Go.ChangeAt Go.RowKit Go.Deep Go.Joins
set_option linter.unusedVariables false
set_option maxRecDepth 100000
set_option linter.unusedSimpArgs false
theorem laid_tail {P : Program} {w : World} {x : String × DataW Unit} {rest : List (String × DataW Unit)} (h : laidMet P (x :: rest) w) : laidMet P rest w := by
  obtain ⟨ps, ⟨g, t, cs, fuel, p, q, _, _, _, _, hl, rfl⟩, hn, ha⟩ := h
  exact ⟨q, hl, (List.nodup_append.1 hn).2.1, fun b off hp => ha b off (List.mem_append_right _ hp)⟩
theorem gPow : Tryd.prog.globalNamed "internal/strconv.uint64pow10" = some 5 := by kernel_rfl
theorem pow_cells_u64 : Tryd.prog.cellsOf 127 = 1 := by kernel_rfl
theorem pow_cells : Tryd.prog.cellsOf 193 = 20 := by kernel_rfl
theorem pow10_of {W : World} {rest : List (String × DataW Unit)} (h : laidMet Tryd.prog (("internal/strconv.uint64pow10", Rows.laid_internal_strconv_uint64pow10) :: rest) W) : Pow10 W := by
  have e : (Rows.laid_internal_strconv_uint64pow10 : DataW Unit) = Lib.tabData .u64 Lib.pow10Tab := by kernel_rfl
  rw [e] at h
  exact Lib.tabIs_of_head (rest := rest) gPow (t := 193) (by kernel_rfl) Tryd.underlying193 Tryd.underlying127 pow_cells_u64 pow_cells h
end Go.Proofs.YtklgkbiobggbiaaDoor
