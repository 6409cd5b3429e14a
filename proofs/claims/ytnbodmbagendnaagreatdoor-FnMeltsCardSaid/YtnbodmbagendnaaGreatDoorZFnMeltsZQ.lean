/- Contracts and plain facts, joined: ReadMeI. -/
import Derived.Test.YtnbodmbagendnaaGreatDoorRows
import Derived.Test.YtnbodmbagendnaaGreatDoorZFnMeltsP
import Derived.Test.YtnbodmbagendnaaGreatDoorZFnMeltsZO
import Derived.Test.YtnbodmbagendnaaGreatDoorZFnMeltsZP
namespace Go.Proofs.YtnbodmbagendnaaGreatDoor
open Go.ChangeShapes Go.WideShapes Go.ChangeAt Go.RowKit Go.Deep Go.Joins
set_option linter.unusedVariables false
set_option maxRecDepth 100000
set_option linter.unusedSimpArgs false
theorem split_row (c : UInt8) (s : ByteArray) (w : World) (hs : s.size ≤ 1048576) (hm : MaxL w) :
    Calls Tryz.prog 33 #[.string s, .string ⟨#[c]⟩] w fun e w' => ∃ r, e = .returned r ∧ w'.ownsRow w.heap.size 9 1 r (partsS c s).length ((partsS c s).flatMap putStr) ∧ Below w.heap.size w w' :=
  (impl_Split c s w hs hm).mono fun e w' ⟨h1, h2, h3⟩ => by
    have hl := partsS_len c s
    have hp := putStr_len (partsS c s)
    refine ⟨_, h1, ⟨hp, .inr ⟨w.heap.size, (partsS c s).length, ((partsS c s).flatMap putStr).toArray, rfl, Nat.le_refl _, h2, Nat.le_refl _, by unfold maxLen; omega, by simpa using hp, ?_⟩⟩, h3⟩
    rw [List.toList_toArray]
    exact List.take_of_length_le (by omega)
set_option maxHeartbeats 8000000 in
theorem impl_ReadMelt (s : ByteArray) (w : World) (hs : s.size ≤ 1048576) (hm0 : MaxL w) (hp : Pow10 w) (he : ErrS w) :
    Calls Tryz.prog 10 #[.string s] w fun e w' => MeltIs w' w.heap.size s e ∧ Below w.heap.size w w' := by
  have HM := Lib.hid hm0; clear hm0
  have HP := Lib.hid hp; clear hp
  have HE := Lib.hid he; clear he
  have HR0 : Hid (Own (w.alloc (.cells #[.string ⟨#[]⟩, .slice none 0 0, .int .i64 0] 28)) w.heap.size 28 [.string ⟨#[]⟩, .slice none 0 0, .int .i64 0]) := Lib.hid (Own.new w _ _)
  have HB0 : Hid (Below w.heap.size w (w.alloc (.cells #[.string ⟨#[]⟩, .slice none 0 0, .int .i64 0] 28))) := Lib.hid ((Below.refl _ _).alloc (Nat.le_refl _) _)
  have H32 := Lib.hid (fun (w' : World) (h1 : MaxL w') => split_row 32 s w' hs h1)
  have hwz := Lib.hid (fun x (hx : x ∈ partsS 32 s) => partsS_size x hx)
  by_cases h3 : (partsS 32 s).length = 3
  case neg =>
    have e := Lib.hid (meltV_none (meltR_not3 h3))
    have t2 : (((partsS 32 s).length : Int) != 3) = true := bne_iff_ne.2 (by omega)
    clear h3
    generalize partsS 32 s = ws at *
    go_enter Tryz.func10, Tryz.ntmps10
    go_wp2_with fail
    refine (H32.out _ (HM.out.below HB0.out)).mono ?_; rintro e w1 ⟨rv, rfl, o1, b1⟩
    obtain ⟨ro, rx, rfl⟩ := (own_rd o1).form
    have HR1 := Lib.hid (HR0.out.below b1 HR0.out.lt)
    have HB1 := Lib.hid (bnext HB0.out b1)
    clear o1 b1 HR0 HB0
    have q0 : w1.cell? ⟨w.heap.size, 0, none⟩ = some (.string ⟨#[]⟩) := HR1.out.cell 0
    have q1 : w1.cell? ⟨w.heap.size, 1, none⟩ = some (.slice none 0 0) := HR1.out.cell 1
    have q2 : w1.cell? ⟨w.heap.size, 2, none⟩ = some (.int .i64 0) := HR1.out.cell 2
    have fq0 := HR1.out.free 0
    have fq1 := HR1.out.free 1
    have fq2 := HR1.out.free 2
    have hltq : w.heap.size < w1.heap.size := HR1.out.lt
    have hneq : ¬ w.heap.size = w1.heap.size := Nat.ne_of_lt HR1.out.lt
    go_wp2_with fail
    have hb := HB1.out
    exact bodyPost_ret (v := .tuple #[.agg #[.string ⟨#[]⟩, .slice none 0 0, .int .i64 0], .bool false]) (by simp [results, Tryz.results10, go_sem, q0, q1, q2, hltq, hneq]) rfl ⟨⟨.slice none 0 0, by rw [e.out.1, e.out.2]; try rfl, by rw [e.out.1]; exact own_nil _ _ _ _⟩, by (repeat' (first | (with_reducible exact Below.refl _ _) | (with_reducible assumption) | (with_reducible refine below_dn ?_ _) | (with_reducible refine Below.drew ?_) | (with_reducible refine Below.alloc ?_ ?_ _) | (with_reducible refine Below.setCell ?_ ?_ _) | go_size))⟩
  obtain ⟨a, b, c, hab⟩ := three_of h3
  have hsb : b.size ≤ 1048576 := Nat.le_trans (hwz.out b (by rw [hab]; simp)) hs
  have hsc : c.size ≤ 2147483647 := Nat.le_trans (hwz.out c (by rw [hab]; simp)) (by omega)
  have HD := Lib.hid (fun (w' : World) (h1 : Pow10 w') (h2 : ErrS w') => impl_ReadDecimal c w' hsc h1 h2)
  have H44 := Lib.hid (fun (w' : World) (h1 : MaxL w') => split_row 44 b w' hsb h1)
  rw [hab] at H32
  have H32' : Hid (∀ w' : World, MaxL w' → Calls Tryz.prog 33 #[.string s, .string ⟨#[32]⟩] w' fun e w'' => ∃ r, e = .returned r ∧ w''.ownsRow w'.heap.size 9 1 r 3 ([a, b, c].flatMap putStr) ∧ Below w'.heap.size w' w'') := H32
  have es := parts_three hab
  have hsz : s.size = a.size + 1 + b.size + 1 + c.size := by rw [es]; simp only [ByteArray.size_append]; rfl
  have hpl := partsS_len 44 b
  have hids1 : (partsS 44 b).length ≤ 1048576 := by omega
  have hids2 := Lib.hid (fun x (hx : x ∈ partsS 44 b) => (show x.size ≤ maxLen by have := partsS_size x hx; unfold maxLen; omega))
  have hsa : Hid (a.size ≤ maxLen) := Lib.hid (by unfold maxLen; omega)
  have ht := Lib.hid (melt_tests hab)
  have hm : Hid (I64 (numV c)) := Lib.hid (by have := numV_bd c; exact ⟨by omega, by omega⟩)
  clear hpl es hsz
  generalize numV c = m at *
  generalize (numS c).isSome = ok at *
  generalize hids : partsS 44 b = ids at *
  clear h3 hwz H32 hids hab
  cases hbm : meltB (mkMelt a ids m)
  · have e := Lib.hid (meltV_none (s := s) (ht.out.2.1 hbm))
    clear ht
    go_enter Tryz.func10, Tryz.ntmps10
    go_wp2_with fail
    refine (H32'.out _ (HM.out.below HB0.out)).mono ?_; rintro e w1 ⟨rv, rfl, o1, b1⟩
    obtain ⟨gx, cx, U, rfl, hgx0, ow⟩ := three_ownM o1
    have HW1 := Lib.hid ow
    have d0 : w1.cell? ⟨gx, 0, none⟩ = some (.string a) := ow.cell 0
    have d1 : w1.cell? ⟨gx, 1, none⟩ = some (.string b) := ow.cell 1
    have hgx : gx < w1.heap.size := ow.lt
    have hgw : w.heap.size < gx := by have q := hgx0; simp at q; omega
    have HR1 := Lib.hid (HR0.out.below b1 HR0.out.lt)
    have HB1 := Lib.hid (bnext HB0.out b1)
    clear o1 b1 HR0 HB0 ow hgx0
    go_wp2_with fail
    have hne1 : ¬ gx = w1.heap.size := by omega
    have hne2 : ¬ w1.heap.size = gx := by omega
    go_region_held3 (fun w' => w'.cell? ⟨gx, 0, none⟩ = some (.string a) ∧ w'.cell? ⟨gx, 1, none⟩ = some (.string b)) (first | assumption | go_keep | (simp [go_sem, hne1, hne2]; first | exact HS3.1 | exact HS3.2) | (simp [go_sem, hne1, hne2, HS3.1, HS3.2]; done)) (first
        | (go_at_call 33
           refine (H44.out _ (HM.out.below (HB1.out.trans ((by (repeat' (first | (with_reducible exact Below.refl _ _) | (with_reducible assumption) | (with_reducible refine below_dn ?_ _) | (with_reducible refine Below.drew ?_) | (with_reducible refine Below.alloc ?_ ?_ _) | (with_reducible refine Below.setCell ?_ ?_ _) | go_size)) : Below w1.heap.size w1 _).mono HB1.out.size)))).mono ?_; rintro e w3 ⟨rl, rfl, o3, b3⟩
           obtain ⟨lo, lc, rfl⟩ := (own_rd o3).form
           have B3 : Below w1.heap.size w1 w3 := Below.trans (by (repeat' (first | (with_reducible exact Below.refl _ _) | (with_reducible assumption) | (with_reducible refine below_dn ?_ _) | (with_reducible refine Below.drew ?_) | (with_reducible refine Below.alloc ?_ ?_ _) | (with_reducible refine Below.setCell ?_ ?_ _) | go_size))) (b3.mono (by simp <;> omega))
           have HS3 : w3.cell? ⟨gx, 0, none⟩ = some (.string a) ∧ w3.cell? ⟨gx, 1, none⟩ = some (.string b) := ⟨(B3.cell (p := ⟨gx, 0, none⟩) hgx).trans d0, (B3.cell (p := ⟨gx, 1, none⟩) hgx).trans d1⟩
           have hg3 : gx < w3.heap.size := Nat.lt_of_lt_of_le hgx B3.size
           have O3 := Lib.hid o3
           have HB3 := Lib.hid B3
           first
             | (have b3' : Below (w1.alloc (.cells #[.string ⟨#[]⟩, .slice none 0 0, .int .i64 0] 28)).drew.heap.size (w1.alloc (.cells #[.string ⟨#[]⟩, .slice none 0 0, .int .i64 0] 28)).drew w3 := b3
                have ON : Own (w1.alloc (.cells #[.string ⟨#[]⟩, .slice none 0 0, .int .i64 0] 28)).drew w1.heap.size 28 [.string ⟨#[]⟩, .slice none 0 0, .int .i64 0] := Own.new w1 _ _
                have OX : Hid (Own w3 w1.heap.size 28 [.string ⟨#[]⟩, .slice none 0 0, .int .i64 0]) := Lib.hid (ON.below b3' ON.lt)
                have x0 : w3.cell? ⟨w1.heap.size, 0, none⟩ = some (.string ⟨#[]⟩) := OX.out.cell 0
                have x1 : w3.cell? ⟨w1.heap.size, 1, none⟩ = some (.slice none 0 0) := OX.out.cell 1
                have x2 : w3.cell? ⟨w1.heap.size, 2, none⟩ = some (.int .i64 0) := OX.out.cell 2
                have fx0 := OX.out.free 0
                have fx1 := OX.out.free 1
                have fx2 := OX.out.free 2
                have hltx := OX.out.lt
                have hnex : ¬ w1.heap.size = w3.heap.size := Nat.ne_of_lt OX.out.lt
                clear b3 o3 B3 b3' ON)
             | clear b3 o3 B3))
    · have HO3 : Hid (w3.ownsRow w.heap.size 9 1 (.slice lo ids.length lc) ids.length (ids.flatMap putStr)) := Lib.hid (own_baseM O3.out (by show w.heap.size ≤ w1.heap.size; exact HB1.out.size))
      have F1 : Hid (Own (w3.alloc (.cells #[.string a, .slice lo ids.length lc, .int .i64 0] 28)) w3.heap.size 28 [.string a, .slice lo ids.length lc, .int .i64 0]) := Lib.hid (Own.new w3 _ _)
      have F2 : Hid ((w3.alloc (.cells #[.string a, .slice lo ids.length lc, .int .i64 0] 28)).ownsRow w.heap.size 9 1 (.slice lo ids.length lc) ids.length (ids.flatMap putStr)) := Lib.hid (HO3.out.alloc _)
      have F3 : Hid (Own (w3.alloc (.cells #[.string a, .slice lo ids.length lc, .int .i64 0] 28)) w.heap.size 28 [.string ⟨#[]⟩, .slice none 0 0, .int .i64 0]) := Lib.hid ((HR1.out.below HB3.out HR1.out.lt).alloc _)
      have F5 : Hid (Own (w3.alloc (.cells #[.string a, .slice lo ids.length lc, .int .i64 0] 28)) gx 9 ([a, b, c].flatMap putStr ++ U)) := Lib.hid ((HW1.out.below HB3.out HW1.out.lt).alloc _)
      have F4' := bnext HB1.out HB3.out
      have F4 : Hid (Below w.heap.size w (w3.alloc (.cells #[.string a, .slice lo ids.length lc, .int .i64 0] 28))) := Lib.hid (F4'.alloc F4'.size _)
      have hgl : w.heap.size < w3.heap.size := Nat.lt_of_lt_of_le HR1.out.lt HB3.out.size
      clear HS3 O3 HO3 HB3 HW1 HR1 HB1 d0 d1 hne1 hne2 hg3 F4'
      generalize (w3.alloc (.cells #[.string a, .slice lo ids.length lc, .int .i64 0] 28)) = w4 at *
      generalize w3.heap.size = gX at *
      have d2 : w4.cell? ⟨gx, 2, none⟩ = some (.string c) := F5.out.cell 2
      have hgx4 : gx < w4.heap.size := F5.out.lt
      go_wp2_with fail
      refine (HD.out _ (HP.out.below F4.out) (HE.out.below F4.out)).mono ?_; rintro e w5 ⟨rfl, b5⟩
      have HX5 := Lib.hid (F1.out.below b5 F1.out.lt)
      have HR5 := Lib.hid (F3.out.below b5 F3.out.lt)
      have HO5 := Lib.hid (own_below F2.out b5 (Nat.le_refl _))
      have HB5 := Lib.hid (bnext F4.out b5)
      clear b5 F1 F2 F3 F4 F5 d2 hgx4
      have x0 : w5.cell? ⟨gX, 0, none⟩ = some (.string a) := HX5.out.cell 0
      have x1 : w5.cell? ⟨gX, 1, none⟩ = some (.slice lo ids.length lc) := HX5.out.cell 1
      have x2 : w5.cell? ⟨gX, 2, none⟩ = some (.int .i64 0) := HX5.out.cell 2
      have fx0 := HX5.out.free 0
      have fx1 := HX5.out.free 1
      have fx2 := HX5.out.free 2
      have hltx : gX < w5.heap.size := HX5.out.lt
      have hnex : ¬ gX = w5.heap.size := Nat.ne_of_lt HX5.out.lt
      have hX6 : Hid (Own (w5.setCell ⟨gX, 2, none⟩ (.int .i64 m)) gX 28 [.string a, .slice lo ids.length lc, .int .i64 m]) := Lib.hid (HX5.out.set 2 (.int .i64 m))
      have hR6 := Lib.hid (HR5.out.other (a := ⟨gX, 2, none⟩) (by show gX ≠ w.heap.size; omega) (.int .i64 m))
      have hO6 := Lib.hid (own_setM HO5.out HX5.out (by decide) 2 (.int .i64 m))
      have hB6 : Hid (Below w.heap.size w (w5.setCell ⟨gX, 2, none⟩ (.int .i64 m))) := Lib.hid (Below.setCell HB5.out (by show w.heap.size ≤ gX; omega) _)
      have hx : Hid ((⟨a, .slice lo ids.length lc, ids, m⟩ : Melt).ok (w5.setCell ⟨gX, 2, none⟩ (.int .i64 m))) := Lib.hid ⟨hsa.out, ⟨own_rd hO6.out, by unfold maxLen; show ids.length ≤ _; omega, hids2.out⟩, hm.out⟩
      have HV := Lib.hid (impl_ValidMelt_is ⟨a, .slice lo ids.length lc, ids, m⟩ _ hx.out hids1 hbm)
      clear HX5 HR5 HO5 HB5
      go_wp2_with fail
      refine HV.out.mono ?_; rintro e w7 ⟨rfl, b7⟩
      have HX7 := Lib.hid (hX6.out.below b7 hX6.out.lt)
      have HR7 := Lib.hid (hR6.out.below b7 hR6.out.lt)
      have HO7 := Lib.hid (own_below hO6.out b7 (Nat.le_refl _))
      have HB7 := Lib.hid (bnext hB6.out b7)
      clear b7 hX6 hR6 hO6 hB6 hx HV x0 x1 x2 fx0 fx1 fx2 hltx hnex
      have q0 : w7.cell? ⟨w.heap.size, 0, none⟩ = some (.string ⟨#[]⟩) := HR7.out.cell 0
      have q1 : w7.cell? ⟨w.heap.size, 1, none⟩ = some (.slice none 0 0) := HR7.out.cell 1
      have q2 : w7.cell? ⟨w.heap.size, 2, none⟩ = some (.int .i64 0) := HR7.out.cell 2
      have fq0 := HR7.out.free 0
      have fq1 := HR7.out.free 1
      have fq2 := HR7.out.free 2
      have hltq : w.heap.size < w7.heap.size := HR7.out.lt
      have hneq : ¬ w.heap.size = w7.heap.size := Nat.ne_of_lt HR7.out.lt
      go_wp2_with fail
      have hb := HB7.out
      exact bodyPost_ret (v := .tuple #[.agg #[.string ⟨#[]⟩, .slice none 0 0, .int .i64 0], .bool false]) (by simp [results, Tryz.results10, go_sem, q0, q1, q2, hltq, hneq]) rfl ⟨⟨.slice none 0 0, by rw [e.out.1, e.out.2]; try rfl, by rw [e.out.1]; exact own_nil _ _ _ _⟩, by (repeat' (first | (with_reducible exact Below.refl _ _) | (with_reducible assumption) | (with_reducible refine below_dn ?_ _) | (with_reducible refine Below.drew ?_) | (with_reducible refine Below.alloc ?_ ?_ _) | (with_reducible refine Below.setCell ?_ ?_ _) | go_size))⟩
    · have HO3 : Hid (w3.ownsRow w.heap.size 9 1 (.slice lo ids.length lc) ids.length (ids.flatMap putStr)) := Lib.hid (own_baseM O3.out (by have := HB1.out.size; simp; omega))
      have F1 : Hid (Own (((w3.setCell ⟨w1.heap.size, 0, none⟩ (.string a)).setCell ⟨w1.heap.size, 1, none⟩ (.slice lo ids.length lc)).setCell ⟨w1.heap.size, 2, none⟩ (.int .i64 0)) w1.heap.size 28 [.string a, .slice lo ids.length lc, .int .i64 0]) := Lib.hid (((OX.out.set 0 (.string a)).set 1 (.slice lo ids.length lc)).set 2 (.int .i64 0))
      have F2 : Hid ((((w3.setCell ⟨w1.heap.size, 0, none⟩ (.string a)).setCell ⟨w1.heap.size, 1, none⟩ (.slice lo ids.length lc)).setCell ⟨w1.heap.size, 2, none⟩ (.int .i64 0)).ownsRow w.heap.size 9 1 (.slice lo ids.length lc) ids.length (ids.flatMap putStr)) := Lib.hid (own_set3 HO3.out OX.out (by decide))
      have F3 : Hid (Own (((w3.setCell ⟨w1.heap.size, 0, none⟩ (.string a)).setCell ⟨w1.heap.size, 1, none⟩ (.slice lo ids.length lc)).setCell ⟨w1.heap.size, 2, none⟩ (.int .i64 0)) w.heap.size 28 [.string ⟨#[]⟩, .slice none 0 0, .int .i64 0]) := Lib.hid ((((HR1.out.below HB3.out HR1.out.lt).other (a := ⟨w1.heap.size, 0, none⟩) (by have := HR1.out.lt; show w1.heap.size ≠ w.heap.size; omega) _).other (a := ⟨w1.heap.size, 1, none⟩) (by have := HR1.out.lt; show w1.heap.size ≠ w.heap.size; omega) _).other (a := ⟨w1.heap.size, 2, none⟩) (by have := HR1.out.lt; show w1.heap.size ≠ w.heap.size; omega) _)
      have F5 : Hid (Own (((w3.setCell ⟨w1.heap.size, 0, none⟩ (.string a)).setCell ⟨w1.heap.size, 1, none⟩ (.slice lo ids.length lc)).setCell ⟨w1.heap.size, 2, none⟩ (.int .i64 0)) gx 9 ([a, b, c].flatMap putStr ++ U)) := Lib.hid ((((HW1.out.below HB3.out HW1.out.lt).other (a := ⟨w1.heap.size, 0, none⟩) (by show w1.heap.size ≠ gx; omega) _).other (a := ⟨w1.heap.size, 1, none⟩) (by show w1.heap.size ≠ gx; omega) _).other (a := ⟨w1.heap.size, 2, none⟩) (by show w1.heap.size ≠ gx; omega) _)
      have F4' := bnext HB1.out HB3.out
      have F4 : Hid (Below w.heap.size w (((w3.setCell ⟨w1.heap.size, 0, none⟩ (.string a)).setCell ⟨w1.heap.size, 1, none⟩ (.slice lo ids.length lc)).setCell ⟨w1.heap.size, 2, none⟩ (.int .i64 0))) := Lib.hid (Below.setCell (Below.setCell (Below.setCell F4' (by show w.heap.size ≤ w1.heap.size; exact HB1.out.size) _) (by show w.heap.size ≤ w1.heap.size; exact HB1.out.size) _) (by show w.heap.size ≤ w1.heap.size; exact HB1.out.size) _)
      have hgl : w.heap.size < w1.heap.size := HR1.out.lt
      clear HS3 O3 HO3 HB3 HW1 HR1 HB1 d0 d1 hne1 hne2 hg3 F4' OX x0 x1 x2 fx0 fx1 fx2 hltx hnex
      generalize (((w3.setCell ⟨w1.heap.size, 0, none⟩ (.string a)).setCell ⟨w1.heap.size, 1, none⟩ (.slice lo ids.length lc)).setCell ⟨w1.heap.size, 2, none⟩ (.int .i64 0)) = w4 at *
      generalize w1.heap.size = gX at *
      have d2 : w4.cell? ⟨gx, 2, none⟩ = some (.string c) := F5.out.cell 2
      have hgx4 : gx < w4.heap.size := F5.out.lt
      go_wp2_with fail
      refine (HD.out _ (HP.out.below F4.out) (HE.out.below F4.out)).mono ?_; rintro e w5 ⟨rfl, b5⟩
      have HX5 := Lib.hid (F1.out.below b5 F1.out.lt)
      have HR5 := Lib.hid (F3.out.below b5 F3.out.lt)
      have HO5 := Lib.hid (own_below F2.out b5 (Nat.le_refl _))
      have HB5 := Lib.hid (bnext F4.out b5)
      clear b5 F1 F2 F3 F4 F5 d2 hgx4
      have x0 : w5.cell? ⟨gX, 0, none⟩ = some (.string a) := HX5.out.cell 0
      have x1 : w5.cell? ⟨gX, 1, none⟩ = some (.slice lo ids.length lc) := HX5.out.cell 1
      have x2 : w5.cell? ⟨gX, 2, none⟩ = some (.int .i64 0) := HX5.out.cell 2
      have fx0 := HX5.out.free 0
      have fx1 := HX5.out.free 1
      have fx2 := HX5.out.free 2
      have hltx : gX < w5.heap.size := HX5.out.lt
      have hnex : ¬ gX = w5.heap.size := Nat.ne_of_lt HX5.out.lt
      have hX6 : Hid (Own (w5.setCell ⟨gX, 2, none⟩ (.int .i64 m)) gX 28 [.string a, .slice lo ids.length lc, .int .i64 m]) := Lib.hid (HX5.out.set 2 (.int .i64 m))
      have hR6 := Lib.hid (HR5.out.other (a := ⟨gX, 2, none⟩) (by show gX ≠ w.heap.size; omega) (.int .i64 m))
      have hO6 := Lib.hid (own_setM HO5.out HX5.out (by decide) 2 (.int .i64 m))
      have hB6 : Hid (Below w.heap.size w (w5.setCell ⟨gX, 2, none⟩ (.int .i64 m))) := Lib.hid (Below.setCell HB5.out (by show w.heap.size ≤ gX; omega) _)
      have hx : Hid ((⟨a, .slice lo ids.length lc, ids, m⟩ : Melt).ok (w5.setCell ⟨gX, 2, none⟩ (.int .i64 m))) := Lib.hid ⟨hsa.out, ⟨own_rd hO6.out, by unfold maxLen; show ids.length ≤ _; omega, hids2.out⟩, hm.out⟩
      have HV := Lib.hid (impl_ValidMelt_is ⟨a, .slice lo ids.length lc, ids, m⟩ _ hx.out hids1 hbm)
      clear HX5 HR5 HO5 HB5
      go_wp2_with fail
      refine HV.out.mono ?_; rintro e w7 ⟨rfl, b7⟩
      have HX7 := Lib.hid (hX6.out.below b7 hX6.out.lt)
      have HR7 := Lib.hid (hR6.out.below b7 hR6.out.lt)
      have HO7 := Lib.hid (own_below hO6.out b7 (Nat.le_refl _))
      have HB7 := Lib.hid (bnext hB6.out b7)
      clear b7 hX6 hR6 hO6 hB6 hx HV x0 x1 x2 fx0 fx1 fx2 hltx hnex
      have q0 : w7.cell? ⟨w.heap.size, 0, none⟩ = some (.string ⟨#[]⟩) := HR7.out.cell 0
      have q1 : w7.cell? ⟨w.heap.size, 1, none⟩ = some (.slice none 0 0) := HR7.out.cell 1
      have q2 : w7.cell? ⟨w.heap.size, 2, none⟩ = some (.int .i64 0) := HR7.out.cell 2
      have fq0 := HR7.out.free 0
      have fq1 := HR7.out.free 1
      have fq2 := HR7.out.free 2
      have hltq : w.heap.size < w7.heap.size := HR7.out.lt
      have hneq : ¬ w.heap.size = w7.heap.size := Nat.ne_of_lt HR7.out.lt
      go_wp2_with fail
      have hb := HB7.out
      exact bodyPost_ret (v := .tuple #[.agg #[.string ⟨#[]⟩, .slice none 0 0, .int .i64 0], .bool false]) (by simp [results, Tryz.results10, go_sem, q0, q1, q2, hltq, hneq]) rfl ⟨⟨.slice none 0 0, by rw [e.out.1, e.out.2]; try rfl, by rw [e.out.1]; exact own_nil _ _ _ _⟩, by (repeat' (first | (with_reducible exact Below.refl _ _) | (with_reducible assumption) | (with_reducible refine below_dn ?_ _) | (with_reducible refine Below.drew ?_) | (with_reducible refine Below.alloc ?_ ?_ _) | (with_reducible refine Below.setCell ?_ ?_ _) | go_size))⟩
  · obtain ⟨tx, htx0⟩ : ∃ tx, meltT (mkMelt a ids m) = tx := ⟨_, rfl⟩
    have htx := Lib.hid htx0
    rw [htx0] at ht
    by_cases hq : tx = s
    · have e := Lib.hid (meltV_some (s := s) (ht.out.1 hbm hq))
      have t5 := text_eq hq
      clear ht hq htx0
      go_enter Tryz.func10, Tryz.ntmps10
      go_wp2_with fail
      refine (H32'.out _ (HM.out.below HB0.out)).mono ?_; rintro e w1 ⟨rv, rfl, o1, b1⟩
      obtain ⟨gx, cx, U, rfl, hgx0, ow⟩ := three_ownM o1
      have HW1 := Lib.hid ow
      have d0 : w1.cell? ⟨gx, 0, none⟩ = some (.string a) := ow.cell 0
      have d1 : w1.cell? ⟨gx, 1, none⟩ = some (.string b) := ow.cell 1
      have hgx : gx < w1.heap.size := ow.lt
      have hgw : w.heap.size < gx := by have q := hgx0; simp at q; omega
      have HR1 := Lib.hid (HR0.out.below b1 HR0.out.lt)
      have HB1 := Lib.hid (bnext HB0.out b1)
      clear o1 b1 HR0 HB0 ow hgx0
      go_wp2_with fail
      have hne1 : ¬ gx = w1.heap.size := by omega
      have hne2 : ¬ w1.heap.size = gx := by omega
      go_region_held3 (fun w' => w'.cell? ⟨gx, 0, none⟩ = some (.string a) ∧ w'.cell? ⟨gx, 1, none⟩ = some (.string b)) (first | assumption | go_keep | (simp [go_sem, hne1, hne2]; first | exact HS3.1 | exact HS3.2) | (simp [go_sem, hne1, hne2, HS3.1, HS3.2]; done)) (first
          | (go_at_call 33
             refine (H44.out _ (HM.out.below (HB1.out.trans ((by (repeat' (first | (with_reducible exact Below.refl _ _) | (with_reducible assumption) | (with_reducible refine below_dn ?_ _) | (with_reducible refine Below.drew ?_) | (with_reducible refine Below.alloc ?_ ?_ _) | (with_reducible refine Below.setCell ?_ ?_ _) | go_size)) : Below w1.heap.size w1 _).mono HB1.out.size)))).mono ?_; rintro e w3 ⟨rl, rfl, o3, b3⟩
             obtain ⟨lo, lc, rfl⟩ := (own_rd o3).form
             have B3 : Below w1.heap.size w1 w3 := Below.trans (by (repeat' (first | (with_reducible exact Below.refl _ _) | (with_reducible assumption) | (with_reducible refine below_dn ?_ _) | (with_reducible refine Below.drew ?_) | (with_reducible refine Below.alloc ?_ ?_ _) | (with_reducible refine Below.setCell ?_ ?_ _) | go_size))) (b3.mono (by simp <;> omega))
             have HS3 : w3.cell? ⟨gx, 0, none⟩ = some (.string a) ∧ w3.cell? ⟨gx, 1, none⟩ = some (.string b) := ⟨(B3.cell (p := ⟨gx, 0, none⟩) hgx).trans d0, (B3.cell (p := ⟨gx, 1, none⟩) hgx).trans d1⟩
             have hg3 : gx < w3.heap.size := Nat.lt_of_lt_of_le hgx B3.size
             have O3 := Lib.hid o3
             have HB3 := Lib.hid B3
             first
               | (have b3' : Below (w1.alloc (.cells #[.string ⟨#[]⟩, .slice none 0 0, .int .i64 0] 28)).drew.heap.size (w1.alloc (.cells #[.string ⟨#[]⟩, .slice none 0 0, .int .i64 0] 28)).drew w3 := b3
                  have ON : Own (w1.alloc (.cells #[.string ⟨#[]⟩, .slice none 0 0, .int .i64 0] 28)).drew w1.heap.size 28 [.string ⟨#[]⟩, .slice none 0 0, .int .i64 0] := Own.new w1 _ _
                  have OX : Hid (Own w3 w1.heap.size 28 [.string ⟨#[]⟩, .slice none 0 0, .int .i64 0]) := Lib.hid (ON.below b3' ON.lt)
                  have x0 : w3.cell? ⟨w1.heap.size, 0, none⟩ = some (.string ⟨#[]⟩) := OX.out.cell 0
                  have x1 : w3.cell? ⟨w1.heap.size, 1, none⟩ = some (.slice none 0 0) := OX.out.cell 1
                  have x2 : w3.cell? ⟨w1.heap.size, 2, none⟩ = some (.int .i64 0) := OX.out.cell 2
                  have fx0 := OX.out.free 0
                  have fx1 := OX.out.free 1
                  have fx2 := OX.out.free 2
                  have hltx := OX.out.lt
                  have hnex : ¬ w1.heap.size = w3.heap.size := Nat.ne_of_lt OX.out.lt
                  clear b3 o3 B3 b3' ON)
               | clear b3 o3 B3))
      · have HO3 : Hid (w3.ownsRow w.heap.size 9 1 (.slice lo ids.length lc) ids.length (ids.flatMap putStr)) := Lib.hid (own_baseM O3.out (by show w.heap.size ≤ w1.heap.size; exact HB1.out.size))
        have F1 : Hid (Own (w3.alloc (.cells #[.string a, .slice lo ids.length lc, .int .i64 0] 28)) w3.heap.size 28 [.string a, .slice lo ids.length lc, .int .i64 0]) := Lib.hid (Own.new w3 _ _)
        have F2 : Hid ((w3.alloc (.cells #[.string a, .slice lo ids.length lc, .int .i64 0] 28)).ownsRow w.heap.size 9 1 (.slice lo ids.length lc) ids.length (ids.flatMap putStr)) := Lib.hid (HO3.out.alloc _)
        have F3 : Hid (Own (w3.alloc (.cells #[.string a, .slice lo ids.length lc, .int .i64 0] 28)) w.heap.size 28 [.string ⟨#[]⟩, .slice none 0 0, .int .i64 0]) := Lib.hid ((HR1.out.below HB3.out HR1.out.lt).alloc _)
        have F5 : Hid (Own (w3.alloc (.cells #[.string a, .slice lo ids.length lc, .int .i64 0] 28)) gx 9 ([a, b, c].flatMap putStr ++ U)) := Lib.hid ((HW1.out.below HB3.out HW1.out.lt).alloc _)
        have F4' := bnext HB1.out HB3.out
        have F4 : Hid (Below w.heap.size w (w3.alloc (.cells #[.string a, .slice lo ids.length lc, .int .i64 0] 28))) := Lib.hid (F4'.alloc F4'.size _)
        have hgl : w.heap.size < w3.heap.size := Nat.lt_of_lt_of_le HR1.out.lt HB3.out.size
        clear HS3 O3 HO3 HB3 HW1 HR1 HB1 d0 d1 hne1 hne2 hg3 F4'
        generalize (w3.alloc (.cells #[.string a, .slice lo ids.length lc, .int .i64 0] 28)) = w4 at *
        generalize w3.heap.size = gX at *
        have d2 : w4.cell? ⟨gx, 2, none⟩ = some (.string c) := F5.out.cell 2
        have hgx4 : gx < w4.heap.size := F5.out.lt
        go_wp2_with fail
        refine (HD.out _ (HP.out.below F4.out) (HE.out.below F4.out)).mono ?_; rintro e w5 ⟨rfl, b5⟩
        have HX5 := Lib.hid (F1.out.below b5 F1.out.lt)
        have HR5 := Lib.hid (F3.out.below b5 F3.out.lt)
        have HO5 := Lib.hid (own_below F2.out b5 (Nat.le_refl _))
        have HB5 := Lib.hid (bnext F4.out b5)
        clear b5 F1 F2 F3 F4 F5 d2 hgx4
        have x0 : w5.cell? ⟨gX, 0, none⟩ = some (.string a) := HX5.out.cell 0
        have x1 : w5.cell? ⟨gX, 1, none⟩ = some (.slice lo ids.length lc) := HX5.out.cell 1
        have x2 : w5.cell? ⟨gX, 2, none⟩ = some (.int .i64 0) := HX5.out.cell 2
        have fx0 := HX5.out.free 0
        have fx1 := HX5.out.free 1
        have fx2 := HX5.out.free 2
        have hltx : gX < w5.heap.size := HX5.out.lt
        have hnex : ¬ gX = w5.heap.size := Nat.ne_of_lt HX5.out.lt
        have hX6 : Hid (Own (w5.setCell ⟨gX, 2, none⟩ (.int .i64 m)) gX 28 [.string a, .slice lo ids.length lc, .int .i64 m]) := Lib.hid (HX5.out.set 2 (.int .i64 m))
        have hR6 := Lib.hid (HR5.out.other (a := ⟨gX, 2, none⟩) (by show gX ≠ w.heap.size; omega) (.int .i64 m))
        have hO6 := Lib.hid (own_setM HO5.out HX5.out (by decide) 2 (.int .i64 m))
        have hB6 : Hid (Below w.heap.size w (w5.setCell ⟨gX, 2, none⟩ (.int .i64 m))) := Lib.hid (Below.setCell HB5.out (by show w.heap.size ≤ gX; omega) _)
        have hx : Hid ((⟨a, .slice lo ids.length lc, ids, m⟩ : Melt).ok (w5.setCell ⟨gX, 2, none⟩ (.int .i64 m))) := Lib.hid ⟨hsa.out, ⟨own_rd hO6.out, by unfold maxLen; show ids.length ≤ _; omega, hids2.out⟩, hm.out⟩
        have HV := Lib.hid (impl_ValidMelt_is ⟨a, .slice lo ids.length lc, ids, m⟩ _ hx.out hids1 hbm)
        clear HX5 HR5 HO5 HB5
        go_wp2_with fail
        refine HV.out.mono ?_; rintro e w7 ⟨rfl, b7⟩
        have HX7 := Lib.hid (hX6.out.below b7 hX6.out.lt)
        have HR7 := Lib.hid (hR6.out.below b7 hR6.out.lt)
        have HO7 := Lib.hid (own_below hO6.out b7 (Nat.le_refl _))
        have HB7 := Lib.hid (bnext hB6.out b7)
        clear b7 hX6 hR6 hO6 hB6 hx HV x0 x1 x2 fx0 fx1 fx2 hltx hnex
        have z0 : w7.cell? ⟨gX, 0, none⟩ = some (.string a) := HX7.out.cell 0
        have z1 : w7.cell? ⟨gX, 1, none⟩ = some (.slice lo ids.length lc) := HX7.out.cell 1
        have z2 : w7.cell? ⟨gX, 2, none⟩ = some (.int .i64 m) := HX7.out.cell 2
        have fz0 := HX7.out.free 0
        have fz1 := HX7.out.free 1
        have fz2 := HX7.out.free 2
        have hltz : gX < w7.heap.size := HX7.out.lt
        have hnez : ¬ gX = w7.heap.size := Nat.ne_of_lt HX7.out.lt
        have hx7 : Hid ((⟨a, .slice lo ids.length lc, ids, m⟩ : Melt).ok w7) := Lib.hid ⟨hsa.out, ⟨own_rd HO7.out, by unfold maxLen; show ids.length ≤ _; omega, hids2.out⟩, hm.out⟩
        have HT := Lib.hid (impl_MeltText ⟨a, .slice lo ids.length lc, ids, m⟩ w7 hx7.out hids1 (HP.out.below HB7.out))
        have HT' : Hid (Calls Tryz.prog 11 #[.agg #[.string a, .slice lo ids.length lc, .int .i64 m]] w7 fun e w' => e = .returned (.string tx) ∧ Below w7.heap.size w7 w') := Lib.hid (by rw [← htx.out]; exact HT.out)
        clear HT hx7
        go_wp2_with fail
        refine HT'.out.mono ?_; rintro e w8 ⟨rfl, b8⟩
        have HX8 := Lib.hid (HX7.out.below b8 HX7.out.lt)
        have HR8 := Lib.hid (HR7.out.below b8 HR7.out.lt)
        have HO8 := Lib.hid (own_below HO7.out b8 (Nat.le_refl _))
        have HB8 := Lib.hid (bnext HB7.out b8)
        clear b8 HX7 HR7 HO7 HB7 HT'
        have q0 : w8.cell? ⟨w.heap.size, 0, none⟩ = some (.string ⟨#[]⟩) := HR8.out.cell 0
        have q1 : w8.cell? ⟨w.heap.size, 1, none⟩ = some (.slice none 0 0) := HR8.out.cell 1
        have q2 : w8.cell? ⟨w.heap.size, 2, none⟩ = some (.int .i64 0) := HR8.out.cell 2
        have fq0 := HR8.out.free 0
        have fq1 := HR8.out.free 1
        have fq2 := HR8.out.free 2
        have hltq : w.heap.size < w8.heap.size := HR8.out.lt
        have hneq : ¬ w.heap.size = w8.heap.size := Nat.ne_of_lt HR8.out.lt
        have y0 : w8.cell? ⟨gX, 0, none⟩ = some (.string a) := HX8.out.cell 0
        have y1 : w8.cell? ⟨gX, 1, none⟩ = some (.slice lo ids.length lc) := HX8.out.cell 1
        have y2 : w8.cell? ⟨gX, 2, none⟩ = some (.int .i64 m) := HX8.out.cell 2
        have fy0 := HX8.out.free 0
        have fy1 := HX8.out.free 1
        have fy2 := HX8.out.free 2
        have hlty : gX < w8.heap.size := HX8.out.lt
        have hney : ¬ gX = w8.heap.size := Nat.ne_of_lt HX8.out.lt
        go_wp2_with fail
        have hb := HB8.out
        exact bodyPost_ret (v := .tuple #[.agg #[.string a, .slice lo ids.length lc, .int .i64 m], .bool true]) (by simp [results, Tryz.results10, go_sem, q0, q1, q2, hltq, hneq, y0, y1, y2, hlty, hney]) rfl ⟨⟨.slice lo ids.length lc, by rw [e.out.1, e.out.2]; try rfl, by rw [e.out.1]; exact own_set3 HO8.out HR8.out (by decide)⟩, by (repeat' (first | (with_reducible exact Below.refl _ _) | (with_reducible assumption) | (with_reducible refine below_dn ?_ _) | (with_reducible refine Below.drew ?_) | (with_reducible refine Below.alloc ?_ ?_ _) | (with_reducible refine Below.setCell ?_ ?_ _) | go_size))⟩
      · have HO3 : Hid (w3.ownsRow w.heap.size 9 1 (.slice lo ids.length lc) ids.length (ids.flatMap putStr)) := Lib.hid (own_baseM O3.out (by have := HB1.out.size; simp; omega))
        have F1 : Hid (Own (((w3.setCell ⟨w1.heap.size, 0, none⟩ (.string a)).setCell ⟨w1.heap.size, 1, none⟩ (.slice lo ids.length lc)).setCell ⟨w1.heap.size, 2, none⟩ (.int .i64 0)) w1.heap.size 28 [.string a, .slice lo ids.length lc, .int .i64 0]) := Lib.hid (((OX.out.set 0 (.string a)).set 1 (.slice lo ids.length lc)).set 2 (.int .i64 0))
        have F2 : Hid ((((w3.setCell ⟨w1.heap.size, 0, none⟩ (.string a)).setCell ⟨w1.heap.size, 1, none⟩ (.slice lo ids.length lc)).setCell ⟨w1.heap.size, 2, none⟩ (.int .i64 0)).ownsRow w.heap.size 9 1 (.slice lo ids.length lc) ids.length (ids.flatMap putStr)) := Lib.hid (own_set3 HO3.out OX.out (by decide))
        have F3 : Hid (Own (((w3.setCell ⟨w1.heap.size, 0, none⟩ (.string a)).setCell ⟨w1.heap.size, 1, none⟩ (.slice lo ids.length lc)).setCell ⟨w1.heap.size, 2, none⟩ (.int .i64 0)) w.heap.size 28 [.string ⟨#[]⟩, .slice none 0 0, .int .i64 0]) := Lib.hid ((((HR1.out.below HB3.out HR1.out.lt).other (a := ⟨w1.heap.size, 0, none⟩) (by have := HR1.out.lt; show w1.heap.size ≠ w.heap.size; omega) _).other (a := ⟨w1.heap.size, 1, none⟩) (by have := HR1.out.lt; show w1.heap.size ≠ w.heap.size; omega) _).other (a := ⟨w1.heap.size, 2, none⟩) (by have := HR1.out.lt; show w1.heap.size ≠ w.heap.size; omega) _)
        have F5 : Hid (Own (((w3.setCell ⟨w1.heap.size, 0, none⟩ (.string a)).setCell ⟨w1.heap.size, 1, none⟩ (.slice lo ids.length lc)).setCell ⟨w1.heap.size, 2, none⟩ (.int .i64 0)) gx 9 ([a, b, c].flatMap putStr ++ U)) := Lib.hid ((((HW1.out.below HB3.out HW1.out.lt).other (a := ⟨w1.heap.size, 0, none⟩) (by show w1.heap.size ≠ gx; omega) _).other (a := ⟨w1.heap.size, 1, none⟩) (by show w1.heap.size ≠ gx; omega) _).other (a := ⟨w1.heap.size, 2, none⟩) (by show w1.heap.size ≠ gx; omega) _)
        have F4' := bnext HB1.out HB3.out
        have F4 : Hid (Below w.heap.size w (((w3.setCell ⟨w1.heap.size, 0, none⟩ (.string a)).setCell ⟨w1.heap.size, 1, none⟩ (.slice lo ids.length lc)).setCell ⟨w1.heap.size, 2, none⟩ (.int .i64 0))) := Lib.hid (Below.setCell (Below.setCell (Below.setCell F4' (by show w.heap.size ≤ w1.heap.size; exact HB1.out.size) _) (by show w.heap.size ≤ w1.heap.size; exact HB1.out.size) _) (by show w.heap.size ≤ w1.heap.size; exact HB1.out.size) _)
        have hgl : w.heap.size < w1.heap.size := HR1.out.lt
        clear HS3 O3 HO3 HB3 HW1 HR1 HB1 d0 d1 hne1 hne2 hg3 F4' OX x0 x1 x2 fx0 fx1 fx2 hltx hnex
        generalize (((w3.setCell ⟨w1.heap.size, 0, none⟩ (.string a)).setCell ⟨w1.heap.size, 1, none⟩ (.slice lo ids.length lc)).setCell ⟨w1.heap.size, 2, none⟩ (.int .i64 0)) = w4 at *
        generalize w1.heap.size = gX at *
        have d2 : w4.cell? ⟨gx, 2, none⟩ = some (.string c) := F5.out.cell 2
        have hgx4 : gx < w4.heap.size := F5.out.lt
        go_wp2_with fail
        refine (HD.out _ (HP.out.below F4.out) (HE.out.below F4.out)).mono ?_; rintro e w5 ⟨rfl, b5⟩
        have HX5 := Lib.hid (F1.out.below b5 F1.out.lt)
        have HR5 := Lib.hid (F3.out.below b5 F3.out.lt)
        have HO5 := Lib.hid (own_below F2.out b5 (Nat.le_refl _))
        have HB5 := Lib.hid (bnext F4.out b5)
        clear b5 F1 F2 F3 F4 F5 d2 hgx4
        have x0 : w5.cell? ⟨gX, 0, none⟩ = some (.string a) := HX5.out.cell 0
        have x1 : w5.cell? ⟨gX, 1, none⟩ = some (.slice lo ids.length lc) := HX5.out.cell 1
        have x2 : w5.cell? ⟨gX, 2, none⟩ = some (.int .i64 0) := HX5.out.cell 2
        have fx0 := HX5.out.free 0
        have fx1 := HX5.out.free 1
        have fx2 := HX5.out.free 2
        have hltx : gX < w5.heap.size := HX5.out.lt
        have hnex : ¬ gX = w5.heap.size := Nat.ne_of_lt HX5.out.lt
        have hX6 : Hid (Own (w5.setCell ⟨gX, 2, none⟩ (.int .i64 m)) gX 28 [.string a, .slice lo ids.length lc, .int .i64 m]) := Lib.hid (HX5.out.set 2 (.int .i64 m))
        have hR6 := Lib.hid (HR5.out.other (a := ⟨gX, 2, none⟩) (by show gX ≠ w.heap.size; omega) (.int .i64 m))
        have hO6 := Lib.hid (own_setM HO5.out HX5.out (by decide) 2 (.int .i64 m))
        have hB6 : Hid (Below w.heap.size w (w5.setCell ⟨gX, 2, none⟩ (.int .i64 m))) := Lib.hid (Below.setCell HB5.out (by show w.heap.size ≤ gX; omega) _)
        have hx : Hid ((⟨a, .slice lo ids.length lc, ids, m⟩ : Melt).ok (w5.setCell ⟨gX, 2, none⟩ (.int .i64 m))) := Lib.hid ⟨hsa.out, ⟨own_rd hO6.out, by unfold maxLen; show ids.length ≤ _; omega, hids2.out⟩, hm.out⟩
        have HV := Lib.hid (impl_ValidMelt_is ⟨a, .slice lo ids.length lc, ids, m⟩ _ hx.out hids1 hbm)
        clear HX5 HR5 HO5 HB5
        go_wp2_with fail
        refine HV.out.mono ?_; rintro e w7 ⟨rfl, b7⟩
        have HX7 := Lib.hid (hX6.out.below b7 hX6.out.lt)
        have HR7 := Lib.hid (hR6.out.below b7 hR6.out.lt)
        have HO7 := Lib.hid (own_below hO6.out b7 (Nat.le_refl _))
        have HB7 := Lib.hid (bnext hB6.out b7)
        clear b7 hX6 hR6 hO6 hB6 hx HV x0 x1 x2 fx0 fx1 fx2 hltx hnex
        have z0 : w7.cell? ⟨gX, 0, none⟩ = some (.string a) := HX7.out.cell 0
        have z1 : w7.cell? ⟨gX, 1, none⟩ = some (.slice lo ids.length lc) := HX7.out.cell 1
        have z2 : w7.cell? ⟨gX, 2, none⟩ = some (.int .i64 m) := HX7.out.cell 2
        have fz0 := HX7.out.free 0
        have fz1 := HX7.out.free 1
        have fz2 := HX7.out.free 2
        have hltz : gX < w7.heap.size := HX7.out.lt
        have hnez : ¬ gX = w7.heap.size := Nat.ne_of_lt HX7.out.lt
        have hx7 : Hid ((⟨a, .slice lo ids.length lc, ids, m⟩ : Melt).ok w7) := Lib.hid ⟨hsa.out, ⟨own_rd HO7.out, by unfold maxLen; show ids.length ≤ _; omega, hids2.out⟩, hm.out⟩
        have HT := Lib.hid (impl_MeltText ⟨a, .slice lo ids.length lc, ids, m⟩ w7 hx7.out hids1 (HP.out.below HB7.out))
        have HT' : Hid (Calls Tryz.prog 11 #[.agg #[.string a, .slice lo ids.length lc, .int .i64 m]] w7 fun e w' => e = .returned (.string tx) ∧ Below w7.heap.size w7 w') := Lib.hid (by rw [← htx.out]; exact HT.out)
        clear HT hx7
        go_wp2_with fail
        refine HT'.out.mono ?_; rintro e w8 ⟨rfl, b8⟩
        have HX8 := Lib.hid (HX7.out.below b8 HX7.out.lt)
        have HR8 := Lib.hid (HR7.out.below b8 HR7.out.lt)
        have HO8 := Lib.hid (own_below HO7.out b8 (Nat.le_refl _))
        have HB8 := Lib.hid (bnext HB7.out b8)
        clear b8 HX7 HR7 HO7 HB7 HT'
        have q0 : w8.cell? ⟨w.heap.size, 0, none⟩ = some (.string ⟨#[]⟩) := HR8.out.cell 0
        have q1 : w8.cell? ⟨w.heap.size, 1, none⟩ = some (.slice none 0 0) := HR8.out.cell 1
        have q2 : w8.cell? ⟨w.heap.size, 2, none⟩ = some (.int .i64 0) := HR8.out.cell 2
        have fq0 := HR8.out.free 0
        have fq1 := HR8.out.free 1
        have fq2 := HR8.out.free 2
        have hltq : w.heap.size < w8.heap.size := HR8.out.lt
        have hneq : ¬ w.heap.size = w8.heap.size := Nat.ne_of_lt HR8.out.lt
        have y0 : w8.cell? ⟨gX, 0, none⟩ = some (.string a) := HX8.out.cell 0
        have y1 : w8.cell? ⟨gX, 1, none⟩ = some (.slice lo ids.length lc) := HX8.out.cell 1
        have y2 : w8.cell? ⟨gX, 2, none⟩ = some (.int .i64 m) := HX8.out.cell 2
        have fy0 := HX8.out.free 0
        have fy1 := HX8.out.free 1
        have fy2 := HX8.out.free 2
        have hlty : gX < w8.heap.size := HX8.out.lt
        have hney : ¬ gX = w8.heap.size := Nat.ne_of_lt HX8.out.lt
        go_wp2_with fail
        have hb := HB8.out
        exact bodyPost_ret (v := .tuple #[.agg #[.string a, .slice lo ids.length lc, .int .i64 m], .bool true]) (by simp [results, Tryz.results10, go_sem, q0, q1, q2, hltq, hneq, y0, y1, y2, hlty, hney]) rfl ⟨⟨.slice lo ids.length lc, by rw [e.out.1, e.out.2]; try rfl, by rw [e.out.1]; exact own_set3 HO8.out HR8.out (by decide)⟩, by (repeat' (first | (with_reducible exact Below.refl _ _) | (with_reducible assumption) | (with_reducible refine below_dn ?_ _) | (with_reducible refine Below.drew ?_) | (with_reducible refine Below.alloc ?_ ?_ _) | (with_reducible refine Below.setCell ?_ ?_ _) | go_size))⟩
    · have e := Lib.hid (meltV_none (s := s) (ht.out.2.2 hq))
      have t5 := text_ne hq
      clear ht hq htx0
      go_enter Tryz.func10, Tryz.ntmps10
      go_wp2_with fail
      refine (H32'.out _ (HM.out.below HB0.out)).mono ?_; rintro e w1 ⟨rv, rfl, o1, b1⟩
      obtain ⟨gx, cx, U, rfl, hgx0, ow⟩ := three_ownM o1
      have HW1 := Lib.hid ow
      have d0 : w1.cell? ⟨gx, 0, none⟩ = some (.string a) := ow.cell 0
      have d1 : w1.cell? ⟨gx, 1, none⟩ = some (.string b) := ow.cell 1
      have hgx : gx < w1.heap.size := ow.lt
      have hgw : w.heap.size < gx := by have q := hgx0; simp at q; omega
      have HR1 := Lib.hid (HR0.out.below b1 HR0.out.lt)
      have HB1 := Lib.hid (bnext HB0.out b1)
      clear o1 b1 HR0 HB0 ow hgx0
      go_wp2_with fail
      have hne1 : ¬ gx = w1.heap.size := by omega
      have hne2 : ¬ w1.heap.size = gx := by omega
      go_region_held3 (fun w' => w'.cell? ⟨gx, 0, none⟩ = some (.string a) ∧ w'.cell? ⟨gx, 1, none⟩ = some (.string b)) (first | assumption | go_keep | (simp [go_sem, hne1, hne2]; first | exact HS3.1 | exact HS3.2) | (simp [go_sem, hne1, hne2, HS3.1, HS3.2]; done)) (first
          | (go_at_call 33
             refine (H44.out _ (HM.out.below (HB1.out.trans ((by (repeat' (first | (with_reducible exact Below.refl _ _) | (with_reducible assumption) | (with_reducible refine below_dn ?_ _) | (with_reducible refine Below.drew ?_) | (with_reducible refine Below.alloc ?_ ?_ _) | (with_reducible refine Below.setCell ?_ ?_ _) | go_size)) : Below w1.heap.size w1 _).mono HB1.out.size)))).mono ?_; rintro e w3 ⟨rl, rfl, o3, b3⟩
             obtain ⟨lo, lc, rfl⟩ := (own_rd o3).form
             have B3 : Below w1.heap.size w1 w3 := Below.trans (by (repeat' (first | (with_reducible exact Below.refl _ _) | (with_reducible assumption) | (with_reducible refine below_dn ?_ _) | (with_reducible refine Below.drew ?_) | (with_reducible refine Below.alloc ?_ ?_ _) | (with_reducible refine Below.setCell ?_ ?_ _) | go_size))) (b3.mono (by simp <;> omega))
             have HS3 : w3.cell? ⟨gx, 0, none⟩ = some (.string a) ∧ w3.cell? ⟨gx, 1, none⟩ = some (.string b) := ⟨(B3.cell (p := ⟨gx, 0, none⟩) hgx).trans d0, (B3.cell (p := ⟨gx, 1, none⟩) hgx).trans d1⟩
             have hg3 : gx < w3.heap.size := Nat.lt_of_lt_of_le hgx B3.size
             have O3 := Lib.hid o3
             have HB3 := Lib.hid B3
             first
               | (have b3' : Below (w1.alloc (.cells #[.string ⟨#[]⟩, .slice none 0 0, .int .i64 0] 28)).drew.heap.size (w1.alloc (.cells #[.string ⟨#[]⟩, .slice none 0 0, .int .i64 0] 28)).drew w3 := b3
                  have ON : Own (w1.alloc (.cells #[.string ⟨#[]⟩, .slice none 0 0, .int .i64 0] 28)).drew w1.heap.size 28 [.string ⟨#[]⟩, .slice none 0 0, .int .i64 0] := Own.new w1 _ _
                  have OX : Hid (Own w3 w1.heap.size 28 [.string ⟨#[]⟩, .slice none 0 0, .int .i64 0]) := Lib.hid (ON.below b3' ON.lt)
                  have x0 : w3.cell? ⟨w1.heap.size, 0, none⟩ = some (.string ⟨#[]⟩) := OX.out.cell 0
                  have x1 : w3.cell? ⟨w1.heap.size, 1, none⟩ = some (.slice none 0 0) := OX.out.cell 1
                  have x2 : w3.cell? ⟨w1.heap.size, 2, none⟩ = some (.int .i64 0) := OX.out.cell 2
                  have fx0 := OX.out.free 0
                  have fx1 := OX.out.free 1
                  have fx2 := OX.out.free 2
                  have hltx := OX.out.lt
                  have hnex : ¬ w1.heap.size = w3.heap.size := Nat.ne_of_lt OX.out.lt
                  clear b3 o3 B3 b3' ON)
               | clear b3 o3 B3))
      · have HO3 : Hid (w3.ownsRow w.heap.size 9 1 (.slice lo ids.length lc) ids.length (ids.flatMap putStr)) := Lib.hid (own_baseM O3.out (by show w.heap.size ≤ w1.heap.size; exact HB1.out.size))
        have F1 : Hid (Own (w3.alloc (.cells #[.string a, .slice lo ids.length lc, .int .i64 0] 28)) w3.heap.size 28 [.string a, .slice lo ids.length lc, .int .i64 0]) := Lib.hid (Own.new w3 _ _)
        have F2 : Hid ((w3.alloc (.cells #[.string a, .slice lo ids.length lc, .int .i64 0] 28)).ownsRow w.heap.size 9 1 (.slice lo ids.length lc) ids.length (ids.flatMap putStr)) := Lib.hid (HO3.out.alloc _)
        have F3 : Hid (Own (w3.alloc (.cells #[.string a, .slice lo ids.length lc, .int .i64 0] 28)) w.heap.size 28 [.string ⟨#[]⟩, .slice none 0 0, .int .i64 0]) := Lib.hid ((HR1.out.below HB3.out HR1.out.lt).alloc _)
        have F5 : Hid (Own (w3.alloc (.cells #[.string a, .slice lo ids.length lc, .int .i64 0] 28)) gx 9 ([a, b, c].flatMap putStr ++ U)) := Lib.hid ((HW1.out.below HB3.out HW1.out.lt).alloc _)
        have F4' := bnext HB1.out HB3.out
        have F4 : Hid (Below w.heap.size w (w3.alloc (.cells #[.string a, .slice lo ids.length lc, .int .i64 0] 28))) := Lib.hid (F4'.alloc F4'.size _)
        have hgl : w.heap.size < w3.heap.size := Nat.lt_of_lt_of_le HR1.out.lt HB3.out.size
        clear HS3 O3 HO3 HB3 HW1 HR1 HB1 d0 d1 hne1 hne2 hg3 F4'
        generalize (w3.alloc (.cells #[.string a, .slice lo ids.length lc, .int .i64 0] 28)) = w4 at *
        generalize w3.heap.size = gX at *
        have d2 : w4.cell? ⟨gx, 2, none⟩ = some (.string c) := F5.out.cell 2
        have hgx4 : gx < w4.heap.size := F5.out.lt
        go_wp2_with fail
        refine (HD.out _ (HP.out.below F4.out) (HE.out.below F4.out)).mono ?_; rintro e w5 ⟨rfl, b5⟩
        have HX5 := Lib.hid (F1.out.below b5 F1.out.lt)
        have HR5 := Lib.hid (F3.out.below b5 F3.out.lt)
        have HO5 := Lib.hid (own_below F2.out b5 (Nat.le_refl _))
        have HB5 := Lib.hid (bnext F4.out b5)
        clear b5 F1 F2 F3 F4 F5 d2 hgx4
        have x0 : w5.cell? ⟨gX, 0, none⟩ = some (.string a) := HX5.out.cell 0
        have x1 : w5.cell? ⟨gX, 1, none⟩ = some (.slice lo ids.length lc) := HX5.out.cell 1
        have x2 : w5.cell? ⟨gX, 2, none⟩ = some (.int .i64 0) := HX5.out.cell 2
        have fx0 := HX5.out.free 0
        have fx1 := HX5.out.free 1
        have fx2 := HX5.out.free 2
        have hltx : gX < w5.heap.size := HX5.out.lt
        have hnex : ¬ gX = w5.heap.size := Nat.ne_of_lt HX5.out.lt
        have hX6 : Hid (Own (w5.setCell ⟨gX, 2, none⟩ (.int .i64 m)) gX 28 [.string a, .slice lo ids.length lc, .int .i64 m]) := Lib.hid (HX5.out.set 2 (.int .i64 m))
        have hR6 := Lib.hid (HR5.out.other (a := ⟨gX, 2, none⟩) (by show gX ≠ w.heap.size; omega) (.int .i64 m))
        have hO6 := Lib.hid (own_setM HO5.out HX5.out (by decide) 2 (.int .i64 m))
        have hB6 : Hid (Below w.heap.size w (w5.setCell ⟨gX, 2, none⟩ (.int .i64 m))) := Lib.hid (Below.setCell HB5.out (by show w.heap.size ≤ gX; omega) _)
        have hx : Hid ((⟨a, .slice lo ids.length lc, ids, m⟩ : Melt).ok (w5.setCell ⟨gX, 2, none⟩ (.int .i64 m))) := Lib.hid ⟨hsa.out, ⟨own_rd hO6.out, by unfold maxLen; show ids.length ≤ _; omega, hids2.out⟩, hm.out⟩
        have HV := Lib.hid (impl_ValidMelt_is ⟨a, .slice lo ids.length lc, ids, m⟩ _ hx.out hids1 hbm)
        clear HX5 HR5 HO5 HB5
        go_wp2_with fail
        refine HV.out.mono ?_; rintro e w7 ⟨rfl, b7⟩
        have HX7 := Lib.hid (hX6.out.below b7 hX6.out.lt)
        have HR7 := Lib.hid (hR6.out.below b7 hR6.out.lt)
        have HO7 := Lib.hid (own_below hO6.out b7 (Nat.le_refl _))
        have HB7 := Lib.hid (bnext hB6.out b7)
        clear b7 hX6 hR6 hO6 hB6 hx HV x0 x1 x2 fx0 fx1 fx2 hltx hnex
        have z0 : w7.cell? ⟨gX, 0, none⟩ = some (.string a) := HX7.out.cell 0
        have z1 : w7.cell? ⟨gX, 1, none⟩ = some (.slice lo ids.length lc) := HX7.out.cell 1
        have z2 : w7.cell? ⟨gX, 2, none⟩ = some (.int .i64 m) := HX7.out.cell 2
        have fz0 := HX7.out.free 0
        have fz1 := HX7.out.free 1
        have fz2 := HX7.out.free 2
        have hltz : gX < w7.heap.size := HX7.out.lt
        have hnez : ¬ gX = w7.heap.size := Nat.ne_of_lt HX7.out.lt
        have hx7 : Hid ((⟨a, .slice lo ids.length lc, ids, m⟩ : Melt).ok w7) := Lib.hid ⟨hsa.out, ⟨own_rd HO7.out, by unfold maxLen; show ids.length ≤ _; omega, hids2.out⟩, hm.out⟩
        have HT := Lib.hid (impl_MeltText ⟨a, .slice lo ids.length lc, ids, m⟩ w7 hx7.out hids1 (HP.out.below HB7.out))
        have HT' : Hid (Calls Tryz.prog 11 #[.agg #[.string a, .slice lo ids.length lc, .int .i64 m]] w7 fun e w' => e = .returned (.string tx) ∧ Below w7.heap.size w7 w') := Lib.hid (by rw [← htx.out]; exact HT.out)
        clear HT hx7
        go_wp2_with fail
        refine HT'.out.mono ?_; rintro e w8 ⟨rfl, b8⟩
        have HX8 := Lib.hid (HX7.out.below b8 HX7.out.lt)
        have HR8 := Lib.hid (HR7.out.below b8 HR7.out.lt)
        have HO8 := Lib.hid (own_below HO7.out b8 (Nat.le_refl _))
        have HB8 := Lib.hid (bnext HB7.out b8)
        clear b8 HX7 HR7 HO7 HB7 HT'
        have q0 : w8.cell? ⟨w.heap.size, 0, none⟩ = some (.string ⟨#[]⟩) := HR8.out.cell 0
        have q1 : w8.cell? ⟨w.heap.size, 1, none⟩ = some (.slice none 0 0) := HR8.out.cell 1
        have q2 : w8.cell? ⟨w.heap.size, 2, none⟩ = some (.int .i64 0) := HR8.out.cell 2
        have fq0 := HR8.out.free 0
        have fq1 := HR8.out.free 1
        have fq2 := HR8.out.free 2
        have hltq : w.heap.size < w8.heap.size := HR8.out.lt
        have hneq : ¬ w.heap.size = w8.heap.size := Nat.ne_of_lt HR8.out.lt
        go_wp2_with fail
        have hb := HB8.out
        exact bodyPost_ret (v := .tuple #[.agg #[.string ⟨#[]⟩, .slice none 0 0, .int .i64 0], .bool false]) (by simp [results, Tryz.results10, go_sem, q0, q1, q2, hltq, hneq]) rfl ⟨⟨.slice none 0 0, by rw [e.out.1, e.out.2]; try rfl, by rw [e.out.1]; exact own_nil _ _ _ _⟩, by (repeat' (first | (with_reducible exact Below.refl _ _) | (with_reducible assumption) | (with_reducible refine below_dn ?_ _) | (with_reducible refine Below.drew ?_) | (with_reducible refine Below.alloc ?_ ?_ _) | (with_reducible refine Below.setCell ?_ ?_ _) | go_size))⟩
      · have HO3 : Hid (w3.ownsRow w.heap.size 9 1 (.slice lo ids.length lc) ids.length (ids.flatMap putStr)) := Lib.hid (own_baseM O3.out (by have := HB1.out.size; simp; omega))
        have F1 : Hid (Own (((w3.setCell ⟨w1.heap.size, 0, none⟩ (.string a)).setCell ⟨w1.heap.size, 1, none⟩ (.slice lo ids.length lc)).setCell ⟨w1.heap.size, 2, none⟩ (.int .i64 0)) w1.heap.size 28 [.string a, .slice lo ids.length lc, .int .i64 0]) := Lib.hid (((OX.out.set 0 (.string a)).set 1 (.slice lo ids.length lc)).set 2 (.int .i64 0))
        have F2 : Hid ((((w3.setCell ⟨w1.heap.size, 0, none⟩ (.string a)).setCell ⟨w1.heap.size, 1, none⟩ (.slice lo ids.length lc)).setCell ⟨w1.heap.size, 2, none⟩ (.int .i64 0)).ownsRow w.heap.size 9 1 (.slice lo ids.length lc) ids.length (ids.flatMap putStr)) := Lib.hid (own_set3 HO3.out OX.out (by decide))
        have F3 : Hid (Own (((w3.setCell ⟨w1.heap.size, 0, none⟩ (.string a)).setCell ⟨w1.heap.size, 1, none⟩ (.slice lo ids.length lc)).setCell ⟨w1.heap.size, 2, none⟩ (.int .i64 0)) w.heap.size 28 [.string ⟨#[]⟩, .slice none 0 0, .int .i64 0]) := Lib.hid ((((HR1.out.below HB3.out HR1.out.lt).other (a := ⟨w1.heap.size, 0, none⟩) (by have := HR1.out.lt; show w1.heap.size ≠ w.heap.size; omega) _).other (a := ⟨w1.heap.size, 1, none⟩) (by have := HR1.out.lt; show w1.heap.size ≠ w.heap.size; omega) _).other (a := ⟨w1.heap.size, 2, none⟩) (by have := HR1.out.lt; show w1.heap.size ≠ w.heap.size; omega) _)
        have F5 : Hid (Own (((w3.setCell ⟨w1.heap.size, 0, none⟩ (.string a)).setCell ⟨w1.heap.size, 1, none⟩ (.slice lo ids.length lc)).setCell ⟨w1.heap.size, 2, none⟩ (.int .i64 0)) gx 9 ([a, b, c].flatMap putStr ++ U)) := Lib.hid ((((HW1.out.below HB3.out HW1.out.lt).other (a := ⟨w1.heap.size, 0, none⟩) (by show w1.heap.size ≠ gx; omega) _).other (a := ⟨w1.heap.size, 1, none⟩) (by show w1.heap.size ≠ gx; omega) _).other (a := ⟨w1.heap.size, 2, none⟩) (by show w1.heap.size ≠ gx; omega) _)
        have F4' := bnext HB1.out HB3.out
        have F4 : Hid (Below w.heap.size w (((w3.setCell ⟨w1.heap.size, 0, none⟩ (.string a)).setCell ⟨w1.heap.size, 1, none⟩ (.slice lo ids.length lc)).setCell ⟨w1.heap.size, 2, none⟩ (.int .i64 0))) := Lib.hid (Below.setCell (Below.setCell (Below.setCell F4' (by show w.heap.size ≤ w1.heap.size; exact HB1.out.size) _) (by show w.heap.size ≤ w1.heap.size; exact HB1.out.size) _) (by show w.heap.size ≤ w1.heap.size; exact HB1.out.size) _)
        have hgl : w.heap.size < w1.heap.size := HR1.out.lt
        clear HS3 O3 HO3 HB3 HW1 HR1 HB1 d0 d1 hne1 hne2 hg3 F4' OX x0 x1 x2 fx0 fx1 fx2 hltx hnex
        generalize (((w3.setCell ⟨w1.heap.size, 0, none⟩ (.string a)).setCell ⟨w1.heap.size, 1, none⟩ (.slice lo ids.length lc)).setCell ⟨w1.heap.size, 2, none⟩ (.int .i64 0)) = w4 at *
        generalize w1.heap.size = gX at *
        have d2 : w4.cell? ⟨gx, 2, none⟩ = some (.string c) := F5.out.cell 2
        have hgx4 : gx < w4.heap.size := F5.out.lt
        go_wp2_with fail
        refine (HD.out _ (HP.out.below F4.out) (HE.out.below F4.out)).mono ?_; rintro e w5 ⟨rfl, b5⟩
        have HX5 := Lib.hid (F1.out.below b5 F1.out.lt)
        have HR5 := Lib.hid (F3.out.below b5 F3.out.lt)
        have HO5 := Lib.hid (own_below F2.out b5 (Nat.le_refl _))
        have HB5 := Lib.hid (bnext F4.out b5)
        clear b5 F1 F2 F3 F4 F5 d2 hgx4
        have x0 : w5.cell? ⟨gX, 0, none⟩ = some (.string a) := HX5.out.cell 0
        have x1 : w5.cell? ⟨gX, 1, none⟩ = some (.slice lo ids.length lc) := HX5.out.cell 1
        have x2 : w5.cell? ⟨gX, 2, none⟩ = some (.int .i64 0) := HX5.out.cell 2
        have fx0 := HX5.out.free 0
        have fx1 := HX5.out.free 1
        have fx2 := HX5.out.free 2
        have hltx : gX < w5.heap.size := HX5.out.lt
        have hnex : ¬ gX = w5.heap.size := Nat.ne_of_lt HX5.out.lt
        have hX6 : Hid (Own (w5.setCell ⟨gX, 2, none⟩ (.int .i64 m)) gX 28 [.string a, .slice lo ids.length lc, .int .i64 m]) := Lib.hid (HX5.out.set 2 (.int .i64 m))
        have hR6 := Lib.hid (HR5.out.other (a := ⟨gX, 2, none⟩) (by show gX ≠ w.heap.size; omega) (.int .i64 m))
        have hO6 := Lib.hid (own_setM HO5.out HX5.out (by decide) 2 (.int .i64 m))
        have hB6 : Hid (Below w.heap.size w (w5.setCell ⟨gX, 2, none⟩ (.int .i64 m))) := Lib.hid (Below.setCell HB5.out (by show w.heap.size ≤ gX; omega) _)
        have hx : Hid ((⟨a, .slice lo ids.length lc, ids, m⟩ : Melt).ok (w5.setCell ⟨gX, 2, none⟩ (.int .i64 m))) := Lib.hid ⟨hsa.out, ⟨own_rd hO6.out, by unfold maxLen; show ids.length ≤ _; omega, hids2.out⟩, hm.out⟩
        have HV := Lib.hid (impl_ValidMelt_is ⟨a, .slice lo ids.length lc, ids, m⟩ _ hx.out hids1 hbm)
        clear HX5 HR5 HO5 HB5
        go_wp2_with fail
        refine HV.out.mono ?_; rintro e w7 ⟨rfl, b7⟩
        have HX7 := Lib.hid (hX6.out.below b7 hX6.out.lt)
        have HR7 := Lib.hid (hR6.out.below b7 hR6.out.lt)
        have HO7 := Lib.hid (own_below hO6.out b7 (Nat.le_refl _))
        have HB7 := Lib.hid (bnext hB6.out b7)
        clear b7 hX6 hR6 hO6 hB6 hx HV x0 x1 x2 fx0 fx1 fx2 hltx hnex
        have z0 : w7.cell? ⟨gX, 0, none⟩ = some (.string a) := HX7.out.cell 0
        have z1 : w7.cell? ⟨gX, 1, none⟩ = some (.slice lo ids.length lc) := HX7.out.cell 1
        have z2 : w7.cell? ⟨gX, 2, none⟩ = some (.int .i64 m) := HX7.out.cell 2
        have fz0 := HX7.out.free 0
        have fz1 := HX7.out.free 1
        have fz2 := HX7.out.free 2
        have hltz : gX < w7.heap.size := HX7.out.lt
        have hnez : ¬ gX = w7.heap.size := Nat.ne_of_lt HX7.out.lt
        have hx7 : Hid ((⟨a, .slice lo ids.length lc, ids, m⟩ : Melt).ok w7) := Lib.hid ⟨hsa.out, ⟨own_rd HO7.out, by unfold maxLen; show ids.length ≤ _; omega, hids2.out⟩, hm.out⟩
        have HT := Lib.hid (impl_MeltText ⟨a, .slice lo ids.length lc, ids, m⟩ w7 hx7.out hids1 (HP.out.below HB7.out))
        have HT' : Hid (Calls Tryz.prog 11 #[.agg #[.string a, .slice lo ids.length lc, .int .i64 m]] w7 fun e w' => e = .returned (.string tx) ∧ Below w7.heap.size w7 w') := Lib.hid (by rw [← htx.out]; exact HT.out)
        clear HT hx7
        go_wp2_with fail
        refine HT'.out.mono ?_; rintro e w8 ⟨rfl, b8⟩
        have HX8 := Lib.hid (HX7.out.below b8 HX7.out.lt)
        have HR8 := Lib.hid (HR7.out.below b8 HR7.out.lt)
        have HO8 := Lib.hid (own_below HO7.out b8 (Nat.le_refl _))
        have HB8 := Lib.hid (bnext HB7.out b8)
        clear b8 HX7 HR7 HO7 HB7 HT'
        have q0 : w8.cell? ⟨w.heap.size, 0, none⟩ = some (.string ⟨#[]⟩) := HR8.out.cell 0
        have q1 : w8.cell? ⟨w.heap.size, 1, none⟩ = some (.slice none 0 0) := HR8.out.cell 1
        have q2 : w8.cell? ⟨w.heap.size, 2, none⟩ = some (.int .i64 0) := HR8.out.cell 2
        have fq0 := HR8.out.free 0
        have fq1 := HR8.out.free 1
        have fq2 := HR8.out.free 2
        have hltq : w.heap.size < w8.heap.size := HR8.out.lt
        have hneq : ¬ w.heap.size = w8.heap.size := Nat.ne_of_lt HR8.out.lt
        go_wp2_with fail
        have hb := HB8.out
        exact bodyPost_ret (v := .tuple #[.agg #[.string ⟨#[]⟩, .slice none 0 0, .int .i64 0], .bool false]) (by simp [results, Tryz.results10, go_sem, q0, q1, q2, hltq, hneq]) rfl ⟨⟨.slice none 0 0, by rw [e.out.1, e.out.2]; try rfl, by rw [e.out.1]; exact own_nil _ _ _ _⟩, by (repeat' (first | (with_reducible exact Below.refl _ _) | (with_reducible assumption) | (with_reducible refine below_dn ?_ _) | (with_reducible refine Below.drew ?_) | (with_reducible refine Below.alloc ?_ ?_ _) | (with_reducible refine Below.setCell ?_ ?_ _) | go_size))⟩
end Go.Proofs.YtnbodmbagendnaaGreatDoor
