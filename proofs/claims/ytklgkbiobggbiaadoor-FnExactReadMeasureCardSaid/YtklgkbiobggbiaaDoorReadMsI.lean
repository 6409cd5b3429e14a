/- ReadMeasure: the program. -/
import Derived.Test.YtklgkbiobggbiaaDoorRows
import Derived.Test.YtklgkbiobggbiaaDoorReadMs
namespace Go.Proofs.YtklgkbiobggbiaaDoor
open Go.ChangeShapes Go.WideShapes Go.ChangeAt Go.RowKit Go.Deep Go.Joins
set_option linter.unusedVariables false
set_option maxRecDepth 100000
set_option linter.unusedSimpArgs false
set_option maxHeartbeats 4000000 in
theorem impl_ReadMeasure (s : ByteArray) (w : World) (hs : s.size ≤ 1048576) (hm : MaxL w) (hp : Pow10 w) (he : ErrS w) :
    Calls Tryd.prog 12 #[.string s] w fun e w' => e = .returned (.tuple #[.agg #[.string (measV s).bell, .int .i64 (measV s).part, .int .i64 (measV s).value], .bool (measR s).isSome]) ∧ Below w.heap.size w w' := by
  have HM := Lib.hid hm; clear hm
  have HP := Lib.hid hp; clear hp
  have HE := Lib.hid he; clear he
  have HR0 : Hid (Own (w.alloc (.cells #[.string ⟨#[]⟩, .int .i64 0, .int .i64 0] 31)) w.heap.size 31 [.string ⟨#[]⟩, .int .i64 0, .int .i64 0]) := Lib.hid (Own.new w _ _)
  have HB0 : Hid (Below w.heap.size w (w.alloc (.cells #[.string ⟨#[]⟩, .int .i64 0, .int .i64 0] 31))) := Lib.hid ((Below.refl _ _).alloc (Nat.le_refl _) _)
  have H32 := Lib.hid (fun (w' : World) (h1 : MaxL w') => impl_Split 32 s w' hs h1)
  have hwz := Lib.hid (fun x (hx : x ∈ partsS 32 s) => partsS_size x hx)
  by_cases h3 : (partsS 32 s).length = 3
  case neg =>
    have e := Lib.hid (measV_none (measR_not3 h3))
    have t2 : (((partsS 32 s).length : Int) != 3) = true := bne_iff_ne.2 (by omega)
    clear h3
    generalize partsS 32 s = ws at *
    go_enter Tryd.func12, Tryd.ntmps12
    go_wp2_with fail
    refine (H32.out _ (HM.out.below HB0.out)).mono ?_; rintro e w1 ⟨rfl, o1, b1⟩
    have HR1 := Lib.hid (HR0.out.below b1 HR0.out.lt)
    have HB1 := Lib.hid (bnext HB0.out b1)
    clear o1 b1 HR0 HB0
    have q0 : w1.cell? ⟨w.heap.size, 0, none⟩ = some (.string ⟨#[]⟩) := HR1.out.cell 0
    have q1 : w1.cell? ⟨w.heap.size, 1, none⟩ = some (.int .i64 0) := HR1.out.cell 1
    have q2 : w1.cell? ⟨w.heap.size, 2, none⟩ = some (.int .i64 0) := HR1.out.cell 2
    have fq0 := HR1.out.free 0
    have fq1 := HR1.out.free 1
    have fq2 := HR1.out.free 2
    have hltq : w.heap.size < w1.heap.size := HR1.out.lt
    have hneq : ¬ w.heap.size = w1.heap.size := by omega
    go_wp2_with fail
    have hb := HB1.out
    exact bodyPost_ret (v := .tuple #[.agg #[.string ⟨#[]⟩, .int .i64 0, .int .i64 0], .bool false]) (by simp [results, Tryd.results12, go_sem, q0, q1, q2, hltq, hneq]) rfl ⟨by rw [e.out.1, e.out.2]; try rfl, by (repeat' (first | (with_reducible exact Below.refl _ _) | (with_reducible assumption) | (with_reducible refine below_dn ?_ _) | (with_reducible refine Below.drew ?_) | (with_reducible refine Below.alloc ?_ ?_ _) | (with_reducible refine Below.setCell ?_ ?_ _) | go_size))⟩
  obtain ⟨a, b, c, hab⟩ := three_of h3
  have hsa : a.size ≤ 1048576 := Nat.le_trans (hwz.out a (by rw [hab]; simp)) hs
  have hsc : c.size ≤ 1048576 := Nat.le_trans (hwz.out c (by rw [hab]; simp)) hs
  have HH := Lib.hid (fun (w' : World) (h1 : MaxL w') (h2 : Pow10 w') (h3 : ErrS w') => impl_ReadHertz c w' hsc h1 h2 h3)
  have ht := Lib.hid (meas_tests hab)
  have hF := hertzV_bd c
  rw [hab] at H32
  have H32' : Hid (∀ w' : World, MaxL w' → Calls Tryd.prog 36 #[.string s, .string ⟨#[32]⟩] w' fun e w'' => e = .returned (.slice (some ⟨w'.heap.size, 0, none⟩) 3 3) ∧ Own w'' w'.heap.size 9 ([a, b, c].flatMap putStr) ∧ Below w'.heap.size w' w'') := H32
  generalize hertzV c = F at *
  generalize (hertzR c).isSome = okk at *
  have hx := Lib.hid (measOk (b := b) hsa hF)
  clear h3 hwz hab H32 hF
  cases hb : measureB ⟨a, partN b 5, F⟩
  · have e := Lib.hid (measV_none (s := s) (ht.out.2.1 hb))
    have HV := Lib.hid (fun (w' : World) => impl_validMeasure_is ⟨a, partN b 5, F⟩ w' hb hx.out)
    clear hb ht
    go_enter Tryd.func12, Tryd.ntmps12
    go_wp2_with fail
    refine (H32'.out _ (HM.out.below HB0.out)).mono ?_; rintro e w1 ⟨rfl, ow, b1⟩
    obtain ⟨gx, hgx'⟩ : ∃ gx, (w.alloc (.cells #[.string ⟨#[]⟩, .int .i64 0, .int .i64 0] 31)).heap.size = gx := ⟨_, rfl⟩
    rw [hgx'] at ow
    rw [hgx']
    have hgw : w.heap.size < gx := by rw [← hgx']; simp
    have HW1 : Hid (Own w1 gx 9 ([a, b, c].flatMap putStr ++ [])) := Lib.hid (by rw [List.append_nil]; exact ow)
    have d0 : w1.cell? ⟨gx, 0, none⟩ = some (.string a) := ow.cell 0
    have hgx : gx < w1.heap.size := ow.lt
    have HR1 := Lib.hid (HR0.out.below b1 HR0.out.lt)
    have HB1 := Lib.hid (bnext HB0.out b1)
    have hlw : w.heap.size < w1.heap.size := HR1.out.lt
    clear b1 HR0 HB0 ow hgx'
    go_wp2_with fail
    obtain ⟨gX, hgX⟩ : ∃ gX, w1.heap.size = gX := ⟨_, rfl⟩
    have HX3 : Hid (Own (w1.alloc (.cells #[.string a, .int .i64 0, .int .i64 0] 31)) gX 31 [.string a, .int .i64 (partN b 0), .int .i64 0]) := Lib.hid (by rw [← hgX]; exact Own.new w1 _ _)
    have HR3 : Hid (Own (w1.alloc (.cells #[.string a, .int .i64 0, .int .i64 0] 31)) w.heap.size 31 [.string ⟨#[]⟩, .int .i64 0, .int .i64 0]) := Lib.hid (HR1.out.alloc _)
    have HW3 : Hid (Own (w1.alloc (.cells #[.string a, .int .i64 0, .int .i64 0] 31)) gx 9 ([a, b, c].flatMap putStr ++ [])) := Lib.hid (HW1.out.alloc _)
    have HB3 : Hid (Below w.heap.size w (w1.alloc (.cells #[.string a, .int .i64 0, .int .i64 0] 31))) := Lib.hid (HB1.out.alloc HB1.out.size _)
    rw [hgX]
    clear HR1 HW1 HB1 d0
    go_loopw [6] (fun kv wr => ∃ (k : Nat), k ≤ 5 ∧ kv = .int .i64 ((k : Int) + 1) ∧ Own wr gX 31 [.string a, .int .i64 (partN b k), .int .i64 0] ∧ Own wr w.heap.size 31 [.string ⟨#[]⟩, .int .i64 0, .int .i64 0] ∧ Own wr gx 9 ([a, b, c].flatMap putStr ++ []) ∧ Below w.heap.size w wr) (fun kv _ => 6 - (intOf kv).toNat)
    case atStart => exact ⟨0, Nat.zero_le _, rfl, HX3.out, HR3.out, HW3.out, HB3.out⟩
    case round =>
      clear HX3 HR3 HW3 HB3
      obtain ⟨k, hk, rfl, hx, hr, hw, hb⟩ := hrel
      have HX := Lib.hid hx
      have HR := Lib.hid hr
      have HW := Lib.hid hw
      have HB := Lib.hid hb
      have dw1 : wr.cell? ⟨gx, 1, none⟩ = some (.string b) := hw.cell 1
      have hgxr : gx < wr.heap.size := hw.lt
      clear hx hr hw hb
      by_cases hlt : k < 5
      · have tk : decide (((k : Int) + 1) ≤ 5) = true := decide_eq_true (by omega)
        have ek : ((k + 1 : Nat) : Int) = (k : Int) + 1 := by omega
        by_cases hq : partT ((k + 1 : Nat) : Int) = b
        · have hpn := Lib.hid (partN_yes hq)
          rw [ek] at hq hpn
          have tq := text_eq hq
          have HC := Lib.hid (fun w' => impl_PartialName ((k : Int) + 1) w' (by omega))
          obtain ⟨tx, htx⟩ : ∃ tx, partT ((k : Int) + 1) = tx := ⟨_, rfl⟩
          rw [htx] at tq HC
          clear hq htx
          go_wp2_with fail
          refine wp_region_above (by kernel_rfl) (by kernel_rfl) ?_
          repeat (go_big_quiet_step (((go_at_call 37; exact aboveC (HC.out _)))))
          refine wpQuiet_nil ?_
          intro w1 b1
          have HX1 := Lib.hid (HX.out.below b1 HX.out.lt)
          have HR1 := Lib.hid (HR.out.below b1 HR.out.lt)
          have HW1 := Lib.hid (HW.out.below b1 HW.out.lt)
          have HB1 := Lib.hid (bnext HB.out b1)
          have d1 : w1.cell? ⟨gX, 1, none⟩ = some (.int .i64 (partN b k)) := HX1.out.cell 1
          have f1 := HX1.out.free 1
          have dl := HX1.out.lt
          have hX2 := Lib.hid (HX1.out.set 1 (.int .i64 ((k : Int) + 1)))
          have hR2 := Lib.hid (HR1.out.other (a := ⟨gX, 1, none⟩) (by show gX ≠ w.heap.size; omega) (.int .i64 ((k : Int) + 1)))
          have hW2 := Lib.hid (HW1.out.other (a := ⟨gX, 1, none⟩) (by show gX ≠ gx; omega) (.int .i64 ((k : Int) + 1)))
          have hB2 : Hid (Below w.heap.size w (w1.setCell ⟨gX, 1, none⟩ (.int .i64 ((k : Int) + 1)))) := Lib.hid (Below.setCell HB1.out (by show w.heap.size ≤ gX; omega) _)
          clear b1 HX HR HW HB HX1 HR1 HW1 HB1 dw1
          go_wp2_with fail
          go_roundw
          case rel => exact ⟨k + 1, by omega, by go_num, by rw [hpn.out]; exact hX2.out, hR2.out, hW2.out, hB2.out⟩
          case measure => simp [intOf]; omega
        · have hpn := Lib.hid (partN_no hq)
          rw [ek] at hq
          have tq := text_ne hq
          have HC := Lib.hid (fun w' => impl_PartialName ((k : Int) + 1) w' (by omega))
          obtain ⟨tx, htx⟩ : ∃ tx, partT ((k : Int) + 1) = tx := ⟨_, rfl⟩
          rw [htx] at tq HC
          clear hq htx
          go_wp2_with fail
          refine wp_region_above (by kernel_rfl) (by kernel_rfl) ?_
          repeat (go_big_quiet_step (((go_at_call 37; exact aboveC (HC.out _)))))
          refine wpQuiet_nil ?_
          intro w1 b1
          have HX1 := Lib.hid (HX.out.below b1 HX.out.lt)
          have HR1 := Lib.hid (HR.out.below b1 HR.out.lt)
          have HW1 := Lib.hid (HW.out.below b1 HW.out.lt)
          have HB1 := Lib.hid (bnext HB.out b1)
          clear b1 HX HR HW HB dw1
          go_wp2_with fail
          go_roundw
          case rel => exact ⟨k + 1, by omega, by go_num, by rw [hpn.out]; exact HX1.out, HR1.out, HW1.out, HB1.out⟩
          case measure => simp [intOf]; omega
      · obtain rfl : k = 5 := by omega
        have tk : decide ((((5 : Nat) : Int) + 1) ≤ 5) = false := by decide
        have dw2 : wr.cell? ⟨gx, 2, none⟩ = some (.string c) := HW.out.cell 2
        go_wp2_with fail
        refine (HH.out _ (HM.out.below HB.out) (HP.out.below HB.out) (HE.out.below HB.out)).mono ?_; rintro e w4 ⟨rfl, b4⟩
        have HX4 := Lib.hid (HX.out.below b4 HX.out.lt)
        have HR4 := Lib.hid (HR.out.below b4 HR.out.lt)
        have HB4 := Lib.hid (bnext HB.out b4)
        have d2 : w4.cell? ⟨gX, 2, none⟩ = some (.int .i64 0) := HX4.out.cell 2
        have f2 := HX4.out.free 2
        have dl := HX4.out.lt
        have hX5 : Hid (Own (w4.setCell ⟨gX, 2, none⟩ (.int .i64 F)) gX 31 [.string a, .int .i64 (partN b 5), .int .i64 F]) := Lib.hid (HX4.out.set 2 (.int .i64 F))
        have hR5 := Lib.hid (HR4.out.other (a := ⟨gX, 2, none⟩) (by show gX ≠ w.heap.size; omega) (.int .i64 F))
        have hB5 : Hid (Below w.heap.size w (w4.setCell ⟨gX, 2, none⟩ (.int .i64 F))) := Lib.hid (Below.setCell HB4.out (by show w.heap.size ≤ gX; omega) _)
        have y0 : w4.cell? ⟨gX, 0, none⟩ = some (.string a) := HX4.out.cell 0
        have y1 : w4.cell? ⟨gX, 1, none⟩ = some (.int .i64 (partN b 5)) := HX4.out.cell 1
        clear b4 HX HR HW HB HX4 HR4 HB4 dw2
        go_wp2_with fail
        refine (HV.out _).mono ?_; rintro e w6 ⟨rfl, b6⟩
        have HX6 := Lib.hid (hX5.out.below b6 hX5.out.lt)
        have HR6 := Lib.hid (hR5.out.below b6 hR5.out.lt)
        have HB6 := Lib.hid (bnext hB5.out b6)
        clear b6 hX5 hR5 hB5 y0 y1 d2 f2 dl
        have q0 : w6.cell? ⟨w.heap.size, 0, none⟩ = some (.string ⟨#[]⟩) := HR6.out.cell 0
        have q1 : w6.cell? ⟨w.heap.size, 1, none⟩ = some (.int .i64 0) := HR6.out.cell 1
        have q2 : w6.cell? ⟨w.heap.size, 2, none⟩ = some (.int .i64 0) := HR6.out.cell 2
        have fq0 := HR6.out.free 0
        have fq1 := HR6.out.free 1
        have fq2 := HR6.out.free 2
        have hltq : w.heap.size < w6.heap.size := HR6.out.lt
        have hneq : ¬ w.heap.size = w6.heap.size := by omega
        go_wp2_with fail
        have hb := HB6.out
        exact bodyPost_ret (v := .tuple #[.agg #[.string ⟨#[]⟩, .int .i64 0, .int .i64 0], .bool false]) (by simp [results, Tryd.results12, go_sem, q0, q1, q2, hltq, hneq]) rfl ⟨by rw [e.out.1, e.out.2]; try rfl, by (repeat' (first | (with_reducible exact Below.refl _ _) | (with_reducible assumption) | (with_reducible refine below_dn ?_ _) | (with_reducible refine Below.drew ?_) | (with_reducible refine Below.alloc ?_ ?_ _) | (with_reducible refine Below.setCell ?_ ?_ _) | go_size))⟩
  · have HV := Lib.hid (fun (w' : World) => impl_validMeasure_is ⟨a, partN b 5, F⟩ w' hb hx.out)
    have HT := Lib.hid (fun (w' : World) (h1 : Pow10 w') => impl_MeasureText ⟨a, partN b 5, F⟩ w' hx.out h1)
    obtain ⟨tx, htx⟩ : ∃ tx, measT ⟨a, partN b 5, F⟩ = tx := ⟨_, rfl⟩
    rw [htx] at HT ht
    by_cases hq : tx = s
    · have e := Lib.hid (measV_some (s := s) (ht.out.1 hb hq))
      have t5 := text_eq hq
      clear hb hq ht htx
      go_enter Tryd.func12, Tryd.ntmps12
      go_wp2_with fail
      refine (H32'.out _ (HM.out.below HB0.out)).mono ?_; rintro e w1 ⟨rfl, ow, b1⟩
      obtain ⟨gx, hgx'⟩ : ∃ gx, (w.alloc (.cells #[.string ⟨#[]⟩, .int .i64 0, .int .i64 0] 31)).heap.size = gx := ⟨_, rfl⟩
      rw [hgx'] at ow
      rw [hgx']
      have hgw : w.heap.size < gx := by rw [← hgx']; simp
      have HW1 : Hid (Own w1 gx 9 ([a, b, c].flatMap putStr ++ [])) := Lib.hid (by rw [List.append_nil]; exact ow)
      have d0 : w1.cell? ⟨gx, 0, none⟩ = some (.string a) := ow.cell 0
      have hgx : gx < w1.heap.size := ow.lt
      have HR1 := Lib.hid (HR0.out.below b1 HR0.out.lt)
      have HB1 := Lib.hid (bnext HB0.out b1)
      have hlw : w.heap.size < w1.heap.size := HR1.out.lt
      clear b1 HR0 HB0 ow hgx'
      go_wp2_with fail
      obtain ⟨gX, hgX⟩ : ∃ gX, w1.heap.size = gX := ⟨_, rfl⟩
      have HX3 : Hid (Own (w1.alloc (.cells #[.string a, .int .i64 0, .int .i64 0] 31)) gX 31 [.string a, .int .i64 (partN b 0), .int .i64 0]) := Lib.hid (by rw [← hgX]; exact Own.new w1 _ _)
      have HR3 : Hid (Own (w1.alloc (.cells #[.string a, .int .i64 0, .int .i64 0] 31)) w.heap.size 31 [.string ⟨#[]⟩, .int .i64 0, .int .i64 0]) := Lib.hid (HR1.out.alloc _)
      have HW3 : Hid (Own (w1.alloc (.cells #[.string a, .int .i64 0, .int .i64 0] 31)) gx 9 ([a, b, c].flatMap putStr ++ [])) := Lib.hid (HW1.out.alloc _)
      have HB3 : Hid (Below w.heap.size w (w1.alloc (.cells #[.string a, .int .i64 0, .int .i64 0] 31))) := Lib.hid (HB1.out.alloc HB1.out.size _)
      rw [hgX]
      clear HR1 HW1 HB1 d0
      go_loopw [6] (fun kv wr => ∃ (k : Nat), k ≤ 5 ∧ kv = .int .i64 ((k : Int) + 1) ∧ Own wr gX 31 [.string a, .int .i64 (partN b k), .int .i64 0] ∧ Own wr w.heap.size 31 [.string ⟨#[]⟩, .int .i64 0, .int .i64 0] ∧ Own wr gx 9 ([a, b, c].flatMap putStr ++ []) ∧ Below w.heap.size w wr) (fun kv _ => 6 - (intOf kv).toNat)
      case atStart => exact ⟨0, Nat.zero_le _, rfl, HX3.out, HR3.out, HW3.out, HB3.out⟩
      case round =>
        clear HX3 HR3 HW3 HB3
        obtain ⟨k, hk, rfl, hx, hr, hw, hb⟩ := hrel
        have HX := Lib.hid hx
        have HR := Lib.hid hr
        have HW := Lib.hid hw
        have HB := Lib.hid hb
        have dw1 : wr.cell? ⟨gx, 1, none⟩ = some (.string b) := hw.cell 1
        have hgxr : gx < wr.heap.size := hw.lt
        clear hx hr hw hb
        by_cases hlt : k < 5
        · have tk : decide (((k : Int) + 1) ≤ 5) = true := decide_eq_true (by omega)
          have ek : ((k + 1 : Nat) : Int) = (k : Int) + 1 := by omega
          by_cases hq : partT ((k + 1 : Nat) : Int) = b
          · have hpn := Lib.hid (partN_yes hq)
            rw [ek] at hq hpn
            have tq := text_eq hq
            have HC := Lib.hid (fun w' => impl_PartialName ((k : Int) + 1) w' (by omega))
            obtain ⟨tx, htx⟩ : ∃ tx, partT ((k : Int) + 1) = tx := ⟨_, rfl⟩
            rw [htx] at tq HC
            clear hq htx
            go_wp2_with fail
            refine wp_region_above (by kernel_rfl) (by kernel_rfl) ?_
            repeat (go_big_quiet_step (((go_at_call 37; exact aboveC (HC.out _)))))
            refine wpQuiet_nil ?_
            intro w1 b1
            have HX1 := Lib.hid (HX.out.below b1 HX.out.lt)
            have HR1 := Lib.hid (HR.out.below b1 HR.out.lt)
            have HW1 := Lib.hid (HW.out.below b1 HW.out.lt)
            have HB1 := Lib.hid (bnext HB.out b1)
            have d1 : w1.cell? ⟨gX, 1, none⟩ = some (.int .i64 (partN b k)) := HX1.out.cell 1
            have f1 := HX1.out.free 1
            have dl := HX1.out.lt
            have hX2 := Lib.hid (HX1.out.set 1 (.int .i64 ((k : Int) + 1)))
            have hR2 := Lib.hid (HR1.out.other (a := ⟨gX, 1, none⟩) (by show gX ≠ w.heap.size; omega) (.int .i64 ((k : Int) + 1)))
            have hW2 := Lib.hid (HW1.out.other (a := ⟨gX, 1, none⟩) (by show gX ≠ gx; omega) (.int .i64 ((k : Int) + 1)))
            have hB2 : Hid (Below w.heap.size w (w1.setCell ⟨gX, 1, none⟩ (.int .i64 ((k : Int) + 1)))) := Lib.hid (Below.setCell HB1.out (by show w.heap.size ≤ gX; omega) _)
            clear b1 HX HR HW HB HX1 HR1 HW1 HB1 dw1
            go_wp2_with fail
            go_roundw
            case rel => exact ⟨k + 1, by omega, by go_num, by rw [hpn.out]; exact hX2.out, hR2.out, hW2.out, hB2.out⟩
            case measure => simp [intOf]; omega
          · have hpn := Lib.hid (partN_no hq)
            rw [ek] at hq
            have tq := text_ne hq
            have HC := Lib.hid (fun w' => impl_PartialName ((k : Int) + 1) w' (by omega))
            obtain ⟨tx, htx⟩ : ∃ tx, partT ((k : Int) + 1) = tx := ⟨_, rfl⟩
            rw [htx] at tq HC
            clear hq htx
            go_wp2_with fail
            refine wp_region_above (by kernel_rfl) (by kernel_rfl) ?_
            repeat (go_big_quiet_step (((go_at_call 37; exact aboveC (HC.out _)))))
            refine wpQuiet_nil ?_
            intro w1 b1
            have HX1 := Lib.hid (HX.out.below b1 HX.out.lt)
            have HR1 := Lib.hid (HR.out.below b1 HR.out.lt)
            have HW1 := Lib.hid (HW.out.below b1 HW.out.lt)
            have HB1 := Lib.hid (bnext HB.out b1)
            clear b1 HX HR HW HB dw1
            go_wp2_with fail
            go_roundw
            case rel => exact ⟨k + 1, by omega, by go_num, by rw [hpn.out]; exact HX1.out, HR1.out, HW1.out, HB1.out⟩
            case measure => simp [intOf]; omega
        · obtain rfl : k = 5 := by omega
          have tk : decide ((((5 : Nat) : Int) + 1) ≤ 5) = false := by decide
          have dw2 : wr.cell? ⟨gx, 2, none⟩ = some (.string c) := HW.out.cell 2
          go_wp2_with fail
          refine (HH.out _ (HM.out.below HB.out) (HP.out.below HB.out) (HE.out.below HB.out)).mono ?_; rintro e w4 ⟨rfl, b4⟩
          have HX4 := Lib.hid (HX.out.below b4 HX.out.lt)
          have HR4 := Lib.hid (HR.out.below b4 HR.out.lt)
          have HB4 := Lib.hid (bnext HB.out b4)
          have d2 : w4.cell? ⟨gX, 2, none⟩ = some (.int .i64 0) := HX4.out.cell 2
          have f2 := HX4.out.free 2
          have dl := HX4.out.lt
          have hX5 : Hid (Own (w4.setCell ⟨gX, 2, none⟩ (.int .i64 F)) gX 31 [.string a, .int .i64 (partN b 5), .int .i64 F]) := Lib.hid (HX4.out.set 2 (.int .i64 F))
          have hR5 := Lib.hid (HR4.out.other (a := ⟨gX, 2, none⟩) (by show gX ≠ w.heap.size; omega) (.int .i64 F))
          have hB5 : Hid (Below w.heap.size w (w4.setCell ⟨gX, 2, none⟩ (.int .i64 F))) := Lib.hid (Below.setCell HB4.out (by show w.heap.size ≤ gX; omega) _)
          have y0 : w4.cell? ⟨gX, 0, none⟩ = some (.string a) := HX4.out.cell 0
          have y1 : w4.cell? ⟨gX, 1, none⟩ = some (.int .i64 (partN b 5)) := HX4.out.cell 1
          clear b4 HX HR HW HB HX4 HR4 HB4 dw2
          go_wp2_with fail
          refine (HV.out _).mono ?_; rintro e w6 ⟨rfl, b6⟩
          have HX6 := Lib.hid (hX5.out.below b6 hX5.out.lt)
          have HR6 := Lib.hid (hR5.out.below b6 hR5.out.lt)
          have HB6 := Lib.hid (bnext hB5.out b6)
          clear b6 hX5 hR5 hB5 y0 y1 d2 f2 dl
          have z0 : w6.cell? ⟨gX, 0, none⟩ = some (.string a) := HX6.out.cell 0
          have z1 : w6.cell? ⟨gX, 1, none⟩ = some (.int .i64 (partN b 5)) := HX6.out.cell 1
          have z2 : w6.cell? ⟨gX, 2, none⟩ = some (.int .i64 F) := HX6.out.cell 2
          have fz0 := HX6.out.free 0
          have fz1 := HX6.out.free 1
          have fz2 := HX6.out.free 2
          have hltz : gX < w6.heap.size := HX6.out.lt
          have hnez : ¬ gX = w6.heap.size := by omega
          go_wp2_with fail
          refine (HT.out _ (HP.out.below HB6.out)).mono ?_; rintro e w7 ⟨rfl, b7⟩
          have HX7 := Lib.hid (HX6.out.below b7 HX6.out.lt)
          have HR7 := Lib.hid (HR6.out.below b7 HR6.out.lt)
          have HB7 := Lib.hid (bnext HB6.out b7)
          clear b7 HX6 HR6 HB6
          have q0 : w7.cell? ⟨w.heap.size, 0, none⟩ = some (.string ⟨#[]⟩) := HR7.out.cell 0
          have q1 : w7.cell? ⟨w.heap.size, 1, none⟩ = some (.int .i64 0) := HR7.out.cell 1
          have q2 : w7.cell? ⟨w.heap.size, 2, none⟩ = some (.int .i64 0) := HR7.out.cell 2
          have fq0 := HR7.out.free 0
          have fq1 := HR7.out.free 1
          have fq2 := HR7.out.free 2
          have hltq : w.heap.size < w7.heap.size := HR7.out.lt
          have hneq : ¬ w.heap.size = w7.heap.size := by omega
          have x0 : w7.cell? ⟨gX, 0, none⟩ = some (.string a) := HX7.out.cell 0
          have x1 : w7.cell? ⟨gX, 1, none⟩ = some (.int .i64 (partN b 5)) := HX7.out.cell 1
          have x2 : w7.cell? ⟨gX, 2, none⟩ = some (.int .i64 F) := HX7.out.cell 2
          have fx0 := HX7.out.free 0
          have fx1 := HX7.out.free 1
          have fx2 := HX7.out.free 2
          have hltx : gX < w7.heap.size := HX7.out.lt
          have hnex : ¬ gX = w7.heap.size := by omega
          go_wp2_with fail
          have hb := HB7.out
          exact bodyPost_ret (v := .tuple #[.agg #[.string a, .int .i64 (partN b 5), .int .i64 F], .bool true]) (by simp [results, Tryd.results12, go_sem, q0, q1, q2, hltq, hneq, x0, x1, x2, hltx, hnex]) rfl ⟨by rw [e.out.1, e.out.2]; try rfl, by (repeat' (first | (with_reducible exact Below.refl _ _) | (with_reducible assumption) | (with_reducible refine below_dn ?_ _) | (with_reducible refine Below.drew ?_) | (with_reducible refine Below.alloc ?_ ?_ _) | (with_reducible refine Below.setCell ?_ ?_ _) | go_size))⟩
    · have e := Lib.hid (measV_none (s := s) (ht.out.2.2 hq))
      have t5 := text_ne hq
      clear hb hq ht htx
      go_enter Tryd.func12, Tryd.ntmps12
      go_wp2_with fail
      refine (H32'.out _ (HM.out.below HB0.out)).mono ?_; rintro e w1 ⟨rfl, ow, b1⟩
      obtain ⟨gx, hgx'⟩ : ∃ gx, (w.alloc (.cells #[.string ⟨#[]⟩, .int .i64 0, .int .i64 0] 31)).heap.size = gx := ⟨_, rfl⟩
      rw [hgx'] at ow
      rw [hgx']
      have hgw : w.heap.size < gx := by rw [← hgx']; simp
      have HW1 : Hid (Own w1 gx 9 ([a, b, c].flatMap putStr ++ [])) := Lib.hid (by rw [List.append_nil]; exact ow)
      have d0 : w1.cell? ⟨gx, 0, none⟩ = some (.string a) := ow.cell 0
      have hgx : gx < w1.heap.size := ow.lt
      have HR1 := Lib.hid (HR0.out.below b1 HR0.out.lt)
      have HB1 := Lib.hid (bnext HB0.out b1)
      have hlw : w.heap.size < w1.heap.size := HR1.out.lt
      clear b1 HR0 HB0 ow hgx'
      go_wp2_with fail
      obtain ⟨gX, hgX⟩ : ∃ gX, w1.heap.size = gX := ⟨_, rfl⟩
      have HX3 : Hid (Own (w1.alloc (.cells #[.string a, .int .i64 0, .int .i64 0] 31)) gX 31 [.string a, .int .i64 (partN b 0), .int .i64 0]) := Lib.hid (by rw [← hgX]; exact Own.new w1 _ _)
      have HR3 : Hid (Own (w1.alloc (.cells #[.string a, .int .i64 0, .int .i64 0] 31)) w.heap.size 31 [.string ⟨#[]⟩, .int .i64 0, .int .i64 0]) := Lib.hid (HR1.out.alloc _)
      have HW3 : Hid (Own (w1.alloc (.cells #[.string a, .int .i64 0, .int .i64 0] 31)) gx 9 ([a, b, c].flatMap putStr ++ [])) := Lib.hid (HW1.out.alloc _)
      have HB3 : Hid (Below w.heap.size w (w1.alloc (.cells #[.string a, .int .i64 0, .int .i64 0] 31))) := Lib.hid (HB1.out.alloc HB1.out.size _)
      rw [hgX]
      clear HR1 HW1 HB1 d0
      go_loopw [6] (fun kv wr => ∃ (k : Nat), k ≤ 5 ∧ kv = .int .i64 ((k : Int) + 1) ∧ Own wr gX 31 [.string a, .int .i64 (partN b k), .int .i64 0] ∧ Own wr w.heap.size 31 [.string ⟨#[]⟩, .int .i64 0, .int .i64 0] ∧ Own wr gx 9 ([a, b, c].flatMap putStr ++ []) ∧ Below w.heap.size w wr) (fun kv _ => 6 - (intOf kv).toNat)
      case atStart => exact ⟨0, Nat.zero_le _, rfl, HX3.out, HR3.out, HW3.out, HB3.out⟩
      case round =>
        clear HX3 HR3 HW3 HB3
        obtain ⟨k, hk, rfl, hx, hr, hw, hb⟩ := hrel
        have HX := Lib.hid hx
        have HR := Lib.hid hr
        have HW := Lib.hid hw
        have HB := Lib.hid hb
        have dw1 : wr.cell? ⟨gx, 1, none⟩ = some (.string b) := hw.cell 1
        have hgxr : gx < wr.heap.size := hw.lt
        clear hx hr hw hb
        by_cases hlt : k < 5
        · have tk : decide (((k : Int) + 1) ≤ 5) = true := decide_eq_true (by omega)
          have ek : ((k + 1 : Nat) : Int) = (k : Int) + 1 := by omega
          by_cases hq : partT ((k + 1 : Nat) : Int) = b
          · have hpn := Lib.hid (partN_yes hq)
            rw [ek] at hq hpn
            have tq := text_eq hq
            have HC := Lib.hid (fun w' => impl_PartialName ((k : Int) + 1) w' (by omega))
            obtain ⟨tx, htx⟩ : ∃ tx, partT ((k : Int) + 1) = tx := ⟨_, rfl⟩
            rw [htx] at tq HC
            clear hq htx
            go_wp2_with fail
            refine wp_region_above (by kernel_rfl) (by kernel_rfl) ?_
            repeat (go_big_quiet_step (((go_at_call 37; exact aboveC (HC.out _)))))
            refine wpQuiet_nil ?_
            intro w1 b1
            have HX1 := Lib.hid (HX.out.below b1 HX.out.lt)
            have HR1 := Lib.hid (HR.out.below b1 HR.out.lt)
            have HW1 := Lib.hid (HW.out.below b1 HW.out.lt)
            have HB1 := Lib.hid (bnext HB.out b1)
            have d1 : w1.cell? ⟨gX, 1, none⟩ = some (.int .i64 (partN b k)) := HX1.out.cell 1
            have f1 := HX1.out.free 1
            have dl := HX1.out.lt
            have hX2 := Lib.hid (HX1.out.set 1 (.int .i64 ((k : Int) + 1)))
            have hR2 := Lib.hid (HR1.out.other (a := ⟨gX, 1, none⟩) (by show gX ≠ w.heap.size; omega) (.int .i64 ((k : Int) + 1)))
            have hW2 := Lib.hid (HW1.out.other (a := ⟨gX, 1, none⟩) (by show gX ≠ gx; omega) (.int .i64 ((k : Int) + 1)))
            have hB2 : Hid (Below w.heap.size w (w1.setCell ⟨gX, 1, none⟩ (.int .i64 ((k : Int) + 1)))) := Lib.hid (Below.setCell HB1.out (by show w.heap.size ≤ gX; omega) _)
            clear b1 HX HR HW HB HX1 HR1 HW1 HB1 dw1
            go_wp2_with fail
            go_roundw
            case rel => exact ⟨k + 1, by omega, by go_num, by rw [hpn.out]; exact hX2.out, hR2.out, hW2.out, hB2.out⟩
            case measure => simp [intOf]; omega
          · have hpn := Lib.hid (partN_no hq)
            rw [ek] at hq
            have tq := text_ne hq
            have HC := Lib.hid (fun w' => impl_PartialName ((k : Int) + 1) w' (by omega))
            obtain ⟨tx, htx⟩ : ∃ tx, partT ((k : Int) + 1) = tx := ⟨_, rfl⟩
            rw [htx] at tq HC
            clear hq htx
            go_wp2_with fail
            refine wp_region_above (by kernel_rfl) (by kernel_rfl) ?_
            repeat (go_big_quiet_step (((go_at_call 37; exact aboveC (HC.out _)))))
            refine wpQuiet_nil ?_
            intro w1 b1
            have HX1 := Lib.hid (HX.out.below b1 HX.out.lt)
            have HR1 := Lib.hid (HR.out.below b1 HR.out.lt)
            have HW1 := Lib.hid (HW.out.below b1 HW.out.lt)
            have HB1 := Lib.hid (bnext HB.out b1)
            clear b1 HX HR HW HB dw1
            go_wp2_with fail
            go_roundw
            case rel => exact ⟨k + 1, by omega, by go_num, by rw [hpn.out]; exact HX1.out, HR1.out, HW1.out, HB1.out⟩
            case measure => simp [intOf]; omega
        · obtain rfl : k = 5 := by omega
          have tk : decide ((((5 : Nat) : Int) + 1) ≤ 5) = false := by decide
          have dw2 : wr.cell? ⟨gx, 2, none⟩ = some (.string c) := HW.out.cell 2
          go_wp2_with fail
          refine (HH.out _ (HM.out.below HB.out) (HP.out.below HB.out) (HE.out.below HB.out)).mono ?_; rintro e w4 ⟨rfl, b4⟩
          have HX4 := Lib.hid (HX.out.below b4 HX.out.lt)
          have HR4 := Lib.hid (HR.out.below b4 HR.out.lt)
          have HB4 := Lib.hid (bnext HB.out b4)
          have d2 : w4.cell? ⟨gX, 2, none⟩ = some (.int .i64 0) := HX4.out.cell 2
          have f2 := HX4.out.free 2
          have dl := HX4.out.lt
          have hX5 : Hid (Own (w4.setCell ⟨gX, 2, none⟩ (.int .i64 F)) gX 31 [.string a, .int .i64 (partN b 5), .int .i64 F]) := Lib.hid (HX4.out.set 2 (.int .i64 F))
          have hR5 := Lib.hid (HR4.out.other (a := ⟨gX, 2, none⟩) (by show gX ≠ w.heap.size; omega) (.int .i64 F))
          have hB5 : Hid (Below w.heap.size w (w4.setCell ⟨gX, 2, none⟩ (.int .i64 F))) := Lib.hid (Below.setCell HB4.out (by show w.heap.size ≤ gX; omega) _)
          have y0 : w4.cell? ⟨gX, 0, none⟩ = some (.string a) := HX4.out.cell 0
          have y1 : w4.cell? ⟨gX, 1, none⟩ = some (.int .i64 (partN b 5)) := HX4.out.cell 1
          clear b4 HX HR HW HB HX4 HR4 HB4 dw2
          go_wp2_with fail
          refine (HV.out _).mono ?_; rintro e w6 ⟨rfl, b6⟩
          have HX6 := Lib.hid (hX5.out.below b6 hX5.out.lt)
          have HR6 := Lib.hid (hR5.out.below b6 hR5.out.lt)
          have HB6 := Lib.hid (bnext hB5.out b6)
          clear b6 hX5 hR5 hB5 y0 y1 d2 f2 dl
          have z0 : w6.cell? ⟨gX, 0, none⟩ = some (.string a) := HX6.out.cell 0
          have z1 : w6.cell? ⟨gX, 1, none⟩ = some (.int .i64 (partN b 5)) := HX6.out.cell 1
          have z2 : w6.cell? ⟨gX, 2, none⟩ = some (.int .i64 F) := HX6.out.cell 2
          have fz0 := HX6.out.free 0
          have fz1 := HX6.out.free 1
          have fz2 := HX6.out.free 2
          have hltz : gX < w6.heap.size := HX6.out.lt
          have hnez : ¬ gX = w6.heap.size := by omega
          go_wp2_with fail
          refine (HT.out _ (HP.out.below HB6.out)).mono ?_; rintro e w7 ⟨rfl, b7⟩
          have HX7 := Lib.hid (HX6.out.below b7 HX6.out.lt)
          have HR7 := Lib.hid (HR6.out.below b7 HR6.out.lt)
          have HB7 := Lib.hid (bnext HB6.out b7)
          clear b7 HX6 HR6 HB6
          have q0 : w7.cell? ⟨w.heap.size, 0, none⟩ = some (.string ⟨#[]⟩) := HR7.out.cell 0
          have q1 : w7.cell? ⟨w.heap.size, 1, none⟩ = some (.int .i64 0) := HR7.out.cell 1
          have q2 : w7.cell? ⟨w.heap.size, 2, none⟩ = some (.int .i64 0) := HR7.out.cell 2
          have fq0 := HR7.out.free 0
          have fq1 := HR7.out.free 1
          have fq2 := HR7.out.free 2
          have hltq : w.heap.size < w7.heap.size := HR7.out.lt
          have hneq : ¬ w.heap.size = w7.heap.size := by omega
          go_wp2_with fail
          have hb := HB7.out
          exact bodyPost_ret (v := .tuple #[.agg #[.string ⟨#[]⟩, .int .i64 0, .int .i64 0], .bool false]) (by simp [results, Tryd.results12, go_sem, q0, q1, q2, hltq, hneq]) rfl ⟨by rw [e.out.1, e.out.2]; try rfl, by (repeat' (first | (with_reducible exact Below.refl _ _) | (with_reducible assumption) | (with_reducible refine below_dn ?_ _) | (with_reducible refine Below.drew ?_) | (with_reducible refine Below.alloc ?_ ?_ _) | (with_reducible refine Below.setCell ?_ ?_ _) | go_size))⟩
end Go.Proofs.YtklgkbiobggbiaaDoor
