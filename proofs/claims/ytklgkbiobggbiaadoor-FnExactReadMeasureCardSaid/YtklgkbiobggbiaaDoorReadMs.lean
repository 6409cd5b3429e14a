/- ReadMeasure: both sides compute the same. -/
import Derived.Test.YtklgkbiobggbiaaDoorRows
import Derived.Test.YtklgkbiobggbiaaDoorReadMsL
import Derived.Test.YtklgkbiobggbiaaDoorReadHz
namespace Go.Proofs.YtklgkbiobggbiaaDoor
open Go.ChangeShapes Go.WideShapes Go.ChangeAt Go.RowKit Go.Deep Go.Joins
set_option linter.unusedVariables false
set_option maxRecDepth 100000
set_option linter.unusedSimpArgs false
theorem three_own {w : World} {base : Nat} {r : Value} {a b c : ByteArray} (h : w.ownsRow base 9 1 r 3 ([a, b, c].flatMap putStr)) : ∃ g cap U, r = .slice (some ⟨g, 0, none⟩) 3 cap ∧ base ≤ g ∧ Own w g 9 ([a, b, c].flatMap putStr ++ U) := by
  rcases own_form h with ⟨_, q⟩ | ⟨g, cap, rfl⟩
  · omega
  obtain ⟨U, ou⟩ := own_block h
  exact ⟨g, cap, U, rfl, (h.lt g rfl).1, ou⟩
set_option maxHeartbeats 4000000 in
theorem spec_l11Read (s : ByteArray) (w : World) (hs : s.size ≤ 1048576) :
    Calls Tryd.prog 35 #[.string s] w fun e w' => e = .returned (.tuple #[.agg #[.string (measV s).bell, .int .i64 (measV s).part, .int .i64 (measV s).value], .bool (measR s).isSome]) ∧ Below w.heap.size w w' := by
  have HR0 : Hid (Own (w.alloc (.cells #[.string ⟨#[]⟩, .int .i64 0, .int .i64 0] 31)) w.heap.size 31 [.string ⟨#[]⟩, .int .i64 0, .int .i64 0]) := Lib.hid (Own.new w _ _)
  have HB0 : Hid (Below w.heap.size w (w.alloc (.cells #[.string ⟨#[]⟩, .int .i64 0, .int .i64 0] 31))) := Lib.hid ((Below.refl _ _).alloc (Nat.le_refl _) _)
  have H32 := Lib.hid (fun w' => spec_l01Split 32 s w' hs)
  have hwz := Lib.hid (fun x (hx : x ∈ partsS 32 s) => partsS_size x hx)
  by_cases h3 : (partsS 32 s).length = 3
  case neg =>
    have e := Lib.hid (measV_none (measR_not3 h3))
    have t2 : (((partsS 32 s).length : Int) != 3) = true := bne_iff_ne.2 (by omega)
    clear h3
    generalize partsS 32 s = ws at *
    go_enter Tryd.func35, Tryd.ntmps35
    go_wp2_with fail
    refine (H32.out _).mono ?_; rintro e w1 ⟨rv, rfl, o1, b1⟩
    obtain ⟨ro, rx, rfl⟩ := (own_rd o1).form
    have HR1 := Lib.hid (HR0.out.below b1 HR0.out.lt)
    have HB1 := Lib.hid (bnext HB0.out b1)
    clear o1 b1 HR0 HB0
    have q0 : w1.cell? ⟨w.heap.size, 0, none⟩ = some (.string ⟨#[]⟩) := HR1.out.cell 0
    have q1 : w1.cell? ⟨w.heap.size, 1, none⟩ = some (.int .i64 0) := HR1.out.cell 1
    have q2 : w1.cell? ⟨w.heap.size, 2, none⟩ = some (.int .i64 0) := HR1.out.cell 2
    have fq0 := HR1.out.free 0
    have fq1 := HR1.out.free 1
    have fq2 := HR1.out.free 2
    have hltq : w.heap.size < w1.heap.size := HR1.out.lt
    have hneq : ¬ w.heap.size = w1.heap.size := by omega
    go_wp2_with fail
    have hb := HB1.out
    exact bodyPost_ret (v := .tuple #[.agg #[.string ⟨#[]⟩, .int .i64 0, .int .i64 0], .bool false]) (by simp [results, Tryd.results35, go_sem, q0, q1, q2, hltq, hneq]) rfl ⟨by rw [e.out.1, e.out.2]; try rfl, by (repeat' (first | (with_reducible exact Below.refl _ _) | (with_reducible assumption) | (with_reducible refine below_dn ?_ _) | (with_reducible refine Below.drew ?_) | (with_reducible refine Below.alloc ?_ ?_ _) | (with_reducible refine Below.setCell ?_ ?_ _) | go_size))⟩
  obtain ⟨a, b, c, hab⟩ := three_of h3
  have hsa : a.size ≤ 1048576 := Nat.le_trans (hwz.out a (by rw [hab]; simp)) hs
  have hsc : c.size ≤ 1048576 := Nat.le_trans (hwz.out c (by rw [hab]; simp)) hs
  have HH0 := Lib.hid (fun w' => spec_ReadHertz c w' hsc)
  have hno := Lib.hid (fun h : hertzR c = none => measV_none (measR_no hab h))
  have hyes := Lib.hid (fun (f : Int) (h : hertzR c = some f) => measR_yes hab h)
  rw [hab] at H32
  have H32' : Hid (∀ w' : World, Calls Tryd.prog 48 #[.string s, .int .u8 (32 : UInt8).toNat] w' fun e w'' => ∃ r, e = .returned r ∧ w''.ownsRow w'.heap.size 9 1 r 3 ([a, b, c].flatMap putStr) ∧ Below w'.heap.size w' w'') := H32
  clear h3 hwz hab H32
  cases hr : hertzR c with
  | none =>
    have e := Lib.hid (hno.out hr)
    have HH : Hid (∀ w' : World, Calls Tryd.prog 71 #[.string c] w' fun e w'' => e = .returned (.tuple #[.int .i64 0, .bool false]) ∧ Below w'.heap.size w' w'') := Lib.hid (fun w' => by have := HH0.out w'; rw [(hertzV_none hr).1, (hertzV_none hr).2] at this; exact this)
    obtain ⟨F, hF⟩ : ∃ F : Int, 0 = F := ⟨_, rfl⟩
    rw [hF] at HH
    clear hno hyes HH0 hr hF
    go_enter Tryd.func35, Tryd.ntmps35
    go_wp2_with fail
    refine (H32'.out _).mono ?_; rintro e w1 ⟨rv, rfl, o1, b1⟩
    obtain ⟨gx, cx, U, rfl, hgx0, ow⟩ := three_own o1
    have HW1 := Lib.hid ow
    have d0 : w1.cell? ⟨gx, 0, none⟩ = some (.string a) := ow.cell 0
    have d1 : w1.cell? ⟨gx, 1, none⟩ = some (.string b) := ow.cell 1
    have d2 : w1.cell? ⟨gx, 2, none⟩ = some (.string c) := ow.cell 2
    have hgx : gx < w1.heap.size := ow.lt
    have hgw : w.heap.size < gx := by have q := hgx0; simp at q; omega
    have HR1 := Lib.hid (HR0.out.below b1 HR0.out.lt)
    have HB1 := Lib.hid (bnext HB0.out b1)
    clear o1 b1 HR0 HB0 ow hgx0
    go_wp2_with fail
    refine (HH.out _).mono ?_; rintro e w2 ⟨rfl, b2⟩
    have HW2 := Lib.hid (HW1.out.below b2 HW1.out.lt)
    have HR2 := Lib.hid (HR1.out.below b2 HR1.out.lt)
    have HB2 := Lib.hid (bnext HB1.out b2)
    have e0 : w2.cell? ⟨gx, 0, none⟩ = some (.string a) := HW2.out.cell 0
    have hgx2 : gx < w2.heap.size := HW2.out.lt
    have hlw : w.heap.size < w2.heap.size := HR2.out.lt
    clear b2 HW1 HR1 HB1 d0 d1 d2 hgx
    go_wp2_with fail
    obtain ⟨gX, hgX⟩ : ∃ gX, w2.heap.size = gX := ⟨_, rfl⟩
    have HX3 : Hid (Own (w2.alloc (.cells #[.string a, .int .i64 0, .int .i64 F] 31)) gX 31 [.string a, .int .i64 (partN b 0), .int .i64 F]) := Lib.hid (by rw [← hgX]; exact Own.new w2 _ _)
    have HR3 : Hid (Own (w2.alloc (.cells #[.string a, .int .i64 0, .int .i64 F] 31)) w.heap.size 31 [.string ⟨#[]⟩, .int .i64 0, .int .i64 0]) := Lib.hid (HR2.out.alloc _)
    have HW3 : Hid (Own (w2.alloc (.cells #[.string a, .int .i64 0, .int .i64 F] 31)) gx 9 ([a, b, c].flatMap putStr ++ U)) := Lib.hid (HW2.out.alloc _)
    have HB3 : Hid (Below w.heap.size w (w2.alloc (.cells #[.string a, .int .i64 0, .int .i64 F] 31))) := Lib.hid (HB2.out.alloc HB2.out.size _)
    rw [hgX]
    clear HR2 HW2 HB2 e0
    go_loopw [8] (fun kv wr => ∃ (k : Nat), k ≤ 5 ∧ kv = .int .i64 ((k : Int) + 1) ∧ Own wr gX 31 [.string a, .int .i64 (partN b k), .int .i64 F] ∧ Own wr w.heap.size 31 [.string ⟨#[]⟩, .int .i64 0, .int .i64 0] ∧ Own wr gx 9 ([a, b, c].flatMap putStr ++ U) ∧ Below w.heap.size w wr) (fun kv _ => 6 - (intOf kv).toNat)
    case atStart => exact ⟨0, Nat.zero_le _, rfl, HX3.out, HR3.out, HW3.out, HB3.out⟩
    case round =>
      clear HX3 HR3 HW3 HB3
      obtain ⟨k, hk, rfl, hx, hr, hw, hb⟩ := hrel
      have HX := Lib.hid hx
      have HR := Lib.hid hr
      have HW := Lib.hid hw
      have HB := Lib.hid hb
      have dw1 : wr.cell? ⟨gx, 1, none⟩ = some (.string b) := hw.cell 1
      have hgxr : gx < wr.heap.size := hw.lt
      clear hx hr hw hb
      by_cases hlt : k < 5
      · have tk : decide (((k : Int) + 1) ≤ 5) = true := decide_eq_true (by omega)
        have ek : ((k + 1 : Nat) : Int) = (k : Int) + 1 := by omega
        by_cases hq : partT ((k + 1 : Nat) : Int) = b
        · have hpn := Lib.hid (partN_yes hq)
          rw [ek] at hq hpn
          have tq := text_eq hq
          have HC := Lib.hid (fun w' => spec_PartialName ((k : Int) + 1) w' (by omega))
          obtain ⟨tx, htx⟩ : ∃ tx, partT ((k : Int) + 1) = tx := ⟨_, rfl⟩
          rw [htx] at tq HC
          clear hq htx
          go_wp2_with fail
          refine wp_region_above (by kernel_rfl) (by kernel_rfl) ?_
          repeat (go_big_quiet_step (((go_at_call 72; exact aboveC (HC.out _)))))
          refine wpQuiet_nil ?_
          intro w1 b1
          have HX1 := Lib.hid (HX.out.below b1 HX.out.lt)
          have HR1 := Lib.hid (HR.out.below b1 HR.out.lt)
          have HW1 := Lib.hid (HW.out.below b1 HW.out.lt)
          have HB1 := Lib.hid (bnext HB.out b1)
          have d1 : w1.cell? ⟨gX, 1, none⟩ = some (.int .i64 (partN b k)) := HX1.out.cell 1
          have f1 := HX1.out.free 1
          have dl := HX1.out.lt
          have hX2 := Lib.hid (HX1.out.set 1 (.int .i64 ((k : Int) + 1)))
          have hR2 := Lib.hid (HR1.out.other (a := ⟨gX, 1, none⟩) (by show gX ≠ w.heap.size; omega) (.int .i64 ((k : Int) + 1)))
          have hW2 := Lib.hid (HW1.out.other (a := ⟨gX, 1, none⟩) (by show gX ≠ gx; omega) (.int .i64 ((k : Int) + 1)))
          have hB2 : Hid (Below w.heap.size w (w1.setCell ⟨gX, 1, none⟩ (.int .i64 ((k : Int) + 1)))) := Lib.hid (Below.setCell HB1.out (by show w.heap.size ≤ gX; omega) _)
          clear b1 HX HR HW HB HX1 HR1 HW1 HB1 dw1
          go_wp2_with fail
          go_roundw
          case rel => exact ⟨k + 1, by omega, by go_num, by rw [hpn.out]; exact hX2.out, hR2.out, hW2.out, hB2.out⟩
          case measure => simp [intOf]; omega
        · have hpn := Lib.hid (partN_no hq)
          rw [ek] at hq
          have tq := text_ne hq
          have HC := Lib.hid (fun w' => spec_PartialName ((k : Int) + 1) w' (by omega))
          obtain ⟨tx, htx⟩ : ∃ tx, partT ((k : Int) + 1) = tx := ⟨_, rfl⟩
          rw [htx] at tq HC
          clear hq htx
          go_wp2_with fail
          refine wp_region_above (by kernel_rfl) (by kernel_rfl) ?_
          repeat (go_big_quiet_step (((go_at_call 72; exact aboveC (HC.out _)))))
          refine wpQuiet_nil ?_
          intro w1 b1
          have HX1 := Lib.hid (HX.out.below b1 HX.out.lt)
          have HR1 := Lib.hid (HR.out.below b1 HR.out.lt)
          have HW1 := Lib.hid (HW.out.below b1 HW.out.lt)
          have HB1 := Lib.hid (bnext HB.out b1)
          clear b1 HX HR HW HB dw1
          go_wp2_with fail
          go_roundw
          case rel => exact ⟨k + 1, by omega, by go_num, by rw [hpn.out]; exact HX1.out, HR1.out, HW1.out, HB1.out⟩
          case measure => simp [intOf]; omega
      · obtain rfl : k = 5 := by omega
        have tk : decide ((((5 : Nat) : Int) + 1) ≤ 5) = false := by decide
        clear HX HW
        have q0 : wr.cell? ⟨w.heap.size, 0, none⟩ = some (.string ⟨#[]⟩) := HR.out.cell 0
        have q1 : wr.cell? ⟨w.heap.size, 1, none⟩ = some (.int .i64 0) := HR.out.cell 1
        have q2 : wr.cell? ⟨w.heap.size, 2, none⟩ = some (.int .i64 0) := HR.out.cell 2
        have fq0 := HR.out.free 0
        have fq1 := HR.out.free 1
        have fq2 := HR.out.free 2
        have hltq : w.heap.size < wr.heap.size := HR.out.lt
        have hneq : ¬ w.heap.size = wr.heap.size := by omega
        go_wp2_with fail
        have hb := HB.out
        exact bodyPost_ret (v := .tuple #[.agg #[.string ⟨#[]⟩, .int .i64 0, .int .i64 0], .bool false]) (by simp [results, Tryd.results35, go_sem, q0, q1, q2, hltq, hneq]) rfl ⟨by rw [e.out.1, e.out.2]; try rfl, by (repeat' (first | (with_reducible exact Below.refl _ _) | (with_reducible assumption) | (with_reducible refine below_dn ?_ _) | (with_reducible refine Below.drew ?_) | (with_reducible refine Below.alloc ?_ ?_ _) | (with_reducible refine Below.setCell ?_ ?_ _) | go_size))⟩
  | some F =>
    have HH : Hid (∀ w' : World, Calls Tryd.prog 71 #[.string c] w' fun e w'' => e = .returned (.tuple #[.int .i64 F, .bool true]) ∧ Below w'.heap.size w' w'') := Lib.hid (fun w' => by have := HH0.out w'; rw [(hertzV_some hr).1, (hertzV_some hr).2] at this; exact this)
    have hy := Lib.hid (hyes.out F hr)
    have hF : I64 F := by have := hertzV_bd c; rw [(hertzV_some hr).1] at this; exact this
    have hx := Lib.hid (measOk (b := b) hsa hF)
    clear hno hyes HH0 hr
    cases hb : measureB ⟨a, partN b 5, F⟩
    · rw [hb] at hy
      have e := Lib.hid (measV_none (s := s) hy.out)
      have HV := Lib.hid (fun (w' : World) (g : Nat) (h0 : w'.cell? ⟨g, 0, none⟩ = some (.string a)) (h1 : w'.cell? ⟨g, 0 + 1, none⟩ = some (.int .i64 (partN b 5))) (h2 : w'.cell? ⟨g, 0 + 2, none⟩ = some (.int .i64 F)) => spec_l11One_is ⟨a, partN b 5, F⟩ g 0 w' hb h0 h1 h2 hx.out)
      clear hb hy hF
      go_enter Tryd.func35, Tryd.ntmps35
      go_wp2_with fail
      refine (H32'.out _).mono ?_; rintro e w1 ⟨rv, rfl, o1, b1⟩
      obtain ⟨gx, cx, U, rfl, hgx0, ow⟩ := three_own o1
      have HW1 := Lib.hid ow
      have d0 : w1.cell? ⟨gx, 0, none⟩ = some (.string a) := ow.cell 0
      have d1 : w1.cell? ⟨gx, 1, none⟩ = some (.string b) := ow.cell 1
      have d2 : w1.cell? ⟨gx, 2, none⟩ = some (.string c) := ow.cell 2
      have hgx : gx < w1.heap.size := ow.lt
      have hgw : w.heap.size < gx := by have q := hgx0; simp at q; omega
      have HR1 := Lib.hid (HR0.out.below b1 HR0.out.lt)
      have HB1 := Lib.hid (bnext HB0.out b1)
      clear o1 b1 HR0 HB0 ow hgx0
      go_wp2_with fail
      refine (HH.out _).mono ?_; rintro e w2 ⟨rfl, b2⟩
      have HW2 := Lib.hid (HW1.out.below b2 HW1.out.lt)
      have HR2 := Lib.hid (HR1.out.below b2 HR1.out.lt)
      have HB2 := Lib.hid (bnext HB1.out b2)
      have e0 : w2.cell? ⟨gx, 0, none⟩ = some (.string a) := HW2.out.cell 0
      have hgx2 : gx < w2.heap.size := HW2.out.lt
      have hlw : w.heap.size < w2.heap.size := HR2.out.lt
      clear b2 HW1 HR1 HB1 d0 d1 d2 hgx
      go_wp2_with fail
      obtain ⟨gX, hgX⟩ : ∃ gX, w2.heap.size = gX := ⟨_, rfl⟩
      have HX3 : Hid (Own (w2.alloc (.cells #[.string a, .int .i64 0, .int .i64 F] 31)) gX 31 [.string a, .int .i64 (partN b 0), .int .i64 F]) := Lib.hid (by rw [← hgX]; exact Own.new w2 _ _)
      have HR3 : Hid (Own (w2.alloc (.cells #[.string a, .int .i64 0, .int .i64 F] 31)) w.heap.size 31 [.string ⟨#[]⟩, .int .i64 0, .int .i64 0]) := Lib.hid (HR2.out.alloc _)
      have HW3 : Hid (Own (w2.alloc (.cells #[.string a, .int .i64 0, .int .i64 F] 31)) gx 9 ([a, b, c].flatMap putStr ++ U)) := Lib.hid (HW2.out.alloc _)
      have HB3 : Hid (Below w.heap.size w (w2.alloc (.cells #[.string a, .int .i64 0, .int .i64 F] 31))) := Lib.hid (HB2.out.alloc HB2.out.size _)
      rw [hgX]
      clear HR2 HW2 HB2 e0
      go_loopw [8] (fun kv wr => ∃ (k : Nat), k ≤ 5 ∧ kv = .int .i64 ((k : Int) + 1) ∧ Own wr gX 31 [.string a, .int .i64 (partN b k), .int .i64 F] ∧ Own wr w.heap.size 31 [.string ⟨#[]⟩, .int .i64 0, .int .i64 0] ∧ Own wr gx 9 ([a, b, c].flatMap putStr ++ U) ∧ Below w.heap.size w wr) (fun kv _ => 6 - (intOf kv).toNat)
      case atStart => exact ⟨0, Nat.zero_le _, rfl, HX3.out, HR3.out, HW3.out, HB3.out⟩
      case round =>
        clear HX3 HR3 HW3 HB3
        obtain ⟨k, hk, rfl, hx, hr, hw, hb⟩ := hrel
        have HX := Lib.hid hx
        have HR := Lib.hid hr
        have HW := Lib.hid hw
        have HB := Lib.hid hb
        have dw1 : wr.cell? ⟨gx, 1, none⟩ = some (.string b) := hw.cell 1
        have hgxr : gx < wr.heap.size := hw.lt
        clear hx hr hw hb
        by_cases hlt : k < 5
        · have tk : decide (((k : Int) + 1) ≤ 5) = true := decide_eq_true (by omega)
          have ek : ((k + 1 : Nat) : Int) = (k : Int) + 1 := by omega
          by_cases hq : partT ((k + 1 : Nat) : Int) = b
          · have hpn := Lib.hid (partN_yes hq)
            rw [ek] at hq hpn
            have tq := text_eq hq
            have HC := Lib.hid (fun w' => spec_PartialName ((k : Int) + 1) w' (by omega))
            obtain ⟨tx, htx⟩ : ∃ tx, partT ((k : Int) + 1) = tx := ⟨_, rfl⟩
            rw [htx] at tq HC
            clear hq htx
            go_wp2_with fail
            refine wp_region_above (by kernel_rfl) (by kernel_rfl) ?_
            repeat (go_big_quiet_step (((go_at_call 72; exact aboveC (HC.out _)))))
            refine wpQuiet_nil ?_
            intro w1 b1
            have HX1 := Lib.hid (HX.out.below b1 HX.out.lt)
            have HR1 := Lib.hid (HR.out.below b1 HR.out.lt)
            have HW1 := Lib.hid (HW.out.below b1 HW.out.lt)
            have HB1 := Lib.hid (bnext HB.out b1)
            have d1 : w1.cell? ⟨gX, 1, none⟩ = some (.int .i64 (partN b k)) := HX1.out.cell 1
            have f1 := HX1.out.free 1
            have dl := HX1.out.lt
            have hX2 := Lib.hid (HX1.out.set 1 (.int .i64 ((k : Int) + 1)))
            have hR2 := Lib.hid (HR1.out.other (a := ⟨gX, 1, none⟩) (by show gX ≠ w.heap.size; omega) (.int .i64 ((k : Int) + 1)))
            have hW2 := Lib.hid (HW1.out.other (a := ⟨gX, 1, none⟩) (by show gX ≠ gx; omega) (.int .i64 ((k : Int) + 1)))
            have hB2 : Hid (Below w.heap.size w (w1.setCell ⟨gX, 1, none⟩ (.int .i64 ((k : Int) + 1)))) := Lib.hid (Below.setCell HB1.out (by show w.heap.size ≤ gX; omega) _)
            clear b1 HX HR HW HB HX1 HR1 HW1 HB1 dw1
            go_wp2_with fail
            go_roundw
            case rel => exact ⟨k + 1, by omega, by go_num, by rw [hpn.out]; exact hX2.out, hR2.out, hW2.out, hB2.out⟩
            case measure => simp [intOf]; omega
          · have hpn := Lib.hid (partN_no hq)
            rw [ek] at hq
            have tq := text_ne hq
            have HC := Lib.hid (fun w' => spec_PartialName ((k : Int) + 1) w' (by omega))
            obtain ⟨tx, htx⟩ : ∃ tx, partT ((k : Int) + 1) = tx := ⟨_, rfl⟩
            rw [htx] at tq HC
            clear hq htx
            go_wp2_with fail
            refine wp_region_above (by kernel_rfl) (by kernel_rfl) ?_
            repeat (go_big_quiet_step (((go_at_call 72; exact aboveC (HC.out _)))))
            refine wpQuiet_nil ?_
            intro w1 b1
            have HX1 := Lib.hid (HX.out.below b1 HX.out.lt)
            have HR1 := Lib.hid (HR.out.below b1 HR.out.lt)
            have HW1 := Lib.hid (HW.out.below b1 HW.out.lt)
            have HB1 := Lib.hid (bnext HB.out b1)
            clear b1 HX HR HW HB dw1
            go_wp2_with fail
            go_roundw
            case rel => exact ⟨k + 1, by omega, by go_num, by rw [hpn.out]; exact HX1.out, HR1.out, HW1.out, HB1.out⟩
            case measure => simp [intOf]; omega
        · obtain rfl : k = 5 := by omega
          have tk : decide ((((5 : Nat) : Int) + 1) ≤ 5) = false := by decide
          have y0 : wr.cell? ⟨gX, 0, none⟩ = some (.string a) := HX.out.cell 0
          have y1 : wr.cell? ⟨gX, 1, none⟩ = some (.int .i64 (partN b 5)) := HX.out.cell 1
          have y2 : wr.cell? ⟨gX, 2, none⟩ = some (.int .i64 F) := HX.out.cell 2
          have fy0 := HX.out.free 0
          have fy1 := HX.out.free 1
          have fy2 := HX.out.free 2
          have hlty : gX < wr.heap.size := HX.out.lt
          have hney : ¬ gX = wr.heap.size := by omega
          go_wp2_with fail
          refine (HV.out _ _ (by exact y0) (by exact y1) (by exact y2)).mono ?_; rintro e w4 ⟨rfl, b4⟩
          have HX4 := Lib.hid (HX.out.below b4 HX.out.lt)
          have HR4 := Lib.hid (HR.out.below b4 HR.out.lt)
          have HB4 := Lib.hid (bnext HB.out b4)
          clear b4 HX HR HB
          have q0 : w4.cell? ⟨w.heap.size, 0, none⟩ = some (.string ⟨#[]⟩) := HR4.out.cell 0
          have q1 : w4.cell? ⟨w.heap.size, 1, none⟩ = some (.int .i64 0) := HR4.out.cell 1
          have q2 : w4.cell? ⟨w.heap.size, 2, none⟩ = some (.int .i64 0) := HR4.out.cell 2
          have fq0 := HR4.out.free 0
          have fq1 := HR4.out.free 1
          have fq2 := HR4.out.free 2
          have hltq : w.heap.size < w4.heap.size := HR4.out.lt
          have hneq : ¬ w.heap.size = w4.heap.size := by omega
          go_wp2_with fail
          have hb := HB4.out
          exact bodyPost_ret (v := .tuple #[.agg #[.string ⟨#[]⟩, .int .i64 0, .int .i64 0], .bool false]) (by simp [results, Tryd.results35, go_sem, q0, q1, q2, hltq, hneq]) rfl ⟨by rw [e.out.1, e.out.2]; try rfl, by (repeat' (first | (with_reducible exact Below.refl _ _) | (with_reducible assumption) | (with_reducible refine below_dn ?_ _) | (with_reducible refine Below.drew ?_) | (with_reducible refine Below.alloc ?_ ?_ _) | (with_reducible refine Below.setCell ?_ ?_ _) | go_size))⟩
    · rw [hb] at hy
      have e := Lib.hid (measV_some (s := s) hy.out)
      have HV := Lib.hid (fun (w' : World) (g : Nat) (h0 : w'.cell? ⟨g, 0, none⟩ = some (.string a)) (h1 : w'.cell? ⟨g, 0 + 1, none⟩ = some (.int .i64 (partN b 5))) (h2 : w'.cell? ⟨g, 0 + 2, none⟩ = some (.int .i64 F)) => spec_l11One_is ⟨a, partN b 5, F⟩ g 0 w' hb h0 h1 h2 hx.out)
      clear hb hy hF
      go_enter Tryd.func35, Tryd.ntmps35
      go_wp2_with fail
      refine (H32'.out _).mono ?_; rintro e w1 ⟨rv, rfl, o1, b1⟩
      obtain ⟨gx, cx, U, rfl, hgx0, ow⟩ := three_own o1
      have HW1 := Lib.hid ow
      have d0 : w1.cell? ⟨gx, 0, none⟩ = some (.string a) := ow.cell 0
      have d1 : w1.cell? ⟨gx, 1, none⟩ = some (.string b) := ow.cell 1
      have d2 : w1.cell? ⟨gx, 2, none⟩ = some (.string c) := ow.cell 2
      have hgx : gx < w1.heap.size := ow.lt
      have hgw : w.heap.size < gx := by have q := hgx0; simp at q; omega
      have HR1 := Lib.hid (HR0.out.below b1 HR0.out.lt)
      have HB1 := Lib.hid (bnext HB0.out b1)
      clear o1 b1 HR0 HB0 ow hgx0
      go_wp2_with fail
      refine (HH.out _).mono ?_; rintro e w2 ⟨rfl, b2⟩
      have HW2 := Lib.hid (HW1.out.below b2 HW1.out.lt)
      have HR2 := Lib.hid (HR1.out.below b2 HR1.out.lt)
      have HB2 := Lib.hid (bnext HB1.out b2)
      have e0 : w2.cell? ⟨gx, 0, none⟩ = some (.string a) := HW2.out.cell 0
      have hgx2 : gx < w2.heap.size := HW2.out.lt
      have hlw : w.heap.size < w2.heap.size := HR2.out.lt
      clear b2 HW1 HR1 HB1 d0 d1 d2 hgx
      go_wp2_with fail
      obtain ⟨gX, hgX⟩ : ∃ gX, w2.heap.size = gX := ⟨_, rfl⟩
      have HX3 : Hid (Own (w2.alloc (.cells #[.string a, .int .i64 0, .int .i64 F] 31)) gX 31 [.string a, .int .i64 (partN b 0), .int .i64 F]) := Lib.hid (by rw [← hgX]; exact Own.new w2 _ _)
      have HR3 : Hid (Own (w2.alloc (.cells #[.string a, .int .i64 0, .int .i64 F] 31)) w.heap.size 31 [.string ⟨#[]⟩, .int .i64 0, .int .i64 0]) := Lib.hid (HR2.out.alloc _)
      have HW3 : Hid (Own (w2.alloc (.cells #[.string a, .int .i64 0, .int .i64 F] 31)) gx 9 ([a, b, c].flatMap putStr ++ U)) := Lib.hid (HW2.out.alloc _)
      have HB3 : Hid (Below w.heap.size w (w2.alloc (.cells #[.string a, .int .i64 0, .int .i64 F] 31))) := Lib.hid (HB2.out.alloc HB2.out.size _)
      rw [hgX]
      clear HR2 HW2 HB2 e0
      go_loopw [8] (fun kv wr => ∃ (k : Nat), k ≤ 5 ∧ kv = .int .i64 ((k : Int) + 1) ∧ Own wr gX 31 [.string a, .int .i64 (partN b k), .int .i64 F] ∧ Own wr w.heap.size 31 [.string ⟨#[]⟩, .int .i64 0, .int .i64 0] ∧ Own wr gx 9 ([a, b, c].flatMap putStr ++ U) ∧ Below w.heap.size w wr) (fun kv _ => 6 - (intOf kv).toNat)
      case atStart => exact ⟨0, Nat.zero_le _, rfl, HX3.out, HR3.out, HW3.out, HB3.out⟩
      case round =>
        clear HX3 HR3 HW3 HB3
        obtain ⟨k, hk, rfl, hx, hr, hw, hb⟩ := hrel
        have HX := Lib.hid hx
        have HR := Lib.hid hr
        have HW := Lib.hid hw
        have HB := Lib.hid hb
        have dw1 : wr.cell? ⟨gx, 1, none⟩ = some (.string b) := hw.cell 1
        have hgxr : gx < wr.heap.size := hw.lt
        clear hx hr hw hb
        by_cases hlt : k < 5
        · have tk : decide (((k : Int) + 1) ≤ 5) = true := decide_eq_true (by omega)
          have ek : ((k + 1 : Nat) : Int) = (k : Int) + 1 := by omega
          by_cases hq : partT ((k + 1 : Nat) : Int) = b
          · have hpn := Lib.hid (partN_yes hq)
            rw [ek] at hq hpn
            have tq := text_eq hq
            have HC := Lib.hid (fun w' => spec_PartialName ((k : Int) + 1) w' (by omega))
            obtain ⟨tx, htx⟩ : ∃ tx, partT ((k : Int) + 1) = tx := ⟨_, rfl⟩
            rw [htx] at tq HC
            clear hq htx
            go_wp2_with fail
            refine wp_region_above (by kernel_rfl) (by kernel_rfl) ?_
            repeat (go_big_quiet_step (((go_at_call 72; exact aboveC (HC.out _)))))
            refine wpQuiet_nil ?_
            intro w1 b1
            have HX1 := Lib.hid (HX.out.below b1 HX.out.lt)
            have HR1 := Lib.hid (HR.out.below b1 HR.out.lt)
            have HW1 := Lib.hid (HW.out.below b1 HW.out.lt)
            have HB1 := Lib.hid (bnext HB.out b1)
            have d1 : w1.cell? ⟨gX, 1, none⟩ = some (.int .i64 (partN b k)) := HX1.out.cell 1
            have f1 := HX1.out.free 1
            have dl := HX1.out.lt
            have hX2 := Lib.hid (HX1.out.set 1 (.int .i64 ((k : Int) + 1)))
            have hR2 := Lib.hid (HR1.out.other (a := ⟨gX, 1, none⟩) (by show gX ≠ w.heap.size; omega) (.int .i64 ((k : Int) + 1)))
            have hW2 := Lib.hid (HW1.out.other (a := ⟨gX, 1, none⟩) (by show gX ≠ gx; omega) (.int .i64 ((k : Int) + 1)))
            have hB2 : Hid (Below w.heap.size w (w1.setCell ⟨gX, 1, none⟩ (.int .i64 ((k : Int) + 1)))) := Lib.hid (Below.setCell HB1.out (by show w.heap.size ≤ gX; omega) _)
            clear b1 HX HR HW HB HX1 HR1 HW1 HB1 dw1
            go_wp2_with fail
            go_roundw
            case rel => exact ⟨k + 1, by omega, by go_num, by rw [hpn.out]; exact hX2.out, hR2.out, hW2.out, hB2.out⟩
            case measure => simp [intOf]; omega
          · have hpn := Lib.hid (partN_no hq)
            rw [ek] at hq
            have tq := text_ne hq
            have HC := Lib.hid (fun w' => spec_PartialName ((k : Int) + 1) w' (by omega))
            obtain ⟨tx, htx⟩ : ∃ tx, partT ((k : Int) + 1) = tx := ⟨_, rfl⟩
            rw [htx] at tq HC
            clear hq htx
            go_wp2_with fail
            refine wp_region_above (by kernel_rfl) (by kernel_rfl) ?_
            repeat (go_big_quiet_step (((go_at_call 72; exact aboveC (HC.out _)))))
            refine wpQuiet_nil ?_
            intro w1 b1
            have HX1 := Lib.hid (HX.out.below b1 HX.out.lt)
            have HR1 := Lib.hid (HR.out.below b1 HR.out.lt)
            have HW1 := Lib.hid (HW.out.below b1 HW.out.lt)
            have HB1 := Lib.hid (bnext HB.out b1)
            clear b1 HX HR HW HB dw1
            go_wp2_with fail
            go_roundw
            case rel => exact ⟨k + 1, by omega, by go_num, by rw [hpn.out]; exact HX1.out, HR1.out, HW1.out, HB1.out⟩
            case measure => simp [intOf]; omega
        · obtain rfl : k = 5 := by omega
          have tk : decide ((((5 : Nat) : Int) + 1) ≤ 5) = false := by decide
          have y0 : wr.cell? ⟨gX, 0, none⟩ = some (.string a) := HX.out.cell 0
          have y1 : wr.cell? ⟨gX, 1, none⟩ = some (.int .i64 (partN b 5)) := HX.out.cell 1
          have y2 : wr.cell? ⟨gX, 2, none⟩ = some (.int .i64 F) := HX.out.cell 2
          have fy0 := HX.out.free 0
          have fy1 := HX.out.free 1
          have fy2 := HX.out.free 2
          have hlty : gX < wr.heap.size := HX.out.lt
          have hney : ¬ gX = wr.heap.size := by omega
          go_wp2_with fail
          refine (HV.out _ _ (by exact y0) (by exact y1) (by exact y2)).mono ?_; rintro e w4 ⟨rfl, b4⟩
          have HX4 := Lib.hid (HX.out.below b4 HX.out.lt)
          have HR4 := Lib.hid (HR.out.below b4 HR.out.lt)
          have HB4 := Lib.hid (bnext HB.out b4)
          clear b4 HX HR HB
          have q0 : w4.cell? ⟨w.heap.size, 0, none⟩ = some (.string ⟨#[]⟩) := HR4.out.cell 0
          have q1 : w4.cell? ⟨w.heap.size, 1, none⟩ = some (.int .i64 0) := HR4.out.cell 1
          have q2 : w4.cell? ⟨w.heap.size, 2, none⟩ = some (.int .i64 0) := HR4.out.cell 2
          have fq0 := HR4.out.free 0
          have fq1 := HR4.out.free 1
          have fq2 := HR4.out.free 2
          have hltq : w.heap.size < w4.heap.size := HR4.out.lt
          have hneq : ¬ w.heap.size = w4.heap.size := by omega
          have x0 : w4.cell? ⟨gX, 0, none⟩ = some (.string a) := HX4.out.cell 0
          have x1 : w4.cell? ⟨gX, 1, none⟩ = some (.int .i64 (partN b 5)) := HX4.out.cell 1
          have x2 : w4.cell? ⟨gX, 2, none⟩ = some (.int .i64 F) := HX4.out.cell 2
          have fx0 := HX4.out.free 0
          have fx1 := HX4.out.free 1
          have fx2 := HX4.out.free 2
          have hltx : gX < w4.heap.size := HX4.out.lt
          have hnex : ¬ gX = w4.heap.size := by omega
          go_wp2_with fail
          have hb := HB4.out
          exact bodyPost_ret (v := .tuple #[.agg #[.string a, .int .i64 (partN b 5), .int .i64 F], .bool true]) (by simp [results, Tryd.results35, go_sem, q0, q1, q2, hltq, hneq, x0, x1, x2, hltx, hnex]) rfl ⟨by rw [e.out.1, e.out.2]; try rfl, by (repeat' (first | (with_reducible exact Below.refl _ _) | (with_reducible assumption) | (with_reducible refine below_dn ?_ _) | (with_reducible refine Below.drew ?_) | (with_reducible refine Below.alloc ?_ ?_ _) | (with_reducible refine Below.setCell ?_ ?_ _) | go_size))⟩
theorem spec_ReadMeasure (s : ByteArray) (w : World) (hs : s.size ≤ 1048576) :
    Calls Tryd.prog 11 #[.string s] w fun e w' => e = .returned (.tuple #[.agg #[.string (measV s).bell, .int .i64 (measV s).part, .int .i64 (measV s).value], .bool (measR s).isSome]) ∧ Below w.heap.size w w' := by
  have H := Lib.hid (fun w' => spec_l11Read s w' hs)
  generalize measV s = x at *
  generalize (measR s).isSome = bb at *
  have HR0 : Hid (Own (w.alloc (.cells #[.string ⟨#[]⟩, .int .i64 0, .int .i64 0] 31)) w.heap.size 31 [.string ⟨#[]⟩, .int .i64 0, .int .i64 0]) := Lib.hid (Own.new w _ _)
  have HB0 : Hid (Below w.heap.size w (w.alloc (.cells #[.string ⟨#[]⟩, .int .i64 0, .int .i64 0] 31))) := Lib.hid ((Below.refl _ _).alloc (Nat.le_refl _) _)
  go_enter Tryd.func11, Tryd.ntmps11
  go_wp2_with fail
  refine (H.out _).mono ?_; rintro e w1 ⟨rfl, b1⟩
  have HR1 := Lib.hid (HR0.out.below b1 HR0.out.lt)
  have HB1 := Lib.hid (bnext HB0.out b1)
  clear b1 HR0 HB0
  have q0 : w1.cell? ⟨w.heap.size, 0, none⟩ = some (.string ⟨#[]⟩) := HR1.out.cell 0
  have q1 : w1.cell? ⟨w.heap.size, 1, none⟩ = some (.int .i64 0) := HR1.out.cell 1
  have q2 : w1.cell? ⟨w.heap.size, 2, none⟩ = some (.int .i64 0) := HR1.out.cell 2
  have fq0 := HR1.out.free 0
  have fq1 := HR1.out.free 1
  have fq2 := HR1.out.free 2
  have hltq : w.heap.size < w1.heap.size := HR1.out.lt
  have hneq : ¬ w.heap.size = w1.heap.size := by omega
  go_wp2_with fail
  have hb := HB1.out
  exact bodyPost_ret (v := .tuple #[.agg #[.string x.bell, .int .i64 x.part, .int .i64 x.value], .bool bb]) (by simp [results, Tryd.results11, go_sem, q0, q1, q2, hltq, hneq]) rfl ⟨rfl, by (repeat' (first | (with_reducible exact Below.refl _ _) | (with_reducible assumption) | (with_reducible refine below_dn ?_ _) | (with_reducible refine Below.drew ?_) | (with_reducible refine Below.alloc ?_ ?_ _) | (with_reducible refine Below.setCell ?_ ?_ _) | go_size))⟩
end Go.Proofs.YtklgkbiobggbiaaDoor
