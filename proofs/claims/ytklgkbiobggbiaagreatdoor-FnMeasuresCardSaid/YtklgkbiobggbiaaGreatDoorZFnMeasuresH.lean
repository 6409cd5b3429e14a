/- Contracts and plain facts, joined: OwnK, ReadHz, ReadMs, ReadMsI, DecLaid, ErrLaid, MsNear. -/
import Derived.Test.YtklgkbiobggbiaaGreatDoorRows
import Derived.Test.YtklgkbiobggbiaaGreatDoorZFnMeasuresG
import Derived.Lib.LaidTab
import Derived.Stop.LaidErr
namespace Go.Proofs.YtklgkbiobggbiaaGreatDoor
open Go.ChangeShapes Go.WideShapes Go.ChangeAt Go.RowKit Go.Deep Go.Joins
set_option linter.unusedVariables false
set_option maxRecDepth 100000
set_option linter.unusedSimpArgs false
theorem own_block {w : World} {base g cap n s : Nat} {E : TypeId} {L : List Value} (h : w.ownsRow base E s (.slice (some ⟨g, 0, none⟩) n cap) n L) : ∃ U, Own w g E (L ++ U) := by
  obtain ⟨h1, h2⟩ := h
  rcases h2 with ⟨e, _⟩ | ⟨g', cap', cur, e, hb, hg, hn, hm, hs, ht⟩
  · cases e
  · injection e with q1 q2 q3
    injection q1 with q4
    injection q4 with q5
    subst q5
    refine ⟨cur.toList.drop (n * s), ?_⟩
    rw [← ht, List.take_append_drop]
    unfold Own
    simpa using hg
/-- blocks of two types are two blocks -/
theorem own_apart_type {w : World} {base s n g : Nat} {E E' : TypeId} {v : Value} {L L' : List Value} (h : w.ownsRow base E s v n L) (o : Own w g E' L') (hne : E ≠ E') : ∀ g', v.ownBlock = some g' → g' ≠ g := by
  rintro g' hg rfl
  obtain ⟨h1, h2⟩ := h
  rcases h2 with ⟨rfl, _⟩ | ⟨g2, cap, cur, rfl, hb, hg2, rest⟩
  · cases hg
  · obtain rfl : g2 = g' := by injection hg
    unfold Own at o
    rw [hg2] at o
    injection o with o
    injection o with _ q _
    exact hne q
theorem own_rdU {w : World} {g n : Nat} {E : TypeId} {L U : List Value} (h : Own w g E (L ++ U)) (hl : L.length = n * 1) (k : Nat) (hk : k < n) : w.cell? ⟨g, k, none⟩ = L[k]? := by
  rw [h.cell, List.getElem?_append_left (by omega)]
theorem dash_list : (⟨#[45]⟩ : ByteArray).toList = [45] := by rw [ByteArray.toList_eq]
theorem two_of {α : Type} {l : List α} (h : l.length = 2) : ∃ a b, l = [a, b] := by
  match l, h with
  | [a, b], _ => exact ⟨a, b, rfl⟩
end Go.Proofs.YtklgkbiobggbiaaGreatDoor
namespace Go.Proofs.YtklgkbiobggbiaaGreatDoor
open Go.ChangeShapes Go.WideShapes Go.ChangeAt Go.RowKit Go.Deep Go.Joins
set_option linter.unusedVariables false
set_option maxRecDepth 100000
set_option linter.unusedSimpArgs false
theorem two_cellsS {w : World} {base : Nat} {r : Value} {a b : ByteArray} (h : w.ownsRow base 9 1 r 2 ([a, b].flatMap putStr)) : ∃ g cap, r = .slice (some ⟨g, 0, none⟩) 2 cap ∧ g < w.heap.size ∧ w.cell? ⟨g, 0, none⟩ = some (.string a) ∧ w.cell? ⟨g, 1, none⟩ = some (.string b) := by
  rcases own_form h with ⟨_, q⟩ | ⟨g, cap, rfl⟩
  · omega
  obtain ⟨U, ou⟩ := own_block h
  exact ⟨g, cap, rfl, ou.lt, ou.cell 0, ou.cell 1⟩
/-- what is known of the reference's number with a point -/
def PointOk (s : ByteArray) (v : Int) (ok : Bool) : Prop := (ok = false → hertzR s = none) ∧ (ok = true → hertzR s = if hzB v = true then some v else none) ∧ I64 v
theorem point_no {s : ByteArray} (h : hertzR s = none) : PointOk s 0 false := ⟨fun _ => h, fun q => Bool.noConfusion q, ⟨by decide, by decide⟩⟩
def PointE (s : ByteArray) (e : Ending) : Prop := ∃ (v : Int) (ok : Bool), e = .returned (.tuple #[.int .i64 v, .bool ok]) ∧ PointOk s v ok
theorem impl_HertzTextN (f : Int) (w : World) (h : hzB f = false) : Calls Tryz.prog 47 #[.int .i64 f] w fun e w' => e = .returned (.string ⟨#[]⟩) ∧ Below w.heap.size w w' := by
  have HF := Lib.hid (fun w' => impl_IsFrequency_is f w' h)
  clear h
  go_enter Tryz.func47, Tryz.ntmps47
  go_wp2_with fail
  refine (HF.out _).mono ?_; rintro e w1 ⟨rfl, rfl⟩
  go_wp2_with fail
  go_ret
  exact ⟨rfl, Below.refl _ _⟩
set_option maxHeartbeats 2000000 in
theorem impl_ReadHertz (s : ByteArray) (w : World) (hs : s.size ≤ 1048576) (hm : MaxL w) (hp : Pow10 w) (he : ErrS w) :
    Calls Tryz.prog 45 #[.string s] w fun e w' => e = .returned (.tuple #[.int .i64 (hertzV s), .bool (hertzR s).isSome]) ∧ Below w.heap.size w w' := by
  have HM := Lib.hid hm; clear hm
  have HP := Lib.hid hp; clear hp
  have HE := Lib.hid he; clear he
  have hcs := cut_sizes 46 s
  have hC := Lib.hid (fun (w' : World) (h1 : MaxL w') => impl_Cut 46 s w' (by omega) h1)
  have hsz : (cutA 46 s ++ cutB 46 s).size = (cutA 46 s).size + (cutB 46 s).size := ByteArray.size_append
  have hD := Lib.hid (fun (w' : World) (h1 : Pow10 w') (h2 : ErrS w') => impl_ReadDecimal (cutA 46 s ++ cutB 46 s) w' (by omega) h1 h2)
  have hT := Lib.hid (hertz_tests s)
  have q1 : ¬ (9223372036854775807 < (cutA 46 s).size + (cutB 46 s).size) := by omega
  clear hcs hsz
  generalize cutA 46 s = a at *
  generalize cutB 46 s = b at *
  generalize cutF 46 s = cf at *
  cases hn : numS (a ++ b) with
  | none =>
    rw [(num_none hn).1, (num_none hn).2] at hD
    have e := Lib.hid (hertzV_none (hT.out.1 hn))
    clear hn hT
    go_enter Tryz.func45, Tryz.ntmps45
    go_wp2_with fail
    refine (hC.out _ HM.out).mono ?_; rintro e w1 ⟨rfl, b1⟩
    have HB1 := Lib.hid b1; clear b1
    go_wp2_with fail
    refine (hD.out _ (HP.out.below HB1.out) (HE.out.below HB1.out)).mono ?_; rintro e w2 ⟨rfl, b2⟩
    have HB2 := Lib.hid (bnext HB1.out b2); clear b2
    go_wp2_with fail
    go_ret2
    exact ⟨by rw [e.out.1, e.out.2]; try rfl, HB2.out⟩
  | some f =>
    rw [(num_some hn).1, (num_some hn).2] at hD
    have hT' := Lib.hid (hT.out.2 f hn)
    clear hn hT
    cases hb : hzB f with
    | false =>
      have e := Lib.hid (hertzV_none (hT'.out.2.2 hb).1)
      have t5 : s.toList.isEmpty = false := by
        rw [List.isEmpty_eq_false_iff]
        intro q
        exact (hT'.out.2.2 hb).2 (bytes_inj (by rw [← ByteArray.toList_eq, q]))
      have HX := Lib.hid (fun w' => impl_HertzTextN f w' hb)
      clear hb hT'
      go_enter Tryz.func45, Tryz.ntmps45
      go_wp2_with fail
      refine (hC.out _ HM.out).mono ?_; rintro e w1 ⟨rfl, b1⟩
      have HB1 := Lib.hid b1; clear b1
      go_wp2_with fail
      refine (hD.out _ (HP.out.below HB1.out) (HE.out.below HB1.out)).mono ?_; rintro e w2 ⟨rfl, b2⟩
      have HB2 := Lib.hid (bnext HB1.out b2); clear b2
      go_wp2_with fail
      refine (HX.out _).mono ?_; rintro e w3 ⟨rfl, b3⟩
      have HB3 := Lib.hid (bnext HB2.out b3); clear b3
      go_wp2_with fail
      go_ret2
      exact ⟨by rw [e.out.1, e.out.2]; try rfl, HB3.out⟩
    | true =>
      have HX := Lib.hid (fun (w' : World) (h1 : Pow10 w') => impl_HertzText f w' (inB_true hb) h1)
      obtain ⟨tx, htx⟩ : ∃ tx, hertzT f = tx := ⟨_, rfl⟩
      rw [htx] at HX hT'
      by_cases hq : tx = s
      · have e := Lib.hid (hertzV_some (hT'.out.1 hb hq))
        have t5 := text_eq hq
        clear hb hT' hq htx
        go_enter Tryz.func45, Tryz.ntmps45
        go_wp2_with fail
        refine (hC.out _ HM.out).mono ?_; rintro e w1 ⟨rfl, b1⟩
        have HB1 := Lib.hid b1; clear b1
        go_wp2_with fail
        refine (hD.out _ (HP.out.below HB1.out) (HE.out.below HB1.out)).mono ?_; rintro e w2 ⟨rfl, b2⟩
        have HB2 := Lib.hid (bnext HB1.out b2); clear b2
        go_wp2_with fail
        refine (HX.out _ (HP.out.below HB2.out)).mono ?_; rintro e w3 ⟨rfl, b3⟩
        have HB3 := Lib.hid (bnext HB2.out b3); clear b3
        go_wp2_with fail
        go_ret2
        exact ⟨by rw [e.out.1, e.out.2]; try rfl, HB3.out⟩
      · have e := Lib.hid (hertzV_none (hT'.out.2.1 hb hq))
        have t5 := text_ne hq
        clear hb hT' hq htx
        go_enter Tryz.func45, Tryz.ntmps45
        go_wp2_with fail
        refine (hC.out _ HM.out).mono ?_; rintro e w1 ⟨rfl, b1⟩
        have HB1 := Lib.hid b1; clear b1
        go_wp2_with fail
        refine (hD.out _ (HP.out.below HB1.out) (HE.out.below HB1.out)).mono ?_; rintro e w2 ⟨rfl, b2⟩
        have HB2 := Lib.hid (bnext HB1.out b2); clear b2
        go_wp2_with fail
        refine (HX.out _ (HP.out.below HB2.out)).mono ?_; rintro e w3 ⟨rfl, b3⟩
        have HB3 := Lib.hid (bnext HB2.out b3); clear b3
        go_wp2_with fail
        go_ret2
        exact ⟨by rw [e.out.1, e.out.2]; try rfl, HB3.out⟩
end Go.Proofs.YtklgkbiobggbiaaGreatDoor
namespace Go.Proofs.YtklgkbiobggbiaaGreatDoor
open Go.ChangeShapes Go.WideShapes Go.ChangeAt Go.RowKit Go.Deep Go.Joins
set_option linter.unusedVariables false
set_option maxRecDepth 100000
set_option linter.unusedSimpArgs false
theorem three_own {w : World} {base : Nat} {r : Value} {a b c : ByteArray} (h : w.ownsRow base 9 1 r 3 ([a, b, c].flatMap putStr)) : ∃ g cap U, r = .slice (some ⟨g, 0, none⟩) 3 cap ∧ base ≤ g ∧ Own w g 9 ([a, b, c].flatMap putStr ++ U) := by
  rcases own_form h with ⟨_, q⟩ | ⟨g, cap, rfl⟩
  · omega
  obtain ⟨U, ou⟩ := own_block h
  exact ⟨g, cap, U, rfl, (h.lt g rfl).1, ou⟩
end Go.Proofs.YtklgkbiobggbiaaGreatDoor
namespace Go.Proofs.YtklgkbiobggbiaaGreatDoor
open Go.ChangeShapes Go.WideShapes Go.ChangeAt Go.RowKit Go.Deep Go.Joins
set_option linter.unusedVariables false
set_option maxRecDepth 100000
set_option linter.unusedSimpArgs false
set_option maxHeartbeats 4000000 in
theorem impl_ReadMeasure (s : ByteArray) (w : World) (hs : s.size ≤ 1048576) (hm : MaxL w) (hp : Pow10 w) (he : ErrS w) :
    Calls Tryz.prog 15 #[.string s] w fun e w' => e = .returned (.tuple #[.agg #[.string (measV s).bell, .int .i64 (measV s).part, .int .i64 (measV s).value], .bool (measR s).isSome]) ∧ Below w.heap.size w w' := by
  have HM := Lib.hid hm; clear hm
  have HP := Lib.hid hp; clear hp
  have HE := Lib.hid he; clear he
  have HR0 : Hid (Own (w.alloc (.cells #[.string ⟨#[]⟩, .int .i64 0, .int .i64 0] 27)) w.heap.size 27 [.string ⟨#[]⟩, .int .i64 0, .int .i64 0]) := Lib.hid (Own.new w _ _)
  have HB0 : Hid (Below w.heap.size w (w.alloc (.cells #[.string ⟨#[]⟩, .int .i64 0, .int .i64 0] 27))) := Lib.hid ((Below.refl _ _).alloc (Nat.le_refl _) _)
  have H32 := Lib.hid (fun (w' : World) (h1 : MaxL w') => impl_Split 32 s w' hs h1)
  have hwz := Lib.hid (fun x (hx : x ∈ partsS 32 s) => partsS_size x hx)
  by_cases h3 : (partsS 32 s).length = 3
  case neg =>
    have e := Lib.hid (measV_none (measR_not3 h3))
    have t2 : (((partsS 32 s).length : Int) != 3) = true := bne_iff_ne.2 (by omega)
    clear h3
    generalize partsS 32 s = ws at *
    go_enter Tryz.func15, Tryz.ntmps15
    go_wp2_with fail
    refine (H32.out _ (HM.out.below HB0.out)).mono ?_; rintro e w1 ⟨rfl, o1, b1⟩
    have HR1 := Lib.hid (HR0.out.below b1 HR0.out.lt)
    have HB1 := Lib.hid (bnext HB0.out b1)
    clear o1 b1 HR0 HB0
    have q0 : w1.cell? ⟨w.heap.size, 0, none⟩ = some (.string ⟨#[]⟩) := HR1.out.cell 0
    have q1 : w1.cell? ⟨w.heap.size, 1, none⟩ = some (.int .i64 0) := HR1.out.cell 1
    have q2 : w1.cell? ⟨w.heap.size, 2, none⟩ = some (.int .i64 0) := HR1.out.cell 2
    have fq0 := HR1.out.free 0
    have fq1 := HR1.out.free 1
    have fq2 := HR1.out.free 2
    have hltq : w.heap.size < w1.heap.size := HR1.out.lt
    have hneq : ¬ w.heap.size = w1.heap.size := by omega
    go_wp2_with fail
    have hb := HB1.out
    exact bodyPost_ret (v := .tuple #[.agg #[.string ⟨#[]⟩, .int .i64 0, .int .i64 0], .bool false]) (by simp [results, Tryz.results15, go_sem, q0, q1, q2, hltq, hneq]) rfl ⟨by rw [e.out.1, e.out.2]; try rfl, by (repeat' (first | (with_reducible exact Below.refl _ _) | (with_reducible assumption) | (with_reducible refine below_dn ?_ _) | (with_reducible refine Below.drew ?_) | (with_reducible refine Below.alloc ?_ ?_ _) | (with_reducible refine Below.setCell ?_ ?_ _) | go_size))⟩
  obtain ⟨a, b, c, hab⟩ := three_of h3
  have hsa : a.size ≤ 1048576 := Nat.le_trans (hwz.out a (by rw [hab]; simp)) hs
  have hsc : c.size ≤ 1048576 := Nat.le_trans (hwz.out c (by rw [hab]; simp)) hs
  have HH := Lib.hid (fun (w' : World) (h1 : MaxL w') (h2 : Pow10 w') (h3 : ErrS w') => impl_ReadHertz c w' hsc h1 h2 h3)
  have ht := Lib.hid (meas_tests hab)
  have hF := hertzV_bd c
  rw [hab] at H32
  have H32' : Hid (∀ w' : World, MaxL w' → Calls Tryz.prog 43 #[.string s, .string ⟨#[32]⟩] w' fun e w'' => e = .returned (.slice (some ⟨w'.heap.size, 0, none⟩) 3 3) ∧ Own w'' w'.heap.size 9 ([a, b, c].flatMap putStr) ∧ Below w'.heap.size w' w'') := H32
  generalize hertzV c = F at *
  generalize (hertzR c).isSome = okk at *
  have hx := Lib.hid (measOk (b := b) hsa hF)
  clear h3 hwz hab H32 hF
  cases hb : measureB ⟨a, partN b 5, F⟩
  · have e := Lib.hid (measV_none (s := s) (ht.out.2.1 hb))
    have HV := Lib.hid (fun (w' : World) => impl_validMeasure_is ⟨a, partN b 5, F⟩ w' hb hx.out)
    clear hb ht
    go_enter Tryz.func15, Tryz.ntmps15
    go_wp2_with fail
    refine (H32'.out _ (HM.out.below HB0.out)).mono ?_; rintro e w1 ⟨rfl, ow, b1⟩
    obtain ⟨gx, hgx'⟩ : ∃ gx, (w.alloc (.cells #[.string ⟨#[]⟩, .int .i64 0, .int .i64 0] 27)).heap.size = gx := ⟨_, rfl⟩
    rw [hgx'] at ow
    rw [hgx']
    have hgw : w.heap.size < gx := by rw [← hgx']; simp
    have HW1 : Hid (Own w1 gx 9 ([a, b, c].flatMap putStr ++ [])) := Lib.hid (by rw [List.append_nil]; exact ow)
    have d0 : w1.cell? ⟨gx, 0, none⟩ = some (.string a) := ow.cell 0
    have hgx : gx < w1.heap.size := ow.lt
    have HR1 := Lib.hid (HR0.out.below b1 HR0.out.lt)
    have HB1 := Lib.hid (bnext HB0.out b1)
    have hlw : w.heap.size < w1.heap.size := HR1.out.lt
    clear b1 HR0 HB0 ow hgx'
    go_wp2_with fail
    obtain ⟨gX, hgX⟩ : ∃ gX, w1.heap.size = gX := ⟨_, rfl⟩
    have HX3 : Hid (Own (w1.alloc (.cells #[.string a, .int .i64 0, .int .i64 0] 27)) gX 27 [.string a, .int .i64 (partN b 0), .int .i64 0]) := Lib.hid (by rw [← hgX]; exact Own.new w1 _ _)
    have HR3 : Hid (Own (w1.alloc (.cells #[.string a, .int .i64 0, .int .i64 0] 27)) w.heap.size 27 [.string ⟨#[]⟩, .int .i64 0, .int .i64 0]) := Lib.hid (HR1.out.alloc _)
    have HW3 : Hid (Own (w1.alloc (.cells #[.string a, .int .i64 0, .int .i64 0] 27)) gx 9 ([a, b, c].flatMap putStr ++ [])) := Lib.hid (HW1.out.alloc _)
    have HB3 : Hid (Below w.heap.size w (w1.alloc (.cells #[.string a, .int .i64 0, .int .i64 0] 27))) := Lib.hid (HB1.out.alloc HB1.out.size _)
    rw [hgX]
    clear HR1 HW1 HB1 d0
    go_loopw [6] (fun kv wr => ∃ (k : Nat), k ≤ 5 ∧ kv = .int .i64 ((k : Int) + 1) ∧ Own wr gX 27 [.string a, .int .i64 (partN b k), .int .i64 0] ∧ Own wr w.heap.size 27 [.string ⟨#[]⟩, .int .i64 0, .int .i64 0] ∧ Own wr gx 9 ([a, b, c].flatMap putStr ++ []) ∧ Below w.heap.size w wr) (fun kv _ => 6 - (intOf kv).toNat)
    case atStart => exact ⟨0, Nat.zero_le _, rfl, HX3.out, HR3.out, HW3.out, HB3.out⟩
    case round =>
      clear HX3 HR3 HW3 HB3
      obtain ⟨k, hk, rfl, hx, hr, hw, hb⟩ := hrel
      have HX := Lib.hid hx
      have HR := Lib.hid hr
      have HW := Lib.hid hw
      have HB := Lib.hid hb
      have dw1 : wr.cell? ⟨gx, 1, none⟩ = some (.string b) := hw.cell 1
      have hgxr : gx < wr.heap.size := hw.lt
      clear hx hr hw hb
      by_cases hlt : k < 5
      · have tk : decide (((k : Int) + 1) ≤ 5) = true := decide_eq_true (by omega)
        have ek : ((k + 1 : Nat) : Int) = (k : Int) + 1 := by omega
        by_cases hq : partT ((k + 1 : Nat) : Int) = b
        · have hpn := Lib.hid (partN_yes hq)
          rw [ek] at hq hpn
          have tq := text_eq hq
          have HC := Lib.hid (fun w' => impl_PartialName ((k : Int) + 1) w' (by omega))
          obtain ⟨tx, htx⟩ : ∃ tx, partT ((k : Int) + 1) = tx := ⟨_, rfl⟩
          rw [htx] at tq HC
          clear hq htx
          go_wp2_with fail
          refine wp_region_above (by kernel_rfl) (by kernel_rfl) ?_
          repeat (go_big_quiet_step (((go_at_call 44; exact aboveC (HC.out _)))))
          refine wpQuiet_nil ?_
          intro w1 b1
          have HX1 := Lib.hid (HX.out.below b1 HX.out.lt)
          have HR1 := Lib.hid (HR.out.below b1 HR.out.lt)
          have HW1 := Lib.hid (HW.out.below b1 HW.out.lt)
          have HB1 := Lib.hid (bnext HB.out b1)
          have d1 : w1.cell? ⟨gX, 1, none⟩ = some (.int .i64 (partN b k)) := HX1.out.cell 1
          have f1 := HX1.out.free 1
          have dl := HX1.out.lt
          have hX2 := Lib.hid (HX1.out.set 1 (.int .i64 ((k : Int) + 1)))
          have hR2 := Lib.hid (HR1.out.other (a := ⟨gX, 1, none⟩) (by show gX ≠ w.heap.size; omega) (.int .i64 ((k : Int) + 1)))
          have hW2 := Lib.hid (HW1.out.other (a := ⟨gX, 1, none⟩) (by show gX ≠ gx; omega) (.int .i64 ((k : Int) + 1)))
          have hB2 : Hid (Below w.heap.size w (w1.setCell ⟨gX, 1, none⟩ (.int .i64 ((k : Int) + 1)))) := Lib.hid (Below.setCell HB1.out (by show w.heap.size ≤ gX; omega) _)
          clear b1 HX HR HW HB HX1 HR1 HW1 HB1 dw1
          go_wp2_with fail
          go_roundw
          case rel => exact ⟨k + 1, by omega, by go_num, by rw [hpn.out]; exact hX2.out, hR2.out, hW2.out, hB2.out⟩
          case measure => simp [intOf]; omega
        · have hpn := Lib.hid (partN_no hq)
          rw [ek] at hq
          have tq := text_ne hq
          have HC := Lib.hid (fun w' => impl_PartialName ((k : Int) + 1) w' (by omega))
          obtain ⟨tx, htx⟩ : ∃ tx, partT ((k : Int) + 1) = tx := ⟨_, rfl⟩
          rw [htx] at tq HC
          clear hq htx
          go_wp2_with fail
          refine wp_region_above (by kernel_rfl) (by kernel_rfl) ?_
          repeat (go_big_quiet_step (((go_at_call 44; exact aboveC (HC.out _)))))
          refine wpQuiet_nil ?_
          intro w1 b1
          have HX1 := Lib.hid (HX.out.below b1 HX.out.lt)
          have HR1 := Lib.hid (HR.out.below b1 HR.out.lt)
          have HW1 := Lib.hid (HW.out.below b1 HW.out.lt)
          have HB1 := Lib.hid (bnext HB.out b1)
          clear b1 HX HR HW HB dw1
          go_wp2_with fail
          go_roundw
          case rel => exact ⟨k + 1, by omega, by go_num, by rw [hpn.out]; exact HX1.out, HR1.out, HW1.out, HB1.out⟩
          case measure => simp [intOf]; omega
      · obtain rfl : k = 5 := by omega
        have tk : decide ((((5 : Nat) : Int) + 1) ≤ 5) = false := by decide
        have dw2 : wr.cell? ⟨gx, 2, none⟩ = some (.string c) := HW.out.cell 2
        go_wp2_with fail
        refine (HH.out _ (HM.out.below HB.out) (HP.out.below HB.out) (HE.out.below HB.out)).mono ?_; rintro e w4 ⟨rfl, b4⟩
        have HX4 := Lib.hid (HX.out.below b4 HX.out.lt)
        have HR4 := Lib.hid (HR.out.below b4 HR.out.lt)
        have HB4 := Lib.hid (bnext HB.out b4)
        have d2 : w4.cell? ⟨gX, 2, none⟩ = some (.int .i64 0) := HX4.out.cell 2
        have f2 := HX4.out.free 2
        have dl := HX4.out.lt
        have hX5 : Hid (Own (w4.setCell ⟨gX, 2, none⟩ (.int .i64 F)) gX 27 [.string a, .int .i64 (partN b 5), .int .i64 F]) := Lib.hid (HX4.out.set 2 (.int .i64 F))
        have hR5 := Lib.hid (HR4.out.other (a := ⟨gX, 2, none⟩) (by show gX ≠ w.heap.size; omega) (.int .i64 F))
        have hB5 : Hid (Below w.heap.size w (w4.setCell ⟨gX, 2, none⟩ (.int .i64 F))) := Lib.hid (Below.setCell HB4.out (by show w.heap.size ≤ gX; omega) _)
        have y0 : w4.cell? ⟨gX, 0, none⟩ = some (.string a) := HX4.out.cell 0
        have y1 : w4.cell? ⟨gX, 1, none⟩ = some (.int .i64 (partN b 5)) := HX4.out.cell 1
        clear b4 HX HR HW HB HX4 HR4 HB4 dw2
        go_wp2_with fail
        refine (HV.out _).mono ?_; rintro e w6 ⟨rfl, b6⟩
        have HX6 := Lib.hid (hX5.out.below b6 hX5.out.lt)
        have HR6 := Lib.hid (hR5.out.below b6 hR5.out.lt)
        have HB6 := Lib.hid (bnext hB5.out b6)
        clear b6 hX5 hR5 hB5 y0 y1 d2 f2 dl
        have q0 : w6.cell? ⟨w.heap.size, 0, none⟩ = some (.string ⟨#[]⟩) := HR6.out.cell 0
        have q1 : w6.cell? ⟨w.heap.size, 1, none⟩ = some (.int .i64 0) := HR6.out.cell 1
        have q2 : w6.cell? ⟨w.heap.size, 2, none⟩ = some (.int .i64 0) := HR6.out.cell 2
        have fq0 := HR6.out.free 0
        have fq1 := HR6.out.free 1
        have fq2 := HR6.out.free 2
        have hltq : w.heap.size < w6.heap.size := HR6.out.lt
        have hneq : ¬ w.heap.size = w6.heap.size := by omega
        go_wp2_with fail
        have hb := HB6.out
        exact bodyPost_ret (v := .tuple #[.agg #[.string ⟨#[]⟩, .int .i64 0, .int .i64 0], .bool false]) (by simp [results, Tryz.results15, go_sem, q0, q1, q2, hltq, hneq]) rfl ⟨by rw [e.out.1, e.out.2]; try rfl, by (repeat' (first | (with_reducible exact Below.refl _ _) | (with_reducible assumption) | (with_reducible refine below_dn ?_ _) | (with_reducible refine Below.drew ?_) | (with_reducible refine Below.alloc ?_ ?_ _) | (with_reducible refine Below.setCell ?_ ?_ _) | go_size))⟩
  · have HV := Lib.hid (fun (w' : World) => impl_validMeasure_is ⟨a, partN b 5, F⟩ w' hb hx.out)
    have HT := Lib.hid (fun (w' : World) (h1 : Pow10 w') => impl_MeasureText ⟨a, partN b 5, F⟩ w' hx.out h1)
    obtain ⟨tx, htx⟩ : ∃ tx, measT ⟨a, partN b 5, F⟩ = tx := ⟨_, rfl⟩
    rw [htx] at HT ht
    by_cases hq : tx = s
    · have e := Lib.hid (measV_some (s := s) (ht.out.1 hb hq))
      have t5 := text_eq hq
      clear hb hq ht htx
      go_enter Tryz.func15, Tryz.ntmps15
      go_wp2_with fail
      refine (H32'.out _ (HM.out.below HB0.out)).mono ?_; rintro e w1 ⟨rfl, ow, b1⟩
      obtain ⟨gx, hgx'⟩ : ∃ gx, (w.alloc (.cells #[.string ⟨#[]⟩, .int .i64 0, .int .i64 0] 27)).heap.size = gx := ⟨_, rfl⟩
      rw [hgx'] at ow
      rw [hgx']
      have hgw : w.heap.size < gx := by rw [← hgx']; simp
      have HW1 : Hid (Own w1 gx 9 ([a, b, c].flatMap putStr ++ [])) := Lib.hid (by rw [List.append_nil]; exact ow)
      have d0 : w1.cell? ⟨gx, 0, none⟩ = some (.string a) := ow.cell 0
      have hgx : gx < w1.heap.size := ow.lt
      have HR1 := Lib.hid (HR0.out.below b1 HR0.out.lt)
      have HB1 := Lib.hid (bnext HB0.out b1)
      have hlw : w.heap.size < w1.heap.size := HR1.out.lt
      clear b1 HR0 HB0 ow hgx'
      go_wp2_with fail
      obtain ⟨gX, hgX⟩ : ∃ gX, w1.heap.size = gX := ⟨_, rfl⟩
      have HX3 : Hid (Own (w1.alloc (.cells #[.string a, .int .i64 0, .int .i64 0] 27)) gX 27 [.string a, .int .i64 (partN b 0), .int .i64 0]) := Lib.hid (by rw [← hgX]; exact Own.new w1 _ _)
      have HR3 : Hid (Own (w1.alloc (.cells #[.string a, .int .i64 0, .int .i64 0] 27)) w.heap.size 27 [.string ⟨#[]⟩, .int .i64 0, .int .i64 0]) := Lib.hid (HR1.out.alloc _)
      have HW3 : Hid (Own (w1.alloc (.cells #[.string a, .int .i64 0, .int .i64 0] 27)) gx 9 ([a, b, c].flatMap putStr ++ [])) := Lib.hid (HW1.out.alloc _)
      have HB3 : Hid (Below w.heap.size w (w1.alloc (.cells #[.string a, .int .i64 0, .int .i64 0] 27))) := Lib.hid (HB1.out.alloc HB1.out.size _)
      rw [hgX]
      clear HR1 HW1 HB1 d0
      go_loopw [6] (fun kv wr => ∃ (k : Nat), k ≤ 5 ∧ kv = .int .i64 ((k : Int) + 1) ∧ Own wr gX 27 [.string a, .int .i64 (partN b k), .int .i64 0] ∧ Own wr w.heap.size 27 [.string ⟨#[]⟩, .int .i64 0, .int .i64 0] ∧ Own wr gx 9 ([a, b, c].flatMap putStr ++ []) ∧ Below w.heap.size w wr) (fun kv _ => 6 - (intOf kv).toNat)
      case atStart => exact ⟨0, Nat.zero_le _, rfl, HX3.out, HR3.out, HW3.out, HB3.out⟩
      case round =>
        clear HX3 HR3 HW3 HB3
        obtain ⟨k, hk, rfl, hx, hr, hw, hb⟩ := hrel
        have HX := Lib.hid hx
        have HR := Lib.hid hr
        have HW := Lib.hid hw
        have HB := Lib.hid hb
        have dw1 : wr.cell? ⟨gx, 1, none⟩ = some (.string b) := hw.cell 1
        have hgxr : gx < wr.heap.size := hw.lt
        clear hx hr hw hb
        by_cases hlt : k < 5
        · have tk : decide (((k : Int) + 1) ≤ 5) = true := decide_eq_true (by omega)
          have ek : ((k + 1 : Nat) : Int) = (k : Int) + 1 := by omega
          by_cases hq : partT ((k + 1 : Nat) : Int) = b
          · have hpn := Lib.hid (partN_yes hq)
            rw [ek] at hq hpn
            have tq := text_eq hq
            have HC := Lib.hid (fun w' => impl_PartialName ((k : Int) + 1) w' (by omega))
            obtain ⟨tx, htx⟩ : ∃ tx, partT ((k : Int) + 1) = tx := ⟨_, rfl⟩
            rw [htx] at tq HC
            clear hq htx
            go_wp2_with fail
            refine wp_region_above (by kernel_rfl) (by kernel_rfl) ?_
            repeat (go_big_quiet_step (((go_at_call 44; exact aboveC (HC.out _)))))
            refine wpQuiet_nil ?_
            intro w1 b1
            have HX1 := Lib.hid (HX.out.below b1 HX.out.lt)
            have HR1 := Lib.hid (HR.out.below b1 HR.out.lt)
            have HW1 := Lib.hid (HW.out.below b1 HW.out.lt)
            have HB1 := Lib.hid (bnext HB.out b1)
            have d1 : w1.cell? ⟨gX, 1, none⟩ = some (.int .i64 (partN b k)) := HX1.out.cell 1
            have f1 := HX1.out.free 1
            have dl := HX1.out.lt
            have hX2 := Lib.hid (HX1.out.set 1 (.int .i64 ((k : Int) + 1)))
            have hR2 := Lib.hid (HR1.out.other (a := ⟨gX, 1, none⟩) (by show gX ≠ w.heap.size; omega) (.int .i64 ((k : Int) + 1)))
            have hW2 := Lib.hid (HW1.out.other (a := ⟨gX, 1, none⟩) (by show gX ≠ gx; omega) (.int .i64 ((k : Int) + 1)))
            have hB2 : Hid (Below w.heap.size w (w1.setCell ⟨gX, 1, none⟩ (.int .i64 ((k : Int) + 1)))) := Lib.hid (Below.setCell HB1.out (by show w.heap.size ≤ gX; omega) _)
            clear b1 HX HR HW HB HX1 HR1 HW1 HB1 dw1
            go_wp2_with fail
            go_roundw
            case rel => exact ⟨k + 1, by omega, by go_num, by rw [hpn.out]; exact hX2.out, hR2.out, hW2.out, hB2.out⟩
            case measure => simp [intOf]; omega
          · have hpn := Lib.hid (partN_no hq)
            rw [ek] at hq
            have tq := text_ne hq
            have HC := Lib.hid (fun w' => impl_PartialName ((k : Int) + 1) w' (by omega))
            obtain ⟨tx, htx⟩ : ∃ tx, partT ((k : Int) + 1) = tx := ⟨_, rfl⟩
            rw [htx] at tq HC
            clear hq htx
            go_wp2_with fail
            refine wp_region_above (by kernel_rfl) (by kernel_rfl) ?_
            repeat (go_big_quiet_step (((go_at_call 44; exact aboveC (HC.out _)))))
            refine wpQuiet_nil ?_
            intro w1 b1
            have HX1 := Lib.hid (HX.out.below b1 HX.out.lt)
            have HR1 := Lib.hid (HR.out.below b1 HR.out.lt)
            have HW1 := Lib.hid (HW.out.below b1 HW.out.lt)
            have HB1 := Lib.hid (bnext HB.out b1)
            clear b1 HX HR HW HB dw1
            go_wp2_with fail
            go_roundw
            case rel => exact ⟨k + 1, by omega, by go_num, by rw [hpn.out]; exact HX1.out, HR1.out, HW1.out, HB1.out⟩
            case measure => simp [intOf]; omega
        · obtain rfl : k = 5 := by omega
          have tk : decide ((((5 : Nat) : Int) + 1) ≤ 5) = false := by decide
          have dw2 : wr.cell? ⟨gx, 2, none⟩ = some (.string c) := HW.out.cell 2
          go_wp2_with fail
          refine (HH.out _ (HM.out.below HB.out) (HP.out.below HB.out) (HE.out.below HB.out)).mono ?_; rintro e w4 ⟨rfl, b4⟩
          have HX4 := Lib.hid (HX.out.below b4 HX.out.lt)
          have HR4 := Lib.hid (HR.out.below b4 HR.out.lt)
          have HB4 := Lib.hid (bnext HB.out b4)
          have d2 : w4.cell? ⟨gX, 2, none⟩ = some (.int .i64 0) := HX4.out.cell 2
          have f2 := HX4.out.free 2
          have dl := HX4.out.lt
          have hX5 : Hid (Own (w4.setCell ⟨gX, 2, none⟩ (.int .i64 F)) gX 27 [.string a, .int .i64 (partN b 5), .int .i64 F]) := Lib.hid (HX4.out.set 2 (.int .i64 F))
          have hR5 := Lib.hid (HR4.out.other (a := ⟨gX, 2, none⟩) (by show gX ≠ w.heap.size; omega) (.int .i64 F))
          have hB5 : Hid (Below w.heap.size w (w4.setCell ⟨gX, 2, none⟩ (.int .i64 F))) := Lib.hid (Below.setCell HB4.out (by show w.heap.size ≤ gX; omega) _)
          have y0 : w4.cell? ⟨gX, 0, none⟩ = some (.string a) := HX4.out.cell 0
          have y1 : w4.cell? ⟨gX, 1, none⟩ = some (.int .i64 (partN b 5)) := HX4.out.cell 1
          clear b4 HX HR HW HB HX4 HR4 HB4 dw2
          go_wp2_with fail
          refine (HV.out _).mono ?_; rintro e w6 ⟨rfl, b6⟩
          have HX6 := Lib.hid (hX5.out.below b6 hX5.out.lt)
          have HR6 := Lib.hid (hR5.out.below b6 hR5.out.lt)
          have HB6 := Lib.hid (bnext hB5.out b6)
          clear b6 hX5 hR5 hB5 y0 y1 d2 f2 dl
          have z0 : w6.cell? ⟨gX, 0, none⟩ = some (.string a) := HX6.out.cell 0
          have z1 : w6.cell? ⟨gX, 1, none⟩ = some (.int .i64 (partN b 5)) := HX6.out.cell 1
          have z2 : w6.cell? ⟨gX, 2, none⟩ = some (.int .i64 F) := HX6.out.cell 2
          have fz0 := HX6.out.free 0
          have fz1 := HX6.out.free 1
          have fz2 := HX6.out.free 2
          have hltz : gX < w6.heap.size := HX6.out.lt
          have hnez : ¬ gX = w6.heap.size := by omega
          go_wp2_with fail
          refine (HT.out _ (HP.out.below HB6.out)).mono ?_; rintro e w7 ⟨rfl, b7⟩
          have HX7 := Lib.hid (HX6.out.below b7 HX6.out.lt)
          have HR7 := Lib.hid (HR6.out.below b7 HR6.out.lt)
          have HB7 := Lib.hid (bnext HB6.out b7)
          clear b7 HX6 HR6 HB6
          have q0 : w7.cell? ⟨w.heap.size, 0, none⟩ = some (.string ⟨#[]⟩) := HR7.out.cell 0
          have q1 : w7.cell? ⟨w.heap.size, 1, none⟩ = some (.int .i64 0) := HR7.out.cell 1
          have q2 : w7.cell? ⟨w.heap.size, 2, none⟩ = some (.int .i64 0) := HR7.out.cell 2
          have fq0 := HR7.out.free 0
          have fq1 := HR7.out.free 1
          have fq2 := HR7.out.free 2
          have hltq : w.heap.size < w7.heap.size := HR7.out.lt
          have hneq : ¬ w.heap.size = w7.heap.size := by omega
          have x0 : w7.cell? ⟨gX, 0, none⟩ = some (.string a) := HX7.out.cell 0
          have x1 : w7.cell? ⟨gX, 1, none⟩ = some (.int .i64 (partN b 5)) := HX7.out.cell 1
          have x2 : w7.cell? ⟨gX, 2, none⟩ = some (.int .i64 F) := HX7.out.cell 2
          have fx0 := HX7.out.free 0
          have fx1 := HX7.out.free 1
          have fx2 := HX7.out.free 2
          have hltx : gX < w7.heap.size := HX7.out.lt
          have hnex : ¬ gX = w7.heap.size := by omega
          go_wp2_with fail
          have hb := HB7.out
          exact bodyPost_ret (v := .tuple #[.agg #[.string a, .int .i64 (partN b 5), .int .i64 F], .bool true]) (by simp [results, Tryz.results15, go_sem, q0, q1, q2, hltq, hneq, x0, x1, x2, hltx, hnex]) rfl ⟨by rw [e.out.1, e.out.2]; try rfl, by (repeat' (first | (with_reducible exact Below.refl _ _) | (with_reducible assumption) | (with_reducible refine below_dn ?_ _) | (with_reducible refine Below.drew ?_) | (with_reducible refine Below.alloc ?_ ?_ _) | (with_reducible refine Below.setCell ?_ ?_ _) | go_size))⟩
    · have e := Lib.hid (measV_none (s := s) (ht.out.2.2 hq))
      have t5 := text_ne hq
      clear hb hq ht htx
      go_enter Tryz.func15, Tryz.ntmps15
      go_wp2_with fail
      refine (H32'.out _ (HM.out.below HB0.out)).mono ?_; rintro e w1 ⟨rfl, ow, b1⟩
      obtain ⟨gx, hgx'⟩ : ∃ gx, (w.alloc (.cells #[.string ⟨#[]⟩, .int .i64 0, .int .i64 0] 27)).heap.size = gx := ⟨_, rfl⟩
      rw [hgx'] at ow
      rw [hgx']
      have hgw : w.heap.size < gx := by rw [← hgx']; simp
      have HW1 : Hid (Own w1 gx 9 ([a, b, c].flatMap putStr ++ [])) := Lib.hid (by rw [List.append_nil]; exact ow)
      have d0 : w1.cell? ⟨gx, 0, none⟩ = some (.string a) := ow.cell 0
      have hgx : gx < w1.heap.size := ow.lt
      have HR1 := Lib.hid (HR0.out.below b1 HR0.out.lt)
      have HB1 := Lib.hid (bnext HB0.out b1)
      have hlw : w.heap.size < w1.heap.size := HR1.out.lt
      clear b1 HR0 HB0 ow hgx'
      go_wp2_with fail
      obtain ⟨gX, hgX⟩ : ∃ gX, w1.heap.size = gX := ⟨_, rfl⟩
      have HX3 : Hid (Own (w1.alloc (.cells #[.string a, .int .i64 0, .int .i64 0] 27)) gX 27 [.string a, .int .i64 (partN b 0), .int .i64 0]) := Lib.hid (by rw [← hgX]; exact Own.new w1 _ _)
      have HR3 : Hid (Own (w1.alloc (.cells #[.string a, .int .i64 0, .int .i64 0] 27)) w.heap.size 27 [.string ⟨#[]⟩, .int .i64 0, .int .i64 0]) := Lib.hid (HR1.out.alloc _)
      have HW3 : Hid (Own (w1.alloc (.cells #[.string a, .int .i64 0, .int .i64 0] 27)) gx 9 ([a, b, c].flatMap putStr ++ [])) := Lib.hid (HW1.out.alloc _)
      have HB3 : Hid (Below w.heap.size w (w1.alloc (.cells #[.string a, .int .i64 0, .int .i64 0] 27))) := Lib.hid (HB1.out.alloc HB1.out.size _)
      rw [hgX]
      clear HR1 HW1 HB1 d0
      go_loopw [6] (fun kv wr => ∃ (k : Nat), k ≤ 5 ∧ kv = .int .i64 ((k : Int) + 1) ∧ Own wr gX 27 [.string a, .int .i64 (partN b k), .int .i64 0] ∧ Own wr w.heap.size 27 [.string ⟨#[]⟩, .int .i64 0, .int .i64 0] ∧ Own wr gx 9 ([a, b, c].flatMap putStr ++ []) ∧ Below w.heap.size w wr) (fun kv _ => 6 - (intOf kv).toNat)
      case atStart => exact ⟨0, Nat.zero_le _, rfl, HX3.out, HR3.out, HW3.out, HB3.out⟩
      case round =>
        clear HX3 HR3 HW3 HB3
        obtain ⟨k, hk, rfl, hx, hr, hw, hb⟩ := hrel
        have HX := Lib.hid hx
        have HR := Lib.hid hr
        have HW := Lib.hid hw
        have HB := Lib.hid hb
        have dw1 : wr.cell? ⟨gx, 1, none⟩ = some (.string b) := hw.cell 1
        have hgxr : gx < wr.heap.size := hw.lt
        clear hx hr hw hb
        by_cases hlt : k < 5
        · have tk : decide (((k : Int) + 1) ≤ 5) = true := decide_eq_true (by omega)
          have ek : ((k + 1 : Nat) : Int) = (k : Int) + 1 := by omega
          by_cases hq : partT ((k + 1 : Nat) : Int) = b
          · have hpn := Lib.hid (partN_yes hq)
            rw [ek] at hq hpn
            have tq := text_eq hq
            have HC := Lib.hid (fun w' => impl_PartialName ((k : Int) + 1) w' (by omega))
            obtain ⟨tx, htx⟩ : ∃ tx, partT ((k : Int) + 1) = tx := ⟨_, rfl⟩
            rw [htx] at tq HC
            clear hq htx
            go_wp2_with fail
            refine wp_region_above (by kernel_rfl) (by kernel_rfl) ?_
            repeat (go_big_quiet_step (((go_at_call 44; exact aboveC (HC.out _)))))
            refine wpQuiet_nil ?_
            intro w1 b1
            have HX1 := Lib.hid (HX.out.below b1 HX.out.lt)
            have HR1 := Lib.hid (HR.out.below b1 HR.out.lt)
            have HW1 := Lib.hid (HW.out.below b1 HW.out.lt)
            have HB1 := Lib.hid (bnext HB.out b1)
            have d1 : w1.cell? ⟨gX, 1, none⟩ = some (.int .i64 (partN b k)) := HX1.out.cell 1
            have f1 := HX1.out.free 1
            have dl := HX1.out.lt
            have hX2 := Lib.hid (HX1.out.set 1 (.int .i64 ((k : Int) + 1)))
            have hR2 := Lib.hid (HR1.out.other (a := ⟨gX, 1, none⟩) (by show gX ≠ w.heap.size; omega) (.int .i64 ((k : Int) + 1)))
            have hW2 := Lib.hid (HW1.out.other (a := ⟨gX, 1, none⟩) (by show gX ≠ gx; omega) (.int .i64 ((k : Int) + 1)))
            have hB2 : Hid (Below w.heap.size w (w1.setCell ⟨gX, 1, none⟩ (.int .i64 ((k : Int) + 1)))) := Lib.hid (Below.setCell HB1.out (by show w.heap.size ≤ gX; omega) _)
            clear b1 HX HR HW HB HX1 HR1 HW1 HB1 dw1
            go_wp2_with fail
            go_roundw
            case rel => exact ⟨k + 1, by omega, by go_num, by rw [hpn.out]; exact hX2.out, hR2.out, hW2.out, hB2.out⟩
            case measure => simp [intOf]; omega
          · have hpn := Lib.hid (partN_no hq)
            rw [ek] at hq
            have tq := text_ne hq
            have HC := Lib.hid (fun w' => impl_PartialName ((k : Int) + 1) w' (by omega))
            obtain ⟨tx, htx⟩ : ∃ tx, partT ((k : Int) + 1) = tx := ⟨_, rfl⟩
            rw [htx] at tq HC
            clear hq htx
            go_wp2_with fail
            refine wp_region_above (by kernel_rfl) (by kernel_rfl) ?_
            repeat (go_big_quiet_step (((go_at_call 44; exact aboveC (HC.out _)))))
            refine wpQuiet_nil ?_
            intro w1 b1
            have HX1 := Lib.hid (HX.out.below b1 HX.out.lt)
            have HR1 := Lib.hid (HR.out.below b1 HR.out.lt)
            have HW1 := Lib.hid (HW.out.below b1 HW.out.lt)
            have HB1 := Lib.hid (bnext HB.out b1)
            clear b1 HX HR HW HB dw1
            go_wp2_with fail
            go_roundw
            case rel => exact ⟨k + 1, by omega, by go_num, by rw [hpn.out]; exact HX1.out, HR1.out, HW1.out, HB1.out⟩
            case measure => simp [intOf]; omega
        · obtain rfl : k = 5 := by omega
          have tk : decide ((((5 : Nat) : Int) + 1) ≤ 5) = false := by decide
          have dw2 : wr.cell? ⟨gx, 2, none⟩ = some (.string c) := HW.out.cell 2
          go_wp2_with fail
          refine (HH.out _ (HM.out.below HB.out) (HP.out.below HB.out) (HE.out.below HB.out)).mono ?_; rintro e w4 ⟨rfl, b4⟩
          have HX4 := Lib.hid (HX.out.below b4 HX.out.lt)
          have HR4 := Lib.hid (HR.out.below b4 HR.out.lt)
          have HB4 := Lib.hid (bnext HB.out b4)
          have d2 : w4.cell? ⟨gX, 2, none⟩ = some (.int .i64 0) := HX4.out.cell 2
          have f2 := HX4.out.free 2
          have dl := HX4.out.lt
          have hX5 : Hid (Own (w4.setCell ⟨gX, 2, none⟩ (.int .i64 F)) gX 27 [.string a, .int .i64 (partN b 5), .int .i64 F]) := Lib.hid (HX4.out.set 2 (.int .i64 F))
          have hR5 := Lib.hid (HR4.out.other (a := ⟨gX, 2, none⟩) (by show gX ≠ w.heap.size; omega) (.int .i64 F))
          have hB5 : Hid (Below w.heap.size w (w4.setCell ⟨gX, 2, none⟩ (.int .i64 F))) := Lib.hid (Below.setCell HB4.out (by show w.heap.size ≤ gX; omega) _)
          have y0 : w4.cell? ⟨gX, 0, none⟩ = some (.string a) := HX4.out.cell 0
          have y1 : w4.cell? ⟨gX, 1, none⟩ = some (.int .i64 (partN b 5)) := HX4.out.cell 1
          clear b4 HX HR HW HB HX4 HR4 HB4 dw2
          go_wp2_with fail
          refine (HV.out _).mono ?_; rintro e w6 ⟨rfl, b6⟩
          have HX6 := Lib.hid (hX5.out.below b6 hX5.out.lt)
          have HR6 := Lib.hid (hR5.out.below b6 hR5.out.lt)
          have HB6 := Lib.hid (bnext hB5.out b6)
          clear b6 hX5 hR5 hB5 y0 y1 d2 f2 dl
          have z0 : w6.cell? ⟨gX, 0, none⟩ = some (.string a) := HX6.out.cell 0
          have z1 : w6.cell? ⟨gX, 1, none⟩ = some (.int .i64 (partN b 5)) := HX6.out.cell 1
          have z2 : w6.cell? ⟨gX, 2, none⟩ = some (.int .i64 F) := HX6.out.cell 2
          have fz0 := HX6.out.free 0
          have fz1 := HX6.out.free 1
          have fz2 := HX6.out.free 2
          have hltz : gX < w6.heap.size := HX6.out.lt
          have hnez : ¬ gX = w6.heap.size := by omega
          go_wp2_with fail
          refine (HT.out _ (HP.out.below HB6.out)).mono ?_; rintro e w7 ⟨rfl, b7⟩
          have HX7 := Lib.hid (HX6.out.below b7 HX6.out.lt)
          have HR7 := Lib.hid (HR6.out.below b7 HR6.out.lt)
          have HB7 := Lib.hid (bnext HB6.out b7)
          clear b7 HX6 HR6 HB6
          have q0 : w7.cell? ⟨w.heap.size, 0, none⟩ = some (.string ⟨#[]⟩) := HR7.out.cell 0
          have q1 : w7.cell? ⟨w.heap.size, 1, none⟩ = some (.int .i64 0) := HR7.out.cell 1
          have q2 : w7.cell? ⟨w.heap.size, 2, none⟩ = some (.int .i64 0) := HR7.out.cell 2
          have fq0 := HR7.out.free 0
          have fq1 := HR7.out.free 1
          have fq2 := HR7.out.free 2
          have hltq : w.heap.size < w7.heap.size := HR7.out.lt
          have hneq : ¬ w.heap.size = w7.heap.size := by omega
          go_wp2_with fail
          have hb := HB7.out
          exact bodyPost_ret (v := .tuple #[.agg #[.string ⟨#[]⟩, .int .i64 0, .int .i64 0], .bool false]) (by simp [results, Tryz.results15, go_sem, q0, q1, q2, hltq, hneq]) rfl ⟨by rw [e.out.1, e.out.2]; try rfl, by (repeat' (first | (with_reducible exact Below.refl _ _) | (with_reducible assumption) | (with_reducible refine below_dn ?_ _) | (with_reducible refine Below.drew ?_) | (with_reducible refine Below.alloc ?_ ?_ _) | (with_reducible refine Below.setCell ?_ ?_ _) | go_size))⟩
end Go.Proofs.YtklgkbiobggbiaaGreatDoor
namespace Go.Proofs.YtklgkbiobggbiaaGreatDoor
open Go.ChangeShapes Go.WideShapes Go.ChangeAt Go.RowKit Go.Deep Go.Joins
set_option linter.unusedVariables false
set_option maxRecDepth 100000
set_option linter.unusedSimpArgs false
theorem laid_tail {P : Program} {w : World} {x : String × DataW Unit} {rest : List (String × DataW Unit)} (h : laidMet P (x :: rest) w) : laidMet P rest w := by
  obtain ⟨ps, ⟨g, t, cs, fuel, p, q, _, _, _, _, hl, rfl⟩, hn, ha⟩ := h
  exact ⟨q, hl, (List.nodup_append.1 hn).2.1, fun b off hp => ha b off (List.mem_append_right _ hp)⟩
theorem gPow : Tryz.prog.globalNamed "internal/strconv.uint64pow10" = some 3 := by kernel_rfl
theorem pow_cells_u64 : Tryz.prog.cellsOf 96 = 1 := by kernel_rfl
theorem pow_cells : Tryz.prog.cellsOf 226 = 20 := by kernel_rfl
theorem pow10_of {W : World} {rest : List (String × DataW Unit)} (h : laidMet Tryz.prog (("internal/strconv.uint64pow10", Rows.laid_internal_strconv_uint64pow10) :: rest) W) : Pow10 W := by
  have e : (Rows.laid_internal_strconv_uint64pow10 : DataW Unit) = Lib.tabData .u64 Lib.pow10Tab := by kernel_rfl
  rw [e] at h
  exact Lib.tabIs_of_head (rest := rest) gPow (t := 226) (by kernel_rfl) Tryz.underlying226 Tryz.underlying96 pow_cells_u64 pow_cells h
end Go.Proofs.YtklgkbiobggbiaaGreatDoor
namespace Go.Proofs.YtklgkbiobggbiaaGreatDoor
open Go.ChangeShapes Go.WideShapes Go.ChangeAt Go.RowKit Go.Deep Go.Joins
set_option linter.unusedVariables false
set_option maxRecDepth 100000
set_option linter.unusedSimpArgs false
theorem gES : Tryz.prog.globalNamed "strconv.ErrSyntax" = some 1 := by kernel_rfl
theorem star_err : "*" ++ "errors.errorString" = "*errors.errorString" := by decide
theorem row_errS (u : TypeId) (h : Tryz.prog.typeName? 3 u = some "*errors.errorString") : u = 237 :=
  typeName_ptr_named (nm := "errors.errorString") (by rw [star_err]; kernel_rfl) (by kernel_rfl) (by decide) u (by rw [star_err]; exact h)
theorem errS_of {W : World} {text : List UInt8} {rest : List (String × DataW Unit)} (h : laidMet Tryz.prog (("strconv.ErrSyntax", .iface "*errors.errorString" (.ptr (.agg [.lit (.string text)]))) :: rest) W) : ErrS W := by
  obtain ⟨a0, s0, hv0, -, -, -⟩ := laid_sentinel h gES (by kernel_rfl) Tryz.underlying136 row_errS Tryz.underlying237 Tryz.underlying239 rfl rfl Tryz.underlying9 (by kernel_rfl) cells_str
  have h0 := World.var?_cell gES hv0 0
  exact ⟨_, by simpa using h0, Or.inr ⟨_, _, rfl⟩⟩
end Go.Proofs.YtklgkbiobggbiaaGreatDoor
namespace Go.Proofs.YtklgkbiobggbiaaGreatDoor
open Go.ChangeShapes Go.WideShapes Go.ChangeAt Go.RowKit Go.Deep Go.Joins
set_option linter.unusedVariables false
set_option maxRecDepth 100000
set_option linter.unusedSimpArgs false
theorem measOk_ok {m : Measure} (h : measOkD m) : m.ok := by
  have h1 := h.1
  simp only [measureB, Bool.and_eq_true] at h1
  have h2 := inB_true h1.2.1
  have h3 := inB_true h1.2.2
  have h4 := h.2
  exact ⟨by unfold maxLen; omega, ⟨by omega, by omega⟩, ⟨by omega, by omega⟩⟩
set_option maxHeartbeats 2000000 in
theorem laws_r8Near (w : World) (v u : Value) (ms : List Measure) (F : List Int) (m : Measure) (h : Rd w.heap.size w v 3 ms.length (ms.flatMap Measure.put)) (hf : Rd w.heap.size w u 1 F.length (F.flatMap putI)) (hn : ms.length ≤ 64) (hfn : F.length ≤ 64)
    (hF : ∀ c ∈ F, ∃ (j : Nat) (hj : j < ms.length), c = (j : Int) ∧ (strEq ms[j].bell m.bell && decide (ms[j].part = m.part)) = false) :
    Calls Tryz.prog 18 #[v, u, .agg #[.string m.bell, .int .i64 m.part, .int .i64 m.value]] w fun e w' => e = .returned (.bool true) ∧ Below w.heap.size w w' := by
  have hb0 : Below w.heap.size w (w.alloc (.cells #[.string m.bell, .int .i64 m.part, .int .i64 m.value] 27)) := (Below.refl _ _).alloc (Nat.le_refl _) _
  have VM := Lib.hid (Own.new w 27 [.string m.bell, .int .i64 m.part, .int .i64 m.value])
  obtain ⟨hL, ao, cap, rfl, hcap, hmax, hnil, hsome⟩ := h
  obtain ⟨gL, go, gcap, rfl, hgcap, hgmax, hgnil, hgsome⟩ := hf
  have HF := Lib.hid hF
  have HB0 := Lib.hid hb0
  clear hF hb0 hnil hgnil hL gL
  go_enter Tryz.func18, Tryz.ntmps18
  go_wp2_with fail
  have HB1 : Hid (Below w.heap.size w (w.alloc (.cells #[.string m.bell, .int .i64 m.part, .int .i64 m.value] 27))) := HB0
  generalize (w.alloc (.cells #[.string m.bell, .int .i64 m.part, .int .i64 m.value] 27)) = w1 at *
  have VM1 : Hid (Own w1 w.heap.size 27 [.string m.bell, .int .i64 m.part, .int .i64 m.value]) := VM
  go_loopw [7] (fun i wr => ∃ (k : Nat), k ≤ F.length ∧ i = .int .i64 k ∧ Below w.heap.size w wr ∧ Own wr w.heap.size 27 [.string m.bell, .int .i64 m.part, .int .i64 m.value]) (fun i _ => F.length - (intOf i).toNat)
  case atStart => exact ⟨0, Nat.zero_le _, rfl, HB1.out, VM1.out⟩
  case round =>
    obtain ⟨k, hk, rfl, hb, hv⟩ := hrel
    have HB := Lib.hid hb
    have HV := Lib.hid hv
    have m0 : wr.cell? ⟨w.heap.size, 0, none⟩ = some (.string m.bell) := hv.cell 0
    have m1 : wr.cell? ⟨w.heap.size, 1, none⟩ = some (.int .i64 m.part) := hv.cell 1
    have hlw := hv.lt
    by_cases hlt : k < F.length
    · obtain ⟨gb, goff, rfl, hgb, hgc⟩ := hgsome (by omega)
      have f0 : wr.cell? ⟨gb, goff + k, none⟩ = some (.int .i64 F[k]) := by rw [hb.cell (p := ⟨gb, goff + k, none⟩) hgb, hgc k (by omega), putI_get F k hlt]
      obtain ⟨j, hj, ej, hsame⟩ := HF.out F[k] (List.getElem_mem hlt)
      rw [ej] at f0
      obtain ⟨b, off, rfl, hbB, hc⟩ := hsome (by omega)
      have c0 : wr.cell? ⟨b, off + j * 3, none⟩ = some (.string ms[j].bell) := by rw [hb.cell (p := ⟨b, off + j * 3, none⟩) hbB, hc (j * 3) (by omega)]; exact Measure_get0 ms j hj
      have c1 : wr.cell? ⟨b, off + j * 3 + 1, none⟩ = some (.int .i64 ms[j].part) := by rw [Nat.add_assoc, hb.cell (p := ⟨b, off + (j * 3 + 1), none⟩) hbB, hc (j * 3 + 1) (by omega)]; exact Measure_get1 ms j hj
      have hbr : b < wr.heap.size := Nat.lt_of_lt_of_le hbB hb.size
      have hgr : gb < wr.heap.size := Nat.lt_of_lt_of_le hgb hb.size
      have t0 : decide ((j : Int) < 0) = false := decide_eq_false (by omega)
      have t1 : decide (ms.length ≤ j) = false := decide_eq_false (by omega)
      clear hc hsome hgc hgsome hb hv HF ej
      cases hs : strEq ms[j].bell m.bell with
      | false =>
        have t2 : (ms[j].bell.toList == m.bell.toList) = false := hs
        clear hsame hs
        go_wp2_with fail
        refine wp_region_above (by kernel_rfl) (by kernel_rfl) ?_
        repeat (go_big_quiet_step ((fail)))
        refine wpQuiet_nil ?_
        intro w2 b2
        have HB2 := Lib.hid (HB.out.trans (b2.mono (Nat.le_of_lt hlw)))
        have HV2 := Lib.hid (HV.out.below b2 HV.out.lt)
        clear b2
        go_wp2_with fail
        go_roundw
        case rel => exact ⟨k + 1, by omega, by go_num, HB2.out, HV2.out⟩
        case measure => simp [intOf]; omega
      | true =>
        have t2 : (ms[j].bell.toList == m.bell.toList) = true := hs
        have t3 : (ms[j].part == m.part) = false := by
          rw [hs] at hsame
          rw [beq_eq_false_iff_ne]
          intro q
          rw [q] at hsame
          simp at hsame
        clear hsame hs
        go_wp2_with fail
        refine wp_region_above (by kernel_rfl) (by kernel_rfl) ?_
        repeat (go_big_quiet_step ((fail)))
        refine wpQuiet_nil ?_
        intro w2 b2
        have HB2 := Lib.hid (HB.out.trans (b2.mono (Nat.le_of_lt hlw)))
        have HV2 := Lib.hid (HV.out.below b2 HV.out.lt)
        clear b2
        go_wp2_with fail
        go_roundw
        case rel => exact ⟨k + 1, by omega, by go_num, HB2.out, HV2.out⟩
        case measure => simp [intOf]; omega
    · clear hsome hgsome hb hv
      go_wp2_with fail
      go_ret
      exact ⟨rfl, HB.out⟩
theorem spec_ValidMeasures_true (w : World) (v : Value) (xs : List Measure) (h : Rd w.heap.size w v 3 xs.length (xs.flatMap Measure.put)) (hn : xs.length ≤ 1048576) (hok : ∀ x ∈ xs, x.ok) (hb : validMeasureS xs = true) :
    Calls Tryz.prog 17 #[v] w fun e w' => e = .returned (.bool true) ∧ Below w.heap.size w w' := by
  have H := Lib.hid (spec_l11Ok_is w v xs h hn hok hb)
  obtain ⟨ao, cap, rfl⟩ := h.form
  clear h hb
  go_enter Tryz.func17, Tryz.ntmps17
  go_wp2_with fail
  refine H.out.mono ?_; rintro e w1 ⟨rfl, b1⟩
  have HB1 := Lib.hid b1; clear b1
  go_wp2_with fail
  go_ret
  exact ⟨rfl, HB1.out⟩
/-- the numbers of a measurement's bell and partial: what the law asks of them -/
structure Nums (ms : List Measure) (m : Measure) (Z : List Int) (mn md sp : Int) : Prop where
  len0 : 0 < Z.length
  len1 : Z.length ≤ 64
  mem : m.value ∈ Z
  up : ∀ k (h : k + 1 < Z.length), Z[k] ≤ Z[k + 1]
  a0 : Z[0] ≤ mn
  a1 : mn ≤ Z[Z.length - 1]
  b0 : Z[0] ≤ md
  b1 : md ≤ Z[Z.length - 1]
  sp0 : 0 ≤ sp
  far : ∀ l, sp ≤ l → ∀ x ∈ ms, farB ms l x = true → (strEq x.bell m.bell && decide (x.part = m.part)) = false
theorem nums_of {ms : List Measure} (h : drawnM ms) {m : Measure} (hm : m ∈ ms) : Nums ms m (zsM ms m) (meanI (zsM ms m)) (medI (zsM ms m)) (spI (zsM ms m)) := by
  have h0 := zs_len hm
  obtain ⟨⟨q1, q2⟩, ⟨q3, q4⟩, q5⟩ := zs_between h hm
  have e0 : fstI (zsM ms m) = (zsM ms m)[0] := by unfold fstI; rw [List.getElem?_eq_getElem h0]; rfl
  have e1 : lstI (zsM ms m) = (zsM ms m)[(zsM ms m).length - 1] := by unfold lstI; rw [List.getElem?_eq_getElem (show (zsM ms m).length - 1 < (zsM ms m).length by omega)]; rfl
  have hs := sortI_le (valF ms m.bell m.part)
  rw [List.pairwise_iff_getElem] at hs
  have hup : ∀ k (hk : k + 1 < (zsM ms m).length), (zsM ms m)[k] ≤ (zsM ms m)[k + 1] := by
    intro k hk
    have hk' : k < (zsM ms m).length := Nat.lt_of_succ_lt hk
    exact hs k (k + 1) hk' hk (Nat.lt_succ_self k)
  exact ⟨h0, (zs_bd h m.bell m.part).1, zs_mem hm, hup, e0 ▸ q1, e1 ▸ q2, e0 ▸ q3, e1 ▸ q4, q5, fun l hl x hx hf => far_not h hm hx hl hf⟩
theorem Nums.prev {ms : List Measure} {m : Measure} {Z : List Int} {mn md sp : Int} (h : Nums ms m Z mn md sp) (k : Nat) (hk : k < Z.length) (h0 : 0 < k) : Z[k - 1] ≤ Z[k] := by
  obtain ⟨j, rfl⟩ : ∃ j, k = j + 1 := ⟨k - 1, by omega⟩
  exact h.up j hk
theorem any_take {Z : List Int} {c : Int} {k : Nat} (h : k < Z.length) : (Z.take (k + 1)).any (fun z => z == c) = ((Z.take k).any (fun z => z == c) || (Z[k] == c)) := by
  rw [List.take_succ_eq_append_getElem h, List.any_append]; simp
end Go.Proofs.YtklgkbiobggbiaaGreatDoor
