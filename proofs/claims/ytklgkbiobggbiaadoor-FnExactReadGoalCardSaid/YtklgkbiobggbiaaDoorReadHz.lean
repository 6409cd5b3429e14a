/- ReadHertz: both sides compute the same. -/
import Derived.Test.YtklgkbiobggbiaaDoorRows
import Derived.Test.YtklgkbiobggbiaaDoorHertzL
import Derived.Test.YtklgkbiobggbiaaDoorNumI
import Derived.Test.YtklgkbiobggbiaaDoorParts
import Derived.Test.YtklgkbiobggbiaaDoorOwnK
import Derived.Test.YtklgkbiobggbiaaDoorOneMeasure
namespace Go.Proofs.YtklgkbiobggbiaaDoor
open Go.ChangeShapes Go.WideShapes Go.ChangeAt Go.RowKit Go.Deep Go.Joins
set_option linter.unusedVariables false
set_option maxRecDepth 100000
set_option linter.unusedSimpArgs false
theorem two_cellsS {w : World} {base : Nat} {r : Value} {a b : ByteArray} (h : w.ownsRow base 9 1 r 2 ([a, b].flatMap putStr)) : ∃ g cap, r = .slice (some ⟨g, 0, none⟩) 2 cap ∧ g < w.heap.size ∧ w.cell? ⟨g, 0, none⟩ = some (.string a) ∧ w.cell? ⟨g, 1, none⟩ = some (.string b) := by
  rcases own_form h with ⟨_, q⟩ | ⟨g, cap, rfl⟩
  · omega
  obtain ⟨U, ou⟩ := own_block h
  exact ⟨g, cap, rfl, ou.lt, ou.cell 0, ou.cell 1⟩
/-- what is known of the reference's number with a point -/
def PointOk (s : ByteArray) (v : Int) (ok : Bool) : Prop := (ok = false → hertzR s = none) ∧ (ok = true → hertzR s = if hzB v = true then some v else none) ∧ I64 v
theorem point_no {s : ByteArray} (h : hertzR s = none) : PointOk s 0 false := ⟨fun _ => h, fun q => Bool.noConfusion q, ⟨by decide, by decide⟩⟩
def PointE (s : ByteArray) (e : Ending) : Prop := ∃ (v : Int) (ok : Bool), e = .returned (.tuple #[.int .i64 v, .bool ok]) ∧ PointOk s v ok
set_option maxHeartbeats 4000000 in
theorem spec_l02Point (s : ByteArray) (w : World) (hs : s.size ≤ 1048576) :
    Calls Tryd.prog 105 #[.string s, .int .i64 3] w fun e w' => PointE s e ∧ Below w.heap.size w w' := by
  have H46 := Lib.hid (fun w' => spec_l01Split 46 s w' hs)
  have hwz := Lib.hid (fun x (hx : x ∈ partsS 46 s) => partsS_size x hx)
  by_cases h2 : (partsS 46 s).length = 2
  case neg =>
    have e := Lib.hid (point_no (hertzR_not2 h2))
    have t2 : (((partsS 46 s).length : Int) != 2) = true := bne_iff_ne.2 (by omega)
    clear h2
    generalize partsS 46 s = ws at *
    go_enter Tryd.func105, Tryd.ntmps105
    go_wp2_with fail
    refine (H46.out _).mono ?_; rintro e w1 ⟨rv, rfl, o1, b1⟩
    obtain ⟨ro, rx, rfl⟩ := (own_rd o1).form
    have HB1 := Lib.hid b1
    clear o1 b1
    go_wp2_with fail
    go_ret2
    exact ⟨⟨0, false, rfl, e.out⟩, HB1.out⟩
  obtain ⟨a, b, hab⟩ := two_of h2
  have hsa : a.size ≤ 2147483647 := Nat.le_trans (hwz.out a (by rw [hab]; simp)) (by omega)
  have hsb : b.size ≤ 1048576 := Nat.le_trans (hwz.out b (by rw [hab]; simp)) hs
  have HAB := Lib.hid hab
  rw [hab] at H46
  have H46' : Hid (∀ w' : World, Calls Tryd.prog 48 #[.string s, .int .u8 (46 : UInt8).toNat] w' fun e w'' => ∃ r, e = .returned r ∧ w''.ownsRow w'.heap.size 9 1 r 2 ([a, b].flatMap putStr) ∧ Below w'.heap.size w' w'') := H46
  have HN := Lib.hid (fun w' => spec_l01Number a w' hsa)
  clear h2 hwz hab H46
  by_cases h3 : b.size = 3
  case neg =>
    have e := Lib.hid (point_no (hertzR_size HAB.out h3))
    have t3 : ((b.size : Int) != 3) = true := bne_iff_ne.2 (by omega)
    clear h3
    go_enter Tryd.func105, Tryd.ntmps105
    go_wp2_with fail
    refine (H46'.out _).mono ?_; rintro e w1 ⟨rv, rfl, o1, b1⟩
    obtain ⟨gx, cx, rfl, hgx, d0, d1⟩ := two_cellsS o1
    have HB1 := Lib.hid b1
    clear o1 b1
    go_wp2_with fail
    go_ret2
    exact ⟨⟨0, false, rfl, e.out⟩, HB1.out⟩
  have t3 : ((b.size : Int) != 3) = false := bne_eq_false_iff_eq.2 (by omega)
  cases hn : numS a with
  | none =>
    have e := Lib.hid (point_no (hertzR_num HAB.out hn))
    rw [(num_none hn).1, (num_none hn).2] at HN
    clear hn
    go_enter Tryd.func105, Tryd.ntmps105
    go_wp2_with fail
    refine (H46'.out _).mono ?_; rintro e w1 ⟨rv, rfl, o1, b1⟩
    obtain ⟨gx, cx, rfl, hgx, d0, d1⟩ := two_cellsS o1
    have HB1 := Lib.hid b1
    clear o1 b1
    go_wp2_with fail
    refine (HN.out _).mono ?_; rintro e w2 ⟨rfl, rfl⟩
    go_wp2_with fail
    go_ret2
    exact ⟨⟨0, false, rfl, e.out⟩, HB1.out⟩
  | some n =>
    rw [(num_some hn).1, (num_some hn).2] at HN
    have HNN := Lib.hid hn
    by_cases hr : n < 0 ∨ 1000000 < n
    · have e := Lib.hid (point_no (hertzR_range HAB.out hn hr))
      clear hn
      by_cases hr0 : n < 0
      · have t4 : decide (n < 0) = true := decide_eq_true hr0
        clear hr hr0
        go_enter Tryd.func105, Tryd.ntmps105
        go_wp2_with fail
        refine (H46'.out _).mono ?_; rintro e w1 ⟨rv, rfl, o1, b1⟩
        obtain ⟨gx, cx, rfl, hgx, d0, d1⟩ := two_cellsS o1
        have HB1 := Lib.hid b1
        clear o1 b1
        go_wp2_with fail
        refine (HN.out _).mono ?_; rintro e w2 ⟨rfl, rfl⟩
        go_wp2_with fail
        go_ret2
        exact ⟨⟨0, false, rfl, e.out⟩, HB1.out⟩
      · have t4 : decide (n < 0) = false := decide_eq_false hr0
        have t5 : decide (1000000 < n) = true := decide_eq_true (by omega)
        clear hr hr0
        go_enter Tryd.func105, Tryd.ntmps105
        go_wp2_with fail
        refine (H46'.out _).mono ?_; rintro e w1 ⟨rv, rfl, o1, b1⟩
        obtain ⟨gx, cx, rfl, hgx, d0, d1⟩ := two_cellsS o1
        have HB1 := Lib.hid b1
        clear o1 b1
        go_wp2_with fail
        refine (HN.out _).mono ?_; rintro e w2 ⟨rfl, rfl⟩
        go_wp2_with fail
        go_ret2
        exact ⟨⟨0, false, rfl, e.out⟩, HB1.out⟩
    have h0 : 0 ≤ n := by omega
    have h6 : n ≤ 1000000 := by omega
    have t4 : decide (n < 0) = false := decide_eq_false (by omega)
    have t5 : decide (1000000 < n) = false := decide_eq_false (by omega)
    clear hn hr
    go_enter Tryd.func105, Tryd.ntmps105
    go_wp2_with fail
    refine (H46'.out _).mono ?_; rintro e w1 ⟨rv, rfl, o1, b1⟩
    obtain ⟨gx, cx, rfl, hgx, d0, d1⟩ := two_cellsS o1
    have HB1 := Lib.hid b1
    clear o1 b1
    go_wp2_with fail
    refine (HN.out _).mono ?_; rintro e w2 ⟨rfl, rfl⟩
    go_wp2_with fail
    go_loop [7, 9] (fun v i => ∃ (k : Nat), k ≤ 3 ∧ i = .int .i64 k ∧ v = .int .i64 (digV n b k) ∧ ∀ j (hj : j < b.size), j < k → hdigB b[j] = true) (fun _ i => 3 - (intOf i).toNat)
    case atStart => exact ⟨0, Nat.zero_le _, rfl, rfl, fun j _ h => by omega⟩
    case round =>
      obtain ⟨k, hk, rfl, rfl, hdg⟩ := hrel
      have hbd := digV_bd (b := b) h0 k (by omega) hdg
      have hbd2 : digV n b k ≤ 1000001000 := by
        have : (10 : Int) ^ k ≤ 1000 := by
          match k, hk with
          | 0, _ => decide
          | 1, _ => decide
          | 2, _ => decide
          | 3, _ => decide
        have h7 : (n + 1) * 10 ^ k ≤ (n + 1) * 1000 := Int.mul_le_mul_of_nonneg_left this (by omega)
        omega
      have hbd1 := hbd.1
      have HDG := Lib.hid hdg
      clear hbd hdg
      by_cases hlt : k < 3
      · have hkb : k < b.size := by omega
        have hs := Lib.hid (digV_succ n b k hkb)
        by_cases q1 : b[k].toNat < 48
        · have e := Lib.hid (point_no (hertzR_digit HAB.out hkb (by unfold hdigB inB; simp; omega)))
          have t7 : decide ((b[k].toNat : Int) < 48) = true := decide_eq_true (by omega)
          go_wp2_with fail
          go_ret2
          exact ⟨⟨0, false, rfl, e.out⟩, HB1.out⟩
        · have t7 : decide ((b[k].toNat : Int) < 48) = false := decide_eq_false (by omega)
          by_cases q2 : 57 < b[k].toNat
          · have e := Lib.hid (point_no (hertzR_digit HAB.out hkb (by unfold hdigB inB; simp; omega)))
            have t8 : decide (57 < (b[k].toNat : Int)) = true := decide_eq_true (by omega)
            go_wp2_with fail
            go_ret2
            exact ⟨⟨0, false, rfl, e.out⟩, HB1.out⟩
          · have t8 : decide (57 < (b[k].toNat : Int)) = false := decide_eq_false (by omega)
            have hd : Hid (hdigB b[k] = true) := Lib.hid (inB_mk ⟨by omega, by omega⟩)
            generalize digV n b k = V at *
            go_wp2_with fail
            go_round
            case rel => exact ⟨k + 1, by omega, by go_num, by rw [hs.out] <;> go_num, fun j hj hjk => by
              rcases Nat.lt_or_ge j k with z | z
              · exact HDG.out j hj z
              · obtain rfl : j = k := by omega
                exact hd.out⟩
            case measure => simp [intOf]; omega
      · obtain rfl : k = 3 := by omega
        have e := Lib.hid (hertzR_good HAB.out HNN.out h0 h3 (fun j hj => HDG.out j hj (by omega)))
        clear HDG
        generalize digV n b 3 = V at *
        go_wp2_with fail
        go_ret2
        exact ⟨⟨V, true, rfl, fun q => Bool.noConfusion q, fun _ => e.out, ⟨by omega, by omega⟩⟩, HB1.out⟩
theorem spec_ReadHertz (s : ByteArray) (w : World) (hs : s.size ≤ 1048576) :
    Calls Tryd.prog 71 #[.string s] w fun e w' => e = .returned (.tuple #[.int .i64 (hertzV s), .bool (hertzR s).isSome]) ∧ Below w.heap.size w w' := by
  have HP := Lib.hid (fun w' => spec_l02Point s w' hs)
  go_enter Tryd.func71, Tryd.ntmps71
  go_wp2_with fail
  refine (HP.out _).mono ?_; rintro e w1 ⟨⟨v, ok, rfl, hpt⟩, b1⟩
  obtain ⟨p1, p2, p3⟩ := hpt
  have HB1 := Lib.hid b1; clear b1
  cases ok with
  | false =>
    have e := Lib.hid (hertzV_none (p1 rfl))
    clear p1 p2
    go_wp2_with fail
    go_ret2
    exact ⟨by rw [e.out.1, e.out.2]; try rfl, HB1.out⟩
  | true =>
    have p := p2 rfl
    clear p1 p2
    cases hb : hzB v with
    | false =>
      rw [hb] at p
      have e := Lib.hid (hertzV_none (s := s) p)
      have HO := Lib.hid (fun w' => spec_l02Ok_is v w' hb)
      clear p hb
      go_wp2_with fail
      refine (HO.out _).mono ?_; rintro e w2 ⟨rfl, rfl⟩
      go_wp2_with fail
      go_ret2
      exact ⟨by rw [e.out.1, e.out.2]; try rfl, HB1.out⟩
    | true =>
      rw [hb] at p
      have e := Lib.hid (hertzV_some (s := s) p)
      have HO := Lib.hid (fun w' => spec_l02Ok_is v w' hb)
      clear p hb
      go_wp2_with fail
      refine (HO.out _).mono ?_; rintro e w2 ⟨rfl, rfl⟩
      go_wp2_with fail
      go_ret2
      exact ⟨by rw [e.out.1, e.out.2]; try rfl, HB1.out⟩
theorem impl_HertzTextN (f : Int) (w : World) (h : hzB f = false) : Calls Tryd.prog 76 #[.int .i64 f] w fun e w' => e = .returned (.string ⟨#[]⟩) ∧ Below w.heap.size w w' := by
  have HF := Lib.hid (fun w' => impl_IsFrequency_is f w' h)
  clear h
  go_enter Tryd.func76, Tryd.ntmps76
  go_wp2_with fail
  refine (HF.out _).mono ?_; rintro e w1 ⟨rfl, rfl⟩
  go_wp2_with fail
  go_ret
  exact ⟨rfl, Below.refl _ _⟩
set_option maxHeartbeats 2000000 in
theorem impl_ReadHertz (s : ByteArray) (w : World) (hs : s.size ≤ 1048576) (hm : MaxL w) (hp : Pow10 w) (he : ErrS w) :
    Calls Tryd.prog 38 #[.string s] w fun e w' => e = .returned (.tuple #[.int .i64 (hertzV s), .bool (hertzR s).isSome]) ∧ Below w.heap.size w w' := by
  have HM := Lib.hid hm; clear hm
  have HP := Lib.hid hp; clear hp
  have HE := Lib.hid he; clear he
  have hcs := cut_sizes 46 s
  have hC := Lib.hid (fun (w' : World) (h1 : MaxL w') => impl_Cut 46 s w' (by omega) h1)
  have hsz : (cutA 46 s ++ cutB 46 s).size = (cutA 46 s).size + (cutB 46 s).size := ByteArray.size_append
  have hD := Lib.hid (fun (w' : World) (h1 : Pow10 w') (h2 : ErrS w') => impl_ReadDecimal (cutA 46 s ++ cutB 46 s) w' (by omega) h1 h2)
  have hT := Lib.hid (hertz_tests s)
  have q1 : ¬ (9223372036854775807 < (cutA 46 s).size + (cutB 46 s).size) := by omega
  clear hcs hsz
  generalize cutA 46 s = a at *
  generalize cutB 46 s = b at *
  generalize cutF 46 s = cf at *
  cases hn : numS (a ++ b) with
  | none =>
    rw [(num_none hn).1, (num_none hn).2] at hD
    have e := Lib.hid (hertzV_none (hT.out.1 hn))
    clear hn hT
    go_enter Tryd.func38, Tryd.ntmps38
    go_wp2_with fail
    refine (hC.out _ HM.out).mono ?_; rintro e w1 ⟨rfl, b1⟩
    have HB1 := Lib.hid b1; clear b1
    go_wp2_with fail
    refine (hD.out _ (HP.out.below HB1.out) (HE.out.below HB1.out)).mono ?_; rintro e w2 ⟨rfl, b2⟩
    have HB2 := Lib.hid (bnext HB1.out b2); clear b2
    go_wp2_with fail
    go_ret2
    exact ⟨by rw [e.out.1, e.out.2]; try rfl, HB2.out⟩
  | some f =>
    rw [(num_some hn).1, (num_some hn).2] at hD
    have hT' := Lib.hid (hT.out.2 f hn)
    clear hn hT
    cases hb : hzB f with
    | false =>
      have e := Lib.hid (hertzV_none (hT'.out.2.2 hb).1)
      have t5 : s.toList.isEmpty = false := by
        rw [List.isEmpty_eq_false_iff]
        intro q
        exact (hT'.out.2.2 hb).2 (bytes_inj (by rw [← ByteArray.toList_eq, q]))
      have HX := Lib.hid (fun w' => impl_HertzTextN f w' hb)
      clear hb hT'
      go_enter Tryd.func38, Tryd.ntmps38
      go_wp2_with fail
      refine (hC.out _ HM.out).mono ?_; rintro e w1 ⟨rfl, b1⟩
      have HB1 := Lib.hid b1; clear b1
      go_wp2_with fail
      refine (hD.out _ (HP.out.below HB1.out) (HE.out.below HB1.out)).mono ?_; rintro e w2 ⟨rfl, b2⟩
      have HB2 := Lib.hid (bnext HB1.out b2); clear b2
      go_wp2_with fail
      refine (HX.out _).mono ?_; rintro e w3 ⟨rfl, b3⟩
      have HB3 := Lib.hid (bnext HB2.out b3); clear b3
      go_wp2_with fail
      go_ret2
      exact ⟨by rw [e.out.1, e.out.2]; try rfl, HB3.out⟩
    | true =>
      have HX := Lib.hid (fun (w' : World) (h1 : Pow10 w') => impl_HertzText f w' (inB_true hb) h1)
      obtain ⟨tx, htx⟩ : ∃ tx, hertzT f = tx := ⟨_, rfl⟩
      rw [htx] at HX hT'
      by_cases hq : tx = s
      · have e := Lib.hid (hertzV_some (hT'.out.1 hb hq))
        have t5 := text_eq hq
        clear hb hT' hq htx
        go_enter Tryd.func38, Tryd.ntmps38
        go_wp2_with fail
        refine (hC.out _ HM.out).mono ?_; rintro e w1 ⟨rfl, b1⟩
        have HB1 := Lib.hid b1; clear b1
        go_wp2_with fail
        refine (hD.out _ (HP.out.below HB1.out) (HE.out.below HB1.out)).mono ?_; rintro e w2 ⟨rfl, b2⟩
        have HB2 := Lib.hid (bnext HB1.out b2); clear b2
        go_wp2_with fail
        refine (HX.out _ (HP.out.below HB2.out)).mono ?_; rintro e w3 ⟨rfl, b3⟩
        have HB3 := Lib.hid (bnext HB2.out b3); clear b3
        go_wp2_with fail
        go_ret2
        exact ⟨by rw [e.out.1, e.out.2]; try rfl, HB3.out⟩
      · have e := Lib.hid (hertzV_none (hT'.out.2.1 hb hq))
        have t5 := text_ne hq
        clear hb hT' hq htx
        go_enter Tryd.func38, Tryd.ntmps38
        go_wp2_with fail
        refine (hC.out _ HM.out).mono ?_; rintro e w1 ⟨rfl, b1⟩
        have HB1 := Lib.hid b1; clear b1
        go_wp2_with fail
        refine (hD.out _ (HP.out.below HB1.out) (HE.out.below HB1.out)).mono ?_; rintro e w2 ⟨rfl, b2⟩
        have HB2 := Lib.hid (bnext HB1.out b2); clear b2
        go_wp2_with fail
        refine (HX.out _ (HP.out.below HB2.out)).mono ?_; rintro e w3 ⟨rfl, b3⟩
        have HB3 := Lib.hid (bnext HB2.out b3); clear b3
        go_wp2_with fail
        go_ret2
        exact ⟨by rw [e.out.1, e.out.2]; try rfl, HB3.out⟩
end Go.Proofs.YtklgkbiobggbiaaDoor
