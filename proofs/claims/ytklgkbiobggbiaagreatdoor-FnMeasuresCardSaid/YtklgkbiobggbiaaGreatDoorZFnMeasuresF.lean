/- Contracts and plain facts, joined: MeasTx, ReadMsL, Words, HMelt, VMelt, CmpStr, BellL, SortS, BellsI. -/
import Derived.Test.YtklgkbiobggbiaaGreatDoorRows
import Derived.Test.YtklgkbiobggbiaaGreatDoorZFnMeasuresE
import Derived.WalkLawsBesides
import Derived.Sort.Walk0
import Derived.Lib.SlicesCompact
import Derived.Shelf.SortM.Plain
import Derived.Shelf.SortM.SortNone
import Derived.Ground.SlgmProg
import Derived.Shelf.SlicesG.CompactS
import Derived.Ground.SlgnProg
import Derived.Sort.OwnSorted
import Derived.Shelf.SlGeneric
namespace Go.Proofs.YtklgkbiobggbiaaGreatDoor
open Go.ChangeShapes Go.WideShapes Go.ChangeAt Go.RowKit Go.Deep Go.Joins
set_option linter.unusedVariables false
set_option maxRecDepth 100000
set_option linter.unusedSimpArgs false
def measT (x : Measure) : ByteArray := if measureB x = true then x.bell ++ ⟨#[32]⟩ ++ partT x.part ++ ⟨#[32]⟩ ++ hertzT x.value else ⟨#[]⟩
theorem nameB_size {s : ByteArray} (h : nameB s = true) : s.size ≤ 10 := by
  unfold nameB nameL at h
  simp only [Bool.and_eq_true, decide_eq_true_eq] at h
  have e : s.data.toList.length = s.size := rfl
  omega
theorem hertzT_size (f : Int) (h : 10000 ≤ f ∧ f ≤ 20000000) : (hertzT f).size ≤ 30 := by
  have := decT_size20 (f / 1000) (by omega) (by omega)
  unfold hertzT
  rw [ByteArray.size_append, ByteArray.size_append]
  have h1 : (⟨#[46]⟩ : ByteArray).size = 1 := rfl
  have h2 : (pad3 (f % 1000).toNat).size = 3 := rfl
  omega
theorem measureB_facts {x : Measure} (h : measureB x = true) : x.bell.size ≤ 10 ∧ (1 ≤ x.part ∧ x.part ≤ 5) ∧ 10000 ≤ x.value ∧ x.value ≤ 20000000 := by
  simp only [measureB, Bool.and_eq_true] at h
  exact ⟨nameB_size h.1, inB_true h.2.1, inB_true h.2.2⟩
theorem same_nt (x : ByteArray) : (!(x.toList == x.toList)) = false := by simp
theorem same_t (x : ByteArray) : (x.toList == x.toList) = true := by simp

set_option maxHeartbeats 4000000 in
theorem impl_MeasureText (x : Measure) (w : World) (hx : x.ok) (hp : Pow10 w) :
    Calls Tryz.prog 16 #[.agg #[.string x.bell, .int .i64 x.part, .int .i64 x.value]] w fun e w' => e = .returned (.string (measT x)) ∧ Below w.heap.size w w' := by
  have VB := Lib.hid (Own.new w 27 [.string x.bell, .int .i64 x.part, .int .i64 x.value])
  have B0 : Below w.heap.size w (w.alloc (.cells #[.string x.bell, .int .i64 x.part, .int .i64 x.value] 27)) := by (repeat' (first | (with_reducible exact Below.refl _ _) | (with_reducible assumption) | (with_reducible refine below_dn ?_ _) | (with_reducible refine Below.drew ?_) | (with_reducible refine Below.alloc ?_ ?_ _) | (with_reducible refine Below.setCell ?_ ?_ _) | go_size))
  have HB0 := Lib.hid B0
  cases hb : measureB x
  · have e : Hid (measT x = ⟨#[]⟩) := (if_neg (by rw [hb]; simp) : measT x = ⟨#[]⟩)
    have H := Lib.hid (impl_validMeasure_is x (w.alloc (.cells #[.string x.bell, .int .i64 x.part, .int .i64 x.value] 27)) hb hx)
    clear hb B0
    go_enter Tryz.func16, Tryz.ntmps16
    go_wp2_with fail
    refine H.out.mono ?_; rintro e1 w1 ⟨rfl, b1⟩
    have HB1 := Lib.hid (bnext HB0.out b1)
    clear b1
    go_wp2_with fail
    go_ret
    exact ⟨by rw [e.out]; try rfl, HB1.out⟩
  · have H := Lib.hid (impl_validMeasure_is x (w.alloc (.cells #[.string x.bell, .int .i64 x.part, .int .i64 x.value] 27)) hb hx)
    obtain ⟨f1, f2, f3⟩ := measureB_facts hb
    have e : Hid (measT x = x.bell ++ ⟨#[32]⟩ ++ partT x.part ++ ⟨#[32]⟩ ++ hertzT x.value) := (if_pos hb : measT x = _)
    have HJ := Lib.hid (fun w' x0 => aboveC (impl_PartialName x.part (above w' x0) f2))
    have HD := Lib.hid (fun w' (h' : Below w.heap.size w w') x0 => aboveC (impl_HertzText x.value (above w' x0) f3 ((hp.below h').below (above_below _ _))))
    have s1 : (x.bell ++ (⟨#[32]⟩ : ByteArray)).size = x.bell.size + 1 := by rw [ByteArray.size_append]; rfl
    have s2 : (x.bell ++ (⟨#[32]⟩ : ByteArray) ++ partT x.part).size = x.bell.size + 1 + (partT x.part).size := by rw [ByteArray.size_append, s1]
    have s3 : (x.bell ++ (⟨#[32]⟩ : ByteArray) ++ partT x.part ++ ⟨#[32]⟩).size = x.bell.size + 1 + (partT x.part).size + 1 := by rw [ByteArray.size_append, s2]; rfl
    have s0 : (⟨#[32]⟩ : ByteArray).size = 1 := rfl
    have g1 := partT_size x.part f2
    have g2 := hertzT_size x.value f3
    clear hb B0 hp
    generalize partT x.part = J at *
    generalize hertzT x.value = D at *
    go_enter Tryz.func16, Tryz.ntmps16
    go_wp2_with fail
    refine H.out.mono ?_; rintro e1 w1 ⟨rfl, b1⟩
    have HB1 := Lib.hid (bnext HB0.out b1)
    have HV1 := Lib.hid (VB.out.below b1 VB.out.lt)
    have v0 : (_ : Option Value) = some (.string x.bell) := HV1.out.cell 0
    have v1 : (_ : Option Value) = some (.int .i64 x.part) := HV1.out.cell 1
    have v2 : (_ : Option Value) = some (.int .i64 x.value) := HV1.out.cell 2
    have vl := HV1.out.lt
    clear b1
    go_wp2_with fail
    refine wp_region_above (by kernel_rfl) (by kernel_rfl) ?_
    repeat (go_big_quiet_step ((first | (go_at_call 44; exact (HJ.out _ _)) | (go_at_call 47; exact (HD.out _ HB1.out _)))))
    refine wpQuiet_nil ?_
    intro w2 b2
    have HB2 := Lib.hid (bnext HB1.out b2)
    clear b2
    go_wp2_with fail
    go_ret
    exact ⟨by rw [e.out]; try rfl, HB2.out⟩
end Go.Proofs.YtklgkbiobggbiaaGreatDoor
namespace Go.Proofs.YtklgkbiobggbiaaGreatDoor
open Go.ChangeShapes Go.WideShapes Go.ChangeAt Go.RowKit Go.Deep Go.Joins
set_option linter.unusedVariables false
set_option maxRecDepth 100000
set_option linter.unusedSimpArgs false
/-- the partial of a name: the last of 1 .. k whose name it is, or 0 -/
def partN (b : ByteArray) : Nat → Int
  | 0 => 0
  | k + 1 => if partT ((k + 1 : Nat) : Int) = b then ((k + 1 : Nat) : Int) else partN b k
theorem partN_yes {b : ByteArray} {k : Nat} (h : partT ((k + 1 : Nat) : Int) = b) : partN b (k + 1) = ((k + 1 : Nat) : Int) := if_pos h
theorem partN_no {b : ByteArray} {k : Nat} (h : partT ((k + 1 : Nat) : Int) ≠ b) : partN b (k + 1) = partN b k := if_neg h
theorem partN_bd (b : ByteArray) : ∀ k, 0 ≤ partN b k ∧ partN b k ≤ (k : Int)
  | 0 => ⟨Int.le_refl _, Int.le_refl _⟩
  | k + 1 => by
    have := partN_bd b k
    by_cases h : partT ((k + 1 : Nat) : Int) = b
    · rw [partN_yes h]; omega
    · rw [partN_no h]; omega
theorem partN_name {b : ByteArray} : ∀ k, partN b k ≠ 0 → partT (partN b k) = b
  | 0, h => absurd rfl h
  | k + 1, h => by
    by_cases q : partT ((k + 1 : Nat) : Int) = b
    · rw [partN_yes q]; exact q
    · rw [partN_no q] at h ⊢
      exact partN_name k h
def measOf (a b : ByteArray) (c : Option Int) : Option Measure := match c with
  | some f => if measureB ⟨a, partN b 5, f⟩ = true then some ⟨a, partN b 5, f⟩ else none
  | none => none
def measR (s : ByteArray) : Option Measure := match partsS 32 s with
  | [a, b, c] => measOf a b (hertzR c)
  | _ => none
def measZ : Measure := ⟨⟨#[]⟩, 0, 0⟩
def measV (s : ByteArray) : Measure := (measR s).getD measZ
theorem measV_some {s : ByteArray} {x : Measure} (h : measR s = some x) : measV s = x ∧ (measR s).isSome = true := by unfold measV; rw [h]; exact ⟨rfl, rfl⟩
theorem measV_none {s : ByteArray} (h : measR s = none) : measV s = measZ ∧ (measR s).isSome = false := by unfold measV; rw [h]; exact ⟨rfl, rfl⟩
theorem measR_not3 {s : ByteArray} (h : (partsS 32 s).length ≠ 3) : measR s = none := by
  unfold measR
  split
  · rename_i a b c hp; rw [hp] at h; exact absurd rfl h
  · rfl
theorem measR_three {s a b c : ByteArray} (h : partsS 32 s = [a, b, c]) : measR s = measOf a b (hertzR c) := by unfold measR; rw [h]
theorem measR_no {s a b c : ByteArray} (h : partsS 32 s = [a, b, c]) (hn : hertzR c = none) : measR s = none := by rw [measR_three h, hn]; rfl
theorem measR_yes {s a b c : ByteArray} {f : Int} (h : partsS 32 s = [a, b, c]) (hn : hertzR c = some f) : measR s = if measureB ⟨a, partN b 5, f⟩ = true then some ⟨a, partN b 5, f⟩ else none := by rw [measR_three h, hn]; rfl
theorem measT_parts {a b c : ByteArray} {f : Int} (hb : measureB ⟨a, partN b 5, f⟩ = true) : measT ⟨a, partN b 5, f⟩ = a ++ ⟨#[32]⟩ ++ b ++ ⟨#[32]⟩ ++ hertzT f ∧ hzB f = true := by
  have e : measT ⟨a, partN b 5, f⟩ = a ++ ⟨#[32]⟩ ++ partT (partN b 5) ++ ⟨#[32]⟩ ++ hertzT f := if_pos hb
  simp only [measureB, Bool.and_eq_true] at hb
  have h1 := inB_true hb.2.1
  rw [e, partN_name 5 (by have := h1.1; omega)]
  exact ⟨rfl, hb.2.2⟩
/-- the program's two tests say what the reference finds -/
theorem meas_tests {s a b c : ByteArray} (h : partsS 32 s = [a, b, c]) : (measureB ⟨a, partN b 5, hertzV c⟩ = true → measT ⟨a, partN b 5, hertzV c⟩ = s → measR s = some ⟨a, partN b 5, hertzV c⟩) ∧ (measureB ⟨a, partN b 5, hertzV c⟩ = false → measR s = none) ∧ (measT ⟨a, partN b 5, hertzV c⟩ ≠ s → measR s = none) := by
  have es := parts_three h
  refine ⟨fun hb ht => ?_, fun hb => ?_, fun ht => ?_⟩
  · obtain ⟨e, hz⟩ := measT_parts (c := c) hb
    rw [e] at ht
    have hc : hertzT (hertzV c) = c := app_cancel (ht.trans es)
    have hn : hertzR c = some (hertzV c) := by
      have := hertzR_text hz
      rw [hc] at this; exact this
    rw [measR_yes h hn, if_pos hb]
  · cases hn : hertzR c with
    | none => exact measR_no h hn
    | some f =>
      rw [(hertzV_some hn).1] at hb
      rw [measR_yes h hn, if_neg (by rw [hb]; simp)]
  · cases hn : hertzR c with
    | none => exact measR_no h hn
    | some f =>
      rw [measR_yes h hn]
      rw [(hertzV_some hn).1] at ht
      by_cases hb : measureB ⟨a, partN b 5, f⟩ = true
      · refine absurd ?_ ht
        rw [(measT_parts (c := c) hb).1, (hertzR_some hn).2, ← es]
      · exact if_neg hb
theorem measOk {a b : ByteArray} {f : Int} (ha : a.size ≤ 1048576) (hf : I64 f) : (⟨a, partN b 5, f⟩ : Measure).ok := by
  have := partN_bd b 5
  refine ⟨?_, ⟨?_, ?_⟩, hf⟩
  · unfold maxLen; show a.size ≤ _; omega
  · show _ ≤ partN b 5; omega
  · show partN b 5 ≤ _; omega
theorem hertzV_bd (s : ByteArray) : I64 (hertzV s) := by
  cases h : hertzR s with
  | none => rw [(hertzV_none h).1]; exact ⟨by decide, by decide⟩
  | some f =>
    have := inB_true (hertzR_some h).1
    rw [(hertzV_some h).1]
    exact ⟨by omega, by omega⟩
end Go.Proofs.YtklgkbiobggbiaaGreatDoor
namespace Go.Proofs.YtklgkbiobggbiaaGreatDoor
open Go.ChangeShapes Go.WideShapes Go.ChangeAt Go.RowKit Go.Deep Go.Joins
set_option linter.unusedVariables false
set_option maxRecDepth 100000
set_option linter.unusedSimpArgs false
set_option maxHeartbeats 1000000 in
theorem slices_Equal_str (w : World) (v1 v2 : Value) (xs ys : List ByteArray) (h1 : Rd w.heap.size w v1 1 xs.length (xs.flatMap putStr)) (h2 : Rd w.heap.size w v2 1 ys.length (ys.flatMap putStr)) (hn : xs.length ≤ 1048576) :
    Calls Tryz.prog 71 #[v1, v2] w fun e w' => e = .returned (.bool (wordsS xs ys)) ∧ Below w.heap.size w w' := by
  obtain ⟨hL, ao, cap, rfl, hcap, hmax, hnil, hsome⟩ := h1
  obtain ⟨hL2, ao2, cap2, rfl, hcap2, hmax2, hnil2, hsome2⟩ := h2
  have hyx := hmax2
  unfold maxLen at hyx
  by_cases hl : xs.length = ys.length
  case neg =>
    have e : Hid (wordsS xs ys = false) := (by simp [wordsS, hl] : wordsS xs ys = false)
    have hz2 : ((xs.length : Int) != (ys.length : Int)) = true := by simp; omega
    clear hsome hsome2 hnil hnil2 hl
    go_enter Tryz.func71, Tryz.ntmps71
    go_wp2
    go_ret
    exact ⟨by rw [e.out]; rfl, by (repeat' (first | (with_reducible exact Below.refl _ _) | (with_reducible assumption) | (with_reducible refine below_dn ?_ _) | (with_reducible refine Below.drew ?_) | (with_reducible refine Below.alloc ?_ ?_ _) | (with_reducible refine Below.setCell ?_ ?_ _) | go_size))⟩
  have es : Hid (wordsS xs ys = allK (atB strEq xs ys) xs.length) := (by simp [wordsS, hl] : wordsS xs ys = allK (atB strEq xs ys) xs.length)
  have Hl := Lib.hid hl
  have hz2 : ((xs.length : Int) != (ys.length : Int)) = false := by simp [hl]
  have hle : xs.length ≤ ys.length := by omega
  have hge : ys.length ≤ xs.length := by omega
  clear hl
  go_enter Tryz.func71, Tryz.ntmps71
  go_wp2
  go_loopw [13] (fun i wr => ∃ (k : Nat), k ≤ xs.length ∧ i = .int .i64 k ∧ allK (atB strEq xs ys) k = true ∧ Below w.heap.size w wr) (fun i _ => xs.length - (intOf i).toNat)
  case atStart => exact ⟨0, Nat.zero_le _, rfl, rfl, Below.refl _ _⟩
  case round =>
    obtain ⟨k, hk, rfl, hall, hb⟩ := hrel
    have Hall := Lib.hid hall; clear hall
    by_cases hlt : k < xs.length
    · have hlt2 : k < ys.length := by omega
      obtain ⟨b, off, rfl, hbB, hc⟩ := hsome (by omega)
      obtain ⟨b2, off2, rfl, hbB2, hc2⟩ := hsome2 (by omega)
      have c0 : wr.cell? ⟨b, off + k, none⟩ = some (.string xs[k]) := by
        rw [hb.cell (p := ⟨b, off + k, none⟩) hbB, hc k (by omega), putStr_get xs k hlt]
      have d0 : wr.cell? ⟨b2, off2 + k, none⟩ = some (.string ys[k]) := by
        rw [hb.cell (p := ⟨b2, off2 + k, none⟩) hbB2, hc2 k (by omega), putStr_get ys k hlt2]
      have hbr : b < wr.heap.size := Nat.lt_of_lt_of_le hbB hb.size
      have hbr2 : b2 < wr.heap.size := Nat.lt_of_lt_of_le hbB2 hb.size
      have HS := Lib.hid (allK_succ (atB strEq xs ys) k)
      have HF := Lib.hid (allK_false (atB strEq xs ys) xs.length k hlt)
      have HB := Lib.hid hb
      clear hc hc2 hsome hsome2 hnil hnil2 hb
      cases hE : strEq xs[k] ys[k]
      · have e : Hid (wordsS xs ys = false) := (by rw [es.out]; exact HF.out (by rw [atB_eq hlt hlt2, hE]) : wordsS xs ys = false)
        have t1 := strEq_f hE
        have t2 := strEq_nf hE
        clear hE
        go_wp2_with fail
        refine wp_region_above (by kernel_rfl) (by kernel_rfl) ?_
        repeat (go_big_quiet_step (fail))
        refine wpQuiet_nil ?_
        intro w1 b1
        have HB1 := Lib.hid (HB.out.trans (b1.mono HB.out.size)); clear b1 HB
        go_wp2_with fail
        go_ret
        exact ⟨by rw [e.out]; rfl, HB1.out⟩
      · have e : Hid (allK (atB strEq xs ys) (k + 1) = true) := (by rw [HS.out, Hall.out, atB_eq hlt hlt2, hE]; rfl : allK (atB strEq xs ys) (k + 1) = true)
        have t1 := strEq_t hE
        have t2 := strEq_nt hE
        clear hE
        go_wp2_with fail
        refine wp_region_above (by kernel_rfl) (by kernel_rfl) ?_
        repeat (go_big_quiet_step (fail))
        refine wpQuiet_nil ?_
        intro w1 b1
        have HB1 := Lib.hid (HB.out.trans (b1.mono HB.out.size)); clear b1 HB
        go_wp2_with fail
        go_roundw
        case rel => exact ⟨k + 1, by omega, by go_num, e.out, HB1.out⟩
        case measure => simp [intOf]; omega
    · have e : Hid (wordsS xs ys = true) := (by
        obtain rfl : k = xs.length := by omega
        rw [es.out]; exact Hall.out : wordsS xs ys = true)
      go_wp2
      go_ret
      exact ⟨by rw [e.out]; rfl, hb⟩

theorem slices_Equal_str_is {b : Bool} (w : World) (v1 v2 : Value) (xs ys : List ByteArray) (h1 : Rd w.heap.size w v1 1 xs.length (xs.flatMap putStr)) (h2 : Rd w.heap.size w v2 1 ys.length (ys.flatMap putStr)) (hn : xs.length ≤ 1048576) (hb : wordsS xs ys = b) :
    Calls Tryz.prog 71 #[v1, v2] w fun e w' => e = .returned (.bool b) ∧ Below w.heap.size w w' := by
  subst hb; exact slices_Equal_str w v1 v2 xs ys h1 h2 hn
end Go.Proofs.YtklgkbiobggbiaaGreatDoor
namespace Go.Proofs.YtklgkbiobggbiaaGreatDoor
open Go.ChangeShapes Go.WideShapes Go.ChangeAt Go.RowKit Go.Deep Go.Joins
set_option linter.unusedVariables false
set_option maxRecDepth 100000
set_option linter.unusedSimpArgs false
def Melt.val (x : Melt) : Value := .agg #[.string x.id, x.list, .int .i64 x.mass]
end Go.Proofs.YtklgkbiobggbiaaGreatDoor
namespace Go.Proofs.YtklgkbiobggbiaaGreatDoor
open Go.ChangeShapes Go.WideShapes Go.ChangeAt Go.RowKit Go.Deep Go.Joins
set_option linter.unusedVariables false
set_option maxRecDepth 100000
set_option linter.unusedSimpArgs false
def ltName (y x : ByteArray) : Bool := Op.bytesLess y.toList x.toList
def meltB (x : Melt) : Bool := nameB x.id && (decide (1 ≤ x.ingots.length) && (decide (x.ingots.length ≤ 16) && (allK (stepB nameB ltName x.ingots) x.ingots.length && inB x.mass 1 320000000)))

theorem ltName_spec_f {y x : ByteArray} (h : ltName y x = false) : (!(Op.bytesLess y.toList x.toList)) = true := by
  unfold ltName at h; rw [h]; rfl
theorem ltName_spec_t {y x : ByteArray} (h : ltName y x = true) : (!(Op.bytesLess y.toList x.toList)) = false := by
  unfold ltName at h; rw [h]; rfl
theorem ltName_impl_f {y x : ByteArray} (h : ltName y x = false) : (Op.bytesLess x.toList y.toList || x.toList == y.toList) = true := by
  unfold ltName at h; rw [← not_less, h]; rfl
theorem ltName_impl_t {y x : ByteArray} (h : ltName y x = true) : (Op.bytesLess x.toList y.toList || x.toList == y.toList) = false := by
  unfold ltName at h; rw [← not_less, h]; rfl

set_option maxHeartbeats 1000000 in
theorem spec_l14One (x : Melt) (a o : Nat) (w : World) (hx : x.ok w) (hn : x.ingots.length ≤ 1048576) (h0 : w.cell? ⟨a, o, none⟩ = some (.string x.id)) (h1 : w.cell? ⟨a, o + 1, none⟩ = some x.list) (h2 : w.cell? ⟨a, o + 2, none⟩ = some (.int .i64 x.mass)) (ha : a < w.heap.size) :
    Calls Tryz.prog 121 #[.pointer (some ⟨a, o, none⟩)] w fun e w' => e = .returned (.bool (meltB x)) ∧ Below w.heap.size w w' := by
  obtain ⟨hi, ⟨hr, hl, hs⟩, _⟩ := hx
  have Hi := Lib.hid hi; clear hi
  obtain ⟨hL, ao, cap, hlist, hcap, hmax, hnil, hsome⟩ := hr
  rw [hlist] at h1
  clear hlist
  have Hok := Lib.hid hs; clear hs
  cases hN : nameB x.id
  case false =>
    have e : Hid (meltB x = false) := (by unfold meltB; rw [hN]; rfl : meltB x = false)
    clear hsome hnil
    go_enter Tryz.func121, Tryz.ntmps121
    go_wp2_with (first | (go_at_call 143; refine (spec_l01Name_is _ _ Hi.out (by assumption)).mono ?_; rintro e w' ⟨rfl, rfl⟩))
    go_ret
    exact ⟨by rw [e.out]; rfl, by (repeat' (first | (with_reducible exact Below.refl _ _) | (with_reducible assumption) | (with_reducible refine below_dn ?_ _) | (with_reducible refine Below.drew ?_) | (with_reducible refine Below.alloc ?_ ?_ _) | (with_reducible refine Below.setCell ?_ ?_ _) | go_size))⟩
  by_cases hz1 : 1 ≤ x.ingots.length
  case neg =>
    have e : Hid (meltB x = false) := (by unfold meltB; rw [decide_eq_false hz1]; simp : meltB x = false)
    clear hsome hnil
    go_enter Tryz.func121, Tryz.ntmps121
    go_wp2_with (first | (go_at_call 143; refine (spec_l01Name_is _ _ Hi.out (by assumption)).mono ?_; rintro e w' ⟨rfl, rfl⟩))
    go_ret
    exact ⟨by rw [e.out]; rfl, by (repeat' (first | (with_reducible exact Below.refl _ _) | (with_reducible assumption) | (with_reducible refine below_dn ?_ _) | (with_reducible refine Below.drew ?_) | (with_reducible refine Below.alloc ?_ ?_ _) | (with_reducible refine Below.setCell ?_ ?_ _) | go_size))⟩
  by_cases hz2 : x.ingots.length ≤ 16
  case neg =>
    have e : Hid (meltB x = false) := (by unfold meltB; rw [decide_eq_false hz2]; simp : meltB x = false)
    clear hsome hnil
    go_enter Tryz.func121, Tryz.ntmps121
    go_wp2_with (first | (go_at_call 143; refine (spec_l01Name_is _ _ Hi.out (by assumption)).mono ?_; rintro e w' ⟨rfl, rfl⟩))
    go_ret
    exact ⟨by rw [e.out]; rfl, by (repeat' (first | (with_reducible exact Below.refl _ _) | (with_reducible assumption) | (with_reducible refine below_dn ?_ _) | (with_reducible refine Below.drew ?_) | (with_reducible refine Below.alloc ?_ ?_ _) | (with_reducible refine Below.setCell ?_ ?_ _) | go_size))⟩
  cases hM : inB x.mass 1 320000000
  case false =>
    have e : Hid (meltB x = false) := (by unfold meltB; rw [hM]; simp : meltB x = false)
    clear hsome hnil
    go_enter Tryz.func121, Tryz.ntmps121
    go_wp2_with (first | (go_at_call 143; refine (spec_l01Name_is _ _ Hi.out (by assumption)).mono ?_; rintro e w' ⟨rfl, rfl⟩) | (go_at_call 161; refine (l00In_is _ _ _ _ (by assumption)).mono ?_; rintro e w' ⟨rfl, rfl⟩))
    go_ret
    exact ⟨by rw [e.out]; rfl, by (repeat' (first | (with_reducible exact Below.refl _ _) | (with_reducible assumption) | (with_reducible refine below_dn ?_ _) | (with_reducible refine Below.drew ?_) | (with_reducible refine Below.alloc ?_ ?_ _) | (with_reducible refine Below.setCell ?_ ?_ _) | go_size))⟩
  have es : Hid (meltB x = allK (stepB nameB ltName x.ingots) x.ingots.length) := (by unfold meltB; rw [hN, hM, decide_eq_true hz1, decide_eq_true hz2]; simp : meltB x = allK (stepB nameB ltName x.ingots) x.ingots.length)
  have HM := Lib.hid hM
  go_enter Tryz.func121, Tryz.ntmps121
  go_wp2_with (first | (go_at_call 143; refine (spec_l01Name_is _ _ Hi.out (by assumption)).mono ?_; rintro e w' ⟨rfl, rfl⟩) | (go_at_call 161; refine (l00In_is _ _ _ _ (by assumption)).mono ?_; rintro e w' ⟨rfl, rfl⟩))
  clear hM hN
  go_loopw [3] (fun i wr => ∃ (k : Nat), k ≤ x.ingots.length ∧ i = .int .i64 k ∧ allK (stepB nameB ltName x.ingots) k = true ∧ Below w.heap.size w wr) (fun i _ => x.ingots.length - (intOf i).toNat)
  case atStart => exact ⟨0, Nat.zero_le _, rfl, rfl, by (repeat' (first | (with_reducible exact Below.refl _ _) | (with_reducible assumption) | (with_reducible refine below_dn ?_ _) | (with_reducible refine Below.drew ?_) | (with_reducible refine Below.alloc ?_ ?_ _) | (with_reducible refine Below.setCell ?_ ?_ _) | go_size))⟩
  case round =>
    obtain ⟨k, hk, rfl, hall, hb⟩ := hrel
    have Hall := Lib.hid hall; clear hall
    have r0 : wr.cell? ⟨a, o, none⟩ = some (.string x.id) := (hb.cell (p := ⟨a, o, none⟩) ha).trans h0
    have r1 : wr.cell? ⟨a, o + 1, none⟩ = some (.slice ao x.ingots.length cap) := (hb.cell (p := ⟨a, o + 1, none⟩) ha).trans h1
    by_cases hlt : k < x.ingots.length
    · obtain ⟨b, off, rfl, hbB, hc⟩ := hsome (by omega)
      have c0 : wr.cell? ⟨b, off + k, none⟩ = some (.string x.ingots[k]) := by
        rw [hb.cell (p := ⟨b, off + k, none⟩) hbB, hc k (by omega), putStr_get x.ingots k hlt]
      have hbr : b < wr.heap.size := Nat.lt_of_lt_of_le hbB hb.size
      have har : a < wr.heap.size := Nat.lt_of_lt_of_le ha hb.size
      have hok : x.ingots[k].size ≤ maxLen := Hok.out _ (List.getElem_mem hlt)
      have HK := Lib.hid hok; clear hok
      have HS := Lib.hid (allK_succ (stepB nameB ltName x.ingots) k)
      have HF := Lib.hid (allK_false (stepB nameB ltName x.ingots) x.ingots.length k hlt)
      cases hO : nameB x.ingots[k]
      · have e : Hid (meltB x = false) := (by rw [es.out]; exact HF.out (stepB_no hlt hO) : meltB x = false)
        have HB := Lib.hid hb
        clear hc hsome hnil hb h0 h1 h2
        go_wp2_with fail
        refine wp_region_above (by kernel_rfl) (by kernel_rfl) ?_
        repeat (go_big_quiet_step ((first | (go_at_call 143; exact aboveE (spec_l01Name_is _ _ HK.out (by assumption))))))
        refine wpQuiet_nil ?_
        intro w1 b1
        have HB1 := Lib.hid (HB.out.trans (b1.mono HB.out.size)); clear b1 HB
        go_wp2_with fail
        go_ret
        exact ⟨by rw [e.out]; rfl, HB1.out⟩
      by_cases hk0 : k = 0
      · have e : Hid (allK (stepB nameB ltName x.ingots) (k + 1) = true) := (by subst hk0; rw [HS.out, stepB_zero hlt hO]; rfl : allK (stepB nameB ltName x.ingots) (k + 1) = true)
        have hz : decide (0 < k) = false := decide_eq_false (by omega)
        have HB := Lib.hid hb
        clear hc hsome hnil hb hk0 h0 h1 h2
        go_wp2_with fail
        refine wp_region_above (by kernel_rfl) (by kernel_rfl) ?_
        repeat (go_big_quiet_step ((first | (go_at_call 143; exact aboveE (spec_l01Name_is _ _ HK.out (by assumption))))))
        refine wpQuiet_nil ?_
        intro w1 b1
        have HB1 := Lib.hid (HB.out.trans (b1.mono HB.out.size)); clear b1 HB
        go_wp2_with fail
        go_roundw
        case rel => exact ⟨k + 1, by omega, by go_num, e.out, HB1.out⟩
        case measure => simp [intOf]; omega
      · have hpos : 0 < k := by omega
        have hz : decide (0 < k) = true := decide_eq_true (by omega)
        have p0 : wr.cell? ⟨b, off + (k - 1), none⟩ = some (.string x.ingots[k - 1]) := by
          rw [hb.cell (p := ⟨b, off + (k - 1), none⟩) hbB, hc (k - 1) (by omega), putStr_get x.ingots (k - 1) (by omega)]
        cases hT : ltName x.ingots[k - 1] x.ingots[k]
        · have e : Hid (meltB x = false) := (by rw [es.out]; exact HF.out (stepB_lt hlt hpos hO hT) : meltB x = false)
          have t1 : (!(Op.bytesLess x.ingots[k - 1].toList x.ingots[k].toList)) = true := ltName_spec_f hT
          have HB := Lib.hid hb
          clear hc hsome hnil hb hT h0 h1 h2
          go_wp2_with fail
          refine wp_region_above (by kernel_rfl) (by kernel_rfl) ?_
          repeat (go_big_quiet_step ((first | (go_at_call 143; exact aboveE (spec_l01Name_is _ _ HK.out (by assumption))))))
          refine wpQuiet_nil ?_
          intro w1 b1
          have HB1 := Lib.hid (HB.out.trans (b1.mono HB.out.size)); clear b1 HB
          go_wp2_with fail
          go_ret
          exact ⟨by rw [e.out]; rfl, HB1.out⟩
        · have e : Hid (allK (stepB nameB ltName x.ingots) (k + 1) = true) := (by rw [HS.out, Hall.out, stepB_yes hlt hpos hO hT]; rfl : allK (stepB nameB ltName x.ingots) (k + 1) = true)
          have t1 : (!(Op.bytesLess x.ingots[k - 1].toList x.ingots[k].toList)) = false := ltName_spec_t hT
          have HB := Lib.hid hb
          clear hc hsome hnil hb hT h0 h1 h2
          go_wp2_with fail
          refine wp_region_above (by kernel_rfl) (by kernel_rfl) ?_
          repeat (go_big_quiet_step ((first | (go_at_call 143; exact aboveE (spec_l01Name_is _ _ HK.out (by assumption))))))
          refine wpQuiet_nil ?_
          intro w1 b1
          have HB1 := Lib.hid (HB.out.trans (b1.mono HB.out.size)); clear b1 HB
          go_wp2_with fail
          go_roundw
          case rel => exact ⟨k + 1, by omega, by go_num, e.out, HB1.out⟩
          case measure => simp [intOf]; omega
    · have e : Hid (meltB x = true) := (by
        obtain rfl : k = x.ingots.length := by omega
        rw [es.out]; exact Hall.out : meltB x = true)
      go_wp2
      go_ret
      exact ⟨by rw [e.out]; rfl, hb⟩
end Go.Proofs.YtklgkbiobggbiaaGreatDoor
namespace Go.Proofs.YtklgkbiobggbiaaGreatDoor
open Go.ChangeShapes Go.WideShapes Go.ChangeAt Go.RowKit Go.Deep Go.Joins
set_option linter.unusedVariables false
set_option maxRecDepth 100000
set_option linter.unusedSimpArgs false
/-- what a comparison of two texts gives -/
def cmpS (x y : ByteArray) : Int := if ltName x y then -1 else if strEq x y then 0 else 1
theorem cmpS_lt {x y : ByteArray} : cmpS x y < 0 ↔ ltName x y = true := by
  unfold cmpS
  cases h : ltName x y <;> simp
  cases strEq x y <;> simp
theorem ltName_irrefl (x : ByteArray) : ltName x x = false := less_irrefl _
theorem ltName_trans {x y z : ByteArray} (h1 : ltName x y = true) (h2 : ltName y z = true) : ltName x z = true := less_trans _ _ _ h1 h2
theorem strEq_iff {x y : ByteArray} : strEq x y = true ↔ x = y := by
  unfold strEq
  rw [beq_iff_eq]
  constructor
  · intro h
    have h2 : x.data.toList = y.data.toList := by
      rw [ByteArray.toList_eq, ByteArray.toList_eq] at h; exact h
    cases x; cases y
    simp only [ByteArray.mk.injEq]
    exact Array.toList_inj.1 h2
  · rintro rfl; rfl
theorem cmpS_zero {x y : ByteArray} : cmpS x y = 0 ↔ x = y := by
  unfold cmpS
  cases h : ltName x y
  · simp only [Bool.false_eq_true, if_false]
    cases h2 : strEq x y
    · simp only [Bool.false_eq_true, if_false]
      constructor
      · intro h; omega
      · rintro rfl; rw [strEq_iff.2 rfl] at h2; cases h2
    · simp [strEq_iff.1 h2]
  · simp only [if_true]
    constructor
    · intro h; omega
    · rintro rfl; rw [ltName_irrefl] at h; cases h
/-- not before it, not equal: behind it -/
theorem ltName_total {x y : ByteArray} (h1 : ltName x y = false) (h2 : x ≠ y) : ltName y x = true := by
  have h := not_less y.toList x.toList
  unfold ltName at *
  have h3 : strEq y x = false := by
    cases h4 : strEq y x with
    | false => rfl
    | true => exact absurd (strEq_iff.1 h4).symm h2
  unfold strEq at h3
  rw [h1, h3] at h
  simpa using h.symm
theorem cmp_isNaN_str (x : ByteArray) (w : World) : Calls Tryz.prog 149 #[.string x] w fun e w' => e = .returned (.bool false) ∧ w = w' := by
  have t1 : (x.toList == x.toList) = true := by simp
  go_enter Tryz.func149, Tryz.ntmps149
  go_wp2
  go_ret
  exact ⟨by first | rfl | simp, rfl⟩
theorem cmp_Compare_str (x y : ByteArray) (w : World) : Calls Tryz.prog 101 #[.string x, .string y] w fun e w' => e = .returned (.int .i64 (cmpS x y)) ∧ w = w' := by
  cases h1 : ltName x y
  · cases h2 : strEq x y
    · have e : Hid (cmpS x y = 1) := (by unfold cmpS; rw [h1, h2]; rfl : cmpS x y = 1)
      have t1 : Op.bytesLess x.toList y.toList = false := h1
      have t2 : (x.toList == y.toList) = false := h2
      clear h1 h2
      go_enter Tryz.func101, Tryz.ntmps101
      go_wp2_with (first | (go_at_call 149; refine (cmp_isNaN_str _ _).mono ?_; rintro e w' ⟨rfl, rfl⟩))
      go_ret
      exact ⟨by rw [e.out]; rfl, rfl⟩
    · have e : Hid (cmpS x y = 0) := (by unfold cmpS; rw [h1, h2]; rfl : cmpS x y = 0)
      have t1 : Op.bytesLess x.toList y.toList = false := h1
      have t2 : (x.toList == y.toList) = true := h2
      clear h1 h2
      go_enter Tryz.func101, Tryz.ntmps101
      go_wp2_with (first | (go_at_call 149; refine (cmp_isNaN_str _ _).mono ?_; rintro e w' ⟨rfl, rfl⟩))
      go_ret
      exact ⟨by rw [e.out]; rfl, rfl⟩
  · have e : Hid (cmpS x y = -1) := (by unfold cmpS; rw [h1]; rfl : cmpS x y = -1)
    have t1 : Op.bytesLess x.toList y.toList = true := h1
    clear h1
    go_enter Tryz.func101, Tryz.ntmps101
    go_wp2_with (first | (go_at_call 149; refine (cmp_isNaN_str _ _).mono ?_; rintro e w' ⟨rfl, rfl⟩))
    go_ret
    exact ⟨by rw [e.out]; rfl, rfl⟩
end Go.Proofs.YtklgkbiobggbiaaGreatDoor
namespace Go.Proofs.YtklgkbiobggbiaaGreatDoor
open Go.ChangeShapes Go.WideShapes Go.ChangeAt Go.RowKit Go.Deep Go.Joins
set_option linter.unusedVariables false
set_option maxRecDepth 100000
set_option linter.unusedSimpArgs false
open Go.Lib in
theorem leK_iff (x y : List UInt8) : x ≤ y ↔ Op.bytesLess y x = false := by
  rw [Go.Proofs.bytesLess_eq, decide_eq_false_iff_not]
  exact Iff.rfl
theorem leK_trans {x y z : List UInt8} (h1 : x ≤ y) (h2 : y ≤ z) : x ≤ z := by
  rw [leK_iff] at *
  have n1 := not_less x y
  have n2 := not_less y z
  rw [h1] at n1
  rw [h2] at n2
  simp only [Bool.not_false, Bool.true_eq, Bool.or_eq_true, beq_iff_eq] at n1 n2
  rcases n1 with a | rfl
  · rcases n2 with b | rfl
    · cases h : Op.bytesLess z x
      · rfl
      · have c := less_trans _ _ _ a b
        have d := less_trans _ _ _ c h
        rw [less_irrefl] at d; cases d
    · exact h1
  · exact h2
theorem leK_total (x y : List UInt8) : x ≤ y ∨ y ≤ x := by
  rw [leK_iff, leK_iff]
  cases h : Op.bytesLess y x
  · exact .inl rfl
  · right
    cases h2 : Op.bytesLess x y
    · rfl
    · have d := less_trans _ _ _ h h2
      rw [less_irrefl] at d; cases d
def ltK (x y : List UInt8) : Prop := Op.bytesLess x y = true
theorem ltK_of {x y : List UInt8} (h : x ≤ y) (hn : x ≠ y) : ltK x y := by
  rw [leK_iff] at h
  have n := not_less x y
  rw [h] at n
  simp only [Bool.not_false, Bool.true_eq, Bool.or_eq_true, beq_iff_eq] at n
  rcases n with a | a
  · exact a
  · exact absurd a hn
theorem ltK_asymm {x y : List UInt8} (h1 : ltK x y) (h2 : ltK y x) : False := by
  have d := less_trans _ _ _ h1 h2
  rw [less_irrefl] at d; cases d
theorem ltK_lt_of_le {x y z : List UInt8} (h1 : x ≤ y) (h2 : ltK y z) : ltK x z := by
  rw [leK_iff] at h1
  have n := not_less x y
  rw [h1] at n
  simp only [Bool.not_false, Bool.true_eq, Bool.or_eq_true, beq_iff_eq] at n
  rcases n with a | rfl
  · exact less_trans _ _ _ a h2
  · exact h2
/-- two lists that rise, with the same members, are one -/
theorem rises_unique {a b : List (List UInt8)} (ha : a.Pairwise ltK) (hb : b.Pairwise ltK) (h : ∀ x, x ∈ a ↔ x ∈ b) : a = b := by
  have na : a.Nodup := ha.imp (fun {x y} hxy e => by subst e; exact ltK_asymm hxy hxy)
  have nb : b.Nodup := hb.imp (fun {x y} hxy e => by subst e; exact ltK_asymm hxy hxy)
  have hp : a.Perm b := (List.perm_ext_iff_of_nodup na nb).2 h
  exact List.Perm.eq_of_pairwise (le := ltK) (fun x y _ _ h1 h2 => (ltK_asymm h1 h2).elim) ha hb hp
def sortK (L : List (List UInt8)) : List (List UInt8) := L.mergeSort fun x y => decide (x ≤ y)
theorem sortK_perm (L : List (List UInt8)) : (sortK L).Perm L := List.mergeSort_perm L _
theorem sortK_le (L : List (List UInt8)) : (sortK L).Pairwise (· ≤ ·) :=
  (List.pairwise_mergeSort (le := fun x y => decide (x ≤ y)) (fun a b c h1 h2 => by simp only [decide_eq_true_eq] at *; exact leK_trans h1 h2) (fun a b => by rw [Bool.or_eq_true]; simp only [decide_eq_true_eq]; exact leK_total a b) L).imp fun {a b} h => by simpa using h
open Go.Lib in
theorem compact_facts (L : List (List UInt8)) (hs : L.Pairwise (· ≤ ·)) : ∀ m, m ≤ L.length → (compactUpTo L.toArray m).Pairwise ltK ∧ (∀ x, x ∈ compactUpTo L.toArray m ↔ x ∈ L.take m)
  | 0, _ => by simp [compactUpTo]
  | m + 1, hm => by
    obtain ⟨h1, h2⟩ := compact_facts L hs m (by omega)
    have hml : m < L.length := by omega
    have em : L.toArray[m]! = L[m] := by simp [hml]
    rw [compactUpTo_succ, em]
    have et : L.take (m + 1) = L.take m ++ [L[m]] := List.take_succ_eq_append_getElem hml
    by_cases hk : keeps L.toArray m = true
    · rw [if_pos hk]
      refine ⟨List.pairwise_append.2 ⟨h1, List.pairwise_singleton _ _, fun a ha b hb => ?_⟩, fun x => by rw [et, List.mem_append, List.mem_append, h2 x]⟩
      simp only [List.mem_singleton] at hb
      subst hb
      have ha' := (h2 a).1 ha
      obtain ⟨i, hi, rfl⟩ := List.mem_iff_getElem.1 ha'
      rw [List.length_take] at hi
      rw [List.getElem_take]
      have hm0 : 0 < m := by omega
      have hne : L[m - 1]'(by omega) ≠ L[m] := by
        unfold keeps at hk
        have e1 : L.toArray[m - 1]! = L[m - 1]'(by omega) := by simp [show m - 1 < L.length by omega]
        rw [em, e1, decide_eq_true_eq] at hk
        rcases hk with hk | hk
        · omega
        · exact fun e => hk e.symm
      have hlt : ltK (L[m - 1]'(by omega)) L[m] := ltK_of (List.pairwise_iff_getElem.1 hs (m - 1) m (by omega) hml (by omega)) hne
      by_cases e : i = m - 1
      · subst e; exact hlt
      · exact ltK_lt_of_le (List.pairwise_iff_getElem.1 hs i (m - 1) (by omega) (by omega) (by omega)) hlt
    · rw [if_neg hk, List.append_nil]
      refine ⟨h1, fun x => ?_⟩
      rw [et, List.mem_append, h2 x]
      have : L[m] ∈ L.take m := by
        unfold keeps at hk
        rw [decide_eq_true_eq] at hk
        have hm0 : ¬ m = 0 := fun e => hk (.inl e)
        have e1 : L.toArray[m - 1]! = L[m - 1]'(by omega) := by simp [show m - 1 < L.length by omega]
        have e2 : L[m] = L[m - 1]'(by omega) := by
          rw [em, e1] at hk
          exact Classical.not_not.1 fun h => hk (.inr h)
        rw [e2]
        exact List.mem_iff_getElem.2 ⟨m - 1, by rw [List.length_take]; omega, by rw [List.getElem_take]⟩
      constructor
      · exact fun h => .inl h
      · rintro (h | h)
        · exact h
        · simp only [List.mem_singleton] at h
          rw [h]; exact this
/-- the bells: each once, in order -/
def bellK (L : List (List UInt8)) : List (List UInt8) := Go.Lib.compact (sortK L)
theorem bellK_facts (L : List (List UInt8)) : (bellK L).Pairwise ltK ∧ ∀ x, x ∈ bellK L ↔ x ∈ L := by
  have h := compact_facts (sortK L) (sortK_le L) (sortK L).length (Nat.le_refl _)
  refine ⟨h.1, fun x => (h.2 x).trans ?_⟩
  rw [List.take_length]
  exact (sortK_perm L).mem_iff
theorem bellK_eq {out L : List (List UInt8)} (h1 : out.Pairwise ltK) (h2 : ∀ x, x ∈ out ↔ x ∈ L) : out = bellK L :=
  rises_unique h1 (bellK_facts L).1 fun x => (h2 x).trans ((bellK_facts L).2 x).symm
theorem bellK_len (L : List (List UInt8)) : (bellK L).length ≤ L.length := by
  unfold bellK Go.Lib.compact Go.Lib.compactUpTo
  rw [List.length_map]
  have h := List.length_filter_le (Go.Lib.keeps (sortK L).toArray) (List.range (sortK L).length)
  rw [List.length_range, (sortK_perm L).length_eq] at h
  rw [(sortK_perm L).length_eq]
  exact h
end Go.Proofs.YtklgkbiobggbiaaGreatDoor
namespace Go.Proofs.YtklgkbiobggbiaaGreatDoor
open Go.ChangeShapes Go.WideShapes Go.ChangeAt Go.RowKit Go.Deep Go.Joins
set_option linter.unusedVariables false
set_option maxRecDepth 100000
set_option linter.unusedSimpArgs false
theorem encStr_eq (x : ByteArray) : encStr x.data.toList = .string x := rfl
open Go.Sort Go.Shelf in
theorem sort_ownS {P : Program} {ρ} (L : SlLaysM.n6 P ρ) {w : World} {base : Nat} {e : TypeId} {v : Value} {n : Nat} {zs : List (List UInt8)} (h : w.ownsRow base e 1 v n (zs.map encStr)) (hn : n ≤ 1048576) :
    Calls P (ρ.f 6) #[v] w fun e' w' => e' = .returned (.tuple #[]) ∧ w'.ownsRow base e 1 v n ((sortK zs).map encStr) ∧ w.grownBy w' v.ownBlock := by
  obtain ⟨h1, h2⟩ := h
  rw [List.length_map, Nat.mul_one] at h1
  subst h1
  rcases h2 with ⟨rfl, h0⟩ | ⟨g, cap, cur, rfl, hb, hg, hnc, hm, hs, ht⟩
  · have hz : zs = [] := List.eq_nil_of_length_eq_zero h0
    subst hz
    exact (AnyM.slices_Sort_string_none L none 0 w).mono fun e' w' ⟨a, b⟩ => by
      subst b
      exact ⟨a, ⟨by simp [sortK], .inl ⟨rfl, rfl⟩⟩, World.grownBy.refl _ _⟩
  · rw [Nat.mul_one] at ht
    refine (AnyM.slices_Sort_string L g 0 cap zs w (holds_of_block hg ht) (Array.getElem?_eq_some_iff.1 hg).1 (by omega)).mono fun e' w' ⟨a, q, os, hw⟩ => ?_
    subst hw
    exact ⟨a, ownsRow_sorted (sortK_perm zs).length_eq hb hg hnc hm hs, grownBy_sorted _⟩
/-- a slice's first m elements, on the same block -/
theorem own_take {w : World} {base g cap n m : Nat} {e : TypeId} {L : List Value} (h : w.ownsRow base e 1 (.slice (some ⟨g, 0, none⟩) n cap) n L) (hm : m ≤ n) : w.ownsRow base e 1 (.slice (some ⟨g, 0, none⟩) m cap) m (L.take m) := by
  obtain ⟨h1, h2⟩ := h
  rcases h2 with ⟨e0, _⟩ | ⟨g', cap', cur, e0, hb, hg, hnc, hmx, hs, ht⟩
  · cases e0
  · injection e0 with q1 q2 q3
    injection q1 with q4
    injection q4 with q5
    subst q5; subst q3
    refine ⟨by rw [List.length_take]; omega, .inr ⟨g, cap, cur, rfl, hb, hg, by omega, hmx, hs, ?_⟩⟩
    rw [← ht, Nat.mul_one, Nat.mul_one, List.take_take, Nat.min_eq_left hm]
theorem grow_nil (w : World) : Go.Sort.grow w #[] = w := by cases w; simp [Go.Sort.grow]
open Go.Sort Go.Shelf in
theorem compact_ownS {P : Program} {ρ} (L : SlLaysN.n44 P ρ) {w : World} {base : Nat} {e : TypeId} {v : Value} {n : Nat} {zs : List (List UInt8)} (h : w.ownsRow base e 1 v n (zs.map encStr)) (hn : n ≤ 1048576) :
    Calls P (ρ.f 44) #[v] w fun e' w' => ∃ r, e' = .returned r ∧ w'.ownsRow base e 1 r (Lib.compact zs).length ((Lib.compact zs).map encStr) ∧ w.grownBy w' v.ownBlock := by
  obtain ⟨h1, h2⟩ := h
  rw [List.length_map, Nat.mul_one] at h1
  subst h1
  rcases h2 with ⟨rfl, h0⟩ | ⟨g, cap, cur, rfl, hb, hg, hnc, hm, hs, ht⟩
  · have hz : zs = [] := List.eq_nil_of_length_eq_zero h0
    subst hz
    exact (AnyG.slices_Compact_string_empty L none 0 w).mono fun e' w' ⟨a, b⟩ => by
      subst b
      exact ⟨_, a, ⟨by simp [Lib.compact, Lib.compactUpTo], .inl ⟨rfl, rfl⟩⟩, World.grownBy.refl _ _⟩
  · rw [Nat.mul_one] at ht
    have hcl : (Lib.compact zs).length ≤ zs.length := by
      unfold Lib.compact Lib.compactUpTo
      rw [List.length_map]
      have := List.length_filter_le (Lib.keeps zs.toArray) (List.range zs.length)
      rwa [List.length_range] at this
    refine (AnyG.slices_Compact_string L g 0 cap zs w (holds_of_block hg ht) (by omega) hnc).mono fun e' w' ⟨a, q, hw⟩ => ?_
    have eg : w' = grow (putRow encStr (Sort.ahead w q) g 0 (Lib.compact zs ++ List.replicate (zs.length - (Lib.compact zs).length) []).toArray) #[] := by
      rw [hw, grow_nil]
    subst eg
    refine ⟨_, a, ?_, grownBy_sorted _⟩
    have ho := ownsRow_sorted (os := #[]) (n := q) (ss := zs) (ts := Lib.compact zs ++ List.replicate (zs.length - (Lib.compact zs).length) []) (by rw [List.length_append, List.length_replicate]; omega) hb hg hnc hm hs
    have := own_take ho hcl
    rwa [List.map_append, List.take_left' (by rw [List.length_map])] at this
def Tryz.sortLS_ren : Go.Shelf.Ren := ⟨fun | 6 => 41 | 8 => 86 | 9 => 85 | 19 => 136 | 20 => 137 | 21 => 127 | 22 => 128 | 23 => 129 | 24 => 130 | 25 => 131 | 26 => 132 | 27 => 133 | 28 => 134 | 29 => 135 | 36 => 171 | 31 => 172 | 32 => 173 | 37 => 174 | 38 => 175 | 39 => 149 | 41 => 210 | n => n, fun | 27 => 37 | 29 => 9 | 3 => 3 | 32 => 106 | 26 => 37 | 0 => 0 | 44 => 159 | 46 => 96 | 4 => 4 | 36 => 152 | 35 => 151 | 41 => 83 | 5 => 5 | 9 => 9 | 53 => 176 | 57 => 180 | 63 => 212 | 64 => 213 | n => n, fun | n => n⟩
theorem Tryz.sortLS : Go.Proofs.SlLaysM.n6 Tryz.prog Tryz.sortLS_ren := {
  mixed := by kernel_rfl
  f6 := ⟨Tryz.f41.name, by decide, Tryz.func41.trans (congrArg some (by kernel_rfl))⟩
  f8 := Tryz.func86.trans (congrArg some (by kernel_rfl))
  f9 := ⟨Tryz.f85.name, by decide, Tryz.func85.trans (congrArg some (by kernel_rfl))⟩
  f19 := Tryz.func136.trans (congrArg some (by kernel_rfl))
  f20 := Tryz.func137.trans (congrArg some (by kernel_rfl))
  f21 := ⟨Tryz.f127.name, by decide, Tryz.func127.trans (congrArg some (by kernel_rfl))⟩
  f22 := ⟨Tryz.f128.name, by decide, Tryz.func128.trans (congrArg some (by kernel_rfl))⟩
  f23 := ⟨Tryz.f129.name, by decide, Tryz.func129.trans (congrArg some (by kernel_rfl))⟩
  f24 := ⟨Tryz.f130.name, by decide, Tryz.func130.trans (congrArg some (by kernel_rfl))⟩
  f25 := ⟨Tryz.f131.name, by decide, Tryz.func131.trans (congrArg some (by kernel_rfl))⟩
  f26 := ⟨Tryz.f132.name, by decide, Tryz.func132.trans (congrArg some (by kernel_rfl))⟩
  f27 := ⟨Tryz.f133.name, by decide, Tryz.func133.trans (congrArg some (by kernel_rfl))⟩
  f28 := ⟨Tryz.f134.name, by decide, Tryz.func134.trans (congrArg some (by kernel_rfl))⟩
  f29 := ⟨Tryz.f135.name, by decide, Tryz.func135.trans (congrArg some (by kernel_rfl))⟩
  f31 := Tryz.func172.trans (congrArg some (by kernel_rfl))
  f32 := Tryz.func173.trans (congrArg some (by kernel_rfl))
  f36 := ⟨Tryz.f171.name, by decide, Tryz.func171.trans (congrArg some (by kernel_rfl))⟩
  f37 := ⟨Tryz.f174.name, by decide, Tryz.func174.trans (congrArg some (by kernel_rfl))⟩
  f38 := ⟨Tryz.f175.name, by decide, Tryz.func175.trans (congrArg some (by kernel_rfl))⟩
  f39 := ⟨Tryz.f149.name, by decide, Tryz.func149.trans (congrArg some (by kernel_rfl))⟩
  f41 := ⟨Tryz.f210.name, by decide, Tryz.func210.trans (congrArg some (by kernel_rfl))⟩
  t0 := Tryz.underlying0
  a0 := Tryz.isAgg0
  z0 := Tryz.sizeOf0
  v0 := Tryz.zeroValue0
  t3 := Tryz.underlying3
  a3 := Tryz.isAgg3
  z3 := Tryz.sizeOf3
  v3 := Tryz.zeroValue3
  t4 := Tryz.underlying4
  a4 := Tryz.isAgg4
  z4 := Tryz.sizeOf4
  v4 := Tryz.zeroValue4
  t5 := Tryz.underlying5
  a5 := Tryz.isAgg5
  z5 := Tryz.sizeOf5
  v5 := Tryz.zeroValue5
  t9 := Tryz.underlying9
  a9 := Tryz.isAgg9
  z9 := Tryz.sizeOf9
  v9 := Tryz.zeroValue9
  t26 := Tryz.underlying37
  a26 := Tryz.isAgg37
  z26 := Tryz.sizeOf37
  v26 := Tryz.zeroValue37
  t27 := Tryz.underlying37
  a27 := Tryz.isAgg37
  z27 := Tryz.sizeOf37
  v27 := Tryz.zeroValue37
  t29 := Tryz.underlying9
  a29 := Tryz.isAgg9
  z29 := Tryz.sizeOf9
  v29 := Tryz.zeroValue9
  t32 := Tryz.underlying106
  a32 := Tryz.isAgg106
  z32 := Tryz.sizeOf106
  v32 := Tryz.zeroValue106
  t35 := Tryz.underlying151
  a35 := Tryz.isAgg151
  z35 := Tryz.sizeOf151
  v35 := Tryz.zeroValue151
  t36 := Tryz.underlying152
  a36 := Tryz.isAgg152
  z36 := Tryz.sizeOf152
  v36 := Tryz.zeroValue152
  t41 := Tryz.underlying83
  a41 := Tryz.isAgg83
  z41 := Tryz.sizeOf83
  v41 := Tryz.zeroValue83
  t44 := Tryz.underlying159
  a44 := Tryz.isAgg159
  z44 := Tryz.sizeOf159
  v44 := Tryz.zeroValue159
  t46 := Tryz.underlying96
  a46 := Tryz.isAgg96
  z46 := Tryz.sizeOf96
  v46 := Tryz.zeroValue96
  t53 := Tryz.underlying176
  a53 := Tryz.isAgg176
  z53 := Tryz.sizeOf176
  v53 := Tryz.zeroValue176
  t57 := Tryz.underlying180
  a57 := Tryz.isAgg180
  z57 := Tryz.sizeOf180
  v57 := Tryz.zeroValue180
  t63 := Tryz.underlying212
  a63 := Tryz.isAgg212
  z63 := Tryz.sizeOf212
  v63 := Tryz.zeroValue212
  t64 := Tryz.underlying213
  a64 := Tryz.isAgg213
  z64 := Tryz.sizeOf213
  v64 := Tryz.zeroValue213 }
def Tryz.compLS_ren : Go.Shelf.Ren := ⟨fun | 44 => 42 | n => n, fun | 25 => 37 | 26 => 9 | 3 => 3 | 4 => 4 | 0 => 0 | n => n, fun | n => n⟩
theorem Tryz.compLS : Go.Proofs.SlLaysN.n44 Tryz.prog Tryz.compLS_ren := {
  mixed := by kernel_rfl
  f44 := ⟨Tryz.f42.name, by decide, Tryz.func42.trans (congrArg some (by kernel_rfl))⟩
  t0 := Tryz.underlying0
  a0 := Tryz.isAgg0
  z0 := Tryz.sizeOf0
  v0 := Tryz.zeroValue0
  t3 := Tryz.underlying3
  a3 := Tryz.isAgg3
  z3 := Tryz.sizeOf3
  v3 := Tryz.zeroValue3
  t4 := Tryz.underlying4
  a4 := Tryz.isAgg4
  z4 := Tryz.sizeOf4
  v4 := Tryz.zeroValue4
  t25 := Tryz.underlying37
  a25 := Tryz.isAgg37
  z25 := Tryz.sizeOf37
  v25 := Tryz.zeroValue37
  t26 := Tryz.underlying9
  a26 := Tryz.isAgg9
  z26 := Tryz.sizeOf9
  v26 := Tryz.zeroValue9
  i26 := by kernel_rfl }
theorem slices_Sort_str (w : World) (base : Nat) (e : TypeId) (v : Value) (n : Nat) (zs : List (List UInt8)) (h : w.ownsRow base e 1 v n (zs.map encStr)) (hn : n ≤ 1048576) :
    Calls Tryz.prog 41 #[v] w fun e' w' => e' = .returned (.tuple #[]) ∧ w'.ownsRow base e 1 v n ((sortK zs).map encStr) ∧ w.grownBy w' v.ownBlock := sort_ownS Tryz.sortLS h hn
theorem slices_Compact_str (w : World) (base : Nat) (e : TypeId) (v : Value) (n : Nat) (zs : List (List UInt8)) (h : w.ownsRow base e 1 v n (zs.map encStr)) (hn : n ≤ 1048576) :
    Calls Tryz.prog 42 #[v] w fun e' w' => ∃ r, e' = .returned r ∧ w'.ownsRow base e 1 r (Go.Lib.compact zs).length ((Go.Lib.compact zs).map encStr) ∧ w.grownBy w' v.ownBlock := compact_ownS Tryz.compLS h hn
end Go.Proofs.YtklgkbiobggbiaaGreatDoor
namespace Go.Proofs.YtklgkbiobggbiaaGreatDoor
open Go.ChangeShapes Go.WideShapes Go.ChangeAt Go.RowKit Go.Deep Go.Joins
set_option linter.unusedVariables false
set_option maxRecDepth 100000
set_option linter.unusedSimpArgs false
def bellBytes (xs : List Measure) : List (List UInt8) := xs.map (fun m => m.bell.data.toList)
def bellC (xs : List Measure) : Int := if validMeasureS xs = true then 0 else 1
def bellR (xs : List Measure) : List (List UInt8) := if validMeasureS xs = true then bellK (bellBytes xs) else []
theorem bellR_len (xs : List Measure) : (bellR xs).length ≤ xs.length := by
  unfold bellR
  split
  · have := bellK_len (bellBytes xs)
    unfold bellBytes at this ⊢
    rwa [List.length_map] at this
  · simp
theorem infoBells : (Tryz.prog.info? 9).map (fun i => (i.zero, i.size, i.bytes)) = some (some (.string ByteArray.empty), 1, 16) := by kernel_rfl
set_option maxHeartbeats 4000000 in
theorem impl_Bells (w : World) (v : Value) (xs : List Measure) (h : Rd w.heap.size w v 3 xs.length (xs.flatMap Measure.put)) (hn : xs.length ≤ 1048576) (hok : ∀ x ∈ xs, x.ok) :
    Calls Tryz.prog 14 #[v] w fun e w' => ∃ r : Value, e = .returned (.tuple #[r, .int .i64 (bellC xs)]) ∧ w'.ownsRow w.heap.size 9 1 r (bellR xs).length ((bellR xs).map encStr) ∧ Below w.heap.size w w' := by
  cases hV : validMeasureS xs
  · have ec : Hid (bellC xs = 1) := Lib.hid (by unfold bellC; rw [hV]; rfl)
    have e : Hid (bellR xs = []) := Lib.hid (by unfold bellR; rw [hV]; rfl)
    have H := Lib.hid (impl_ValidMeasures_is w v xs h hn hok hV)
    clear h hok hV
    go_enter Tryz.func14, Tryz.ntmps14
    go_wp2_with fail
    refine H.out.mono ?_; rintro e1 w1 ⟨rfl, b1⟩
    go_wp2_with fail
    go_ret2
    exact ⟨_, by rw [ec.out]; try rfl, by rw [e.out]; exact own_nil _ _ _ _, b1⟩
  have h64 := (validMeasureS_parts hV).1
  have ec : Hid (bellC xs = 0) := Lib.hid (by unfold bellC; rw [hV]; rfl)
  have e : Hid (bellR xs = bellK (bellBytes xs)) := Lib.hid (by unfold bellR; rw [hV]; rfl)
  have H := Lib.hid (impl_ValidMeasures_is w v xs h hn hok hV)
  obtain ⟨hL, vo, vc, rfl, hcap1, hmax1, hnil1, hsome1⟩ := h
  obtain ⟨i0, hi, hz0, hz1, hz2⟩ := info_parts infoBells
  clear hok hV
  go_enter Tryz.func14, Tryz.ntmps14
  go_wp2_with fail
  refine H.out.mono ?_; rintro e1 w1 ⟨rfl, b1⟩
  have HB1 := Lib.hid b1
  have hs1 := b1.size
  clear b1 H
  go_wp2_with fail
  go_loopw [4, 12] (fun r i wr => ∃ (k : Nat) (J : List (List UInt8)), k ≤ xs.length ∧ i = .int .i64 k ∧ J.length = k ∧ J = (bellBytes xs).take k ∧ wr.ownsRow w.heap.size 9 1 r J.length (J.map encStr) ∧ Below w.heap.size w wr) (fun _ i _ => xs.length - (intOf i).toNat)
  case atStart => exact ⟨0, [], Nat.zero_le _, rfl, rfl, by simp, own_nil _ _ _ _, HB1.out⟩
  case round =>
    obtain ⟨k, J, hk, rfl, hJl, hJ, hown, hb⟩ := hrel
    have HJ := Lib.hid hJ; clear hJ
    have HJl := Lib.hid hJl
    have HO := Lib.hid hown; clear hown
    by_cases hlt : k < xs.length
    · obtain ⟨b3, off3, rfl, hbB3, hc3⟩ := hsome1 (by omega)
      have c0 : wr.cell? ⟨b3, off3 + k * 3, none⟩ = some (.string xs[k].bell) := by rw [show off3 + k * 3 = off3 + (k * 3 + 0) from by omega, hb.cell (p := ⟨b3, off3 + (k * 3 + 0), none⟩) hbB3, hc3 (k * 3 + 0) (by omega), Measure_get0 xs k hlt]
      have c1 : wr.cell? ⟨b3, off3 + k * 3 + 1, none⟩ = some (.int .i64 xs[k].part) := by rw [show off3 + k * 3 + 1 = off3 + (k * 3 + 1) from by omega, hb.cell (p := ⟨b3, off3 + (k * 3 + 1), none⟩) hbB3, hc3 (k * 3 + 1) (by omega), Measure_get1 xs k hlt]
      have c2 : wr.cell? ⟨b3, off3 + k * 3 + 2, none⟩ = some (.int .i64 xs[k].value) := by rw [show off3 + k * 3 + 2 = off3 + (k * 3 + 2) from by omega, hb.cell (p := ⟨b3, off3 + (k * 3 + 2), none⟩) hbB3, hc3 (k * 3 + 2) (by omega), Measure_get2 xs k hlt]
      have hws := hb.size
      have HB2 := Lib.hid (hb.alloc hws (.cells #[.string xs[k].bell, .int .i64 xs[k].part, .int .i64 xs[k].value] 27))
      have HO2 := Lib.hid (HO.out.alloc (.cells #[.string xs[k].bell, .int .i64 xs[k].part, .int .i64 xs[k].value] 27))
      have hws1 : w.heap.size ≤ (wr.alloc (.cells #[.string xs[k].bell, .int .i64 xs[k].part, .int .i64 xs[k].value] 27)).heap.size := HB2.out.size
      have eJ : Hid (J ++ [xs[k].bell.data.toList] = (bellBytes xs).take (k + 1)) := Lib.hid (by
        have hkl : k < (bellBytes xs).length := by unfold bellBytes; rw [List.length_map]; exact hlt
        rw [List.take_succ_eq_append_getElem hkl, ← HJ.out, show (bellBytes xs)[k] = xs[k].bell.data.toList from by simp [bellBytes]])
      clear hc3 hsome1 hnil1 hb hJl
      have hJ2 : J.length ≤ 64 := by have := HJl.out; omega
      go_wp2_with (at_builtin; refine app_el rfl _ _ 37 9 i0 (.string ByteArray.empty) 1 16 Tryz.underlying37 hi hz0 hz1 hz2 rfl (by decide) rfl (wr.alloc (.cells #[.string xs[k].bell, .int .i64 xs[k].part, .int .i64 xs[k].value] 27)) w.heap.size _ _ (J.map encStr) (by rfl) HO2.out [.string xs[k].bell] rfl (by intro u hu; simp at hu; subst hu; rfl) (by rw [World.size_alloc]; rfl) (by omega) (by decide) hws1 ?_; intro g gc w3 hown3 hB3 hz; have HB3 := Lib.hid (hB3 w HB2.out); have HO3 := Lib.hid hown3; clear hown3 hB3)
      go_roundw
      case rel => exact ⟨k + 1, J ++ [xs[k].bell.data.toList], by omega, by go_num, by rw [List.length_append, HJl.out]; rfl, eJ.out, by rw [List.map_append, List.length_append]; exact HO3.out, HB3.out⟩
      case measure => simp [intOf]; omega
    · have em : J = bellBytes xs := by
        rw [HJ.out]
        exact List.take_of_length_le (by unfold bellBytes; rw [List.length_map]; omega)
      have hJ2 : J.length ≤ 1048576 := by omega
      have HB := Lib.hid hb; clear hb hsome1 hnil1 hi hz0 hz1 hz2
      have HC := Lib.hid (slices_Sort_str wr w.heap.size _ _ _ J HO.out hJ2)
      have Hem := Lib.hid em
      clear em HJ hJl
      go_wp2_with fail
      refine HC.out.mono ?_; rintro e1 w2 ⟨rfl, o2, g2⟩
      have HB2 := Lib.hid (grown_below HB.out HO.out HB.out.size g2)
      have HO2 := Lib.hid o2
      have HC2 := Lib.hid (slices_Compact_str w2 w.heap.size _ _ _ (sortK J) o2 hJ2)
      clear o2 g2 HC
      go_wp2_with fail
      refine HC2.out.mono ?_; rintro e2 w3 ⟨r3, rfl, o3, g3⟩
      have HB3 := Lib.hid (grown_below HB2.out HO2.out HB2.out.size g3)
      have HO3 := Lib.hid o3
      clear o3 g3
      go_wp2_with fail
      go_ret2
      exact ⟨_, by rw [ec.out]; try rfl, by rw [e.out, ← Hem.out]; exact HO3.out, HB3.out⟩
end Go.Proofs.YtklgkbiobggbiaaGreatDoor
