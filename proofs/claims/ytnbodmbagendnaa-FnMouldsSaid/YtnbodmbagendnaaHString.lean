/- Lists of texts: toStringS, eqStringS, szStringS. -/
import Derived.Test.YtnbodmbagendnaaRows
import Derived.Test.YtnbodmbagendnaaCopyInts
namespace Go.Proofs.Ytnbodmbagendnaa
open Go.ChangeShapes Go.WideShapes Go.ChangeAt Go.RowKit Go.Deep Go.Joins
set_option linter.unusedVariables false
set_option maxRecDepth 100000
set_option linter.unusedSimpArgs false
theorem putStr_len (xs : List ByteArray) : (xs.flatMap putStr).length = xs.length * 1 := flat_len xs (fun _ _ => rfl)
theorem putStr_get (xs : List ByteArray) (k : Nat) (h : k < xs.length) : (xs.flatMap putStr)[k]? = some (.string xs[k]) := by
  have := flat_get (f := putStr) (s := 1) xs (fun _ _ => rfl) (j := 0) (by omega) k
  simp only [Nat.mul_one, Nat.add_zero] at this
  rw [this, List.getElem?_eq_getElem h]
  rfl
theorem info_str : (Try.prog.info? 9).map (fun i => (i.zero, i.size, i.bytes)) = some (some (.string ByteArray.empty), 1, 16) := by kernel_rfl

theorem toStringS (w : World) (v : Value) (xs : List ByteArray) (h : Rd w.heap.size w v 1 xs.length (xs.flatMap putStr)) (hn : xs.length ≤ 1048576) :
    Calls Try.prog 75 #[v] w fun e w' => ∃ g, e = .returned (.slice (some ⟨g, 0, none⟩) xs.length xs.length) ∧ w.heap.size ≤ g ∧ Own w' g 9 (xs.flatMap putStr) ∧ Below w.heap.size w w' := by
  obtain ⟨hL, ao, cap, rfl, hcap, hmax, hnil, hsome⟩ := h
  obtain ⟨i0, hi, hz0, hz1, hz2⟩ := info_parts info_str
  go_enter Try.func75, Try.ntmps75
  go_wp2_with (at_make; refine wpList_make_blk _ rfl _ _ 51 rfl 9 i0 (.string ByteArray.empty) 1 16 Try.underlying51 hi hz0 hz1 hz2 _ _ _ _ xs.length rfl rfl rfl rfl (by omega) (by unfold maxLen; omega) ?_; intro w1 ho hb hs)
  have hml := made_len (Value.string ByteArray.empty).cells (xs.length * 1)
  go_loopw [4] (fun i wr => ∃ (k : Nat) (T : List Value), k ≤ xs.length ∧ i = .int .i64 k ∧ T.length = (xs.length - k) * 1 ∧ Own wr w.heap.size 9 ((xs.take k).flatMap putStr ++ T) ∧ Below w.heap.size w wr) (fun i _ => xs.length - (intOf i).toNat)
  case atStart => exact ⟨0, _, Nat.zero_le _, rfl, by rw [Nat.sub_zero]; exact hml, by simpa using ho, hb⟩
  case round =>
    clear ho hb hs hml hi hz0 hz1 hz2
    obtain ⟨k, T, hk, rfl, hT, ho, hb⟩ := hrel
    by_cases hlt : k < xs.length
    · obtain ⟨b, off, rfl, hbB, hc⟩ := hsome (by omega)
      obtain ⟨t0, T, rfl, hT2⟩ := cons_of hT (by omega)
      have hA : ((xs.take k).flatMap putStr).length = k := by rw [putStr_len, List.length_take]; omega
      have c1 : wr.cell? ⟨b, off + k, none⟩ = some (.string xs[k]) := by
        rw [hb.cell (p := ⟨b, off + k, none⟩) hbB, hc k (by omega), putStr_get xs k hlt]
      have c2 : wr.cell? ⟨w.heap.size, k, none⟩ = some t0 := by
        rw [ho.cell, List.getElem?_append_right (by omega), hA, Nat.sub_self]; rfl
      have c3 := ho.free k
      have o1 := ho.set k (.string xs[k])
      rw [set1 _ _ _ _ hA] at o1
      have O1 := Lib.hid o1
      have HB := Lib.hid (hb.setCell (p := ⟨w.heap.size, k, none⟩) (Nat.le_refl _) (.string xs[k]))
      have HT := Lib.hid hT2
      clear hc ho o1 hb hA hsome hnil hT hT2
      go_wp2
      go_roundw
      case rel => exact ⟨k + 1, T, by omega, by go_num, by have := HT.out; omega, by rw [set_snoc putStr xs k hlt]; exact O1.out, HB.out⟩
      case measure => simp [intOf]; omega
    · have e : Hid (k = xs.length) := (by omega : k = xs.length)
      have HO := Lib.hid ho
      clear ho
      go_wp2
      go_ret
      refine ⟨w.heap.size, rfl, Nat.le_refl _, ?_, hb⟩
      have ho := HO.out
      obtain rfl := e.out
      have : T = [] := List.eq_nil_of_length_eq_zero (by rw [hT]; omega)
      subst this
      simpa using ho

theorem eqStringS (B1 B2 : Nat) (w : World) (v1 v2 : Value) (xs : List ByteArray) (h1 : Rd B1 w v1 1 xs.length (xs.flatMap putStr)) (h2 : Rd B2 w v2 1 xs.length (xs.flatMap putStr)) (hn : xs.length ≤ 1048576) :
    Calls Try.prog 88 #[v1, v2] w fun e w' => e = .returned (.bool true) ∧ Drew w w' := by
  obtain ⟨hL, ao, cap, rfl, hcap, hmax, hnil, hsome⟩ := h1
  obtain ⟨hL2, ao2, cap2, rfl, hcap2, hmax2, hnil2, hsome2⟩ := h2
  go_enter Try.func88, Try.ntmps88
  go_wp2
  go_loopw [5] (fun i wr => ∃ (k : Nat), k ≤ xs.length ∧ i = .int .i64 k ∧ Drew w wr) (fun i _ => xs.length - (intOf i).toNat)
  case atStart => exact ⟨0, Nat.zero_le _, rfl, Drew.refl _⟩
  case round =>
    obtain ⟨k, hk, rfl, hd⟩ := hrel
    obtain ⟨m, rfl⟩ := hd
    by_cases hlt : k < xs.length
    · obtain ⟨b, off, rfl, hbB, hc⟩ := hsome (by omega)
      obtain ⟨b2, off2, rfl, hbB2, hc2⟩ := hsome2 (by omega)
      have c1 : w.cell? ⟨b, off + k, none⟩ = some (.string xs[k]) := by rw [hc k (by omega), putStr_get xs k hlt]
      have c2 : w.cell? ⟨b2, off2 + k, none⟩ = some (.string xs[k]) := by rw [hc2 k (by omega), putStr_get xs k hlt]
      clear hc hc2 hsome hsome2 hnil hnil2
      go_wp2
      go_quiet (fail)
      go_wp2
      go_roundw
      case rel => exact ⟨k + 1, by omega, by go_num, _, rfl⟩
      case measure => simp [intOf]; omega
    · go_wp2
      go_ret
      exact ⟨rfl, _, rfl⟩

def wtStr (xs : List ByteArray) : Nat := (xs.map fun x => x.size).sum
theorem wtStr_succ (xs : List ByteArray) (k : Nat) (h : k < xs.length) : wtStr (xs.take (k + 1)) = wtStr (xs.take k) + xs[k].size := by
  unfold wtStr
  rw [List.take_succ_eq_append_getElem h, List.map_append, List.sum_append]
  simp only [List.map_cons, List.map_nil, List.sum_cons, List.sum_nil, Nat.add_zero]
theorem wtStr_le (xs : List ByteArray) (k : Nat) : wtStr (xs.take k) ≤ wtStr xs := by
  have h : wtStr xs = wtStr (xs.take k) + wtStr (xs.drop k) := by
    unfold wtStr
    rw [← List.sum_append, ← List.map_append, List.take_append_drop]
  omega

theorem szStringS (B : Nat) (w : World) (v : Value) (xs : List ByteArray) (left : Int) (h : Rd B w v 1 xs.length (xs.flatMap putStr)) (hm : xs.length ≤ maxLen) (hx : ∀ x ∈ xs, x.size ≤ maxLen) (h0 : 0 ≤ left) (h1 : left ≤ 1048576) :
    Calls Try.prog 67 #[v, .int .i64 left] w fun e w' => e = .returned (.int .i64 (szR left (xs.length + wtStr xs))) ∧ w = w' := by
  obtain ⟨hL, ao, cap, rfl, hcap, hmax, hnil, hsome⟩ := h
  have hm2 := hm
  unfold maxLen at hm2
  by_cases hn : (xs.length : Int) ≤ left
  case neg =>
    have e : Hid (szR left (xs.length + wtStr xs) = -1) := (if_neg (by omega) : szR left (xs.length + wtStr xs) = -1)
    clear hsome hnil hx
    go_enter Try.func67, Try.ntmps67
    go_wp2
    go_ret
    exact ⟨by rw [e.out]; rfl, rfl⟩
  go_enter Try.func67, Try.ntmps67
  have Hx := Lib.hid hx; clear hx
  go_wp2
  go_loop [1, 5] (fun l i => ∃ (k : Nat), k ≤ xs.length ∧ i = .int .i64 k ∧ l = .int .i64 (left - xs.length - wtStr (xs.take k)) ∧ 0 ≤ left - xs.length - wtStr (xs.take k)) (fun _ i => xs.length - (intOf i).toNat)
  case atStart => exact ⟨0, Nat.zero_le _, rfl, by simp [wtStr], by simp [wtStr]; omega⟩
  case round =>
    obtain ⟨k, hk, rfl, rfl, hp⟩ := hrel
    by_cases hlt : k < xs.length
    · obtain ⟨b, off, rfl, hbB, hc⟩ := hsome (by omega)
      have c0 : w.cell? ⟨b, off + k, none⟩ = some (.string xs[k]) := by rw [hc k (by omega), putStr_get xs k hlt]
      have hs := Lib.hid (wtStr_succ xs k hlt)
      have hle := Lib.hid (wtStr_le xs (k + 1))
      have hxk := Hx.out xs[k] (List.getElem_mem hlt)
      unfold maxLen at hxk
      clear hc hsome hnil
      by_cases hq : (xs[k].size : Int) ≤ left - xs.length - wtStr (xs.take k)
      · have hp2 : 0 ≤ left - xs.length - wtStr (xs.take (k + 1)) := by have := hs.out; omega
        have es : Hid (left - xs.length - wtStr (xs.take (k + 1)) = left - xs.length - wtStr (xs.take k) - xs[k].size) := (by rw [hs.out]; push_cast; omega : left - xs.length - wtStr (xs.take (k + 1)) = left - xs.length - wtStr (xs.take k) - xs[k].size)
        have hz : decide (left - xs.length - wtStr (xs.take k) - xs[k].size < 0) = false := decide_eq_false (by omega)
        have HP2 := Lib.hid hp2; clear hp2
        go_wp2
        go_round
        case rel => exact ⟨k + 1, by omega, by go_num, by rw [es.out], HP2.out⟩
        case measure => simp [intOf]; omega
      · have e : Hid (szR left (xs.length + wtStr xs) = -1) := (if_neg (by have := hs.out; have := hle.out; omega) : szR left (xs.length + wtStr xs) = -1)
        have hz : decide (left - xs.length - wtStr (xs.take k) - xs[k].size < 0) = true := decide_eq_true (by omega)
        go_wp2
        go_ret
        exact ⟨by rw [e.out]; rfl, rfl⟩
    · have e : Hid (szR left (xs.length + wtStr xs) = left - xs.length - wtStr (xs.take k)) := (by
        rw [List.take_of_length_le (by omega)] at hp ⊢
        unfold szR
        rw [if_pos (by push_cast; omega)]; push_cast; omega : szR left (xs.length + wtStr xs) = left - xs.length - wtStr (xs.take k))
      go_wp2
      go_ret
      exact ⟨by rw [e.out]; rfl, rfl⟩
end Go.Proofs.Ytnbodmbagendnaa
