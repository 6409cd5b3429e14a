/- toInt64S and eqInt64S. -/
import Derived.Test.YtegfgcgjoojdmaaRows
import Derived.Test.YtegfgcgjoojdmaaMem
namespace Go.Proofs.Ytegfgcgjoojdmaa
open Go.ChangeShapes Go.WideShapes Go.ChangeAt Go.RowKit Go.Deep Go.Joins
set_option linter.unusedVariables false
set_option maxRecDepth 100000
set_option linter.unusedSimpArgs false
def putI (n : Int) : List Value := [.int .i64 n]
theorem putI_len (xs : List Int) : (xs.flatMap putI).length = xs.length * 1 := flat_len xs (fun _ _ => rfl)
theorem putI_get (xs : List Int) (k : Nat) (h : k < xs.length) : (xs.flatMap putI)[k]? = some (.int .i64 xs[k]) := by
  have := flat_get (f := putI) (s := 1) xs (fun _ _ => rfl) (j := 0) (by omega) k
  simp only [Nat.mul_one, Nat.add_zero] at this
  rw [this, List.getElem?_eq_getElem h]
  rfl
theorem info_i64 : (Try.prog.info? 2).map (fun i => (i.zero, i.size, i.bytes)) = some (some (.int .i64 0), 1, 8) := by kernel_rfl

/-- one element more -/
theorem set_snoc {α : Type} (f : α → List Value) (xs : List α) (k : Nat) (h : k < xs.length) : (xs.take (k + 1)).flatMap f = (xs.take k).flatMap f ++ f xs[k] := by
  rw [List.take_succ_eq_append_getElem h, List.flatMap_append]; simp
theorem set1 (A T : List Value) (t0 : Value) (i : Nat) (hA : A.length = i) (v : Value) : (A ++ t0 :: T).set i v = (A ++ [v]) ++ T := by
  subst hA
  simp
theorem cons_of {T : List Value} {n : Nat} (h : T.length = n) (hn : 1 ≤ n) : ∃ t0 T', T = t0 :: T' ∧ T'.length = n - 1 := by
  match T, h with
  | [], h => simp at h; omega
  | t0 :: T', h => exact ⟨t0, T', rfl, by simp at h; omega⟩

theorem toInt64S (w : World) (v : Value) (xs : List Int) (h : Rd w.heap.size w v 1 xs.length (xs.flatMap putI)) (hn : xs.length ≤ 1048576) :
    Calls Try.prog 37 #[v] w fun e w' => ∃ g, e = .returned (.slice (some ⟨g, 0, none⟩) xs.length xs.length) ∧ w.heap.size ≤ g ∧ Own w' g 2 (xs.flatMap putI) ∧ Below w.heap.size w w' := by
  obtain ⟨hL, ao, cap, rfl, hcap, hmax, hnil, hsome⟩ := h
  obtain ⟨i0, hi, hz0, hz1, hz2⟩ := info_parts info_i64
  go_enter Try.func37, Try.ntmps37
  go_wp2_with (at_make; refine wpList_make_blk _ rfl _ _ 38 rfl 2 i0 (.int .i64 0) 1 8 Try.underlying38 hi hz0 hz1 hz2 _ _ _ _ xs.length rfl rfl rfl rfl (by omega) (by unfold maxLen; omega) ?_; intro w1 ho hb hs)
  have hml := made_len (Value.int .i64 0).cells (xs.length * 1)
  go_loopw [4] (fun i wr => ∃ (k : Nat) (T : List Value), k ≤ xs.length ∧ i = .int .i64 k ∧ T.length = (xs.length - k) * 1 ∧ Own wr w.heap.size 2 ((xs.take k).flatMap putI ++ T) ∧ Below w.heap.size w wr) (fun i _ => xs.length - (intOf i).toNat)
  case atStart => exact ⟨0, _, Nat.zero_le _, rfl, by rw [Nat.sub_zero]; exact hml, by simpa using ho, hb⟩
  case round =>
    clear ho hb hs hml hi hz0 hz1 hz2
    obtain ⟨k, T, hk, rfl, hT, ho, hb⟩ := hrel
    by_cases hlt : k < xs.length
    · obtain ⟨b, off, rfl, hbB, hc⟩ := hsome (by omega)
      obtain ⟨t0, T, rfl, hT2⟩ := cons_of hT (by omega)
      have hA : ((xs.take k).flatMap putI).length = k := by rw [putI_len, List.length_take]; omega
      have c1 : wr.cell? ⟨b, off + k, none⟩ = some (.int .i64 xs[k]) := by
        rw [hb.cell (p := ⟨b, off + k, none⟩) hbB, hc k (by omega), putI_get xs k hlt]
      have c2 : wr.cell? ⟨w.heap.size, k, none⟩ = some t0 := by
        rw [ho.cell, List.getElem?_append_right (by omega), hA, Nat.sub_self]; rfl
      have c3 := ho.free k
      have o1 := ho.set k (.int .i64 xs[k])
      rw [set1 _ _ _ _ hA] at o1
      have O1 := Lib.hid o1
      have HB := Lib.hid (hb.setCell (p := ⟨w.heap.size, k, none⟩) (Nat.le_refl _) (.int .i64 xs[k]))
      have HT := Lib.hid hT2
      clear hc ho o1 hb hA hsome hnil hT hT2
      go_wp2
      go_roundw
      case rel => exact ⟨k + 1, T, by omega, by go_num, by have := HT.out; omega, by rw [set_snoc putI xs k hlt]; exact O1.out, HB.out⟩
      case measure => simp [intOf]; omega
    · have e : Hid (k = xs.length) := (by omega : k = xs.length)
      have HO := Lib.hid ho
      clear ho
      go_wp2
      go_ret
      refine ⟨w.heap.size, rfl, Nat.le_refl _, ?_, hb⟩
      have ho := HO.out
      obtain rfl := e.out
      have : T = [] := List.eq_nil_of_length_eq_zero (by rw [hT]; omega)
      subst this
      simpa using ho

theorem eqInt64S (B1 B2 : Nat) (w : World) (v1 v2 : Value) (xs ys : List Int) (h1 : Rd B1 w v1 1 xs.length (xs.flatMap putI)) (h2 : Rd B2 w v2 1 ys.length (ys.flatMap putI)) (hn : xs.length ≤ 1048576) (hn2 : ys.length ≤ 1048576) (he : xs = ys) :
    Calls Try.prog 41 #[v1, v2] w fun e w' => e = .returned (.bool true) ∧ Drew w w' := by
  subst he
  obtain ⟨hL, ao, cap, rfl, hcap, hmax, hnil, hsome⟩ := h1
  obtain ⟨hL2, ao2, cap2, rfl, hcap2, hmax2, hnil2, hsome2⟩ := h2
  go_enter Try.func41, Try.ntmps41
  go_wp2
  go_loopw [5] (fun i wr => ∃ (k : Nat), k ≤ xs.length ∧ i = .int .i64 k ∧ Drew w wr) (fun i _ => xs.length - (intOf i).toNat)
  case atStart => exact ⟨0, Nat.zero_le _, rfl, Drew.refl _⟩
  case round =>
    obtain ⟨k, hk, rfl, hd⟩ := hrel
    obtain ⟨m, rfl⟩ := hd
    by_cases hlt : k < xs.length
    · obtain ⟨b, off, rfl, hbB, hc⟩ := hsome (by omega)
      obtain ⟨b2, off2, rfl, hbB2, hc2⟩ := hsome2 (by omega)
      have c1 : w.cell? ⟨b, off + k, none⟩ = some (.int .i64 xs[k]) := by rw [hc k (by omega), putI_get xs k hlt]
      have c2 : w.cell? ⟨b2, off2 + k, none⟩ = some (.int .i64 xs[k]) := by rw [hc2 k (by omega), putI_get xs k hlt]
      clear hc hc2 hsome hsome2 hnil hnil2
      go_wp2
      go_quiet (fail)
      go_wp2
      go_roundw
      case rel => exact ⟨k + 1, by omega, by go_num, _, rfl⟩
      case measure => simp [intOf]; omega
    · go_wp2
      go_ret
      exact ⟨rfl, _, rfl⟩
end Go.Proofs.Ytegfgcgjoojdmaa
