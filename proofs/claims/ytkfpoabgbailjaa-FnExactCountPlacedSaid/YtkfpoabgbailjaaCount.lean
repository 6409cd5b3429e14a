/- CountPlaced: both sides compute the same. -/
import Derived.Test.YtkfpoabgbailjaaRows
import Derived.Test.YtkfpoabgbailjaaCopyInts
namespace Go.Proofs.Ytkfpoabgbailjaa
open Go.ChangeShapes Go.WideShapes Go.ChangeAt Go.RowKit Go.Deep Go.Joins
set_option linter.unusedVariables false
set_option linter.unusedSimpArgs false
def cntS (xs : List Int) : Int := (xs.filter fun n => decide (0 ≤ n)).length
theorem cntS_bd (xs : List Int) : 0 ≤ cntS xs ∧ cntS xs ≤ xs.length := by
  unfold cntS
  have := List.length_filter_le (fun n : Int => decide (0 ≤ n)) xs
  omega
theorem cntS_succ (xs : List Int) (k : Nat) (h : k < xs.length) : cntS (xs.take (k + 1)) = cntS (xs.take k) + if 0 ≤ xs[k] then 1 else 0 := by
  unfold cntS
  rw [List.take_succ_eq_append_getElem h, List.filter_append]
  by_cases h1 : 0 ≤ xs[k] <;> simp [List.filter_cons, h1]

theorem spec_CountPlaced (B : Nat) (w : World) (v : Value) (xs : List Int) (h1 : Rd B w v 1 xs.length (xs.flatMap putI)) (hn : xs.length ≤ 1048576) :
    Calls Try.prog 15 #[v] w fun e w' => e = .returned (.int .i64 (cntS xs)) ∧ w = w' := by
  obtain ⟨hL, ao, cap, rfl, hcap, hmax, hnil, hsome⟩ := h1
  go_enter Try.func15, Try.ntmps15
  go_wp2
  go_loop [3, 4] (fun m i => ∃ (k : Nat), k ≤ xs.length ∧ i = .int .i64 k ∧ m = .int .i64 (cntS (xs.take k))) (fun _ i => xs.length - (intOf i).toNat)
  case atStart => exact ⟨0, Nat.zero_le _, rfl, rfl⟩
  case round =>
    obtain ⟨k, hk, rfl, rfl⟩ := hrel
    by_cases hlt : k < xs.length
    · obtain ⟨b, off, rfl, hbB, hc⟩ := hsome (by omega)
      have c1 : w.cell? ⟨b, off + k, none⟩ = some (.int .i64 xs[k]) := by rw [hc k (by omega), putI_get xs k hlt]
      have hs := Lib.hid (cntS_succ xs k hlt)
      have hb := cntS_bd (xs.take k)
      have hl : (xs.take k).length ≤ k := List.length_take_le _ _
      clear hc hsome hnil
      by_cases hp : 0 ≤ xs[k]
      · go_wp2
        go_round
        case rel => exact ⟨k + 1, by omega, by go_num, by rw [hs.out, if_pos hp]⟩
        case measure => simp [intOf]; omega
      · go_wp2
        go_round
        case rel => exact ⟨k + 1, by omega, by go_num, by rw [hs.out, if_neg (by omega), Int.add_zero]⟩
        case measure => simp [intOf]; omega
    · have e : Hid (xs.take k = xs) := (List.take_of_length_le (by omega) : xs.take k = xs)
      go_wp2
      go_ret
      exact ⟨by rw [e.out]; rfl, rfl⟩

theorem impl_CountPlaced (B : Nat) (w : World) (v : Value) (xs : List Int) (h1 : Rd B w v 1 xs.length (xs.flatMap putI)) (hn : xs.length ≤ 1048576) :
    Calls Try.prog 17 #[v] w fun e w' => e = .returned (.int .i64 (cntS xs)) ∧ w = w' := by
  obtain ⟨hL, ao, cap, rfl, hcap, hmax, hnil, hsome⟩ := h1
  go_enter Try.func17, Try.ntmps17
  go_wp2
  go_loop [3, 8] (fun m i => ∃ (k : Nat), k ≤ xs.length ∧ i = .int .i64 k ∧ m = .int .i64 (cntS (xs.take k))) (fun _ i => xs.length - (intOf i).toNat)
  case atStart => exact ⟨0, Nat.zero_le _, rfl, rfl⟩
  case round =>
    obtain ⟨k, hk, rfl, rfl⟩ := hrel
    by_cases hlt : k < xs.length
    · obtain ⟨b, off, rfl, hbB, hc⟩ := hsome (by omega)
      have c1 : w.cell? ⟨b, off + k, none⟩ = some (.int .i64 xs[k]) := by rw [hc k (by omega), putI_get xs k hlt]
      have hs := Lib.hid (cntS_succ xs k hlt)
      have hb := cntS_bd (xs.take k)
      have hl : (xs.take k).length ≤ k := List.length_take_le _ _
      clear hc hsome hnil
      by_cases hp : 0 ≤ xs[k]
      · go_wp2
        go_round
        case rel => exact ⟨k + 1, by omega, by go_num, by rw [hs.out, if_pos hp]⟩
        case measure => simp [intOf]; omega
      · go_wp2
        go_round
        case rel => exact ⟨k + 1, by omega, by go_num, by rw [hs.out, if_neg (by omega), Int.add_zero]⟩
        case measure => simp [intOf]; omega
    · have e : Hid (xs.take k = xs) := (List.take_of_length_le (by omega) : xs.take k = xs)
      go_wp2
      go_ret
      exact ⟨by rw [e.out]; rfl, rfl⟩

theorem FnExactCountPlaced_walk (w : World) (v : Value) (xs : List Int) (h : Rd w.heap.size w v 1 xs.length (xs.flatMap putI) ∧ xs.length ≤ maxLen ∧ ∀ x ∈ xs, I64 x) :
    Calls Try.prog 3 #[v] w fun e w' => e = .returned (.bool true) ∧ Below w.heap.size w w' := by
  obtain ⟨h, hm, _⟩ := h
  have h' := h
  obtain ⟨hL, ao, cap, rfl, hcap, hmax, hnil, hsome⟩ := h'
  clear hsome hnil
  by_cases hn : xs.length ≤ 1048576
  case neg =>
    have hn' : (1048576 : Int) < xs.length := by omega
    unfold maxLen at hm
    clear h
    go_enter Try.func3, Try.ntmps3
    go_wp2
    go_ret
    exact ⟨rfl, by (repeat' (first | (with_reducible exact Below.refl _ _) | (with_reducible assumption) | (with_reducible refine below_dn ?_ _) | (with_reducible refine Below.drew ?_) | (with_reducible refine Below.alloc ?_ ?_ _) | (with_reducible refine Below.setCell ?_ ?_ _) | go_size))⟩
  have hn' : ¬ (1048576 : Int) < xs.length := by omega
  have H := Lib.hid h; clear h
  go_enter Try.func3, Try.ntmps3
  go_wp2_with fail
  refine (toInt64S w _ xs H.out hn).mono ?_; rintro e w1 ⟨g1, rfl, hg1, o1, b1⟩
  have O1 := Lib.hid o1; clear o1
  go_wp2_with fail
  refine (spec_CountPlaced _ _ _ xs (O1.out.rd O1.out.lt (putI_len xs) (by unfold maxLen; omega) _ (Nat.le_refl _) (by unfold maxLen; omega)) hn).mono ?_; rintro e w2 ⟨rfl, rfl⟩
  go_wp2_with fail
  refine (toInt64S w1 _ xs ((H.out.below b1).mono b1.size) hn).mono ?_; rintro e w2 ⟨g2, rfl, hg2, o2, b2⟩
  have B2 := bnext b1 b2; clear b1 b2 O1
  have O2 := Lib.hid o2; clear o2
  go_wp2_with fail
  refine (impl_CountPlaced _ _ _ xs (O2.out.rd O2.out.lt (putI_len xs) (by unfold maxLen; omega) _ (Nat.le_refl _) (by unfold maxLen; omega)) hn).mono ?_; rintro e w3 ⟨rfl, rfl⟩
  go_wp2_with fail
  refine (toInt64S w2 _ xs ((H.out.below B2).mono B2.size) hn).mono ?_; rintro e w3 ⟨g3, rfl, hg3, o3, b3⟩
  have B3 := bnext B2 b3; clear B2
  have O3 := Lib.hid o3; clear o3
  have O4 := Lib.hid (O2.out.below b3 O2.out.lt); clear O2 b3
  go_wp2_with fail
  refine (eqInt64S _ _ _ _ _ xs xs (O4.out.rd O4.out.lt (putI_len xs) (by unfold maxLen; omega) _ (Nat.le_refl _) (by unfold maxLen; omega)) (O3.out.rd O3.out.lt (putI_len xs) (by unfold maxLen; omega) _ (Nat.le_refl _) (by unfold maxLen; omega)) hn hn rfl).mono ?_; rintro e w4 ⟨rfl, m, rfl⟩
  go_wp2_with fail
  go_ret
  exact ⟨rfl, below_dn B3 _⟩
end Go.Proofs.Ytkfpoabgbailjaa
