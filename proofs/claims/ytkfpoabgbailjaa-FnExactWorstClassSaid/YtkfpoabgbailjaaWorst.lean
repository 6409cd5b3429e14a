/- WorstClass: both sides compute the same. -/
import Derived.Test.YtkfpoabgbailjaaRows
import Derived.Test.YtkfpoabgbailjaaCopyInts
import Derived.Test.YtkfpoabgbailjaaClass
namespace Go.Proofs.Ytkfpoabgbailjaa
open Go.ChangeShapes Go.WideShapes Go.ChangeAt Go.RowKit Go.Deep Go.Joins
set_option linter.unusedVariables false
set_option linter.unusedSimpArgs false
def worstS (xs : List Int) : Int := xs.foldl (fun m n => max m (classS n)) 0
theorem worstS_succ (xs : List Int) (k : Nat) (h : k < xs.length) : worstS (xs.take (k + 1)) = max (worstS (xs.take k)) (classS xs[k]) := by
  unfold worstS
  rw [List.take_succ_eq_append_getElem h, List.foldl_append]; rfl
theorem worstS_bd (xs : List Int) : 0 ≤ worstS xs ∧ worstS xs ≤ 4 := by
  unfold worstS
  have key : ∀ (l : List Int) (m : Int), 0 ≤ m → m ≤ 4 → 0 ≤ l.foldl (fun m n => max m (classS n)) m ∧ l.foldl (fun m n => max m (classS n)) m ≤ 4 := by
    intro l
    induction l with
    | nil => intro m h1 h2; exact ⟨h1, h2⟩
    | cons n l ih =>
      intro m h1 h2
      have := classS_bd n
      exact ih _ (show 0 ≤ max m (classS n) by omega) (show max m (classS n) ≤ 4 by omega)
  exact key xs 0 (by omega) (by omega)
def worstR (xs : List Int) : Int × Int := if xs.length = 0 then (0, 6) else (worstS xs, 0)

theorem impl_WorstClass (w : World) (v : Value) (xs : List Int) (h1 : Rd w.heap.size w v 1 xs.length (xs.flatMap putI)) (hn : xs.length ≤ 1048576) :
    Calls Try.prog 34 #[v] w fun e w' => e = .returned (.tuple #[.int .i64 (worstR xs).1, .int .i64 (worstR xs).2]) ∧ Below w.heap.size w w' := by
  obtain ⟨hL, ao, cap, rfl, hcap, hmax, hnil, hsome⟩ := h1
  unfold worstR
  by_cases h0 : xs.length = 0
  · have hz : ((xs.length : Int) == 0) = true := by simp [h0]
    have H0 := Lib.hid h0; clear h0
    go_enter Try.func34, Try.ntmps34
    go_wp2
    go_ret2
    exact ⟨rfl, by (repeat' (first | (with_reducible exact Below.refl _ _) | (with_reducible assumption) | (with_reducible refine below_dn ?_ _) | (with_reducible refine Below.drew ?_) | (with_reducible refine Below.alloc ?_ ?_ _) | (with_reducible refine Below.setCell ?_ ?_ _) | go_size))⟩
  · rw [if_neg h0]
    have hz : ((xs.length : Int) == 0) = false := beq_eq_false_iff_ne.2 (by omega)
    go_enter Try.func34, Try.ntmps34
    go_wp2
    go_loopw [4, 12] (fun m i wr => ∃ (k : Nat), k ≤ xs.length ∧ i = .int .i64 k ∧ m = .int .i64 (worstS (xs.take k)) ∧ Below w.heap.size w wr) (fun _ i _ => xs.length - (intOf i).toNat)
    case atStart => exact ⟨0, Nat.zero_le _, rfl, rfl, Below.refl _ _⟩
    case round =>
      obtain ⟨k, hk, rfl, rfl, hb⟩ := hrel
      by_cases hlt : k < xs.length
      · obtain ⟨b, off, rfl, hbB, hc⟩ := hsome (by omega)
        have c1 : wr.cell? ⟨b, off + k, none⟩ = some (.int .i64 xs[k]) := by rw [hb.cell (p := ⟨b, off + k, none⟩) hbB, hc k (by omega), putI_get xs k hlt]
        have hs := Lib.hid (worstS_succ xs k hlt)
        have HB := Lib.hid hb
        have hbd := worstS_bd (xs.take k)
        have hcb := classS_bd xs[k]
        clear hc hsome hnil hb hz
        go_wp2_with fail
        refine (impl_ClassOf _ _).mono ?_; rintro e w1 ⟨rfl, b1⟩
        have HB1 := Lib.hid (HB.out.trans (b1.mono HB.out.size)); clear b1 HB
        go_wp2_with fail
        go_roundw
        case rel => exact ⟨k + 1, by omega, by go_num, congrArg (Value.int .i64) (by rw [hs.out]; split <;> omega), HB1.out⟩
        case measure => simp [intOf]; omega
      · have e : Hid (xs.take k = xs) := (List.take_of_length_le (by omega) : xs.take k = xs)
        go_wp2
        go_ret2
        exact ⟨by rw [e.out]; rfl, hb⟩

/-- as the reference has it -/
def worst1 (xs : List Int) : Int := xs.foldl (fun m n => max m (classS n)) 1
theorem worst1_succ (xs : List Int) (k : Nat) (h : k < xs.length) : worst1 (xs.take (k + 1)) = max (worst1 (xs.take k)) (classS xs[k]) := by
  unfold worst1
  rw [List.take_succ_eq_append_getElem h, List.foldl_append]; rfl
theorem worst1_eq (xs : List Int) (h : xs.length ≠ 0) : worst1 xs = worstS xs := by
  unfold worst1 worstS
  cases xs with
  | nil => simp at h
  | cons x xs =>
    have := classS_bd x
    have e : max 1 (classS x) = max 0 (classS x) := by omega
    simp only [List.foldl_cons, e]
theorem spec_l00Max (a b : Int) (w : World) : Calls Try.prog 76 #[.int .i64 a, .int .i64 b] w fun e w' => e = .returned (.int .i64 (max a b)) ∧ w = w' := by
  by_cases h : b < a
  · go_enter Try.func76, Try.ntmps76
    go_wp2
    all_goals go_ret
    all_goals exact ⟨congrArg (fun x => Ending.returned (.int .i64 x)) (by omega), rfl⟩
  · go_enter Try.func76, Try.ntmps76
    go_wp2
    all_goals go_ret
    all_goals exact ⟨congrArg (fun x => Ending.returned (.int .i64 x)) (by omega), rfl⟩

theorem spec_WorstClass (B : Nat) (w : World) (v : Value) (xs : List Int) (h1 : Rd B w v 1 xs.length (xs.flatMap putI)) (hn : xs.length ≤ 1048576) :
    Calls Try.prog 33 #[v] w fun e w' => e = .returned (.tuple #[.int .i64 (worstR xs).1, .int .i64 (worstR xs).2]) ∧ w = w' := by
  obtain ⟨hL, ao, cap, rfl, hcap, hmax, hnil, hsome⟩ := h1
  unfold worstR
  by_cases h0 : xs.length = 0
  · have hz : ((xs.length : Int) == 0) = true := by simp [h0]
    have H0 := Lib.hid h0; clear h0
    go_enter Try.func33, Try.ntmps33
    go_wp2
    go_ret2
    exact ⟨rfl, rfl⟩
  · rw [if_neg h0, ← worst1_eq xs h0]
    have hz : ((xs.length : Int) == 0) = false := beq_eq_false_iff_ne.2 (by omega)
    go_enter Try.func33, Try.ntmps33
    go_wp2
    go_loop [4, 5] (fun m i => ∃ (k : Nat), k ≤ xs.length ∧ i = .int .i64 k ∧ m = .int .i64 (worst1 (xs.take k))) (fun _ i => xs.length - (intOf i).toNat)
    case atStart => exact ⟨0, Nat.zero_le _, rfl, rfl⟩
    case round =>
      obtain ⟨k, hk, rfl, rfl⟩ := hrel
      by_cases hlt : k < xs.length
      · obtain ⟨b, off, rfl, hbB, hc⟩ := hsome (by omega)
        have c1 : w.cell? ⟨b, off + k, none⟩ = some (.int .i64 xs[k]) := by rw [hc k (by omega), putI_get xs k hlt]
        have hs := Lib.hid (worst1_succ xs k hlt)
        clear hc hsome hnil hz
        go_wp2_with (first | (go_at_call 77; refine (spec_l11Class _ _).mono ?_; rintro e w' ⟨rfl, rfl⟩) | (go_at_call 76; refine (spec_l00Max _ _ _).mono ?_; rintro e w' ⟨rfl, rfl⟩))
        go_round
        case rel => exact ⟨k + 1, by omega, by go_num, by rw [hs.out]⟩
        case measure => simp [intOf]; omega
      · have e : Hid (xs.take k = xs) := (List.take_of_length_le (by omega) : xs.take k = xs)
        go_wp2
        go_ret2
        exact ⟨by rw [e.out]; rfl, rfl⟩

theorem FnExactWorstClass_walk (w : World) (v : Value) (xs : List Int) (h : Rd w.heap.size w v 1 xs.length (xs.flatMap putI) ∧ xs.length ≤ maxLen ∧ ∀ x ∈ xs, I64 x) :
    Calls Try.prog 9 #[v] w fun e w' => e = .returned (.bool true) ∧ Below w.heap.size w w' := by
  obtain ⟨h, hm, _⟩ := h
  have h' := h
  obtain ⟨hL, ao, cap, rfl, hcap, hmax, hnil, hsome⟩ := h'
  clear hsome hnil
  by_cases hn : xs.length ≤ 1048576
  case neg =>
    have hn' : (1048576 : Int) < xs.length := by omega
    unfold maxLen at hm
    clear h
    go_enter Try.func9, Try.ntmps9
    go_wp2
    go_ret
    exact ⟨rfl, by (repeat' (first | (with_reducible exact Below.refl _ _) | (with_reducible assumption) | (with_reducible refine below_dn ?_ _) | (with_reducible refine Below.drew ?_) | (with_reducible refine Below.alloc ?_ ?_ _) | (with_reducible refine Below.setCell ?_ ?_ _) | go_size))⟩
  have hn' : ¬ (1048576 : Int) < xs.length := by omega
  have H := Lib.hid h; clear h
  go_enter Try.func9, Try.ntmps9
  go_wp2_with fail
  refine (toInt64S w _ xs H.out hn).mono ?_; rintro e w1 ⟨g1, rfl, hg1, o1, b1⟩
  have O1 := Lib.hid o1; clear o1
  go_wp2_with fail
  refine (spec_WorstClass _ _ _ xs (O1.out.rd O1.out.lt (putI_len xs) (by unfold maxLen; omega) _ (Nat.le_refl _) (by unfold maxLen; omega)) hn).mono ?_; rintro e w2 ⟨rfl, rfl⟩
  go_wp2_with fail
  refine (toInt64S w1 _ xs ((H.out.below b1).mono b1.size) hn).mono ?_; rintro e w2 ⟨g2, rfl, hg2, o2, b2⟩
  have B2 := bnext b1 b2; clear b1 b2 O1
  have O2 := Lib.hid o2; clear o2
  go_wp2_with fail
  refine (impl_WorstClass w2 _ xs (O2.out.rd O2.out.lt (putI_len xs) (by unfold maxLen; omega) _ (Nat.le_refl _) (by unfold maxLen; omega)) hn).mono ?_; rintro e w2a ⟨rfl, b2a⟩
  have B2a := bnext B2 b2a; clear B2
  have O2a := Lib.hid (O2.out.below b2a O2.out.lt); clear O2 b2a
  go_wp2_with fail
  refine (toInt64S w2a _ xs ((H.out.below B2a).mono B2a.size) hn).mono ?_; rintro e w3 ⟨g3, rfl, hg3, o3, b3⟩
  have B3 := bnext B2a b3; clear B2a
  have O2 := O2a; clear O2a
  have O3 := Lib.hid o3; clear o3
  have O4 := Lib.hid (O2.out.below b3 O2.out.lt); clear O2 b3
  go_wp2_with fail
  refine (eqInt64S _ _ _ _ _ xs xs (O4.out.rd O4.out.lt (putI_len xs) (by unfold maxLen; omega) _ (Nat.le_refl _) (by unfold maxLen; omega)) (O3.out.rd O3.out.lt (putI_len xs) (by unfold maxLen; omega) _ (Nat.le_refl _) (by unfold maxLen; omega)) hn hn rfl).mono ?_; rintro e w4 ⟨rfl, m, rfl⟩
  go_wp2_with fail
  go_ret
  exact ⟨rfl, below_dn B3 _⟩
end Go.Proofs.Ytkfpoabgbailjaa
