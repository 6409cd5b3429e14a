/- WorstClass: both sides compute the same. -/
import Derived.Test.YtcjalmkefagnhaaRows
import Derived.Test.YtcjalmkefagnhaaCopyInts
import Derived.Test.YtcjalmkefagnhaaClass
namespace Go.Proofs.Ytcjalmkefagnhaa
open Go.ChangeShapes Go.WideShapes Go.ChangeAt Go.RowKit Go.Deep Go.Joins
set_option linter.unusedVariables false
set_option linter.unusedSimpArgs false
def worstS (xs : List Int) : Int := xs.foldl (fun m n => max m (classS n)) 0
theorem worstS_succ (xs : List Int) (k : Nat) (h : k < xs.length) : worstS (xs.take (k + 1)) = max (worstS (xs.take k)) (classS xs[k]) := by
  unfold worstS
  rw [List.take_succ_eq_append_getElem h, List.foldl_append]; rfl
theorem worstS_bd (xs : List Int) : 0 ≤ worstS xs ∧ worstS xs ≤ 4 := by
  unfold worstS
  have key : ∀ (l : List Int) (m : Int), 0 ≤ m → m ≤ 4 → 0 ≤ l.foldl (fun m n => max m (classS n)) m ∧ l.foldl (fun m n => max m (classS n)) m ≤ 4 := by
    intro l
    induction l with
    | nil => intro m h1 h2; exact ⟨h1, h2⟩
    | cons n l ih =>
      intro m h1 h2
      have := classS_bd n
      exact ih _ (show 0 ≤ max m (classS n) by omega) (show max m (classS n) ≤ 4 by omega)
  exact key xs 0 (by omega) (by omega)
def worstR (xs : List Int) : Int × Int := if xs.length = 0 then (0, 6) else (worstS xs, 0)

theorem impl_WorstClass (w : World) (v : Value) (xs : List Int) (h1 : Rd w.heap.size w v 1 xs.length (xs.flatMap putI)) (hn : xs.length ≤ 1048576) :
    Calls Try.prog 20 #[v] w fun e w' => e = .returned (.tuple #[.int .i64 (worstR xs).1, .int .i64 (worstR xs).2]) ∧ Below w.heap.size w w' := by
  obtain ⟨hL, ao, cap, rfl, hcap, hmax, hnil, hsome⟩ := h1
  unfold worstR
  by_cases h0 : xs.length = 0
  · have hz : ((xs.length : Int) == 0) = true := by simp [h0]
    have H0 := Lib.hid h0; clear h0
    go_enter Try.func20, Try.ntmps20
    go_wp2
    go_ret2
    exact ⟨rfl, by (repeat' (first | (with_reducible exact Below.refl _ _) | (with_reducible assumption) | (with_reducible refine below_dn ?_ _) | (with_reducible refine Below.drew ?_) | (with_reducible refine Below.alloc ?_ ?_ _) | (with_reducible refine Below.setCell ?_ ?_ _) | go_size))⟩
  · rw [if_neg h0]
    have hz : ((xs.length : Int) == 0) = false := beq_eq_false_iff_ne.2 (by omega)
    go_enter Try.func20, Try.ntmps20
    go_wp2
    go_loopw [4, 12] (fun m i wr => ∃ (k : Nat), k ≤ xs.length ∧ i = .int .i64 k ∧ m = .int .i64 (worstS (xs.take k)) ∧ Below w.heap.size w wr) (fun _ i _ => xs.length - (intOf i).toNat)
    case atStart => exact ⟨0, Nat.zero_le _, rfl, rfl, Below.refl _ _⟩
    case round =>
      obtain ⟨k, hk, rfl, rfl, hb⟩ := hrel
      by_cases hlt : k < xs.length
      · obtain ⟨b, off, rfl, hbB, hc⟩ := hsome (by omega)
        have c1 : wr.cell? ⟨b, off + k, none⟩ = some (.int .i64 xs[k]) := by rw [hb.cell (p := ⟨b, off + k, none⟩) hbB, hc k (by omega), putI_get xs k hlt]
        have hs := Lib.hid (worstS_succ xs k hlt)
        have HB := Lib.hid hb
        have hbd := worstS_bd (xs.take k)
        have hcb := classS_bd xs[k]
        clear hc hsome hnil hb hz
        go_wp2_with fail
        refine (impl_ClassOf _ _).mono ?_; rintro e w1 ⟨rfl, b1⟩
        have HB1 := Lib.hid (HB.out.trans (b1.mono HB.out.size)); clear b1 HB
        go_wp2_with fail
        go_roundw
        case rel => exact ⟨k + 1, by omega, by go_num, congrArg (Value.int .i64) (by rw [hs.out]; split <;> omega), HB1.out⟩
        case measure => simp [intOf]; omega
      · have e : Hid (xs.take k = xs) := (List.take_of_length_le (by omega) : xs.take k = xs)
        go_wp2
        go_ret2
        exact ⟨by rw [e.out]; rfl, hb⟩

/-- as the reference has it -/
def worst1 (xs : List Int) : Int := xs.foldl (fun m n => max m (classS n)) 1
theorem worst1_succ (xs : List Int) (k : Nat) (h : k < xs.length) : worst1 (xs.take (k + 1)) = max (worst1 (xs.take k)) (classS xs[k]) := by
  unfold worst1
  rw [List.take_succ_eq_append_getElem h, List.foldl_append]; rfl
theorem worst1_eq (xs : List Int) (h : xs.length ≠ 0) : worst1 xs = worstS xs := by
  unfold worst1 worstS
  cases xs with
  | nil => simp at h
  | cons x xs =>
    have := classS_bd x
    have e : max 1 (classS x) = max 0 (classS x) := by omega
    simp only [List.foldl_cons, e]
end Go.Proofs.Ytcjalmkefagnhaa
