/- CountPlaced: both sides compute the same. -/
import Derived.Test.YtgjcmfacdnngjaaRows
import Derived.Test.YtgjcmfacdnngjaaCopyInts
namespace Go.Proofs.Ytgjcmfacdnngjaa
open Go.ChangeShapes Go.WideShapes Go.ChangeAt Go.RowKit Go.Deep Go.Joins
set_option linter.unusedVariables false
set_option maxRecDepth 100000
set_option linter.unusedSimpArgs false
def cntS (xs : List Int) : Int := (xs.filter fun n => decide (0 ≤ n)).length
theorem cntS_bd (xs : List Int) : 0 ≤ cntS xs ∧ cntS xs ≤ xs.length := by
  unfold cntS
  have := List.length_filter_le (fun n : Int => decide (0 ≤ n)) xs
  omega
theorem cntS_succ (xs : List Int) (k : Nat) (h : k < xs.length) : cntS (xs.take (k + 1)) = cntS (xs.take k) + if 0 ≤ xs[k] then 1 else 0 := by
  unfold cntS
  rw [List.take_succ_eq_append_getElem h, List.filter_append]
  by_cases h1 : 0 ≤ xs[k] <;> simp [List.filter_cons, h1]

theorem impl_CountPlaced (B : Nat) (w : World) (v : Value) (xs : List Int) (h1 : Rd B w v 1 xs.length (xs.flatMap putI)) (hn : xs.length ≤ 1048576) :
    Calls Try.prog 11 #[v] w fun e w' => e = .returned (.int .i64 (cntS xs)) ∧ w = w' := by
  obtain ⟨hL, ao, cap, rfl, hcap, hmax, hnil, hsome⟩ := h1
  go_enter Try.func11, Try.ntmps11
  go_wp2
  go_loop [3, 8] (fun m i => ∃ (k : Nat), k ≤ xs.length ∧ i = .int .i64 k ∧ m = .int .i64 (cntS (xs.take k))) (fun _ i => xs.length - (intOf i).toNat)
  case atStart => exact ⟨0, Nat.zero_le _, rfl, rfl⟩
  case round =>
    obtain ⟨k, hk, rfl, rfl⟩ := hrel
    by_cases hlt : k < xs.length
    · obtain ⟨b, off, rfl, hbB, hc⟩ := hsome (by omega)
      have c1 : w.cell? ⟨b, off + k, none⟩ = some (.int .i64 xs[k]) := by rw [hc k (by omega), putI_get xs k hlt]
      have hs := Lib.hid (cntS_succ xs k hlt)
      have hb := cntS_bd (xs.take k)
      have hl : (xs.take k).length ≤ k := List.length_take_le _ _
      clear hc hsome hnil
      by_cases hp : 0 ≤ xs[k]
      · go_wp2
        go_round
        case rel => exact ⟨k + 1, by omega, by go_num, by rw [hs.out, if_pos hp]⟩
        case measure => simp [intOf]; omega
      · go_wp2
        go_round
        case rel => exact ⟨k + 1, by omega, by go_num, by rw [hs.out, if_neg (by omega), Int.add_zero]⟩
        case measure => simp [intOf]; omega
    · have e : Hid (xs.take k = xs) := (List.take_of_length_le (by omega) : xs.take k = xs)
      go_wp2
      go_ret
      exact ⟨by rw [e.out]; rfl, rfl⟩
end Go.Proofs.Ytgjcmfacdnngjaa
