/- toInt64S and eqInt64S. -/
import Derived.Test.YtmkemjfbmnnflaaRows
import Derived.Test.YtmkemjfbmnnflaaMem
namespace Go.Proofs.Ytmkemjfbmnnflaa
open Go.ChangeShapes Go.WideShapes Go.ChangeAt Go.RowKit Go.Deep Go.Joins
set_option linter.unusedVariables false
set_option maxRecDepth 100000
set_option linter.unusedSimpArgs false
def putI (n : Int) : List Value := [.int .i64 n]
theorem putI_len (xs : List Int) : (xs.flatMap putI).length = xs.length * 1 := flat_len xs (fun _ _ => rfl)
theorem putI_get (xs : List Int) (k : Nat) (h : k < xs.length) : (xs.flatMap putI)[k]? = some (.int .i64 xs[k]) := by
  have := flat_get (f := putI) (s := 1) xs (fun _ _ => rfl) (j := 0) (by omega) k
  simp only [Nat.mul_one, Nat.add_zero] at this
  rw [this, List.getElem?_eq_getElem h]
  rfl
theorem info_i64 : (Try.prog.info? 2).map (fun i => (i.zero, i.size, i.bytes)) = some (some (.int .i64 0), 1, 8) := by kernel_rfl

/-- one element more -/
theorem set_snoc {α : Type} (f : α → List Value) (xs : List α) (k : Nat) (h : k < xs.length) : (xs.take (k + 1)).flatMap f = (xs.take k).flatMap f ++ f xs[k] := by
  rw [List.take_succ_eq_append_getElem h, List.flatMap_append]; simp
theorem set1 (A T : List Value) (t0 : Value) (i : Nat) (hA : A.length = i) (v : Value) : (A ++ t0 :: T).set i v = (A ++ [v]) ++ T := by
  subst hA
  simp
theorem cons_of {T : List Value} {n : Nat} (h : T.length = n) (hn : 1 ≤ n) : ∃ t0 T', T = t0 :: T' ∧ T'.length = n - 1 := by
  match T, h with
  | [], h => simp at h; omega
  | t0 :: T', h => exact ⟨t0, T', rfl, by simp at h; omega⟩

theorem eqInt64S (B1 B2 : Nat) (w : World) (v1 v2 : Value) (xs ys : List Int) (h1 : Rd B1 w v1 1 xs.length (xs.flatMap putI)) (h2 : Rd B2 w v2 1 ys.length (ys.flatMap putI)) (hn : xs.length ≤ 1048576) (hn2 : ys.length ≤ 1048576) (he : xs = ys) :
    Calls Try.prog 15 #[v1, v2] w fun e w' => e = .returned (.bool true) ∧ Drew w w' := by
  subst he
  obtain ⟨hL, ao, cap, rfl, hcap, hmax, hnil, hsome⟩ := h1
  obtain ⟨hL2, ao2, cap2, rfl, hcap2, hmax2, hnil2, hsome2⟩ := h2
  go_enter Try.func15, Try.ntmps15
  go_wp2
  go_loopw [5] (fun i wr => ∃ (k : Nat), k ≤ xs.length ∧ i = .int .i64 k ∧ Drew w wr) (fun i _ => xs.length - (intOf i).toNat)
  case atStart => exact ⟨0, Nat.zero_le _, rfl, Drew.refl _⟩
  case round =>
    obtain ⟨k, hk, rfl, hd⟩ := hrel
    obtain ⟨m, rfl⟩ := hd
    by_cases hlt : k < xs.length
    · obtain ⟨b, off, rfl, hbB, hc⟩ := hsome (by omega)
      obtain ⟨b2, off2, rfl, hbB2, hc2⟩ := hsome2 (by omega)
      have c1 : w.cell? ⟨b, off + k, none⟩ = some (.int .i64 xs[k]) := by rw [hc k (by omega), putI_get xs k hlt]
      have c2 : w.cell? ⟨b2, off2 + k, none⟩ = some (.int .i64 xs[k]) := by rw [hc2 k (by omega), putI_get xs k hlt]
      clear hc hc2 hsome hsome2 hnil hnil2
      go_wp2
      go_quiet (fail)
      go_wp2
      go_roundw
      case rel => exact ⟨k + 1, by omega, by go_num, _, rfl⟩
      case measure => simp [intOf]; omega
    · go_wp2
      go_ret
      exact ⟨rfl, _, rfl⟩
end Go.Proofs.Ytmkemjfbmnnflaa
