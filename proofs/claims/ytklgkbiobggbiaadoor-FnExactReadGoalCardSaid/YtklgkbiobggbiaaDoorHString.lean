/- Lists of texts: toStringS, eqStringS, szStringS. -/
import Derived.Test.YtklgkbiobggbiaaDoorRows
import Derived.Test.YtklgkbiobggbiaaDoorCopyInts
namespace Go.Proofs.YtklgkbiobggbiaaDoor
open Go.ChangeShapes Go.WideShapes Go.ChangeAt Go.RowKit Go.Deep Go.Joins
set_option linter.unusedVariables false
set_option maxRecDepth 100000
set_option linter.unusedSimpArgs false
theorem putStr_len (xs : List ByteArray) : (xs.flatMap putStr).length = xs.length * 1 := flat_len xs (fun _ _ => rfl)
theorem putStr_get (xs : List ByteArray) (k : Nat) (h : k < xs.length) : (xs.flatMap putStr)[k]? = some (.string xs[k]) := by
  have := flat_get (f := putStr) (s := 1) xs (fun _ _ => rfl) (j := 0) (by omega) k
  simp only [Nat.mul_one, Nat.add_zero] at this
  rw [this, List.getElem?_eq_getElem h]
  rfl
theorem info_str : (Tryd.prog.info? 9).map (fun i => (i.zero, i.size, i.bytes)) = some (some (.string ByteArray.empty), 1, 16) := by kernel_rfl

theorem eqStringS (B1 B2 : Nat) (w : World) (v1 v2 : Value) (xs : List ByteArray) (h1 : Rd B1 w v1 1 xs.length (xs.flatMap putStr)) (h2 : Rd B2 w v2 1 xs.length (xs.flatMap putStr)) (hn : xs.length ≤ 1048576) :
    Calls Tryd.prog 45 #[v1, v2] w fun e w' => e = .returned (.bool true) ∧ Drew w w' := by
  obtain ⟨hL, ao, cap, rfl, hcap, hmax, hnil, hsome⟩ := h1
  obtain ⟨hL2, ao2, cap2, rfl, hcap2, hmax2, hnil2, hsome2⟩ := h2
  go_enter Tryd.func45, Tryd.ntmps45
  go_wp2
  go_loopw [5] (fun i wr => ∃ (k : Nat), k ≤ xs.length ∧ i = .int .i64 k ∧ Drew w wr) (fun i _ => xs.length - (intOf i).toNat)
  case atStart => exact ⟨0, Nat.zero_le _, rfl, Drew.refl _⟩
  case round =>
    obtain ⟨k, hk, rfl, hd⟩ := hrel
    obtain ⟨m, rfl⟩ := hd
    by_cases hlt : k < xs.length
    · obtain ⟨b, off, rfl, hbB, hc⟩ := hsome (by omega)
      obtain ⟨b2, off2, rfl, hbB2, hc2⟩ := hsome2 (by omega)
      have c1 : w.cell? ⟨b, off + k, none⟩ = some (.string xs[k]) := by rw [hc k (by omega), putStr_get xs k hlt]
      have c2 : w.cell? ⟨b2, off2 + k, none⟩ = some (.string xs[k]) := by rw [hc2 k (by omega), putStr_get xs k hlt]
      clear hc hc2 hsome hsome2 hnil hnil2
      go_wp2
      go_quiet (fail)
      go_wp2
      go_roundw
      case rel => exact ⟨k + 1, by omega, by go_num, _, rfl⟩
      case measure => simp [intOf]; omega
    · go_wp2
      go_ret
      exact ⟨rfl, _, rfl⟩

def wtStr (xs : List ByteArray) : Nat := (xs.map fun x => x.size).sum
theorem wtStr_succ (xs : List ByteArray) (k : Nat) (h : k < xs.length) : wtStr (xs.take (k + 1)) = wtStr (xs.take k) + xs[k].size := by
  unfold wtStr
  rw [List.take_succ_eq_append_getElem h, List.map_append, List.sum_append]
  simp only [List.map_cons, List.map_nil, List.sum_cons, List.sum_nil, Nat.add_zero]
theorem wtStr_le (xs : List ByteArray) (k : Nat) : wtStr (xs.take k) ≤ wtStr xs := by
  have h : wtStr xs = wtStr (xs.take k) + wtStr (xs.drop k) := by
    unfold wtStr
    rw [← List.sum_append, ← List.map_append, List.take_append_drop]
  omega
end Go.Proofs.YtklgkbiobggbiaaDoor
