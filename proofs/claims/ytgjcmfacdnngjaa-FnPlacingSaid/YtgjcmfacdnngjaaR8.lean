/- Numbers that an input chooses: r8At, r8Wide. -/
import Derived.Test.YtgjcmfacdnngjaaRows
import Derived.Test.YtgjcmfacdnngjaaMem
namespace Go.Proofs.Ytgjcmfacdnngjaa
open Go.ChangeShapes Go.WideShapes Go.ChangeAt Go.RowKit Go.Deep Go.Joins
set_option linter.unusedVariables false
set_option maxRecDepth 100000
set_option linter.unusedSimpArgs false
def putB (n : UInt8) : List Value := [.int .u8 n.toNat]
theorem putB_len (xs : List UInt8) : (xs.flatMap putB).length = xs.length * 1 := flat_len xs (fun _ _ => rfl)
theorem putB_get (xs : List UInt8) (k : Nat) (h : k < xs.length) : (xs.flatMap putB)[k]? = some (.int .u8 xs[k].toNat) := by
  have := flat_get (f := putB) (s := 1) xs (fun _ _ => rfl) (j := 0) (by omega) k
  simp only [Nat.mul_one, Nat.add_zero] at this
  rw [this, List.getElem?_eq_getElem h]
  rfl
def r8at (xs : List UInt8) (k n : Int) : Int := ((xs[k.toNat]?.getD 0).toNat : Int) % n
theorem r8at_bd (xs : List UInt8) (k n : Int) (hn : 0 < n) : 0 ≤ r8at xs k n ∧ r8at xs k n < n := ⟨Int.emod_nonneg _ (by omega), Int.emod_lt_of_pos _ hn⟩

theorem laws_r8At (w : World) (v : Value) (xs : List UInt8) (B : Nat) (h : Rd B w v 1 xs.length (xs.flatMap putB)) (hx : xs.length ≤ 1048576) (k n : Int) (hk : 0 ≤ k) (hk2 : k ≤ 1000000000) (hn : 2 ≤ n) (hn2 : n ≤ 1000000000000) :
    Calls Try.prog 15 #[v, .int .i64 k, .int .i64 n] w fun e w' => e = .returned (.int .i64 (r8at xs k n)) ∧ w = w' := by
  obtain ⟨hL, ao, cap, rfl, hcap, hmax, hnil, hsome⟩ := h
  obtain ⟨k, rfl⟩ := Int.eq_ofNat_of_zero_le hk
  by_cases hlt : k < xs.length
  · obtain ⟨b, off, rfl, hbB, hc⟩ := hsome (by omega)
    have c1 : w.cell? ⟨b, off + k, none⟩ = some (.int .u8 xs[k].toNat) := by rw [hc k (by omega), putB_get xs k hlt]
    have hb := xs[k].toNat_lt
    have e : Hid (r8at xs k n = (xs[k].toNat : Int) % n) := (by simp [r8at, hlt] : r8at xs k n = (xs[k].toNat : Int) % n)
    clear hc hsome hnil
    go_enter Try.func15, Try.ntmps15
    go_wp2
    go_ret
    exact ⟨by rw [e.out]; rfl, rfl⟩
  · have e : Hid (r8at xs k n = 0) := (by
      unfold r8at
      rw [Int.toNat_natCast, List.getElem?_eq_none (by omega)]
      simp : r8at xs k n = 0)
    clear hsome hnil
    go_enter Try.func15, Try.ntmps15
    go_wp2
    go_ret
    exact ⟨by rw [e.out]; rfl, rfl⟩

def r8wide (xs : List UInt8) (k n : Int) : Int := (256 * r8at xs k 256 + r8at xs (k + 1) 256) % n
theorem r8wide_bd (xs : List UInt8) (k n : Int) (hn : 0 < n) : 0 ≤ r8wide xs k n ∧ r8wide xs k n < n := ⟨Int.emod_nonneg _ (by omega), Int.emod_lt_of_pos _ hn⟩
theorem laws_r8Wide (w : World) (v : Value) (xs : List UInt8) (B : Nat) (h : Rd B w v 1 xs.length (xs.flatMap putB)) (hx : xs.length ≤ 1048576) (k n : Int) (hk : 0 ≤ k) (hk2 : k ≤ 100000000) (hn : 2 ≤ n) (hn2 : n ≤ 1000000000000) :
    Calls Try.prog 7 #[v, .int .i64 k, .int .i64 n] w fun e w' => e = .returned (.int .i64 (r8wide xs k n)) ∧ w = w' := by
  have b1 := r8at_bd xs k 256 (by omega)
  have b2 := r8at_bd xs (k + 1) 256 (by omega)
  have H := Lib.hid h; clear h
  unfold r8wide
  go_enter Try.func7, Try.ntmps7
  go_wp2_with (go_at_call 15; refine (laws_r8At _ _ xs _ H.out hx _ _ (by omega) (by omega) (by omega) (by omega)).mono ?_; rintro e w' ⟨rfl, rfl⟩)
  go_ret
  exact ⟨rfl, rfl⟩
end Go.Proofs.Ytgjcmfacdnngjaa
