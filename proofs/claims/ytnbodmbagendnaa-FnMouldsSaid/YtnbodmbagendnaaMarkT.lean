/- The laws' marks: the text of a number. -/
import Derived.Test.YtnbodmbagendnaaRows
import Derived.Test.YtnbodmbagendnaaLaw
import Derived.Laws.IdiomStrings
namespace Go.Proofs.Ytnbodmbagendnaa
open Go.ChangeShapes Go.WideShapes Go.ChangeAt Go.RowKit Go.Deep Go.Joins
set_option linter.unusedVariables false
set_option maxRecDepth 100000
set_option linter.unusedSimpArgs false
def digB (k : Nat) : ByteArray := ⟨#[UInt8.ofNat (48 + k % 10)]⟩
theorem digB_size (k : Nat) : (digB k).size = 1 := rfl
/-- the digits of k ahead of out -/
def mkT : Nat → Nat → ByteArray → ByteArray
  | 0, _, out => out
  | f + 1, k, out => if k = 0 then out else mkT f (k / 10) (digB k ++ out)
def markT (k : Nat) : ByteArray := ⟨#[109]⟩ ++ mkT k k ⟨#[]⟩
theorem byte_str (W : World) (x : Nat) (hx : x < 256) : (convert 22 9 (.slice (some ⟨W.heap.size, 0, none⟩) 1 1)).run Try.prog (W.alloc (.cells #[.int .u8 (x : Int)] 5)) = .ok (.string ⟨#[UInt8.ofNat x]⟩) (W.alloc (.cells #[.int .u8 (x : Int)] 5)) := by
  have h := run_convert_bytes_back (P := Try.prog) (W.alloc (.cells #[.int .u8 (x : Int)] 5)) 22 9 5 ⟨W.heap.size, 0, none⟩ 1 [UInt8.ofNat x] Try.underlying22 Try.underlying5 Try.underlying9 (fun j hj => by
    have : j = 0 := by simpa using hj
    subst this
    rw [show (Addr.add ⟨W.heap.size, 0, none⟩ 0) = (⟨W.heap.size, 0, none⟩ : Addr) from rfl]
    have hc := (Own.new W 5 [.int .u8 (x : Int)]).cell 0
    rw [show ([Value.int .u8 (x : Int)] : List Value).toArray = #[.int .u8 (x : Int)] from rfl] at hc
    rw [hc]
    have : (UInt8.ofNat x).toNat = x := by rw [UInt8.toNat_ofNat']; omega
    simp [this])
  simpa using h

theorem byte_str' (W : World) (x : Int) (j : Nat) (h : x = ((48 + j % 10 : Nat) : Int)) : (convert 22 9 (.slice (some ⟨W.heap.size, 0, none⟩) 1 1)).run Try.prog (W.alloc (.cells #[.int .u8 x] 5)) = .ok (.string (digB j)) (W.alloc (.cells #[.int .u8 x] 5)) := by
  subst h; exact byte_str W _ (by omega)

set_option maxHeartbeats 1000000 in
theorem markText (k : Nat) (w : World) (h1 : 1 ≤ k) (hk : k ≤ 1073741824) :
    Calls Try.prog 89 #[.int .i64 (k : Int)] w fun e w' => e = .returned (.string (markT k)) ∧ Below w.heap.size w w' := by
  go_enter Try.func89, Try.ntmps89
  go_wp2
  go_loopw [0, 3] (fun i s wr => ∃ (f j : Nat) (out : ByteArray), i = .int .i64 (j : Int) ∧ s = .string out ∧ j ≤ f ∧ out.size + f ≤ k ∧ mkT f j out = mkT k k ⟨#[]⟩ ∧ Below w.heap.size w wr) (fun i _ _ => (intOf i).toNat)
  case atStart => exact ⟨k, k, ⟨#[]⟩, rfl, rfl, Nat.le_refl _, by simp [ByteArray.size], rfl, Below.refl _ _⟩
  case round =>
    obtain ⟨f, j, out, rfl, rfl, hj, hs, he, hb⟩ := hrel
    have HE := Lib.hid he; clear he
    by_cases hlt : 0 < j
    · obtain ⟨f, rfl⟩ : ∃ f', f = f' + 1 := ⟨f - 1, by omega⟩
      have E : Hid (mkT f (j / 10) (digB j ++ out) = mkT k k ⟨#[]⟩) := (by
        have := HE.out
        rw [mkT, if_neg (by omega)] at this
        exact this : mkT f (j / 10) (digB j ++ out) = mkT k k ⟨#[]⟩)
      have kc := byte_str' wr (48 + (j : Int) % 10) j (by omega)
      have hd := digB_size j
      have t0 : decide ((0 : Int) < (j : Int)) = true := decide_eq_true (by omega)
      have HB := Lib.hid hb; clear hb HE
      go_wp2
      go_roundw
      case rel => exact ⟨f, j / 10, digB j ++ out, by go_num, rfl, by omega, by rw [ByteArray.size_append]; omega, E.out, Below.trans HB.out ((Below.refl _ _).alloc (by exact HB.out.size) _)⟩
      case measure => simp [intOf]; omega
    · have e : Hid (mkT k k ⟨#[]⟩ = out) := (by
        have := HE.out
        have h0 : j = 0 := by omega
        rw [← this, h0]
        cases f <;> rfl : mkT k k ⟨#[]⟩ = out)
      have t0 : decide ((0 : Int) < (j : Int)) = false := decide_eq_false (by omega)
      clear HE
      have HB := Lib.hid hb; clear hb
      go_wp2
      go_ret
      exact ⟨by unfold markT; rw [e.out]; rfl, HB.out⟩
end Go.Proofs.Ytnbodmbagendnaa
