/- The laws' marks: the text of a number. -/
import Derived.Test.YtgjcmfacdnngjaaRows
import Derived.Test.YtgjcmfacdnngjaaLaw
import Derived.Laws.IdiomStrings
namespace Go.Proofs.Ytgjcmfacdnngjaa
open Go.ChangeShapes Go.WideShapes Go.ChangeAt Go.RowKit Go.Deep Go.Joins
set_option linter.unusedVariables false
set_option maxRecDepth 100000
set_option linter.unusedSimpArgs false
def digB (k : Nat) : ByteArray := ⟨#[UInt8.ofNat (48 + k % 10)]⟩
theorem digB_size (k : Nat) : (digB k).size = 1 := rfl
/-- the digits of k ahead of out -/
def mkT : Nat → Nat → ByteArray → ByteArray
  | 0, _, out => out
  | f + 1, k, out => if k = 0 then out else mkT f (k / 10) (digB k ++ out)
def markT (k : Nat) : ByteArray := ⟨#[109]⟩ ++ mkT k k ⟨#[]⟩
theorem byte_str (W : World) (x : Nat) (hx : x < 256) : (convert 22 9 (.slice (some ⟨W.heap.size, 0, none⟩) 1 1)).run Try.prog (W.alloc (.cells #[.int .u8 (x : Int)] 5)) = .ok (.string ⟨#[UInt8.ofNat x]⟩) (W.alloc (.cells #[.int .u8 (x : Int)] 5)) := by
  have h := run_convert_bytes_back (P := Try.prog) (W.alloc (.cells #[.int .u8 (x : Int)] 5)) 22 9 5 ⟨W.heap.size, 0, none⟩ 1 [UInt8.ofNat x] Try.underlying22 Try.underlying5 Try.underlying9 (fun j hj => by
    have : j = 0 := by simpa using hj
    subst this
    rw [show (Addr.add ⟨W.heap.size, 0, none⟩ 0) = (⟨W.heap.size, 0, none⟩ : Addr) from rfl]
    have hc := (Own.new W 5 [.int .u8 (x : Int)]).cell 0
    rw [show ([Value.int .u8 (x : Int)] : List Value).toArray = #[.int .u8 (x : Int)] from rfl] at hc
    rw [hc]
    have : (UInt8.ofNat x).toNat = x := by rw [UInt8.toNat_ofNat']; omega
    simp [this])
  simpa using h

theorem byte_str' (W : World) (x : Int) (j : Nat) (h : x = ((48 + j % 10 : Nat) : Int)) : (convert 22 9 (.slice (some ⟨W.heap.size, 0, none⟩) 1 1)).run Try.prog (W.alloc (.cells #[.int .u8 x] 5)) = .ok (.string (digB j)) (W.alloc (.cells #[.int .u8 x] 5)) := by
  subst h; exact byte_str W _ (by omega)
end Go.Proofs.Ytgjcmfacdnngjaa
