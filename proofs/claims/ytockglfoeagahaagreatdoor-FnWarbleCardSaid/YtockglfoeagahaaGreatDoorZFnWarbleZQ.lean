/- Contracts and plain facts, joined: ErrLaid, SineLaid, WarbP. -/
import Derived.Test.YtockglfoeagahaaGreatDoorRows
import Derived.Test.YtockglfoeagahaaGreatDoorZFnWarbleH
import Derived.Test.YtockglfoeagahaaGreatDoorZFnWarbleS
import Derived.Test.YtockglfoeagahaaGreatDoorZFnWarbleT
import Derived.Test.YtockglfoeagahaaGreatDoorZFnWarbleU
import Derived.Test.YtockglfoeagahaaGreatDoorZFnWarbleW
import Derived.Test.YtockglfoeagahaaGreatDoorZFnWarbleZC
import Derived.Test.YtockglfoeagahaaGreatDoorZFnWarbleZE
import Derived.Test.YtockglfoeagahaaGreatDoorZFnWarbleZF
import Derived.Test.YtockglfoeagahaaGreatDoorZFnWarbleZH
import Derived.Test.YtockglfoeagahaaGreatDoorZFnWarbleZI
import Derived.Test.YtockglfoeagahaaGreatDoorZFnWarbleZK
import Derived.Test.YtockglfoeagahaaGreatDoorZFnWarbleZO
import Derived.Test.YtockglfoeagahaaGreatDoorZFnWarbleZP
import Derived.Stop.LaidErr
import Derived.Lib.LaidTab
namespace Go.Proofs.YtockglfoeagahaaGreatDoor
open Go.ChangeShapes Go.WideShapes Go.ChangeAt Go.RowKit Go.Deep Go.Joins
set_option linter.unusedVariables false
set_option maxRecDepth 100000
set_option linter.unusedSimpArgs false
theorem gES : Tryz.prog.globalNamed "strconv.ErrSyntax" = some 2 := by kernel_rfl
theorem star_err : "*" ++ "errors.errorString" = "*errors.errorString" := by decide
theorem row_errS (u : TypeId) (h : Tryz.prog.typeName? 3 u = some "*errors.errorString") : u = 160 :=
  typeName_ptr_named (nm := "errors.errorString") (by rw [star_err]; kernel_rfl) (by kernel_rfl) (by decide) u (by rw [star_err]; exact h)
theorem errS_of {W : World} {text : List UInt8} {rest : List (String × DataW Unit)} (h : laidMet Tryz.prog (("strconv.ErrSyntax", .iface "*errors.errorString" (.ptr (.agg [.lit (.string text)]))) :: rest) W) : ErrS W := by
  obtain ⟨a0, s0, hv0, -, -, -⟩ := laid_sentinel h gES (by kernel_rfl) Tryz.underlying85 row_errS Tryz.underlying160 Tryz.underlying162 rfl rfl Tryz.underlying9 (by kernel_rfl) cells_str
  have h0 := World.var?_cell gES hv0 0
  exact ⟨_, by simpa using h0, Or.inr ⟨_, _, rfl⟩⟩
end Go.Proofs.YtockglfoeagahaaGreatDoor
namespace Go.Proofs.YtockglfoeagahaaGreatDoor
open Go.ChangeShapes Go.WideShapes Go.ChangeAt Go.RowKit Go.Deep Go.Joins
set_option linter.unusedVariables false
set_option maxRecDepth 100000
set_option linter.unusedSimpArgs false
theorem cells_sines : Tryz.prog.cellsOf 113 = 91 := by kernel_rfl
theorem sines_of {W : World} {rest : List (String × DataW Unit)} (h : laidMet Tryz.prog (("loop.example/g00952/impl.sines", Rows.laid_loop_example_g00952_impl_sines) :: rest) W) : Sines W := by
  have e : (Rows.laid_loop_example_g00952_impl_sines : DataW Unit) = Lib.tabData .i64 sinT := by kernel_rfl
  rw [e] at h
  have ht : Lib.TabIs Tryz.prog W "loop.example/g00952/impl.sines" .i64 sinT := Lib.tabIs_of_head (rest := rest) gSines (t := 113) (by kernel_rfl) Tryz.underlying113 Tryz.underlying2 cells_i64 cells_sines h
  intro i hi
  have := ht.cell gSines i (by rw [sinT_len]; exact hi)
  rw [this]
  simp [tab, List.getD]
theorem sines_lt {w : World} (h : Sines w) : 0 < w.heap.size := by
  have := h 0 (by omega)
  unfold World.cell? at this
  cases hh : w.heap[0]? with
  | none => simp [hh] at this
  | some o => exact (Array.getElem?_eq_some_iff.1 hh).1
end Go.Proofs.YtockglfoeagahaaGreatDoor
namespace Go.Proofs.YtockglfoeagahaaGreatDoor
open Go.ChangeShapes Go.WideShapes Go.ChangeAt Go.RowKit Go.Deep Go.Joins
set_option linter.unusedVariables false
set_option maxRecDepth 100000
set_option linter.unusedSimpArgs false
/-- the tables and variables -/
def TabW (w : World) : Prop := Sines w ∧ 0 < w.heap.size ∧ Pow10 w ∧ ErrS w ∧ MaxL w
theorem TabW.below {w w' : World} (h : TabW w) (b : Below w.heap.size w w') : TabW w' :=
  ⟨h.1.below b h.2.1, Nat.lt_of_lt_of_le h.2.1 b.size, h.2.2.1.below b, h.2.2.2.1.below b, h.2.2.2.2.below b⟩
def RdS (w : World) (v : Value) (xs : List Spot) : Prop := Rd w.heap.size w v 2 xs.length (xs.flatMap Spot.put)
theorem RdS.below {w w' : World} {v : Value} {xs : List Spot} (h : RdS w v xs) (b : Below w.heap.size w w') : RdS w' v xs := Rd.up h b
theorem valid_ok {xs : List Spot} (h : validSpotS xs = true) : ∀ x ∈ xs, x.ok := (fineS_valid h).ok
theorem split_one (w : World) (v : Value) (xs : List Spot) (n : Int) (hT : TabW w) (h : RdS w v xs) (hl : xs.length ≤ 1048576) (hok : ∀ x ∈ xs, x.ok) {s c : Int} (e : splitOfS xs n = (s, c)) :
    Calls Tryz.prog 6 #[v, .int .i64 n] w fun e w' => e = .returned (.tuple #[.int .i64 s, .int .i64 c]) ∧ Below w.heap.size w w' := by
  have q := impl_SplitOf w v xs n hT.1 hT.2.1 h hl hok
  rw [e] at q
  exact q
theorem splitOf_ok {xs : List Spot} {n : Int} (h : codeW xs n = 0) : splitOfS xs n = (splitN n xs, 0) := if_pos h
theorem splitOf_no {xs : List Spot} {n : Int} (h : codeW xs n ≠ 0) : splitOfS xs n = (0, codeW xs n) := if_neg h
theorem turnC_all (xs : List Spot) (d : Int) : turnC (turnS xs d) = 0 ∧ validSpotS (turnS xs d) = true := by
  cases h : validSpotS xs
  · have e : turnS xs d = [] := by unfold turnS; rw [h]; rfl
    rw [e]; exact ⟨by decide, by decide⟩
  · have := turn_facts d h
    exact ⟨by unfold turnC; rw [this.2.2.2]; rfl, this.2.2.2⟩
theorem turnC_valid (xs : List Spot) : (turnC xs = 0 ∧ validSpotS xs = true) ∨ (turnC xs = 1 ∧ validSpotS xs = false) := by
  unfold turnC
  cases validSpotS xs
  · exact .inr ⟨rfl, rfl⟩
  · exact .inl ⟨rfl, rfl⟩
/-- how much a split may change by a turn -/
theorem split_bd {xs : List Spot} (n : Int) (h : validSpotS xs = true) : 0 ≤ splitN n xs ∧ splitN n xs ≤ 40000000 := by
  obtain ⟨h16, hb⟩ := validSpotS_true h
  have b1 := wsum_bd cosS cosS_bd n xs hb
  have b2 := wsum_bd sineS sineS_bd n xs hb
  have c1 := sq_abs (divR_thou (a := wsum cosS n xs) (by omega))
  have c2 := sq_abs (divR_thou (a := wsum sineS n xs) (by omega))
  unfold splitN
  have r0 := rootS_is (n := divR (wsum cosS n xs) 1000 * divR (wsum cosS n xs) 1000 + divR (wsum sineS n xs) 1000 * divR (wsum sineS n xs) 1000) (by omega)
  have hb := low_bd r0.1 r0.2.1 (by omega)
  exact ⟨r0.1, by omega⟩
theorem quiet_no {xs : List Spot} {n m l : Int} (h : quietC xs n m l ≠ 0) : quietS xs n m l = [] := if_neg h
end Go.Proofs.YtockglfoeagahaaGreatDoor
