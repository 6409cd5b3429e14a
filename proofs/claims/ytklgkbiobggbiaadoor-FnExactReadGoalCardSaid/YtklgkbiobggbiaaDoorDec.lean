/- Numbers in decimal: both sides compute the same. -/
import Derived.Test.YtklgkbiobggbiaaDoorRows
import Derived.Test.YtklgkbiobggbiaaDoorIn
import Derived.Test.YtklgkbiobggbiaaDoorAcc
import Derived.Test.YtklgkbiobggbiaaDoorAppSl
import Derived.Shelf.Lay
import Derived.Shelf.Strconv.Itoa4
import Derived.Ground.NamesProg
import Derived.Lib.ItoaNum
import Derived.Lib.LaidTab
import Derived.Lib.AppendIntMem
import Derived.Laws.IdiomStrings
namespace Go.Proofs.YtklgkbiobggbiaaDoor
open Go.ChangeShapes Go.WideShapes Go.ChangeAt Go.RowKit Go.Deep Go.Joins
set_option linter.unusedVariables false
set_option maxRecDepth 100000
set_option linter.unusedSimpArgs false
/-- a number in decimal -/
def decT (n : Int) : ByteArray := ⟨(Lib.itoa n).toArray⟩
def u8v (b : UInt8) : Value := .int .u8 (b.toNat : Int)
theorem u8_one (l : List UInt8) : ∀ u ∈ l.map u8v, u.oneCell' = true := by
  intro u hu
  obtain ⟨x, _, rfl⟩ := List.mem_map.1 hu
  rfl
/-- the digits of u; none for 0 -/
def decD (u : Nat) : List UInt8 := if u = 0 then [] else Lib.decDigits u
theorem decD_step {u : Nat} (h : 0 < u) : decD u = decD (u / 10) ++ [UInt8.ofNat (48 + u % 10)] := by
  unfold decD
  rw [if_neg (by omega), Lib.decDigits]
  by_cases h1 : u < 10
  · rw [dif_pos h1, if_pos (by omega), Nat.mod_eq_of_lt h1]; rfl
  · rw [dif_neg h1, if_neg (by omega)]
theorem decD_len (u : Nat) (h : u ≤ 9223372036854775808) : (decD u).length ≤ 20 := by
  unfold decD
  split
  · simp
  · rw [Lib.decDigits_length]
    rcases Nat.lt_or_ge 20 (Lib.nDigits u) with h1 | h1
    · exfalso
      have h2 : ∀ k u, Lib.nDigits u = k + 1 → 1 ≤ u → 10 ^ k ≤ u := fun k => by
        induction k with
        | zero => intro u _ h; omega
        | succ k ih =>
          intro u he hu
          by_cases h10 : u < 10
          · rw [Lib.nDigits_small h10] at he; omega
          · rw [Lib.nDigits_big h10] at he
            have := ih (u / 10) (by omega) (by omega)
            rw [Nat.pow_succ]; omega
      have h3 := h2 (Lib.nDigits u - 1) u (by omega) (by omega)
      have h4 : 10 ^ 20 ≤ 10 ^ (Lib.nDigits u - 1) := Nat.pow_le_pow_right (by omega) (by omega)
      omega
    · exact h1
theorem info_u8 : (Tryd.prog.info? 5).map (fun i => (i.zero, i.size, i.bytes)) = some (some (.int .u8 0), 1, 1) := by kernel_rfl
theorem u8_snoc (xs : List UInt8) (a : UInt8) : (xs ++ [a]).map u8v = xs.map u8v ++ [u8v a] := by simp
theorem digit_u8 (u : Nat) : u8v (UInt8.ofNat (48 + u % 10)) = .int .u8 (48 + (u : Int) % 10) := by
  unfold u8v
  have : (UInt8.ofNat (48 + u % 10)).toNat = 48 + u % 10 := by rw [UInt8.toNat_ofNat']; omega
  rw [this]; rfl
/-- 'string(b)' of bytes of one's own -/
theorem conv_own {w : World} {base : Nat} {v : Value} {l : List UInt8} (h : w.ownsRow base 5 1 v l.length (l.map u8v)) : (convert 49 9 v).run Tryd.prog w = .ok (.string ⟨l.toArray⟩) w := by
  rcases own_form h with ⟨rfl, h0⟩ | ⟨g, cap, rfl⟩
  · have : l = [] := List.eq_nil_of_length_eq_zero h0
    subst this
    have := run_convert_bytes_string (P := Tryd.prog) w 49 9 5 none 0 0 Tryd.underlying49 Tryd.underlying5 Tryd.underlying9
    rw [this]
    simp [Conv.bytesToString]
    rfl
  · refine run_convert_bytes_back (P := Tryd.prog) w 49 9 5 ⟨g, 0, none⟩ cap l Tryd.underlying49 Tryd.underlying5 Tryd.underlying9 (fun j hj => ?_)
    obtain ⟨hL, ao', cap', e, hcap, hmax, hnil, hsome⟩ := own_rd h
    obtain ⟨b, off, e1, hb, hc⟩ := hsome (by omega)
    injection e with q1 q2 q3
    subst q1
    injection e1 with e2
    injection e2 with e3 e4 e5
    subst e3; subst e4
    have hadd : (⟨g, 0, none⟩ : Addr).add j = ⟨g, 0 + j, none⟩ := by unfold Addr.add; split <;> simp_all
    rw [hadd, hc j (by omega)]
    simp [List.getElem?_eq_getElem hj, u8v]
def Tryd.fmtInt_ren : Go.Shelf.Ren := ⟨fun | 173 => 115 | 246 => 140 | 283 => 154 | 284 => 155 | 285 => 156 | 286 => 157 | 129 => 162 | 317 => 161 | 318 => 163 | 319 => 164 | 320 => 165 | 337 => 166 | 338 => 167 | n => n, fun | 2 => 2 | 3 => 3 | 9 => 9 | 4 => 4 | 171 => 177 | 0 => 0 | 53 => 127 | 37 => 49 | 5 => 5 | 173 => 180 | 212 => 193 | 51 => 166 | 20 => 20 | 213 => 194 | 46 => 151 | 232 => 198 | 233 => 199 | n => n, fun | 17 => 5 | 18 => 6 | 19 => 7 | n => n⟩
theorem Tryd.fmtInt : Go.Proofs.LaysM.n173 Tryd.prog Tryd.fmtInt_ren := {
  mixed := by kernel_rfl
  f129 := Tryd.func162.trans (congrArg some (by kernel_rfl))
  f173 := Tryd.func115.trans (congrArg some (by kernel_rfl))
  f246 := Tryd.func140.trans (congrArg some (by kernel_rfl))
  f283 := Tryd.func154.trans (congrArg some (by kernel_rfl))
  f284 := Tryd.func155.trans (congrArg some (by kernel_rfl))
  f285 := Tryd.func156.trans (congrArg some (by kernel_rfl))
  f286 := Tryd.func157.trans (congrArg some (by kernel_rfl))
  f317 := Tryd.func161.trans (congrArg some (by kernel_rfl))
  f318 := Tryd.func163.trans (congrArg some (by kernel_rfl))
  f319 := Tryd.func164.trans (congrArg some (by kernel_rfl))
  f320 := Tryd.func165.trans (congrArg some (by kernel_rfl))
  f337 := Tryd.func166.trans (congrArg some (by kernel_rfl))
  f338 := Tryd.func167.trans (congrArg some (by kernel_rfl))
  t0 := Tryd.underlying0
  a0 := Tryd.isAgg0
  z0 := Tryd.sizeOf0
  v0 := Tryd.zeroValue0
  t2 := Tryd.underlying2
  a2 := Tryd.isAgg2
  z2 := Tryd.sizeOf2
  v2 := Tryd.zeroValue2
  t3 := Tryd.underlying3
  a3 := Tryd.isAgg3
  z3 := Tryd.sizeOf3
  v3 := Tryd.zeroValue3
  t4 := Tryd.underlying4
  a4 := Tryd.isAgg4
  z4 := Tryd.sizeOf4
  v4 := Tryd.zeroValue4
  t5 := Tryd.underlying5
  a5 := Tryd.isAgg5
  z5 := Tryd.sizeOf5
  v5 := Tryd.zeroValue5
  t9 := Tryd.underlying9
  a9 := Tryd.isAgg9
  z9 := Tryd.sizeOf9
  v9 := Tryd.zeroValue9
  t20 := Tryd.underlying20
  a20 := Tryd.isAgg20
  z20 := Tryd.sizeOf20
  v20 := Tryd.zeroValue20
  t37 := Tryd.underlying49
  a37 := Tryd.isAgg49
  z37 := Tryd.sizeOf49
  v37 := Tryd.zeroValue49
  t46 := Tryd.underlying151
  a46 := Tryd.isAgg151
  z46 := Tryd.sizeOf151
  v46 := Tryd.zeroValue151
  t51 := Tryd.underlying166
  a51 := Tryd.isAgg166
  z51 := Tryd.sizeOf166
  v51 := Tryd.zeroValue166
  t53 := Tryd.underlying127
  a53 := Tryd.isAgg127
  z53 := Tryd.sizeOf127
  v53 := Tryd.zeroValue127
  t171 := Tryd.underlying177
  a171 := Tryd.isAgg177
  z171 := Tryd.sizeOf177
  v171 := Tryd.zeroValue177
  t173 := Tryd.underlying180
  a173 := Tryd.isAgg180
  z173 := Tryd.sizeOf180
  v173 := Tryd.zeroValue180
  t212 := Tryd.underlying193
  a212 := Tryd.isAgg193
  z212 := Tryd.sizeOf193
  v212 := Tryd.zeroValue193
  t213 := Tryd.underlying194
  a213 := Tryd.isAgg194
  z213 := Tryd.sizeOf194
  t232 := Tryd.underlying198
  a232 := Tryd.isAgg198
  z232 := Tryd.sizeOf198
  v232 := Tryd.zeroValue198
  t233 := Tryd.underlying199
  a233 := Tryd.isAgg199
  z233 := Tryd.sizeOf199
  v233 := Tryd.zeroValue199
  g17 := by kernel_rfl
  g18 := by kernel_rfl
  g19 := by kernel_rfl
  i0 := by kernel_rfl
  i2 := by kernel_rfl
  i3 := by kernel_rfl
  i4 := by kernel_rfl
  i5 := by kernel_rfl
  i9 := by kernel_rfl
  i20 := by kernel_rfl
  i37 := by kernel_rfl
  i46 := by kernel_rfl
  i51 := by kernel_rfl
  i53 := by kernel_rfl
  i171 := by kernel_rfl
  i173 := by kernel_rfl
  i212 := by kernel_rfl
  i232 := by kernel_rfl
  i233 := by kernel_rfl
  m17 := by kernel_rfl
  m18 := by kernel_rfl
  m19 := by kernel_rfl }
def Pow10 (w : World) : Prop := Lib.TabIs Tryd.prog w "internal/strconv.uint64pow10" .u64 Lib.pow10Tab
theorem Pow10.below {w w' : World} (h : Pow10 w) (b : Below w.heap.size w w') : Pow10 w' := Lib.tabBelow_of_tabIs h w' b
theorem below_grow (w : World) (k : Nat) (os : Array Obj) : Below w.heap.size w (Go.Sort.grow (w.drewN k) os) :=
  ⟨rfl, rfl, rfl, by simp [Go.Sort.grow], fun i hi => by
    show ((w.drewN k).heap ++ os)[i]? = _
    rw [Array.getElem?_append_left (by show i < w.heap.size; omega)]; rfl⟩
theorem impl_Decimal (n : Int) (w : World) (h0 : -9223372036854775808 ≤ n) (h1 : n ≤ 9223372036854775807) (hp : Pow10 w) :
    Calls Tryd.prog 81 #[.int .i64 n] w fun e w' => e = .returned (.string (decT n)) ∧ Below w.heap.size w w' := by
  go_enter Tryd.func81, Tryd.ntmps81
  go_wp2_with (go_at_call 115; refine (Any.strconv_FormatInt_10 Tryd.fmtInt n h0 h1 w hp).mono ?_; rintro e w' ⟨rfl, k, os, rfl⟩)
  go_ret
  exact ⟨rfl, below_grow _ _ _⟩
end Go.Proofs.YtklgkbiobggbiaaDoor
