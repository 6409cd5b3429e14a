/- Texts of frequencies and names of partials: both sides compute the same. -/
import Derived.Test.YtklgkbiobggbiaaDoorRows
import Derived.Test.YtklgkbiobggbiaaDoorJoin
import Derived.Test.YtklgkbiobggbiaaDoorOneMeasure
import Derived.Shelf.Strings.Repeat
namespace Go.Proofs.YtklgkbiobggbiaaDoor
open Go.ChangeShapes Go.WideShapes Go.ChangeAt Go.RowKit Go.Deep Go.Joins
set_option linter.unusedVariables false
set_option maxRecDepth 100000
set_option linter.unusedSimpArgs false
def partT (k : Int) : ByteArray := if k = 1 then ⟨#[104, 117, 109]⟩ else if k = 2 then ⟨#[112, 114, 105, 109, 101]⟩ else if k = 3 then ⟨#[116, 105, 101, 114, 99, 101]⟩ else if k = 4 then ⟨#[113, 117, 105, 110, 116]⟩ else if k = 5 then ⟨#[110, 111, 109, 105, 110, 97, 108]⟩ else ⟨#[]⟩
theorem partT_size (k : Int) (h : 1 ≤ k ∧ k ≤ 5) : (partT k).size ≤ 7 := by
  have : k = 1 ∨ k = 2 ∨ k = 3 ∨ k = 4 ∨ k = 5 := by omega
  rcases this with rfl | rfl | rfl | rfl | rfl <;> decide

theorem spec_PartialName (k : Int) (w : World) (h : 1 ≤ k ∧ k ≤ 5) : Calls Tryd.prog 72 #[.int .i64 k] w fun e w' => e = .returned (.string (partT k)) ∧ Below w.heap.size w w' := by
  have : k = 1 ∨ k = 2 ∨ k = 3 ∨ k = 4 ∨ k = 5 := by omega
  rcases this with rfl | rfl | rfl | rfl | rfl
  · have hb : inB 1 1 5 = true := by decide
    clear h
    go_enter Tryd.func72, Tryd.ntmps72
    go_wp2_with (go_at_call 107; refine (spec_l04Partial_is _ _ hb).mono ?_; rintro e w' ⟨rfl, rfl⟩)
    go_ret
    exact ⟨rfl, by (repeat' (first | (with_reducible exact Below.refl _ _) | (with_reducible assumption) | (with_reducible refine below_dn ?_ _) | (with_reducible refine Below.drew ?_) | (with_reducible refine Below.alloc ?_ ?_ _) | (with_reducible refine Below.setCell ?_ ?_ _) | go_size))⟩
  · have hb : inB 2 1 5 = true := by decide
    clear h
    go_enter Tryd.func72, Tryd.ntmps72
    go_wp2_with (go_at_call 107; refine (spec_l04Partial_is _ _ hb).mono ?_; rintro e w' ⟨rfl, rfl⟩)
    go_ret
    exact ⟨rfl, by (repeat' (first | (with_reducible exact Below.refl _ _) | (with_reducible assumption) | (with_reducible refine below_dn ?_ _) | (with_reducible refine Below.drew ?_) | (with_reducible refine Below.alloc ?_ ?_ _) | (with_reducible refine Below.setCell ?_ ?_ _) | go_size))⟩
  · have hb : inB 3 1 5 = true := by decide
    clear h
    go_enter Tryd.func72, Tryd.ntmps72
    go_wp2_with (go_at_call 107; refine (spec_l04Partial_is _ _ hb).mono ?_; rintro e w' ⟨rfl, rfl⟩)
    go_ret
    exact ⟨rfl, by (repeat' (first | (with_reducible exact Below.refl _ _) | (with_reducible assumption) | (with_reducible refine below_dn ?_ _) | (with_reducible refine Below.drew ?_) | (with_reducible refine Below.alloc ?_ ?_ _) | (with_reducible refine Below.setCell ?_ ?_ _) | go_size))⟩
  · have hb : inB 4 1 5 = true := by decide
    clear h
    go_enter Tryd.func72, Tryd.ntmps72
    go_wp2_with (go_at_call 107; refine (spec_l04Partial_is _ _ hb).mono ?_; rintro e w' ⟨rfl, rfl⟩)
    go_ret
    exact ⟨rfl, by (repeat' (first | (with_reducible exact Below.refl _ _) | (with_reducible assumption) | (with_reducible refine below_dn ?_ _) | (with_reducible refine Below.drew ?_) | (with_reducible refine Below.alloc ?_ ?_ _) | (with_reducible refine Below.setCell ?_ ?_ _) | go_size))⟩
  · have hb : inB 5 1 5 = true := by decide
    clear h
    go_enter Tryd.func72, Tryd.ntmps72
    go_wp2_with (go_at_call 107; refine (spec_l04Partial_is _ _ hb).mono ?_; rintro e w' ⟨rfl, rfl⟩)
    go_ret
    exact ⟨rfl, by (repeat' (first | (with_reducible exact Below.refl _ _) | (with_reducible assumption) | (with_reducible refine below_dn ?_ _) | (with_reducible refine Below.drew ?_) | (with_reducible refine Below.alloc ?_ ?_ _) | (with_reducible refine Below.setCell ?_ ?_ _) | go_size))⟩
theorem impl_PartialName (k : Int) (w : World) (h : 1 ≤ k ∧ k ≤ 5) : Calls Tryd.prog 37 #[.int .i64 k] w fun e w' => e = .returned (.string (partT k)) ∧ Below w.heap.size w w' := by
  have : k = 1 ∨ k = 2 ∨ k = 3 ∨ k = 4 ∨ k = 5 := by omega
  rcases this with rfl | rfl | rfl | rfl | rfl
  · have hb : inB 1 1 5 = true := by decide
    clear h
    go_enter Tryd.func37, Tryd.ntmps37
    go_wp2_with (go_at_call 75; refine (impl_isPartial_is _ _ hb).mono ?_; rintro e w' ⟨rfl, rfl⟩)
    go_ret
    exact ⟨rfl, by (repeat' (first | (with_reducible exact Below.refl _ _) | (with_reducible assumption) | (with_reducible refine below_dn ?_ _) | (with_reducible refine Below.drew ?_) | (with_reducible refine Below.alloc ?_ ?_ _) | (with_reducible refine Below.setCell ?_ ?_ _) | go_size))⟩
  · have hb : inB 2 1 5 = true := by decide
    clear h
    go_enter Tryd.func37, Tryd.ntmps37
    go_wp2_with (go_at_call 75; refine (impl_isPartial_is _ _ hb).mono ?_; rintro e w' ⟨rfl, rfl⟩)
    go_ret
    exact ⟨rfl, by (repeat' (first | (with_reducible exact Below.refl _ _) | (with_reducible assumption) | (with_reducible refine below_dn ?_ _) | (with_reducible refine Below.drew ?_) | (with_reducible refine Below.alloc ?_ ?_ _) | (with_reducible refine Below.setCell ?_ ?_ _) | go_size))⟩
  · have hb : inB 3 1 5 = true := by decide
    clear h
    go_enter Tryd.func37, Tryd.ntmps37
    go_wp2_with (go_at_call 75; refine (impl_isPartial_is _ _ hb).mono ?_; rintro e w' ⟨rfl, rfl⟩)
    go_ret
    exact ⟨rfl, by (repeat' (first | (with_reducible exact Below.refl _ _) | (with_reducible assumption) | (with_reducible refine below_dn ?_ _) | (with_reducible refine Below.drew ?_) | (with_reducible refine Below.alloc ?_ ?_ _) | (with_reducible refine Below.setCell ?_ ?_ _) | go_size))⟩
  · have hb : inB 4 1 5 = true := by decide
    clear h
    go_enter Tryd.func37, Tryd.ntmps37
    go_wp2_with (go_at_call 75; refine (impl_isPartial_is _ _ hb).mono ?_; rintro e w' ⟨rfl, rfl⟩)
    go_ret
    exact ⟨rfl, by (repeat' (first | (with_reducible exact Below.refl _ _) | (with_reducible assumption) | (with_reducible refine below_dn ?_ _) | (with_reducible refine Below.drew ?_) | (with_reducible refine Below.alloc ?_ ?_ _) | (with_reducible refine Below.setCell ?_ ?_ _) | go_size))⟩
  · have hb : inB 5 1 5 = true := by decide
    clear h
    go_enter Tryd.func37, Tryd.ntmps37
    go_wp2_with (go_at_call 75; refine (impl_isPartial_is _ _ hb).mono ?_; rintro e w' ⟨rfl, rfl⟩)
    go_ret
    exact ⟨rfl, by (repeat' (first | (with_reducible exact Below.refl _ _) | (with_reducible assumption) | (with_reducible refine below_dn ?_ _) | (with_reducible refine Below.drew ?_) | (with_reducible refine Below.alloc ?_ ?_ _) | (with_reducible refine Below.setCell ?_ ?_ _) | go_size))⟩
theorem decD3 (r : Nat) (h : r < 1000) : Lib.decDigits (r + 1000) = [UInt8.ofNat 49, UInt8.ofNat (48 + r / 100), UInt8.ofNat (48 + r / 10 % 10), UInt8.ofNat (48 + r % 10)] := by
  have e1 : (r + 1000) / 10 / 10 / 10 = 1 := by omega
  have e2 : (r + 1000) / 10 / 10 % 10 = r / 100 := by omega
  have e3 : (r + 1000) / 10 % 10 = r / 10 % 10 := by omega
  have e4 : (r + 1000) % 10 = r % 10 := by omega
  rw [Lib.decDigits, dif_neg (by omega), Lib.decDigits, dif_neg (by omega), Lib.decDigits, dif_neg (by omega), Lib.decDigits, dif_pos (by omega), e1, e2, e3, e4]
  rfl
theorem decT_nat (u : Nat) : decT (u : Int) = ⟨(Lib.decDigits u).toArray⟩ := by
  unfold decT Lib.itoa
  rw [if_neg (by omega)]; rfl
/-- three digits -/
def pad3 (r : Nat) : ByteArray := ⟨#[UInt8.ofNat (48 + r / 100), UInt8.ofNat (48 + r / 10 % 10), UInt8.ofNat (48 + r % 10)]⟩
def hertzT (f : Int) : ByteArray := decT (f / 1000) ++ ⟨#[46]⟩ ++ pad3 (f % 1000).toNat
theorem decT1000 (r : Nat) (h : r < 1000) : decT ((r : Int) + 1000) = ⟨#[UInt8.ofNat 49, UInt8.ofNat (48 + r / 100), UInt8.ofNat (48 + r / 10 % 10), UInt8.ofNat (48 + r % 10)]⟩ := by
  have e : (r : Int) + 1000 = ((r + 1000 : Nat) : Int) := by push_cast; rfl
  rw [e, decT_nat, decD3 r h]
theorem decT_lt10 (r : Nat) (h : r < 10) : decT (r : Int) = ⟨#[UInt8.ofNat (48 + r % 10)]⟩ := by
  rw [decT_nat, Lib.decDigits, dif_pos h, Nat.mod_eq_of_lt h]
theorem decT_lt100 (r : Nat) (h0 : 10 ≤ r) (h : r < 100) : decT (r : Int) = ⟨#[UInt8.ofNat (48 + r / 10 % 10), UInt8.ofNat (48 + r % 10)]⟩ := by
  rw [decT_nat, Lib.decDigits, dif_neg (by omega), Lib.decDigits, dif_pos (by omega), Nat.mod_eq_of_lt (show r / 10 < 10 by omega)]
  rfl
theorem decT_lt1000 (r : Nat) (h0 : 100 ≤ r) (h : r < 1000) : decT (r : Int) = pad3 r := by
  rw [decT_nat, Lib.decDigits, dif_neg (by omega), Lib.decDigits, dif_neg (by omega), Lib.decDigits, dif_pos (by omega), show r / 10 / 10 = r / 100 by omega]
  rfl
def Tryd.layRep_ren : Go.Shelf.Ren := ⟨fun | 105 => 133 | 212 => 146 | 99 => 147 | 165 => 91 | 166 => 92 | 170 => 148 | 169 => 93 | 263 => 158 | 264 => 159 | 206 => 134 | 240 => 120 | 241 => 121 | 276 => 141 | 277 => 142 | n => n, fun | 9 => 9 | 3 => 3 | 4 => 4 | 20 => 20 | 0 => 0 | 46 => 151 | 109 => 169 | 5 => 5 | 72 => 122 | 76 => 124 | 51 => 166 | 146 => 167 | 53 => 127 | 148 => 187 | 70 => 120 | 37 => 49 | 75 => 109 | 127 => 145 | 164 => 163 | 80 => 126 | n => n, fun | n => n⟩
theorem Tryd.layRep : Go.Proofs.Lays.n105 Tryd.prog Tryd.layRep_ren := {
  mixed := by kernel_rfl
  f99 := Tryd.func147.trans (congrArg some (by kernel_rfl))
  f105 := Tryd.func133.trans (congrArg some (by kernel_rfl))
  f165 := Tryd.func91.trans (congrArg some (by kernel_rfl))
  f166 := Tryd.func92.trans (congrArg some (by kernel_rfl))
  f169 := Tryd.func93.trans (congrArg some (by kernel_rfl))
  f170 := Tryd.func148.trans (congrArg some (by kernel_rfl))
  f206 := Tryd.func134.trans (congrArg some (by kernel_rfl))
  f212 := Tryd.func146.trans (congrArg some (by kernel_rfl))
  f240 := Tryd.func120.trans (congrArg some (by kernel_rfl))
  f241 := Tryd.func121.trans (congrArg some (by kernel_rfl))
  f263 := Tryd.func158.trans (congrArg some (by kernel_rfl))
  f264 := Tryd.func159.trans (congrArg some (by kernel_rfl))
  f276 := Tryd.func141.trans (congrArg some (by kernel_rfl))
  f277 := Tryd.func142.trans (congrArg some (by kernel_rfl))
  t0 := Tryd.underlying0
  a0 := Tryd.isAgg0
  z0 := Tryd.sizeOf0
  v0 := Tryd.zeroValue0
  t3 := Tryd.underlying3
  a3 := Tryd.isAgg3
  z3 := Tryd.sizeOf3
  v3 := Tryd.zeroValue3
  t4 := Tryd.underlying4
  a4 := Tryd.isAgg4
  z4 := Tryd.sizeOf4
  v4 := Tryd.zeroValue4
  t5 := Tryd.underlying5
  a5 := Tryd.isAgg5
  z5 := Tryd.sizeOf5
  v5 := Tryd.zeroValue5
  t9 := Tryd.underlying9
  a9 := Tryd.isAgg9
  z9 := Tryd.sizeOf9
  v9 := Tryd.zeroValue9
  t20 := Tryd.underlying20
  a20 := Tryd.isAgg20
  z20 := Tryd.sizeOf20
  v20 := Tryd.zeroValue20
  t37 := Tryd.underlying49
  a37 := Tryd.isAgg49
  z37 := Tryd.sizeOf49
  v37 := Tryd.zeroValue49
  t46 := Tryd.underlying151
  a46 := Tryd.isAgg151
  z46 := Tryd.sizeOf151
  v46 := Tryd.zeroValue151
  t51 := Tryd.underlying166
  a51 := Tryd.isAgg166
  z51 := Tryd.sizeOf166
  v51 := Tryd.zeroValue166
  t53 := Tryd.underlying127
  a53 := Tryd.isAgg127
  z53 := Tryd.sizeOf127
  v53 := Tryd.zeroValue127
  t70 := Tryd.underlying120
  a70 := Tryd.isAgg120
  z70 := Tryd.sizeOf120
  v70 := Tryd.zeroValue120
  t72 := Tryd.underlying122
  a72 := Tryd.isAgg122
  z72 := Tryd.sizeOf122
  v72 := Tryd.zeroValue122
  t75 := Tryd.underlying109
  a75 := Tryd.isAgg109
  z75 := Tryd.sizeOf109
  v75 := Tryd.zeroValue109
  t76 := Tryd.underlying124
  a76 := Tryd.isAgg124
  z76 := Tryd.sizeOf124
  v76 := Tryd.zeroValue124
  t109 := Tryd.underlying169
  a109 := Tryd.isAgg169
  z109 := Tryd.sizeOf169
  v109 := Tryd.zeroValue169
  t127 := Tryd.underlying145
  a127 := Tryd.isAgg145
  z127 := Tryd.sizeOf145
  v127 := Tryd.zeroValue145
  t146 := Tryd.underlying167
  a146 := Tryd.isAgg167
  z146 := Tryd.sizeOf167
  v146 := Tryd.zeroValue167
  t148 := Tryd.underlying187
  a148 := Tryd.isAgg187
  z148 := Tryd.sizeOf187
  v148 := Tryd.zeroValue187
  t164 := Tryd.underlying163
  a164 := Tryd.isAgg163
  z164 := Tryd.sizeOf163
  v164 := Tryd.zeroValue163 }
open Go.Shelf in
theorem extraRep : Builder.Extra Tryd.prog Tryd.layRep_ren where
  sizeBuilder := by kernel_rfl
  liesBuilder := by kernel_rfl
  t5 := Tryd.fmtInt.t5
  a5 := Tryd.fmtInt.a5
  z5 := Tryd.fmtInt.z5
  v5 := Tryd.fmtInt.v5
  infoByte := by kernel_rfl
  cellsByte := by kernel_rfl
  sizeByte := by kernel_rfl
  neB5 := by decide
theorem impl_rep (c : Nat) (w : World) (hc : c ≤ 3) : Calls Tryd.prog 133 #[.string ⟨#[48]⟩, .int .i64 c] w fun e w' => e = .returned (.string ⟨(List.replicate c (48 : UInt8)).toArray⟩) ∧ Below w.heap.size w w' := by
  have h := Any.strings_Repeat Tryd.layRep extraRep ⟨#[48]⟩ c w (by omega) (by have h1 : (⟨#[48]⟩ : ByteArray).size = 1 := rfl; rw [h1]; omega)
  have e : Lib.repeatL (⟨#[48]⟩ : ByteArray).data.toList c = List.replicate c 48 := by
    have : c = 0 ∨ c = 1 ∨ c = 2 ∨ c = 3 := by omega
    rcases this with rfl | rfl | rfl | rfl <;> rfl
  rw [e] at h
  exact h
theorem impl_padded (r : Nat) (w : World) (hr : r < 1000) (hp : Pow10 w) : Calls Tryd.prog 111 #[.int .i64 r, .int .i64 3] w fun e w' => e = .returned (.string (pad3 r)) ∧ Below w.heap.size w w' := by
  have HD := Lib.hid (impl_Decimal r w (by omega) (by omega) hp)
  clear hp
  rcases (show r < 10 ∨ (10 ≤ r ∧ r < 100) ∨ 100 ≤ r from by omega) with h | ⟨h0, h⟩ | h
  · have ed := decT_lt10 r h
    rw [ed] at HD
    have hs : ((⟨#[UInt8.ofNat (48 + r % 10)]⟩ : ByteArray) : ByteArray).size = 1 := rfl
    have HR := Lib.hid (fun w' => impl_rep 2 w' (by omega))
    have er : Hid (pad3 r = ⟨(List.replicate 2 (48 : UInt8)).toArray⟩ ++ (⟨#[UInt8.ofNat (48 + r % 10)]⟩ : ByteArray)) := Lib.hid (by
      refine ba_ext ?_
      rw [ByteArray.data_append]
      unfold pad3
      rw [show r / 100 = 0 by omega, show r / 10 % 10 = 0 by omega]; rfl)
    have hs2 : (⟨(List.replicate 2 (48 : UInt8)).toArray⟩ : ByteArray).size = 2 := rfl
    generalize hX : (⟨(List.replicate 2 (48 : UInt8)).toArray⟩ : ByteArray) = X at *
    generalize hY : (⟨#[UInt8.ofNat (48 + r % 10)]⟩ : ByteArray) = Y at *
    clear hX hY ed
    go_enter Tryd.func111, Tryd.ntmps111
    go_wp2_with fail
    refine HD.out.mono ?_; rintro e1 w1 ⟨rfl, b1⟩
    go_wp2_with fail
    refine (HR.out _).mono ?_; rintro e2 w2 ⟨rfl, b2⟩
    have B2 := bnext b1 b2
    clear b1 b2
    go_wp2_with fail
    go_ret
    exact ⟨congrArg (fun z => Ending.returned (.string z)) er.out.symm, B2⟩
  · have ed := decT_lt100 r h0 h
    rw [ed] at HD
    have hs : ((⟨#[UInt8.ofNat (48 + r / 10 % 10), UInt8.ofNat (48 + r % 10)]⟩ : ByteArray) : ByteArray).size = 2 := rfl
    have HR := Lib.hid (fun w' => impl_rep 1 w' (by omega))
    have er : Hid (pad3 r = ⟨(List.replicate 1 (48 : UInt8)).toArray⟩ ++ (⟨#[UInt8.ofNat (48 + r / 10 % 10), UInt8.ofNat (48 + r % 10)]⟩ : ByteArray)) := Lib.hid (by
      refine ba_ext ?_
      rw [ByteArray.data_append]
      unfold pad3
      rw [show r / 100 = 0 by omega]; rfl)
    have hs2 : (⟨(List.replicate 1 (48 : UInt8)).toArray⟩ : ByteArray).size = 1 := rfl
    generalize hX : (⟨(List.replicate 1 (48 : UInt8)).toArray⟩ : ByteArray) = X at *
    generalize hY : (⟨#[UInt8.ofNat (48 + r / 10 % 10), UInt8.ofNat (48 + r % 10)]⟩ : ByteArray) = Y at *
    clear hX hY ed
    go_enter Tryd.func111, Tryd.ntmps111
    go_wp2_with fail
    refine HD.out.mono ?_; rintro e1 w1 ⟨rfl, b1⟩
    go_wp2_with fail
    refine (HR.out _).mono ?_; rintro e2 w2 ⟨rfl, b2⟩
    have B2 := bnext b1 b2
    clear b1 b2
    go_wp2_with fail
    go_ret
    exact ⟨congrArg (fun z => Ending.returned (.string z)) er.out.symm, B2⟩
  · have ed := decT_lt1000 r h hr
    rw [ed] at HD
    have hs : ((pad3 r) : ByteArray).size = 3 := rfl
    have HR := Lib.hid (fun w' => impl_rep 0 w' (by omega))
    have er : Hid (pad3 r = ⟨(List.replicate 0 (48 : UInt8)).toArray⟩ ++ (pad3 r)) := Lib.hid (by
      refine ba_ext ?_
      rw [ByteArray.data_append]
      unfold pad3
      rfl)
    have hs2 : (⟨(List.replicate 0 (48 : UInt8)).toArray⟩ : ByteArray).size = 0 := rfl
    generalize hX : (⟨(List.replicate 0 (48 : UInt8)).toArray⟩ : ByteArray) = X at *
    generalize hY : (pad3 r) = Y at *
    clear hX hY ed
    go_enter Tryd.func111, Tryd.ntmps111
    go_wp2_with fail
    refine HD.out.mono ?_; rintro e1 w1 ⟨rfl, b1⟩
    go_wp2_with fail
    refine (HR.out _).mono ?_; rintro e2 w2 ⟨rfl, b2⟩
    have B2 := bnext b1 b2
    clear b1 b2
    go_wp2_with fail
    go_ret
    exact ⟨congrArg (fun z => Ending.returned (.string z)) er.out.symm, B2⟩
theorem decT_size20 (n : Int) (h0 : 0 < n) (h1 : n ≤ 9223372036854775807) : (decT n).size ≤ 20 := by
  obtain ⟨N, rfl⟩ : ∃ N : Nat, n = (N : Int) := ⟨n.toNat, by omega⟩
  have hd := decD_len N (by omega)
  unfold decD at hd
  rw [if_neg (by omega)] at hd
  rw [decT_nat]
  show (Lib.decDigits N).toArray.size ≤ 20
  simpa using hd
set_option maxHeartbeats 2000000 in
theorem impl_HertzText (f : Int) (w : World) (h : 10000 ≤ f ∧ f ≤ 20000000) (hp : Pow10 w) : Calls Tryd.prog 76 #[.int .i64 f] w fun e w' => e = .returned (.string (hertzT f)) ∧ Below w.heap.size w w' := by
  have hb : inB f 10000 20000000 = true := inB_mk h
  have hsz := decT_size20 (f / 1000) (by omega) (by omega)
  have HD := Lib.hid (impl_Decimal (f / 1000) w (by omega) (by omega) hp)
  have HQ := Lib.hid (fun w' (h' : Below w.heap.size w w') => impl_padded (f % 1000).toNat w' (by omega) (hp.below h'))
  have e : Hid (hertzT f = decT (f / 1000) ++ ⟨#[46]⟩ ++ pad3 (f % 1000).toNat) := (rfl : hertzT f = decT (f / 1000) ++ ⟨#[46]⟩ ++ pad3 (f % 1000).toNat)
  rw [show (((f % 1000).toNat : Nat) : Int) = f % 1000 from by omega] at HQ
  have s1 : (pad3 (f % 1000).toNat).size = 3 := rfl
  have s2 : (decT (f / 1000) ++ ⟨#[46]⟩).size = (decT (f / 1000)).size + 1 := by rw [ByteArray.size_append]; rfl
  have s3 : (⟨#[46]⟩ : ByteArray).size = 1 := rfl
  generalize decT (f / 1000) = D at *
  generalize pad3 (f % 1000).toNat = P at *
  clear hp
  go_enter Tryd.func76, Tryd.ntmps76
  go_wp2_with (first | (go_at_call 77; refine (impl_IsFrequency_is _ _ hb).mono ?_; rintro e w' ⟨rfl, rfl⟩))
  refine HD.out.mono ?_; rintro e1 w1 ⟨rfl, b1⟩
  have B1 := Lib.hid b1; clear b1
  go_wp2_with fail
  refine (HQ.out _ B1.out).mono ?_; rintro e2 w2 ⟨rfl, b2⟩
  have B2 := Lib.hid (bnext B1.out b2); clear b2
  go_wp2_with fail
  go_ret
  exact ⟨by rw [e.out]; try rfl, B2.out⟩
end Go.Proofs.YtklgkbiobggbiaaDoor
