/- Contracts and plain facts, joined: Dec, NumL, Join, PartsL, NumT, Dec0, ListTx. -/
import Derived.Test.YtklgkbiobggbiaaDoorRows
import Derived.Test.YtklgkbiobggbiaaDoorZFnAlloysB
import Derived.Shelf.Lay
import Derived.Shelf.Strconv.Itoa4
import Derived.Ground.NamesProg
import Derived.Lib.ItoaNum
import Derived.Lib.LaidTab
import Derived.Lib.AppendIntMem
import Derived.Laws.IdiomStrings
import Derived.Lib.ParseIntB
import Derived.Lib.Atoi
import Derived.Lib.Strings
import Derived.Shelf.Strings.OnBuilder
import Derived.Lib.Split
import Derived.Lib.SplitLaws
import Derived.Lib.IndexMore
namespace Go.Proofs.YtklgkbiobggbiaaDoor
open Go.ChangeShapes Go.WideShapes Go.ChangeAt Go.RowKit Go.Deep Go.Joins
set_option linter.unusedVariables false
set_option maxRecDepth 100000
set_option linter.unusedSimpArgs false
/-- a number in decimal -/
def decT (n : Int) : ByteArray := ⟨(Lib.itoa n).toArray⟩
def u8v (b : UInt8) : Value := .int .u8 (b.toNat : Int)
theorem u8_one (l : List UInt8) : ∀ u ∈ l.map u8v, u.oneCell' = true := by
  intro u hu
  obtain ⟨x, _, rfl⟩ := List.mem_map.1 hu
  rfl
/-- the digits of u; none for 0 -/
def decD (u : Nat) : List UInt8 := if u = 0 then [] else Lib.decDigits u
theorem decD_step {u : Nat} (h : 0 < u) : decD u = decD (u / 10) ++ [UInt8.ofNat (48 + u % 10)] := by
  unfold decD
  rw [if_neg (by omega), Lib.decDigits]
  by_cases h1 : u < 10
  · rw [dif_pos h1, if_pos (by omega), Nat.mod_eq_of_lt h1]; rfl
  · rw [dif_neg h1, if_neg (by omega)]
theorem decD_len (u : Nat) (h : u ≤ 9223372036854775808) : (decD u).length ≤ 20 := by
  unfold decD
  split
  · simp
  · rw [Lib.decDigits_length]
    rcases Nat.lt_or_ge 20 (Lib.nDigits u) with h1 | h1
    · exfalso
      have h2 : ∀ k u, Lib.nDigits u = k + 1 → 1 ≤ u → 10 ^ k ≤ u := fun k => by
        induction k with
        | zero => intro u _ h; omega
        | succ k ih =>
          intro u he hu
          by_cases h10 : u < 10
          · rw [Lib.nDigits_small h10] at he; omega
          · rw [Lib.nDigits_big h10] at he
            have := ih (u / 10) (by omega) (by omega)
            rw [Nat.pow_succ]; omega
      have h3 := h2 (Lib.nDigits u - 1) u (by omega) (by omega)
      have h4 : 10 ^ 20 ≤ 10 ^ (Lib.nDigits u - 1) := Nat.pow_le_pow_right (by omega) (by omega)
      omega
    · exact h1
theorem info_u8 : (Tryd.prog.info? 5).map (fun i => (i.zero, i.size, i.bytes)) = some (some (.int .u8 0), 1, 1) := by kernel_rfl
theorem u8_snoc (xs : List UInt8) (a : UInt8) : (xs ++ [a]).map u8v = xs.map u8v ++ [u8v a] := by simp
theorem digit_u8 (u : Nat) : u8v (UInt8.ofNat (48 + u % 10)) = .int .u8 (48 + (u : Int) % 10) := by
  unfold u8v
  have : (UInt8.ofNat (48 + u % 10)).toNat = 48 + u % 10 := by rw [UInt8.toNat_ofNat']; omega
  rw [this]; rfl
/-- 'string(b)' of bytes of one's own -/
theorem conv_own {w : World} {base : Nat} {v : Value} {l : List UInt8} (h : w.ownsRow base 5 1 v l.length (l.map u8v)) : (convert 49 9 v).run Tryd.prog w = .ok (.string ⟨l.toArray⟩) w := by
  rcases own_form h with ⟨rfl, h0⟩ | ⟨g, cap, rfl⟩
  · have : l = [] := List.eq_nil_of_length_eq_zero h0
    subst this
    have := run_convert_bytes_string (P := Tryd.prog) w 49 9 5 none 0 0 Tryd.underlying49 Tryd.underlying5 Tryd.underlying9
    rw [this]
    simp [Conv.bytesToString]
    rfl
  · refine run_convert_bytes_back (P := Tryd.prog) w 49 9 5 ⟨g, 0, none⟩ cap l Tryd.underlying49 Tryd.underlying5 Tryd.underlying9 (fun j hj => ?_)
    obtain ⟨hL, ao', cap', e, hcap, hmax, hnil, hsome⟩ := own_rd h
    obtain ⟨b, off, e1, hb, hc⟩ := hsome (by omega)
    injection e with q1 q2 q3
    subst q1
    injection e1 with e2
    injection e2 with e3 e4 e5
    subst e3; subst e4
    have hadd : (⟨g, 0, none⟩ : Addr).add j = ⟨g, 0 + j, none⟩ := by unfold Addr.add; split <;> simp_all
    rw [hadd, hc j (by omega)]
    simp [List.getElem?_eq_getElem hj, u8v]
def Tryd.fmtInt_ren : Go.Shelf.Ren := ⟨fun | 173 => 115 | 246 => 140 | 283 => 154 | 284 => 155 | 285 => 156 | 286 => 157 | 129 => 162 | 317 => 161 | 318 => 163 | 319 => 164 | 320 => 165 | 337 => 166 | 338 => 167 | n => n, fun | 2 => 2 | 3 => 3 | 9 => 9 | 4 => 4 | 171 => 177 | 0 => 0 | 53 => 127 | 37 => 49 | 5 => 5 | 173 => 180 | 212 => 193 | 51 => 166 | 20 => 20 | 213 => 194 | 46 => 151 | 232 => 198 | 233 => 199 | n => n, fun | 17 => 5 | 18 => 6 | 19 => 7 | n => n⟩
theorem Tryd.fmtInt : Go.Proofs.LaysM.n173 Tryd.prog Tryd.fmtInt_ren := {
  mixed := by kernel_rfl
  f129 := Tryd.func162.trans (congrArg some (by kernel_rfl))
  f173 := Tryd.func115.trans (congrArg some (by kernel_rfl))
  f246 := Tryd.func140.trans (congrArg some (by kernel_rfl))
  f283 := Tryd.func154.trans (congrArg some (by kernel_rfl))
  f284 := Tryd.func155.trans (congrArg some (by kernel_rfl))
  f285 := Tryd.func156.trans (congrArg some (by kernel_rfl))
  f286 := Tryd.func157.trans (congrArg some (by kernel_rfl))
  f317 := Tryd.func161.trans (congrArg some (by kernel_rfl))
  f318 := Tryd.func163.trans (congrArg some (by kernel_rfl))
  f319 := Tryd.func164.trans (congrArg some (by kernel_rfl))
  f320 := Tryd.func165.trans (congrArg some (by kernel_rfl))
  f337 := Tryd.func166.trans (congrArg some (by kernel_rfl))
  f338 := Tryd.func167.trans (congrArg some (by kernel_rfl))
  t0 := Tryd.underlying0
  a0 := Tryd.isAgg0
  z0 := Tryd.sizeOf0
  v0 := Tryd.zeroValue0
  t2 := Tryd.underlying2
  a2 := Tryd.isAgg2
  z2 := Tryd.sizeOf2
  v2 := Tryd.zeroValue2
  t3 := Tryd.underlying3
  a3 := Tryd.isAgg3
  z3 := Tryd.sizeOf3
  v3 := Tryd.zeroValue3
  t4 := Tryd.underlying4
  a4 := Tryd.isAgg4
  z4 := Tryd.sizeOf4
  v4 := Tryd.zeroValue4
  t5 := Tryd.underlying5
  a5 := Tryd.isAgg5
  z5 := Tryd.sizeOf5
  v5 := Tryd.zeroValue5
  t9 := Tryd.underlying9
  a9 := Tryd.isAgg9
  z9 := Tryd.sizeOf9
  v9 := Tryd.zeroValue9
  t20 := Tryd.underlying20
  a20 := Tryd.isAgg20
  z20 := Tryd.sizeOf20
  v20 := Tryd.zeroValue20
  t37 := Tryd.underlying49
  a37 := Tryd.isAgg49
  z37 := Tryd.sizeOf49
  v37 := Tryd.zeroValue49
  t46 := Tryd.underlying151
  a46 := Tryd.isAgg151
  z46 := Tryd.sizeOf151
  v46 := Tryd.zeroValue151
  t51 := Tryd.underlying166
  a51 := Tryd.isAgg166
  z51 := Tryd.sizeOf166
  v51 := Tryd.zeroValue166
  t53 := Tryd.underlying127
  a53 := Tryd.isAgg127
  z53 := Tryd.sizeOf127
  v53 := Tryd.zeroValue127
  t171 := Tryd.underlying177
  a171 := Tryd.isAgg177
  z171 := Tryd.sizeOf177
  v171 := Tryd.zeroValue177
  t173 := Tryd.underlying180
  a173 := Tryd.isAgg180
  z173 := Tryd.sizeOf180
  v173 := Tryd.zeroValue180
  t212 := Tryd.underlying193
  a212 := Tryd.isAgg193
  z212 := Tryd.sizeOf193
  v212 := Tryd.zeroValue193
  t213 := Tryd.underlying194
  a213 := Tryd.isAgg194
  z213 := Tryd.sizeOf194
  t232 := Tryd.underlying198
  a232 := Tryd.isAgg198
  z232 := Tryd.sizeOf198
  v232 := Tryd.zeroValue198
  t233 := Tryd.underlying199
  a233 := Tryd.isAgg199
  z233 := Tryd.sizeOf199
  v233 := Tryd.zeroValue199
  g17 := by kernel_rfl
  g18 := by kernel_rfl
  g19 := by kernel_rfl
  i0 := by kernel_rfl
  i2 := by kernel_rfl
  i3 := by kernel_rfl
  i4 := by kernel_rfl
  i5 := by kernel_rfl
  i9 := by kernel_rfl
  i20 := by kernel_rfl
  i37 := by kernel_rfl
  i46 := by kernel_rfl
  i51 := by kernel_rfl
  i53 := by kernel_rfl
  i171 := by kernel_rfl
  i173 := by kernel_rfl
  i212 := by kernel_rfl
  i232 := by kernel_rfl
  i233 := by kernel_rfl
  m17 := by kernel_rfl
  m18 := by kernel_rfl
  m19 := by kernel_rfl }
def Pow10 (w : World) : Prop := Lib.TabIs Tryd.prog w "internal/strconv.uint64pow10" .u64 Lib.pow10Tab
theorem Pow10.below {w w' : World} (h : Pow10 w) (b : Below w.heap.size w w') : Pow10 w' := Lib.tabBelow_of_tabIs h w' b
theorem below_grow (w : World) (k : Nat) (os : Array Obj) : Below w.heap.size w (Go.Sort.grow (w.drewN k) os) :=
  ⟨rfl, rfl, rfl, by simp [Go.Sort.grow], fun i hi => by
    show ((w.drewN k).heap ++ os)[i]? = _
    rw [Array.getElem?_append_left (by show i < w.heap.size; omega)]; rfl⟩
theorem impl_Decimal (n : Int) (w : World) (h0 : -9223372036854775808 ≤ n) (h1 : n ≤ 9223372036854775807) (hp : Pow10 w) :
    Calls Tryd.prog 81 #[.int .i64 n] w fun e w' => e = .returned (.string (decT n)) ∧ Below w.heap.size w w' := by
  go_enter Tryd.func81, Tryd.ntmps81
  go_wp2_with (go_at_call 115; refine (Any.strconv_FormatInt_10 Tryd.fmtInt n h0 h1 w hp).mono ?_; rintro e w' ⟨rfl, k, os, rfl⟩)
  go_ret
  exact ⟨rfl, below_grow _ _ _⟩
end Go.Proofs.YtklgkbiobggbiaaDoor
namespace Go.Proofs.YtklgkbiobggbiaaDoor
open Go.ChangeShapes Go.WideShapes Go.ChangeAt Go.RowKit Go.Deep Go.Joins
set_option linter.unusedVariables false
set_option maxRecDepth 100000
set_option linter.unusedSimpArgs false
/-- where the digits begin -/
def atN (s : ByteArray) : Nat := if s.data.toList.head? = some 45 then 1 else 0
def badN (s : ByteArray) : Prop := s.size ≤ atN s ∨ 18 < s.size - atN s ∨ ((s.data.toList.drop (atN s)).head? = some 48 ∧ 1 < s.size)
instance (s : ByteArray) : Decidable (badN s) := by unfold badN; infer_instance
/-- the number with a decimal text -/
def numS (s : ByteArray) : Option Int := if badN s then none else (Lib.decFrom 0 (s.data.toList.drop (atN s))).map fun u => if atN s = 1 then -(u : Int) else (u : Int)
def numV (s : ByteArray) : Int := (numS s).getD 0
theorem num_none {s : ByteArray} (h : numS s = none) : numV s = 0 ∧ (numS s).isSome = false := by unfold numV; rw [h]; exact ⟨rfl, rfl⟩
theorem num_some {s : ByteArray} {v : Int} (h : numS s = some v) : numV s = v ∧ (numS s).isSome = true := by unfold numV; rw [h]; exact ⟨rfl, rfl⟩
theorem numS_bad {s : ByteArray} (h : badN s) : numS s = none := if_pos h
theorem numS_ok {s : ByteArray} {u : Nat} (h : ¬ badN s) (hu : Lib.decFrom 0 (s.data.toList.drop (atN s)) = some u) : numS s = some (if atN s = 1 then -(u : Int) else (u : Int)) := by
  unfold numS
  rw [if_neg h, hu]; rfl
theorem numS_digit {s : ByteArray} {k : Nat} {c : UInt8} (h : (s.data.toList.drop (atN s))[k]? = some c) (hc : inB c.toNat 48 57 = false) : numS s = none := by
  by_cases hb : badN s
  · exact numS_bad hb
  · unfold numS
    rw [if_neg hb]
    cases hd : Lib.decFrom 0 (s.data.toList.drop (atN s)) with
    | none => rfl
    | some n =>
      obtain ⟨d, hd2⟩ := Lib.digit_of_decFrom _ _ _ hd k c h
      have := Lib.digitVal_eq hd2
      rw [inB_mk ⟨by omega, by omega⟩] at hc
      cases hc
theorem digitVal_of {c : UInt8} (h : inB c.toNat 48 57 = true) : Lib.digitVal c = some (c.toNat - 48) := by
  have := inB_true h
  unfold Lib.digitVal
  rw [if_pos ⟨by omega, by omega⟩]
theorem decFrom_snoc : ∀ (l : List UInt8) (acc : Nat) (b : UInt8), Lib.decFrom acc (l ++ [b]) = (Lib.decFrom acc l).bind fun m => (Lib.digitVal b).map fun d => m * 10 + d
  | [], acc, b => by
    simp only [List.nil_append, Lib.decFrom]
    cases Lib.digitVal b <;> rfl
  | a :: l, acc, b => by
    simp only [List.cons_append, Lib.decFrom]
    cases Lib.digitVal a with
    | none => rfl
    | some d => exact decFrom_snoc l _ b
theorem digit_byte {b : UInt8} {d : Nat} (h : Lib.digitVal b = some d) : UInt8.ofNat (48 + d) = b ∧ d < 10 := by
  obtain ⟨h1, h2, rfl⟩ := Lib.digitVal_eq h
  refine ⟨?_, by omega⟩
  rw [show 48 + (b.toNat - 48) = b.toNat from by omega]
  exact UInt8.ofNat_toNat
/-- rows of digits without a leading 0 -/
theorem canon : ∀ (n : Nat) (r : List UInt8), r.length = n + 1 → ∀ u, Lib.decFrom 0 r = some u → r.head? ≠ some 48 → Lib.decDigits u = r ∧ 0 < u
  | 0, r, hl, u, hu, hh => by
    match r, hl with
    | [b], _ =>
      simp only [Lib.decFrom] at hu
      cases hd : Lib.digitVal b with
      | none => rw [hd] at hu; cases hu
      | some d =>
        rw [hd] at hu
        obtain ⟨e, h10⟩ := digit_byte hd
        obtain rfl : u = d := by simpa using hu.symm
        refine ⟨by rw [Lib.decDigits, dif_pos h10, e], ?_⟩
        rcases Nat.eq_zero_or_pos u with q | q
        · subst q; exact absurd (by rw [← e]; rfl) hh
        · exact q
  | n + 1, r, hl, u, hu, hh => by
    have hne : r ≠ [] := fun q => by rw [q] at hl; simp at hl
    obtain ⟨r', b, rfl⟩ : ∃ r' b, r = r' ++ [b] := ⟨r.dropLast, r.getLast hne, (List.dropLast_concat_getLast hne).symm⟩
    have hl' : r'.length = n + 1 := by simpa using hl
    rw [decFrom_snoc] at hu
    cases hm : Lib.decFrom 0 r' with
    | none => rw [hm] at hu; cases hu
    | some m =>
      rw [hm] at hu
      cases hd : Lib.digitVal b with
      | none => rw [hd] at hu; cases hu
      | some d =>
        rw [hd] at hu
        obtain ⟨e, h10⟩ := digit_byte hd
        have hu2 : m * 10 + d = u := by simpa using hu
        have hh' : r'.head? ≠ some 48 := fun q => hh (by
          match r', hl' with
          | c :: r'', _ => exact q)
        obtain ⟨h1, h2⟩ := canon n r' hl' m hm hh'
        refine ⟨?_, by omega⟩
        rw [Lib.decDigits, dif_neg (by omega), show u / 10 = m from by omega, show u % 10 = d from by omega, h1, e]
theorem decDigits_head : ∀ (u : Nat), 0 < u → (Lib.decDigits u).head? ≠ some 48 := by
  intro u
  induction u using Nat.strongRecOn with
  | _ u ih =>
    intro hu
    by_cases h : u < 10
    · rw [Lib.decDigits, dif_pos h]
      intro q
      have q2 : UInt8.ofNat (48 + u) = 48 := by simpa using q
      have := congrArg UInt8.toNat q2
      rw [UInt8.toNat_ofNat_of_lt' (by show 48 + u < 256; omega)] at this
      have e : (48 : UInt8).toNat = 48 := rfl
      omega
    · rw [Lib.decDigits, dif_neg h]
      have := ih (u / 10) (by omega) (by omega)
      intro q
      refine this ?_
      match hd : Lib.decDigits (u / 10) with
      | [] =>
        have hl := Lib.decDigits_length (u / 10)
        have hp := Lib.nDigits_pos (u / 10)
        rw [hd] at hl
        simp at hl
        omega
      | c :: r => rw [hd] at q; exact q
/-- the text of the number with a row of digits is that row, unless a 0 leads it -/
theorem canon_iff {r : List UInt8} {u : Nat} (h0 : r ≠ []) (hu : Lib.decFrom 0 r = some u) : Lib.decDigits u = r ↔ ¬ (r.head? = some 48 ∧ 1 < r.length) := by
  have hl : r.length ≠ 0 := fun q => h0 (List.eq_nil_of_length_eq_zero q)
  constructor
  · rintro e ⟨h1, h2⟩
    by_cases hz : u = 0
    · subst hz
      have e0 : Lib.decDigits 0 = [48] := by rw [Lib.decDigits, dif_pos (by decide)]; rfl
      rw [e0] at e
      rw [← e] at h2
      simp at h2
    · exact decDigits_head u (by omega) (by rw [e]; exact h1)
  · intro hn
    by_cases h1 : r.head? = some 48
    · have hl1 : r.length = 1 := by
        have : ¬ 1 < r.length := fun q => hn ⟨h1, q⟩
        omega
      match r, hl1 with
      | [b], _ =>
        obtain rfl : b = 48 := by simpa using h1
        have : Lib.decFrom 0 [48] = some 0 := rfl
        rw [this] at hu
        obtain rfl : u = 0 := by simpa using hu.symm
        rw [Lib.decDigits, dif_pos (by decide)]; rfl
    · exact (canon (r.length - 1) r (by omega) u hu h1).1
theorem parseM_small : ∀ (l : List UInt8) (acc : Nat), (acc + 1) * 10 ^ l.length ≤ 1000000000000000000 → Lib.parseUintM (2 ^ 64 - 1) acc l = match Lib.decFrom acc l with | some u => .ok u | none => Lib.NumEnd.syntax
  | [], acc, _ => rfl
  | c :: r, acc, h => by
    simp only [Lib.parseUintM, Lib.decFrom, Lib.digitVal]
    have hp : 1 ≤ 10 ^ r.length := Nat.one_le_pow _ _ (by decide)
    have h2 : (acc + 1) * (10 ^ r.length * 10) ≤ 1000000000000000000 := by simpa [Nat.pow_succ] using h
    have h3 : (acc + 1) * 10 ≤ 1000000000000000000 := by
      refine Nat.le_trans ?_ h2
      rw [Nat.mul_comm (10 ^ r.length) 10, ← Nat.mul_assoc]
      exact Nat.le_mul_of_pos_right _ hp
    by_cases hd : 48 ≤ c.toNat ∧ c.toNat ≤ 57
    · rw [if_pos hd, if_pos hd, if_neg (by omega), if_neg (by omega)]
      refine parseM_small r _ ?_
      have h4 : acc * 10 + (c.toNat - 48) + 1 ≤ (acc + 1) * 10 := by omega
      refine Nat.le_trans (Nat.mul_le_mul_right _ h4) ?_
      rw [Nat.mul_assoc, Nat.mul_comm 10]; exact h2
    · rw [if_neg hd, if_neg hd]
theorem parseB_small {r : List UInt8} (h1 : r ≠ []) (h2 : r.length ≤ 18) : Lib.parseUintB 64 r = match Lib.decFrom 0 r with | some u => .ok u | none => Lib.NumEnd.syntax := by
  unfold Lib.parseUintB
  rw [if_neg h1]
  exact parseM_small r 0 (by rw [Nat.zero_add, Nat.one_mul]; exact Nat.pow_le_pow_right (by decide) h2)
theorem decDigits_hd : ∀ (u : Nat), ∃ c, (Lib.decDigits u).head? = some c ∧ 48 ≤ c.toNat ∧ c.toNat ≤ 57 := by
  intro u
  induction u using Nat.strongRecOn with
  | _ u ih =>
    by_cases h : u < 10
    · rw [Lib.decDigits, dif_pos h]
      refine ⟨UInt8.ofNat (48 + u), rfl, ?_⟩
      rw [UInt8.toNat_ofNat_of_lt' (by show 48 + u < 256; omega)]
      omega
    · rw [Lib.decDigits, dif_neg h]
      obtain ⟨c, h1, h2⟩ := ih (u / 10) (by omega)
      refine ⟨c, ?_, h2⟩
      match hd : Lib.decDigits (u / 10) with
      | [] => rw [hd] at h1; cases h1
      | a :: r => rw [hd] at h1; exact h1
theorem itoa_hd (v : Int) : (Lib.itoa v).head? ≠ some 43 := by
  unfold Lib.itoa
  split
  · intro q; cases q
  · intro q
    obtain ⟨c, h1, h2, h3⟩ := decDigits_hd v.toNat
    rw [h1] at q
    obtain rfl : c = 43 := by simpa using q
    have e : (43 : UInt8).toNat = 43 := rfl
    omega
theorem decT_is {v : Int} {s : ByteArray} : decT v = s ↔ Lib.itoa v = s.data.toList := by
  unfold decT
  constructor
  · rintro rfl; simp
  · intro h
    cases s with
    | mk d =>
      have : (Lib.itoa v).toArray = d := by rw [h]
      rw [this]
theorem itoa_nonneg' (u : Nat) : Lib.itoa (u : Int) = Lib.decDigits u := by
  unfold Lib.itoa
  rw [if_neg (by omega)]; rfl
theorem itoa_neg' {u : Nat} (h : 0 < u) : Lib.itoa (-(u : Int)) = 45 :: Lib.decDigits u := by
  unfold Lib.itoa
  rw [if_pos (by omega), show (-(u : Int)).natAbs = u from by omega]
/-- what the library's number and its text back say of a text -/
theorem parse_num {s : ByteArray} (h1 : 1 ≤ s.size - atN s) (h2 : s.size - atN s ≤ 18) :
    (∃ v, Lib.parseIntB 64 s.data.toList = .ok v ∧ (-1000000000000000000 < v ∧ v < 1000000000000000000) ∧ ((decT v = s ∧ numS s = some v) ∨ (decT v ≠ s ∧ numS s = none))) ∨ (Lib.parseIntB 64 s.data.toList = Lib.NumEnd.syntax ∧ numS s = none) := by
  have hsz : s.data.toList.length = s.size := by simp
  match hl : s.data.toList with
  | [] => rw [hl] at hsz; simp at hsz; try omega
  | c :: r0 =>
    have hlen : r0.length + 1 = s.size := by rw [hl] at hsz; simpa using hsz
    by_cases hc : c = 45
    · subst hc
      have ha : atN s = 1 := by unfold atN; rw [hl]; rfl
      have hd : s.data.toList.drop (atN s) = r0 := by rw [ha, hl]; rfl
      have hr0 : r0 ≠ [] := fun q => by rw [q] at hlen; simp at hlen; try omega
      have hp := parseB_small hr0 (by omega)
      have e45 : (45 : UInt8).toNat = 45 := rfl
      cases hu : Lib.decFrom 0 r0 with
      | none =>
        rw [hu] at hp
        refine .inr ⟨by simp only [Lib.parseIntB, e45, or_true, if_true, hp], ?_⟩
        unfold numS
        rw [hd, hu]; split <;> rfl
      | some u =>
        rw [hu] at hp
        have hlt := Lib.decFrom_lt18 hu (by omega)
        refine .inl ⟨-(u : Int), ?_, by omega, ?_⟩
        · simp only [Lib.parseIntB, e45, or_true, if_true, hp]
          rw [if_neg (by simp), if_neg (by simp; omega)]
        · by_cases hz : u = 0
          · subst hz
            have hh : r0.head? = some 48 := by
              by_cases q : r0.head? = some 48
              · exact q
              · exact absurd (canon (r0.length - 1) r0 (by omega) 0 hu q).2 (by omega)
            refine .inr ⟨fun q => ?_, numS_bad (.inr (.inr ⟨by rw [hd]; exact hh, by omega⟩))⟩
            have := decT_is.1 q
            rw [hl] at this
            have e0 : Lib.itoa (-((0 : Nat) : Int)) = [48] := by rw [show -((0 : Nat) : Int) = ((0 : Nat) : Int) from rfl, itoa_nonneg', Lib.decDigits, dif_pos (by decide)]; rfl
            rw [e0] at this
            cases this
          · have hi := canon_iff hr0 hu
            by_cases hh : r0.head? = some 48
            · have h1r : 1 < r0.length := by
                by_cases q : 1 < r0.length
                · exact q
                · match r0, hh, hr0 with
                  | [b], hh, _ =>
                    obtain rfl : b = 48 := by simpa using hh
                    have : Lib.decFrom 0 [48] = some 0 := rfl
                    rw [this] at hu
                    exact absurd (by simpa using hu.symm) hz
                  | b :: b2 :: r', _, _ => exact absurd (by simp) q
              refine .inr ⟨fun q => ?_, numS_bad (.inr (.inr ⟨by rw [hd]; exact hh, by omega⟩))⟩
              have := decT_is.1 q
              rw [hl, itoa_neg' (by omega)] at this
              exact (hi.1 (by simpa using this)) ⟨hh, h1r⟩
            · refine .inl ⟨decT_is.2 ?_, ?_⟩
              · rw [hl, itoa_neg' (by omega), hi.2 (fun q => hh q.1)]
              · have := numS_ok (s := s) (u := u) (fun q => by
                  rcases q with q | q | q
                  · omega
                  · omega
                  · rw [hd] at q; exact hh q.1) (by rw [hd]; exact hu)
                rw [this, if_pos ha]
    · have ha : atN s = 0 := by
        unfold atN
        rw [hl, if_neg]
        intro q
        exact hc (by simpa using q)
      have hd : s.data.toList.drop (atN s) = c :: r0 := by rw [ha, hl]; rfl
      have h45 : ¬ c.toNat = 45 := fun q => hc (UInt8.toNat_inj.1 q)
      by_cases hp43 : c = 43
      · subst hp43
        have e43 : (43 : UInt8).toNat = 43 := rfl
        have hn : numS s = none := numS_digit (k := 0) (c := 43) (by rw [hd]; rfl) (by rw [e43]; rfl)
        cases hr : r0 with
        | nil =>
          refine .inr ⟨?_, hn⟩
          simp only [Lib.parseIntB, e43, true_or, if_true]
          rfl
        | cons c2 r2 =>
          have hr0 : r0 ≠ [] := by rw [hr]; exact List.cons_ne_nil _ _
          have hp := parseB_small hr0 (by omega)
          rw [hr] at hp
          cases hu : Lib.decFrom 0 (c2 :: r2) with
          | none =>
            rw [hu] at hp
            exact .inr ⟨by simp only [Lib.parseIntB, e43, true_or, if_true, hp], hn⟩
          | some u =>
            rw [hu] at hp
            have hlt := Lib.decFrom_lt18 hu (by rw [hr] at hlen; omega)
            refine .inl ⟨(u : Int), ?_, by omega, .inr ⟨fun q => ?_, hn⟩⟩
            · simp only [Lib.parseIntB, e43, true_or, if_true, hp]
              rw [if_neg (by simp; omega), if_neg (by simp), if_neg (by simp)]
            · have := decT_is.1 q
              rw [hl] at this
              exact itoa_hd u (by rw [this]; rfl)
      · have h43 : ¬ c.toNat = 43 := fun q => hp43 (UInt8.toNat_inj.1 q)
        have hp := parseB_small (List.cons_ne_nil c r0) (by simp; omega)
        have hno : ¬ (c.toNat = 43 ∨ c.toNat = 45) := fun q => q.elim h43 h45
        cases hu : Lib.decFrom 0 (c :: r0) with
        | none =>
          rw [hu] at hp
          refine .inr ⟨by simp only [Lib.parseIntB]; rw [if_neg hno, hp], ?_⟩
          unfold numS
          rw [hd, hu]; split <;> rfl
        | some u =>
          rw [hu] at hp
          have hlt := Lib.decFrom_lt18 hu (by simp; omega)
          have hi := canon_iff (List.cons_ne_nil c r0) hu
          refine .inl ⟨(u : Int), ?_, by omega, ?_⟩
          · simp only [Lib.parseIntB]
            rw [if_neg hno, hp]
            simp only [h45, not_false_eq_true, true_and, false_and, if_false]
            rw [if_neg (by omega)]
          · by_cases hh : (c :: r0).head? = some 48 ∧ 1 < (c :: r0).length
            · refine .inr ⟨fun q => ?_, numS_bad (.inr (.inr ⟨by rw [hd]; exact hh.1, by have := hh.2; simp at this; omega⟩))⟩
              have := decT_is.1 q
              rw [hl, itoa_nonneg'] at this
              exact hi.1 this hh
            · refine .inl ⟨decT_is.2 (by rw [hl, itoa_nonneg', hi.2 hh]), ?_⟩
              have := numS_ok (s := s) (u := u) (fun q => by
                rcases q with q | q | q
                · omega
                · omega
                · rw [hd] at q; exact hh ⟨q.1, by simp; omega⟩) (by rw [hd]; exact hu)
              rw [this, if_neg (by omega)]
theorem trim_eq (s : ByteArray) : Lib.trimPrefix s.data.toList [45] = s.data.toList.drop (atN s) := by
  unfold Lib.trimPrefix Lib.hasPrefix atN
  match s.data.toList with
  | [] => rfl
  | c :: r =>
    by_cases h : c = 45
    · subst h; rfl
    · rw [if_neg (by simp; exact fun q => h q.symm), if_neg (by simpa using h)]; rfl
end Go.Proofs.YtklgkbiobggbiaaDoor
namespace Go.Proofs.YtklgkbiobggbiaaDoor
open Go.ChangeShapes Go.WideShapes Go.ChangeAt Go.RowKit Go.Deep Go.Joins
set_option linter.unusedVariables false
set_option maxRecDepth 100000
set_option linter.unusedSimpArgs false
def joinT (c : UInt8) (xs : List ByteArray) : ByteArray := ⟨(Lib.join (xs.map (·.data.toList)) [c]).toArray⟩
theorem ba_ext {a b : ByteArray} (h : a.data = b.data) : a = b := by cases a; cases b; cases h; rfl
theorem ba_nil (x : ByteArray) : (⟨#[]⟩ : ByteArray) ++ x = x := ba_ext (by rw [ByteArray.data_append]; simp)
theorem joinTail_snoc (s : List UInt8) (r : List (List UInt8)) (x : List UInt8) : Lib.joinTail s (r ++ [x]) = Lib.joinTail s r ++ (s ++ x) := by
  unfold Lib.joinTail; simp
theorem joinT_one (c : UInt8) (x : ByteArray) : joinT c [x] = x := by
  unfold joinT
  refine ba_ext ?_
  simp only [List.map_cons, List.map_nil, Lib.join_one, Array.toArray_toList]
theorem joinT_snoc (c : UInt8) (a : ByteArray) (r : List ByteArray) (x : ByteArray) : joinT c ((a :: r) ++ [x]) = joinT c (a :: r) ++ ⟨#[c]⟩ ++ x := by
  unfold joinT
  refine ba_ext ?_
  rw [ByteArray.data_append, ByteArray.data_append]
  simp only [List.map_cons, List.map_append, List.map_nil, List.cons_append, Lib.join_cons, joinTail_snoc]
  simp
theorem joinT_take0 (c : UInt8) (xs : List ByteArray) (h : 0 < xs.length) : joinT c (xs.take 1) = xs[0] := by
  rw [List.take_succ_eq_append_getElem h]
  exact joinT_one c xs[0]
theorem joinT_take (c : UInt8) (xs : List ByteArray) (k : Nat) (h0 : 0 < k) (h : k < xs.length) : joinT c (xs.take (k + 1)) = joinT c (xs.take k) ++ ⟨#[c]⟩ ++ xs[k] := by
  rw [List.take_succ_eq_append_getElem h]
  match hx : xs.take k with
  | [] => have := congrArg List.length hx; rw [List.length_take, List.length_nil] at this; omega
  | a :: r => exact joinT_snoc c a r xs[k]
theorem joinTail_len (s : List UInt8) (m : Nat) : ∀ r : List (List UInt8), (∀ x ∈ r, x.length ≤ m) → (Lib.joinTail s r).length ≤ (s.length + m) * r.length
  | [], _ => by simp [Lib.joinTail]
  | x :: r, h => by
    have ih := joinTail_len s m r (fun y hy => h y (List.mem_cons_of_mem _ hy))
    have hx := h x (List.mem_cons_self ..)
    unfold Lib.joinTail at ih ⊢
    simp only [List.map_cons, List.flatten_cons, List.length_append, List.length_cons]
    rw [Nat.mul_succ]
    omega
theorem joinT_size (c : UInt8) (m : Nat) (xs : List ByteArray) (h : ∀ x ∈ xs, x.size ≤ m) : (joinT c xs).size ≤ (1 + m) * xs.length := by
  have e : (joinT c xs).size = (Lib.join (xs.map (·.data.toList)) [c]).length := by unfold joinT ByteArray.size; simp
  rw [e]
  cases xs with
  | nil => simp [Lib.join, List.intercalate]
  | cons a r =>
    rw [List.map_cons, Lib.join_cons, List.length_append]
    have h1 := joinTail_len [c] m (r.map (·.data.toList)) (fun y hy => by
      obtain ⟨x, hx, rfl⟩ := List.mem_map.1 hy
      exact h x (List.mem_cons_of_mem _ hx))
    have h2 : a.data.toList.length ≤ m := h a (List.mem_cons_self ..)
    rw [List.length_map] at h1
    simp only [List.length_cons, List.length_nil, Nat.zero_add] at h1 ⊢
    rw [Nat.mul_succ]
    omega
theorem joinT_size_take (c : UInt8) (m : Nat) (xs : List ByteArray) (h : ∀ x ∈ xs, x.size ≤ m) (k : Nat) (hk : k ≤ xs.length) : (joinT c (xs.take k)).size ≤ (1 + m) * k := by
  have := joinT_size c m (xs.take k) (fun x hx => h x (List.mem_of_mem_take hx))
  rw [List.length_take, Nat.min_eq_left hk] at this
  exact this
def Tryd.layJoin_ren : Go.Shelf.Ren := ⟨fun | 156 => 53 | 165 => 91 | 166 => 92 | 169 => 93 | 240 => 120 | 241 => 121 | 276 => 141 | 277 => 142 | n => n, fun | 31 => 35 | 9 => 9 | 3 => 3 | 4 => 4 | 0 => 0 | 20 => 20 | 72 => 122 | 76 => 124 | 70 => 120 | 37 => 49 | 75 => 109 | 127 => 145 | 164 => 163 | 5 => 5 | 80 => 126 | n => n, fun | n => n⟩
theorem Tryd.layJoin : Go.Proofs.Lays.n156 Tryd.prog Tryd.layJoin_ren := {
  mixed := by kernel_rfl
  f156 := Tryd.func53.trans (congrArg some (by kernel_rfl))
  f165 := Tryd.func91.trans (congrArg some (by kernel_rfl))
  f166 := Tryd.func92.trans (congrArg some (by kernel_rfl))
  f169 := Tryd.func93.trans (congrArg some (by kernel_rfl))
  f240 := Tryd.func120.trans (congrArg some (by kernel_rfl))
  f241 := Tryd.func121.trans (congrArg some (by kernel_rfl))
  f276 := Tryd.func141.trans (congrArg some (by kernel_rfl))
  f277 := Tryd.func142.trans (congrArg some (by kernel_rfl))
  t0 := Tryd.underlying0
  a0 := Tryd.isAgg0
  z0 := Tryd.sizeOf0
  v0 := Tryd.zeroValue0
  t3 := Tryd.underlying3
  a3 := Tryd.isAgg3
  z3 := Tryd.sizeOf3
  v3 := Tryd.zeroValue3
  t4 := Tryd.underlying4
  a4 := Tryd.isAgg4
  z4 := Tryd.sizeOf4
  v4 := Tryd.zeroValue4
  t9 := Tryd.underlying9
  a9 := Tryd.isAgg9
  z9 := Tryd.sizeOf9
  v9 := Tryd.zeroValue9
  t20 := Tryd.underlying20
  a20 := Tryd.isAgg20
  z20 := Tryd.sizeOf20
  v20 := Tryd.zeroValue20
  t31 := Tryd.underlying35
  a31 := Tryd.isAgg35
  z31 := Tryd.sizeOf35
  v31 := Tryd.zeroValue35
  t37 := Tryd.underlying49
  a37 := Tryd.isAgg49
  z37 := Tryd.sizeOf49
  v37 := Tryd.zeroValue49
  t70 := Tryd.underlying120
  a70 := Tryd.isAgg120
  z70 := Tryd.sizeOf120
  v70 := Tryd.zeroValue120
  t72 := Tryd.underlying122
  a72 := Tryd.isAgg122
  z72 := Tryd.sizeOf122
  v72 := Tryd.zeroValue122
  t75 := Tryd.underlying109
  a75 := Tryd.isAgg109
  z75 := Tryd.sizeOf109
  v75 := Tryd.zeroValue109
  t76 := Tryd.underlying124
  a76 := Tryd.isAgg124
  z76 := Tryd.sizeOf124
  v76 := Tryd.zeroValue124
  t127 := Tryd.underlying145
  a127 := Tryd.isAgg145
  z127 := Tryd.sizeOf145
  v127 := Tryd.zeroValue145
  t164 := Tryd.underlying163
  a164 := Tryd.isAgg163
  z164 := Tryd.sizeOf163
  v164 := Tryd.zeroValue163 }
open Go.Shelf in
theorem extraJoin : Builder.Extra Tryd.prog Tryd.layJoin_ren where
  sizeBuilder := by kernel_rfl
  liesBuilder := by kernel_rfl
  t5 := Tryd.fmtInt.t5
  a5 := Tryd.fmtInt.a5
  z5 := Tryd.fmtInt.z5
  v5 := Tryd.fmtInt.v5
  infoByte := by kernel_rfl
  cellsByte := by kernel_rfl
  sizeByte := by kernel_rfl
  neB5 := by decide
theorem impl_join (c : UInt8) (w : World) (v : Value) (xs : List ByteArray) (h : Rd w.heap.size w v 1 xs.length (xs.flatMap putStr)) (h0 : 0 < xs.length) (hn : xs.length ≤ 1048576) (m : Nat) (hm : m ≤ 1000) (hs : ∀ x ∈ xs, x.size ≤ m) :
    Calls Tryd.prog 53 #[v, .string ⟨#[c]⟩] w fun e w' => e = .returned (.string (joinT c xs)) ∧ Below w.heap.size w w' := by
  obtain ⟨hL, ao, cap, rfl, hcap, hmax, hnil, hsome⟩ := h
  obtain ⟨b, off, rfl, hb, hc⟩ := hsome h0
  refine Any.strings_Join Tryd.layJoin extraJoin b off cap xs ⟨#[c]⟩ w (fun j x hx => ?_) hb (by omega) hcap ?_
  · have hj := (List.getElem?_eq_some_iff.1 hx).1
    rw [hc j (by omega), putStr_get xs j hj]
    have := (List.getElem?_eq_some_iff.1 hx).2
    rw [this]
  · have h1 := joinT_size c m xs hs
    have e : (joinT c xs).size = (Lib.join (xs.map (·.data.toList)) [c]).length := by unfold joinT ByteArray.size; simp
    have h2 : (1 + m) * xs.length ≤ 1001 * 1048576 := Nat.mul_le_mul (by omega) hn
    have e2 : (⟨#[c]⟩ : ByteArray).data.toList = [c] := rfl
    rw [e2]
    omega
end Go.Proofs.YtklgkbiobggbiaaDoor
namespace Go.Proofs.YtklgkbiobggbiaaDoor
open Go.ChangeShapes Go.WideShapes Go.ChangeAt Go.RowKit Go.Deep Go.Joins
set_option linter.unusedVariables false
set_option maxRecDepth 100000
set_option linter.unusedSimpArgs false
/-- the parts of a row of bytes at each c -/
def partsL (c : UInt8) : List UInt8 → List (List UInt8)
  | [] => [[]]
  | b :: l => if b = c then [] :: partsL c l else match partsL c l with
    | p :: ps => (b :: p) :: ps
    | [] => [[b]]
theorem partsL_ne (c : UInt8) : ∀ l, partsL c l ≠ []
  | [] => by simp [partsL]
  | b :: l => by
    unfold partsL
    split
    · simp
    · split <;> simp
theorem partsL_hit {c b : UInt8} {l : List UInt8} (h : b = c) : partsL c (b :: l) = [] :: partsL c l := if_pos h
theorem partsL_miss {c b : UInt8} {l p : List UInt8} {ps : List (List UInt8)} (h : b ≠ c) (hp : partsL c l = p :: ps) : partsL c (b :: l) = (b :: p) :: ps := by
  unfold partsL
  rw [if_neg h, hp]
theorem partsL_none {c : UInt8} : ∀ {l : List UInt8}, c ∉ l → partsL c l = [l]
  | [], _ => rfl
  | b :: l, h => partsL_miss (fun e => h (by rw [e]; exact List.mem_cons_self ..)) (partsL_none fun q => h (List.mem_cons_of_mem _ q))
theorem partsL_cut {c : UInt8} : ∀ {l : List UInt8} (r : List UInt8), c ∉ l → partsL c (l ++ c :: r) = l :: partsL c r
  | [], r, _ => partsL_hit rfl
  | b :: l, r, h => partsL_miss (fun e => h (by rw [e]; exact List.mem_cons_self ..)) (partsL_cut r fun q => h (List.mem_cons_of_mem _ q))
theorem partsL_join (c : UInt8) : ∀ (a : List UInt8) (xs : List (List UInt8)), (∀ x ∈ a :: xs, c ∉ x) → partsL c (Lib.join (a :: xs) [c]) = a :: xs
  | a, [], h => by rw [Lib.join_one]; exact partsL_none (h a (List.mem_cons_self ..))
  | a, x :: xs, h => by
    have ih := partsL_join c x xs fun y hy => h y (List.mem_cons_of_mem _ hy)
    have e : Lib.join (a :: x :: xs) [c] = a ++ c :: Lib.join (x :: xs) [c] := by
      rw [Lib.join_cons, Lib.join_cons]
      simp [Lib.joinTail]
    rw [e, partsL_cut _ (h a (List.mem_cons_self ..)), ih]
theorem partsL_back (c : UInt8) : ∀ (l : List UInt8), Lib.join (partsL c l) [c] = l
  | [] => by rw [show partsL c [] = [[]] from rfl, Lib.join_one]
  | b :: l => by
    have ih := partsL_back c l
    match hp : partsL c l with
    | [] => exact absurd hp (partsL_ne c l)
    | p :: ps =>
      rw [hp] at ih
      by_cases h : b = c
      · rw [partsL_hit h, hp]
        have e : Lib.join ([] :: p :: ps) [c] = c :: Lib.join (p :: ps) [c] := by
          rw [Lib.join_cons, Lib.join_cons]
          simp [Lib.joinTail]
        rw [e, ih, h]
      · rw [partsL_miss h hp, Lib.join_cons]
        rw [Lib.join_cons] at ih
        rw [List.cons_append, ih]
theorem partsL_free {c : UInt8} : ∀ {l : List UInt8}, ∀ x ∈ partsL c l, c ∉ x
  | [], x, hx => by
    obtain rfl : x = [] := by simpa [partsL] using hx
    simp
  | b :: l, x, hx => by
    match hp : partsL c l with
    | [] => exact absurd hp (partsL_ne c l)
    | p :: ps =>
      have ih := fun y (hy : y ∈ p :: ps) => partsL_free (c := c) (l := l) y (by rw [hp]; exact hy)
      by_cases h : b = c
      · rw [partsL_hit h, hp] at hx
        rcases List.mem_cons.1 hx with rfl | hx
        · simp
        · exact ih x hx
      · rw [partsL_miss h hp] at hx
        rcases List.mem_cons.1 hx with rfl | hx
        · intro q
          rcases List.mem_cons.1 q with q | q
          · exact h q.symm
          · exact ih p (List.mem_cons_self ..) q
        · exact ih x (List.mem_cons_of_mem _ hx)
theorem partsL_len (c : UInt8) : ∀ (l : List UInt8), (partsL c l).length ≤ l.length + 1
  | [] => by simp [partsL]
  | b :: l => by
    have ih := partsL_len c l
    match hp : partsL c l with
    | [] => exact absurd hp (partsL_ne c l)
    | p :: ps =>
      rw [hp] at ih
      by_cases h : b = c
      · rw [partsL_hit h, hp]; simp at ih ⊢; omega
      · rw [partsL_miss h hp]; simp at ih ⊢; omega
/-- one byte more -/
theorem partsL_snoc {c b : UInt8} : ∀ {l : List UInt8} {o : List (List UInt8)} {p : List UInt8}, partsL c l = o ++ [p] → partsL c (l ++ [b]) = if b = c then o ++ [p] ++ [[]] else o ++ [p ++ [b]]
  | [], o, p, h => by
    have h' : [[]] = o ++ [p] := h
    match o, h' with
    | [], h' =>
      obtain rfl : p = [] := by simpa using h'.symm
      by_cases hb : b = c
      · rw [if_pos hb]; show partsL c [b] = _; rw [partsL_hit hb]; rfl
      · rw [if_neg hb]; show partsL c [b] = _; rw [partsL_miss hb (show partsL c [] = [] :: [] from rfl)]; rfl
    | x :: o, h' => simp at h'
  | a :: l, o, p, h => by
    match hp : partsL c l with
    | [] => exact absurd hp (partsL_ne c l)
    | q :: qs =>
      obtain ⟨o', p', e⟩ : ∃ o' p', q :: qs = o' ++ [p'] := ⟨_, _, (List.dropLast_concat_getLast (List.cons_ne_nil q qs)).symm⟩
      have ih := partsL_snoc (b := b) (hp.trans e)
      by_cases ha : a = c
      · rw [partsL_hit ha, hp, e] at h
        have h2 : ([] :: o') ++ [p'] = o ++ [p] := h
        obtain ⟨rfl, rfl⟩ : [] :: o' = o ∧ p' = p := by
          have := List.append_inj' h2 rfl
          exact ⟨this.1, by simpa using this.2⟩
        rw [List.cons_append, partsL_hit ha, ih]
        split <;> rfl
      · rw [partsL_miss ha hp] at h
        rw [List.cons_append]
        match o', e with
        | [], e =>
          obtain ⟨rfl, rfl⟩ : q = p' ∧ qs = [] := by simpa using e
          have h2 : ([] : List (List UInt8)) ++ [a :: q] = o ++ [p] := h
          obtain ⟨rfl, rfl⟩ : [] = o ∧ a :: q = p := by
            have := List.append_inj' h2 rfl
            exact ⟨this.1, by simpa using this.2⟩
          by_cases hb : b = c
          · rw [if_pos hb] at ih ⊢
            exact partsL_miss ha ih
          · rw [if_neg hb] at ih ⊢
            exact partsL_miss ha ih
        | x :: o', e =>
          obtain ⟨rfl, rfl⟩ : q = x ∧ qs = o' ++ [p'] := by simpa using e
          have h2 : ((a :: q) :: o') ++ [p'] = o ++ [p] := h
          obtain ⟨rfl, rfl⟩ : (a :: q) :: o' = o ∧ p' = p := by
            have := List.append_inj' h2 rfl
            exact ⟨this.1, by simpa using this.2⟩
          by_cases hb : b = c
          · rw [if_pos hb] at ih ⊢
            exact partsL_miss ha ih
          · rw [if_neg hb] at ih ⊢
            exact partsL_miss ha ih
theorem index_cons (b c : UInt8) (l : List UInt8) : Lib.index (b :: l) [c] = if b = c then 0 else if Lib.index l [c] = -1 then -1 else Lib.index l [c] + 1 := by
  simp only [Lib.index]
  by_cases h : b = c
  · subst h
    rw [if_pos rfl, if_pos (by simp)]
  · rw [if_neg h, if_neg (by simpa using fun q => h q.symm)]
    by_cases h2 : Lib.index l [c] = -1
    · rw [if_pos h2, if_pos (by rw [h2]; rfl)]
    · rw [if_neg h2, if_neg (by simpa using h2)]
theorem index_count {c : UInt8} : ∀ {l : List UInt8}, 0 < l.count c → Lib.index l [c] ≠ -1
  | [], h => by simp at h
  | b :: l, h => by
    rw [index_cons]
    by_cases hb : b = c
    · rw [if_pos hb]; decide
    · rw [if_neg hb]
      have hc : 0 < l.count c := by rwa [List.count_cons_of_ne (by simpa using hb)] at h
      have := index_count hc
      rw [if_neg this]
      have := Lib.index_ge l [c]
      omega
theorem splitK_parts (c : UInt8) : ∀ (l : List UInt8), Lib.splitK [c] 0 (l.count c) l = partsL c l
  | [] => rfl
  | b :: l => by
    have ih := splitK_parts c l
    by_cases h : b = c
    · subst h
      rw [List.count_cons_self, partsL_hit rfl, ← ih]
      simp only [Lib.splitK]
      rw [index_cons, if_pos rfl, if_neg (by decide)]
      simp
    · rw [List.count_cons_of_ne (by simpa using h)]
      match hk : l.count c with
      | 0 =>
        rw [hk] at ih
        have e : partsL c l = [l] := ih.symm
        rw [partsL_miss h e]; rfl
      | k + 1 =>
        rw [hk] at ih
        have hi := index_count (c := c) (l := l) (by omega)
        have hg := Lib.index_ge l [c]
        simp only [Lib.splitK] at ih ⊢
        rw [if_neg (by simpa using hi)] at ih
        rw [index_cons, if_neg h, if_neg hi, if_neg (by simp; omega)]
        rw [partsL_miss h ih.symm]
        have e1 : (Lib.index l [c] + 1).toNat = (Lib.index l [c]).toNat + 1 := by omega
        rw [e1]
        simp only [Nat.add_zero, List.take_succ_cons, List.length_cons, List.length_nil, Nat.zero_add, List.drop_succ_cons]
/-- the parts of a text -/
def partsS (c : UInt8) (s : ByteArray) : List ByteArray := (partsL c s.data.toList).map fun l => ⟨l.toArray⟩
theorem partsS_split (c : UInt8) (s : ByteArray) : Lib.splitB ⟨#[c]⟩ 0 (Lib.countB s ⟨#[c]⟩) s = partsS c s := by
  have h := Lib.splitB_data ⟨#[c]⟩ 0 (Lib.countB s ⟨#[c]⟩) s
  have e2 : Lib.countB s ⟨#[c]⟩ = s.data.toList.count c := by
    have := Lib.count_one c s.data.toList
    rw [← this]
  rw [e2] at h ⊢
  have e1 : (⟨#[c]⟩ : ByteArray).data.toList = [c] := rfl
  rw [e1, splitK_parts] at h
  unfold partsS
  rw [← h, List.map_map]
  conv => lhs; rw [← List.map_id (Lib.splitB ⟨#[c]⟩ 0 (s.data.toList.count c) s)]
  refine List.map_congr_left fun x _ => ?_
  cases x; rfl
theorem partsS_len (c : UInt8) (s : ByteArray) : 0 < (partsS c s).length ∧ (partsS c s).length ≤ s.size + 1 := by
  unfold partsS
  rw [List.length_map]
  have h1 := partsL_len c s.data.toList
  have h2 : (partsL c s.data.toList).length ≠ 0 := fun q => partsL_ne c _ (List.eq_nil_of_length_eq_zero q)
  have h3 : s.data.toList.length = s.size := by simp
  omega
theorem partsS_size {c : UInt8} {s : ByteArray} : ∀ x ∈ partsS c s, x.size ≤ s.size := by
  intro x hx
  obtain ⟨l, hl, rfl⟩ := List.mem_map.1 hx
  have : ∀ (m : List UInt8), ∀ y ∈ partsL c m, y.length ≤ m.length := by
    intro m
    induction m with
    | nil => intro y hy; obtain rfl : y = [] := by simpa [partsL] using hy
             simp
    | cons b m ih =>
      intro y hy
      match hp : partsL c m with
      | [] => exact absurd hp (partsL_ne c m)
      | p :: ps =>
        rw [hp] at ih
        by_cases h : b = c
        · rw [partsL_hit h, hp] at hy
          rcases List.mem_cons.1 hy with rfl | hy
          · simp
          · have := ih y hy; simp; omega
        · rw [partsL_miss h hp] at hy
          rcases List.mem_cons.1 hy with rfl | hy
          · have := ih p (List.mem_cons_self ..); simp; omega
          · have := ih y (List.mem_cons_of_mem _ hy); simp; omega
  have h1 := this _ l hl
  have h2 : s.data.toList.length = s.size := by simp
  show (⟨l.toArray⟩ : ByteArray).size ≤ s.size
  have h3 : (⟨l.toArray⟩ : ByteArray).size = l.length := by show l.toArray.size = _; simp
  omega
/-- joined again -/
theorem partsS_join (c : UInt8) (s : ByteArray) : joinT c (partsS c s) = s := by
  unfold joinT partsS
  rw [List.map_map]
  have e : ((fun x : ByteArray => x.data.toList) ∘ fun l : List UInt8 => (⟨l.toArray⟩ : ByteArray)) = id := by funext l; simp
  rw [e, List.map_id, partsL_back]
/-- what was joined comes apart again -/
theorem parts_joinT (c : UInt8) (xs : List ByteArray) (h0 : xs ≠ []) (h : ∀ x ∈ xs, c ∉ x.data.toList) : partsS c (joinT c xs) = xs := by
  match xs, h0 with
  | a :: r, _ =>
    unfold partsS joinT
    have e : (⟨(Lib.join ((a :: r).map (·.data.toList)) [c]).toArray⟩ : ByteArray).data.toList = Lib.join (a.data.toList :: r.map (·.data.toList)) [c] := by simp
    rw [e, partsL_join c _ _ (fun x hx => by
      rw [← List.map_cons (f := fun x : ByteArray => x.data.toList)] at hx
      obtain ⟨y, hy, rfl⟩ := List.mem_map.1 hx
      exact h y hy), ← List.map_cons (f := fun x : ByteArray => x.data.toList), List.map_map]
    conv => rhs; rw [← List.map_id (a :: r)]
    refine List.map_congr_left fun x _ => ?_
    cases x; simp
end Go.Proofs.YtklgkbiobggbiaaDoor
namespace Go.Proofs.YtklgkbiobggbiaaDoor
open Go.ChangeShapes Go.WideShapes Go.ChangeAt Go.RowKit Go.Deep Go.Joins
set_option linter.unusedVariables false
set_option maxRecDepth 100000
set_option linter.unusedSimpArgs false
theorem num_text {s : ByteArray} {v : Int} (h : numS s = some v) : decT v = s ∧ (-1000000000000000000 < v ∧ v < 1000000000000000000) := by
  by_cases hb : badN s
  · rw [numS_bad hb] at h; cases h
  · have h1 : ¬ s.size ≤ atN s := fun q => hb (.inl q)
    have h2 : ¬ 18 < s.size - atN s := fun q => hb (.inr (.inl q))
    rcases parse_num (s := s) (by omega) (by omega) with ⟨v', _, hbd, ⟨h3, h4⟩ | ⟨_, h4⟩⟩ | ⟨_, h4⟩
    · rw [h] at h4
      obtain rfl : v = v' := by simpa using h4
      exact ⟨h3, hbd⟩
    · rw [h] at h4; cases h4
    · rw [h] at h4; cases h4
theorem decFrom_digits : ∀ (u : Nat), Lib.decFrom 0 (Lib.decDigits u) = some u := by
  intro u
  induction u using Nat.strongRecOn with
  | _ u ih =>
    have hd : ∀ d, d < 10 → Lib.digitVal (UInt8.ofNat (48 + d)) = some d := fun d h => by
      unfold Lib.digitVal
      rw [UInt8.toNat_ofNat_of_lt' (by show 48 + d < 256; omega), if_pos ⟨by omega, by omega⟩]
      congr 1; omega
    by_cases h : u < 10
    · rw [Lib.decDigits, dif_pos h]
      simp only [Lib.decFrom, hd u h]
      simp
    · rw [Lib.decDigits, dif_neg h, decFrom_snoc, ih (u / 10) (by omega), Option.bind_some, hd (u % 10) (by omega)]
      simp only [Option.map_some]
      congr 1; omega
theorem nDigits_le : ∀ (k u : Nat), u < 10 ^ (k + 1) → Lib.nDigits u ≤ k + 1
  | 0, u, h => by rw [Lib.nDigits_small (by simpa using h)]; exact Nat.le_refl _
  | k + 1, u, h => by
    by_cases h10 : u < 10
    · rw [Lib.nDigits_small h10]; omega
    · rw [Lib.nDigits_big h10]
      have := nDigits_le k (u / 10) (by rw [Nat.pow_succ] at h; omega)
      omega
theorem digits_mem : ∀ (u : Nat), ∀ c ∈ Lib.decDigits u, 48 ≤ c.toNat ∧ c.toNat ≤ 57 := by
  intro u
  induction u using Nat.strongRecOn with
  | _ u ih =>
    have hd : ∀ d, d < 10 → 48 ≤ (UInt8.ofNat (48 + d)).toNat ∧ (UInt8.ofNat (48 + d)).toNat ≤ 57 := fun d h => by
      rw [UInt8.toNat_ofNat_of_lt' (by show 48 + d < 256; omega)]; omega
    intro c hc
    by_cases h : u < 10
    · rw [Lib.decDigits, dif_pos h] at hc
      obtain rfl : c = UInt8.ofNat (48 + u) := by simpa using hc
      exact hd u h
    · rw [Lib.decDigits, dif_neg h] at hc
      rcases List.mem_append.1 hc with hc | hc
      · exact ih (u / 10) (by omega) c hc
      · obtain rfl : c = UInt8.ofNat (48 + u % 10) := by simpa using hc
        exact hd _ (by omega)
theorem itoa_mem (n : Int) : ∀ c ∈ Lib.itoa n, c = 45 ∨ (48 ≤ c.toNat ∧ c.toNat ≤ 57) := by
  intro c hc
  unfold Lib.itoa at hc
  split at hc
  · rcases List.mem_cons.1 hc with rfl | hc
    · exact .inl rfl
    · exact .inr (digits_mem _ c hc)
  · exact .inr (digits_mem _ c hc)
theorem decT_free {n : Int} {c : UInt8} (h1 : c ≠ 45) (h2 : ¬ (48 ≤ c.toNat ∧ c.toNat ≤ 57)) : c ∉ (decT n).data.toList := by
  intro hc
  have hc' : c ∈ Lib.itoa n := by simpa [decT] using hc
  exact (itoa_mem n c hc').elim h1 h2
/-- the number of a decimal text -/
theorem num_decT {n : Int} (h1 : -1000000000000000000 < n) (h2 : n < 1000000000000000000) : numS (decT n) = some n := by
  have hl : (decT n).data.toList = Lib.itoa n := by simp [decT]
  have hs : (decT n).size = (Lib.itoa n).length := by rw [← hl]; simp
  by_cases hn : n < 0
  · obtain ⟨u, rfl⟩ : ∃ u : Nat, n = -(u : Int) := ⟨n.natAbs, by omega⟩
    have e := itoa_neg' (u := u) (by omega)
    have ha : atN (decT (-(u : Int))) = 1 := by unfold atN; rw [hl, e]; rfl
    have hd : (decT (-(u : Int))).data.toList.drop (atN (decT (-(u : Int)))) = Lib.decDigits u := by rw [ha, hl, e]; rfl
    have hdl := Lib.decDigits_length u
    have h3 := nDigits_le 17 u (by omega)
    have h4 := Lib.nDigits_pos u
    rw [e, List.length_cons] at hs
    have := numS_ok (s := decT (-(u : Int))) (u := u) (fun q => by
      rcases q with q | q | q
      · omega
      · omega
      · rw [hd] at q; exact decDigits_head u (by omega) q.1) (by rw [hd]; exact decFrom_digits u)
    rw [this, if_pos ha]
  · obtain ⟨u, rfl⟩ : ∃ u : Nat, n = (u : Int) := ⟨n.toNat, by omega⟩
    have e := itoa_nonneg' u
    have ha : atN (decT (u : Int)) = 0 := by
      unfold atN
      rw [hl, e, if_neg]
      intro q
      obtain ⟨c, q1, q2, q3⟩ := decDigits_hd u
      rw [q1] at q
      obtain rfl : c = 45 := by simpa using q
      have e45 : (45 : UInt8).toNat = 45 := rfl
      omega
    have hd : (decT (u : Int)).data.toList.drop (atN (decT (u : Int))) = Lib.decDigits u := by rw [ha, hl, e]; rfl
    have hdl := Lib.decDigits_length u
    have h3 := nDigits_le 17 u (by omega)
    have h4 := Lib.nDigits_pos u
    rw [e] at hs
    have hne : Lib.decDigits u ≠ [] := fun q => by rw [q] at hdl; simp at hdl; omega
    have := numS_ok (s := decT (u : Int)) (u := u) (fun q => by
      rcases q with q | q | q
      · omega
      · omega
      · rw [hd] at q
        exact (canon_iff hne (decFrom_digits u)).1 rfl ⟨q.1, by omega⟩) (by rw [hd]; exact decFrom_digits u)
    rw [this, if_neg (by omega)]
theorem num_iff {s : ByteArray} {v : Int} (h1 : -1000000000000000000 < v) (h2 : v < 1000000000000000000) : numS s = some v ↔ decT v = s :=
  ⟨fun h => (num_text h).1, fun h => by rw [← h]; exact num_decT h1 h2⟩
theorem numV_bd (s : ByteArray) : -1000000000000000000 < numV s ∧ numV s < 1000000000000000000 := by
  cases h : numS s with
  | none => rw [(num_none h).1]; decide
  | some v => rw [(num_some h).1]; exact (num_text h).2
/-- what is cut at the first c -/
theorem index_at {c : UInt8} : ∀ {a : List UInt8} (r : List UInt8), c ∉ a → Lib.index (a ++ c :: r) [c] = a.length
  | [], r, _ => by rw [List.nil_append, index_cons, if_pos rfl]; rfl
  | b :: a, r, h => by
    rw [List.cons_append, index_cons, if_neg (fun e => h (by rw [e]; exact List.mem_cons_self ..)), index_at r fun q => h (List.mem_cons_of_mem _ q), if_neg (by omega)]
    simp
theorem cut_two {c : UInt8} {a r : List UInt8} (h : c ∉ a) : Lib.cut (a ++ c :: r) [c] = (a, r, true) := by
  unfold Lib.cut
  rw [index_at r h, if_pos (by omega)]
  have e : (a.length : Int).toNat = a.length := by omega
  rw [e, List.take_left]
  simp
def cutA (c : UInt8) (w : ByteArray) : ByteArray := ⟨(Lib.cut w.data.toList [c]).1.toArray⟩
def cutB (c : UInt8) (w : ByteArray) : ByteArray := ⟨(Lib.cut w.data.toList [c]).2.1.toArray⟩
def cutF (c : UInt8) (w : ByteArray) : Bool := (Lib.cut w.data.toList [c]).2.2
theorem cut_joined {c : UInt8} {a b : ByteArray} (h : c ∉ a.data.toList) : cutA c (a ++ ⟨#[c]⟩ ++ b) = a ∧ cutB c (a ++ ⟨#[c]⟩ ++ b) = b := by
  have e : (a ++ ⟨#[c]⟩ ++ b).data.toList = a.data.toList ++ c :: b.data.toList := by
    rw [ByteArray.data_append, ByteArray.data_append]; simp
  unfold cutA cutB
  rw [e, cut_two h]
  exact ⟨by cases a; simp, by cases b; simp⟩
theorem cut_sizes (c : UInt8) (w : ByteArray) : (cutA c w).size ≤ w.size ∧ (cutB c w).size ≤ w.size := by
  have hw : w.data.toList.length = w.size := by simp
  have e1 : (cutA c w).size = (Lib.cut w.data.toList [c]).1.length := by unfold cutA; show (Array.size _) = _; simp
  have e2 : (cutB c w).size = (Lib.cut w.data.toList [c]).2.1.length := by unfold cutB; show (Array.size _) = _; simp
  rw [e1, e2]
  unfold Lib.cut
  split
  · simp only [List.length_take, List.length_drop]; omega
  · simp only [List.length_nil]; omega
theorem joinT_two (c : UInt8) (a b : ByteArray) : joinT c [a, b] = a ++ ⟨#[c]⟩ ++ b := by
  have := joinT_snoc c a [] b
  rw [joinT_one] at this
  exact this
theorem parts_two {c : UInt8} {w a b : ByteArray} (h : partsS c w = [a, b]) : w = a ++ ⟨#[c]⟩ ++ b ∧ c ∉ a.data.toList ∧ c ∉ b.data.toList := by
  have h1 := partsS_join c w
  rw [h, joinT_two] at h1
  have hf : ∀ x ∈ partsS c w, c ∉ x.data.toList := fun x hx => by
    obtain ⟨l, hl, rfl⟩ := List.mem_map.1 hx
    simpa using partsL_free l hl
  exact ⟨h1.symm, hf a (by rw [h]; simp), hf b (by rw [h]; simp)⟩
theorem parts_of_two {c : UInt8} {a b : ByteArray} (h1 : c ∉ a.data.toList) (h2 : c ∉ b.data.toList) : partsS c (a ++ ⟨#[c]⟩ ++ b) = [a, b] := by
  rw [← joinT_two]
  refine parts_joinT c [a, b] (by simp) fun x hx => ?_
  rcases List.mem_cons.1 hx with rfl | hx
  · exact h1
  · obtain rfl : x = b := by simpa using hx
    exact h2
end Go.Proofs.YtklgkbiobggbiaaDoor
namespace Go.Proofs.YtklgkbiobggbiaaDoor
open Go.ChangeShapes Go.WideShapes Go.ChangeAt Go.RowKit Go.Deep Go.Joins
set_option linter.unusedVariables false
set_option maxRecDepth 100000
set_option linter.unusedSimpArgs false
theorem decT_sizeN (n : Int) (h0 : 0 ≤ n) (h1 : n ≤ 9223372036854775807) : (decT n).size ≤ 20 := by
  obtain ⟨N, rfl⟩ : ∃ N : Nat, n = (N : Int) := ⟨n.toNat, by omega⟩
  have e : (decT (N : Int)).size = (Lib.decDigits N).length := by
    unfold decT Lib.itoa ByteArray.size
    rw [if_neg (by omega)]
    simp
  rw [e]
  by_cases h : N = 0
  · subst h
    rw [Lib.decDigits, dif_pos (by decide)]; simp
  · have hd := decD_len N (by omega)
    unfold decD at hd
    rwa [if_neg h] at hd
end Go.Proofs.YtklgkbiobggbiaaDoor
namespace Go.Proofs.YtklgkbiobggbiaaDoor
open Go.ChangeShapes Go.WideShapes Go.ChangeAt Go.RowKit Go.Deep Go.Joins
set_option linter.unusedVariables false
set_option maxRecDepth 100000
set_option linter.unusedSimpArgs false
def listT (zs : List Int) : ByteArray := joinT 44 (zs.map decT)
theorem listT_sizes (zs : List Int) (hz : ∀ z ∈ zs, 0 ≤ z ∧ z ≤ 1000000000000) : ∀ x ∈ zs.map decT, x.size ≤ 20 := by
  intro x hx
  obtain ⟨z, hz1, rfl⟩ := List.mem_map.1 hx
  have := hz z hz1
  exact decT_sizeN z this.1 (by omega)
theorem listT_size (zs : List Int) (hz : ∀ z ∈ zs, 0 ≤ z ∧ z ≤ 1000000000000) : (listT zs).size ≤ 21 * zs.length := by
  have := joinT_size 44 20 (zs.map decT) (listT_sizes zs hz)
  rwa [List.length_map] at this
theorem isValue_is (n : Int) (w : World) (h : 0 ≤ n ∧ n ≤ 1000000000000) : Calls Tryd.prog 98 #[.int .i64 n] w fun e w' => e = .returned (.bool false) ∧ w = w' := by
  have hb : inB n (-1000000000000) 1000000000000 = true := inB_mk (by omega)
  have H : ∀ w' : World, Calls Tryd.prog 99 #[.int .i64 n] w' fun e w'' => e = .returned (.bool true) ∧ w' = w'' := fun w' => by
    go_enter Tryd.func99, Tryd.ntmps99
    go_wp2_with (go_at_call 70; refine (within_is _ _ _ _ hb).mono ?_; rintro e w' ⟨rfl, rfl⟩)
    go_ret
    exact ⟨rfl, rfl⟩
  have HH := Lib.hid H; clear H
  go_enter Tryd.func98, Tryd.ntmps98
  go_wp2_with (go_at_call 99; refine (HH.out _).mono ?_; rintro e1 w1 ⟨rfl, rfl⟩)
  go_ret
  exact ⟨rfl, rfl⟩
theorem IndexFunc_val (w : World) (v : Value) (zs : List Int) (h : Rd w.heap.size w v 1 zs.length (zs.flatMap putI)) (h0 : 0 < zs.length) (hn : zs.length ≤ 64) (hz : ∀ z ∈ zs, 0 ≤ z ∧ z ≤ 1000000000000) :
    Calls Tryd.prog 124 #[v, .func (.func 98) #[] #[]] w fun e w' => e = .returned (.int .i64 (-1)) ∧ w = w' := by
  obtain ⟨hL, ao, cap, rfl, hcap, hmax, hnil, hsome⟩ := h
  have Hz := Lib.hid hz; clear hz
  go_enter Tryd.func124, Tryd.ntmps124
  go_wp2
  go_loop [8] (fun i => ∃ (k : Nat), k ≤ zs.length ∧ i = .int .i64 k) (fun i => zs.length - (intOf i).toNat)
  case atStart => exact ⟨0, Nat.zero_le _, rfl⟩
  case round =>
    obtain ⟨k, hk, rfl⟩ := hrel
    by_cases hlt : k < zs.length
    · obtain ⟨b, off, rfl, hbB, hc⟩ := hsome (by omega)
      have c1 : w.cell? ⟨b, off + k, none⟩ = some (.int .i64 zs[k]) := by rw [hc k (by omega), putI_get zs k hlt]
      have HC := Lib.hid (fun w' => isValue_is zs[k] w' (Hz.out _ (List.getElem_mem hlt)))
      clear hc hsome hnil
      go_wp2_with (go_at_call 98; refine (HC.out _).mono ?_; rintro e1 w1 ⟨rfl, rfl⟩)
      go_round
      case rel => exact ⟨k + 1, by omega, by go_num⟩
      case measure => simp [intOf]; omega
    · clear hsome hnil
      go_wp2
      go_ret
      exact ⟨rfl, rfl⟩
theorem ContainsFunc_val (w : World) (v : Value) (zs : List Int) (h : Rd w.heap.size w v 1 zs.length (zs.flatMap putI)) (h0 : 0 < zs.length) (hn : zs.length ≤ 64) (hz : ∀ z ∈ zs, 0 ≤ z ∧ z ≤ 1000000000000) :
    Calls Tryd.prog 97 #[v, .func (.func 98) #[] #[]] w fun e w' => e = .returned (.bool false) ∧ w = w' := by
  have H := Lib.hid (IndexFunc_val w v zs h h0 hn hz)
  clear h hz
  go_enter Tryd.func97, Tryd.ntmps97
  go_wp2_with fail
  refine H.out.mono ?_; rintro e1 w1 ⟨rfl, rfl⟩
  go_wp2_with fail
  go_ret
  exact ⟨rfl, rfl⟩
theorem infoS : (Tryd.prog.info? 9).map (fun i => (i.zero, i.size, i.bytes)) = some (some (.string ByteArray.empty), 1, 16) := by kernel_rfl
theorem strs_snoc (xs : List ByteArray) (a : ByteArray) : (xs ++ [a]).flatMap putStr = xs.flatMap putStr ++ [.string a] := by rw [List.flatMap_append]; rfl
set_option maxHeartbeats 4000000 in
theorem impl_ListText (w : World) (v : Value) (zs : List Int) (h : Rd w.heap.size w v 1 zs.length (zs.flatMap putI)) (h0 : 0 < zs.length) (hn : zs.length ≤ 64) (hz : ∀ z ∈ zs, 0 ≤ z ∧ z ≤ 1000000000000) (hp : Pow10 w) :
    Calls Tryd.prog 60 #[v] w fun e w' => e = .returned (.string (listT zs)) ∧ Below w.heap.size w w' := by
  have HCF := Lib.hid (ContainsFunc_val w v zs h h0 hn hz)
  obtain ⟨hL, ao, cap, rfl, hcap, hmax, hnil, hsome⟩ := h
  obtain ⟨i0, hi, hz0, hz1, hz2⟩ := info_parts infoS
  have Hs := Lib.hid (listT_sizes zs hz)
  have Hz := Lib.hid hz; clear hz
  have HP := Lib.hid hp; clear hp
  have hne : ((zs.length : Int) == 0) = false := beq_eq_false_iff_ne.2 (by omega)
  have hne2 : decide (zs.length = 0) = false := decide_eq_false (by omega)
  have h64 : decide ((64 : Int) < zs.length) = false := decide_eq_false (by omega)
  have h64b : decide (64 < zs.length) = false := decide_eq_false (by omega)
  go_enter Tryd.func60, Tryd.ntmps60
  go_wp2_with (go_at_call 97; refine HCF.out.mono ?_; rintro e1 w1 ⟨rfl, rfl⟩)
  go_loopw [3, 18] (fun r i wr => ∃ (k : Nat), k ≤ zs.length ∧ i = .int .i64 k ∧ wr.ownsRow w.heap.size 9 1 r ((zs.map decT).take k).length (((zs.map decT).take k).flatMap putStr) ∧ Below w.heap.size w wr) (fun _ i _ => zs.length - (intOf i).toNat)
  case atStart => exact ⟨0, Nat.zero_le _, rfl, own_nil _ _ _ _, Below.refl _ _⟩
  case round =>
    obtain ⟨k, hk, rfl, hown, hb⟩ := hrel
    have HO := Lib.hid hown; clear hown
    have HB := Lib.hid hb
    have hlk : ((zs.map decT).take k).length ≤ 64 := by rw [List.length_take, List.length_map]; omega
    by_cases hlt : k < zs.length
    · obtain ⟨b, off, rfl, hbB, hc⟩ := hsome (by omega)
      have c1 : wr.cell? ⟨b, off + k, none⟩ = some (.int .i64 zs[k]) := by rw [hb.cell (p := ⟨b, off + k, none⟩) hbB, hc k (by omega), putI_get zs k hlt]
      have hzk := Hz.out zs[k] (List.getElem_mem hlt)
      have HD := Lib.hid (impl_Decimal zs[k] wr (by omega) (by omega) (HP.out.below hb))
      have hlm : k < (zs.map decT).length := by rw [List.length_map]; exact hlt
      have e : Hid ((zs.map decT).take (k + 1) = (zs.map decT).take k ++ [decT zs[k]]) := Lib.hid (by rw [List.take_succ_eq_append_getElem hlm, List.getElem_map])
      clear hc hsome hnil hb hlm
      generalize (zs.map decT).take k = J at *
      go_wp2_with fail
      refine HD.out.mono ?_; rintro e1 w1 ⟨rfl, b1⟩
      have HB1 := Lib.hid (HB.out.trans (b1.mono HB.out.size))
      have HO1 := Lib.hid (own_below HO.out b1 (Nat.le_refl _))
      have hws1 := HB1.out.size
      clear b1
      go_wp2_with (at_builtin; refine app_el rfl _ _ 35 9 i0 (.string ByteArray.empty) 1 16 Tryd.underlying35 hi hz0 hz1 hz2 rfl (by decide) rfl w1 w.heap.size _ _ (J.flatMap putStr) (by rfl) HO1.out [.string (decT zs[k])] rfl (by intro u hu; simp at hu; subst hu; rfl) (by rfl) (by omega) (by decide) hws1 ?_; intro g gc w3 hown3 hB3 hz; have HB3 := Lib.hid (hB3 w HB1.out); have HO3 := Lib.hid hown3; clear hown3 hB3)
      go_roundw
      case rel => exact ⟨k + 1, by omega, by go_num, by rw [e.out, strs_snoc, List.length_append]; exact HO3.out, HB3.out⟩
      case measure => simp [intOf]; omega
    · have em : (zs.map decT).take k = zs.map decT := List.take_of_length_le (by rw [List.length_map]; omega)
      rw [em] at HO
      have hrd := own_rd HO.out
      have HJ := Lib.hid (impl_join 44 wr _ (zs.map decT) hrd (by rw [List.length_map]; exact h0) (by rw [List.length_map]; omega) 20 (by omega) Hs.out)
      have el : Hid (listT zs = joinT 44 (zs.map decT)) := (rfl : listT zs = joinT 44 (zs.map decT))
      obtain ⟨jo, jc, ej⟩ := hrd.form
      subst ej
      rw [List.length_map] at HJ
      generalize joinT 44 (zs.map decT) = J at *
      clear hsome hnil hb em hrd
      go_wp2_with fail
      refine HJ.out.mono ?_; rintro e1 w1 ⟨rfl, b1⟩
      have HB1 := Lib.hid (HB.out.trans (b1.mono HB.out.size)); clear b1
      go_wp2_with fail
      go_ret
      exact ⟨by rw [el.out]; try rfl, HB1.out⟩
end Go.Proofs.YtklgkbiobggbiaaDoor
