/- Numbers in decimal: both sides compute the same. -/
import Derived.Test.YtmkemjfbmnnflaaDoorRows
import Derived.Test.YtmkemjfbmnnflaaDoorIn
import Derived.Test.YtmkemjfbmnnflaaDoorAcc
import Derived.Test.YtmkemjfbmnnflaaDoorAppSl
import Derived.Shelf.Lay
import Derived.Shelf.Strconv.Itoa4
import Derived.Ground.NamesProg
import Derived.Lib.ItoaNum
import Derived.Lib.LaidTab
import Derived.Lib.AppendIntMem
import Derived.Laws.IdiomStrings
namespace Go.Proofs.YtmkemjfbmnnflaaDoor
open Go.ChangeShapes Go.WideShapes Go.ChangeAt Go.RowKit Go.Deep Go.Joins
set_option linter.unusedVariables false
set_option maxRecDepth 100000
set_option linter.unusedSimpArgs false
/-- a number in decimal -/
def decT (n : Int) : ByteArray := ⟨(Lib.itoa n).toArray⟩
def u8v (b : UInt8) : Value := .int .u8 (b.toNat : Int)
theorem u8_one (l : List UInt8) : ∀ u ∈ l.map u8v, u.oneCell' = true := by
  intro u hu
  obtain ⟨x, _, rfl⟩ := List.mem_map.1 hu
  rfl
/-- the digits of u; none for 0 -/
def decD (u : Nat) : List UInt8 := if u = 0 then [] else Lib.decDigits u
theorem decD_step {u : Nat} (h : 0 < u) : decD u = decD (u / 10) ++ [UInt8.ofNat (48 + u % 10)] := by
  unfold decD
  rw [if_neg (by omega), Lib.decDigits]
  by_cases h1 : u < 10
  · rw [dif_pos h1, if_pos (by omega), Nat.mod_eq_of_lt h1]; rfl
  · rw [dif_neg h1, if_neg (by omega)]
theorem decD_len (u : Nat) (h : u ≤ 9223372036854775808) : (decD u).length ≤ 20 := by
  unfold decD
  split
  · simp
  · rw [Lib.decDigits_length]
    rcases Nat.lt_or_ge 20 (Lib.nDigits u) with h1 | h1
    · exfalso
      have h2 : ∀ k u, Lib.nDigits u = k + 1 → 1 ≤ u → 10 ^ k ≤ u := fun k => by
        induction k with
        | zero => intro u _ h; omega
        | succ k ih =>
          intro u he hu
          by_cases h10 : u < 10
          · rw [Lib.nDigits_small h10] at he; omega
          · rw [Lib.nDigits_big h10] at he
            have := ih (u / 10) (by omega) (by omega)
            rw [Nat.pow_succ]; omega
      have h3 := h2 (Lib.nDigits u - 1) u (by omega) (by omega)
      have h4 : 10 ^ 20 ≤ 10 ^ (Lib.nDigits u - 1) := Nat.pow_le_pow_right (by omega) (by omega)
      omega
    · exact h1
theorem info_u8 : (Tryd.prog.info? 5).map (fun i => (i.zero, i.size, i.bytes)) = some (some (.int .u8 0), 1, 1) := by kernel_rfl
theorem u8_snoc (xs : List UInt8) (a : UInt8) : (xs ++ [a]).map u8v = xs.map u8v ++ [u8v a] := by simp
theorem digit_u8 (u : Nat) : u8v (UInt8.ofNat (48 + u % 10)) = .int .u8 (48 + (u : Int) % 10) := by
  unfold u8v
  have : (UInt8.ofNat (48 + u % 10)).toNat = 48 + u % 10 := by rw [UInt8.toNat_ofNat']; omega
  rw [this]; rfl
/-- 'string(b)' of bytes of one's own -/
theorem conv_own {w : World} {base : Nat} {v : Value} {l : List UInt8} (h : w.ownsRow base 5 1 v l.length (l.map u8v)) : (convert 87 9 v).run Tryd.prog w = .ok (.string ⟨l.toArray⟩) w := by
  rcases own_form h with ⟨rfl, h0⟩ | ⟨g, cap, rfl⟩
  · have : l = [] := List.eq_nil_of_length_eq_zero h0
    subst this
    have := run_convert_bytes_string (P := Tryd.prog) w 87 9 5 none 0 0 Tryd.underlying87 Tryd.underlying5 Tryd.underlying9
    rw [this]
    simp [Conv.bytesToString]
    rfl
  · refine run_convert_bytes_back (P := Tryd.prog) w 87 9 5 ⟨g, 0, none⟩ cap l Tryd.underlying87 Tryd.underlying5 Tryd.underlying9 (fun j hj => ?_)
    obtain ⟨hL, ao', cap', e, hcap, hmax, hnil, hsome⟩ := own_rd h
    obtain ⟨b, off, e1, hb, hc⟩ := hsome (by omega)
    injection e with q1 q2 q3
    subst q1
    injection e1 with e2
    injection e2 with e3 e4 e5
    subst e3; subst e4
    have hadd : (⟨g, 0, none⟩ : Addr).add j = ⟨g, 0 + j, none⟩ := by unfold Addr.add; split <;> simp_all
    rw [hadd, hc j (by omega)]
    simp [List.getElem?_eq_getElem hj, u8v]
def Tryd.fmtInt_ren : Go.Shelf.Ren := ⟨fun | 173 => 51 | 246 => 76 | 283 => 84 | 284 => 85 | 285 => 86 | 286 => 87 | 129 => 94 | 317 => 93 | 318 => 95 | 319 => 96 | 320 => 97 | 337 => 101 | 338 => 102 | n => n, fun | 2 => 2 | 3 => 3 | 9 => 9 | 4 => 4 | 171 => 110 | 0 => 0 | 53 => 111 | 37 => 87 | 5 => 5 | 173 => 114 | 212 => 126 | 51 => 127 | 20 => 20 | 213 => 128 | 46 => 119 | 232 => 136 | 233 => 137 | n => n, fun | 17 => 0 | 18 => 2 | 19 => 3 | n => n⟩
theorem Tryd.fmtInt : Go.Proofs.LaysM.n173 Tryd.prog Tryd.fmtInt_ren := {
  mixed := by kernel_rfl
  f129 := Tryd.func94.trans (congrArg some (by kernel_rfl))
  f173 := Tryd.func51.trans (congrArg some (by kernel_rfl))
  f246 := Tryd.func76.trans (congrArg some (by kernel_rfl))
  f283 := Tryd.func84.trans (congrArg some (by kernel_rfl))
  f284 := Tryd.func85.trans (congrArg some (by kernel_rfl))
  f285 := Tryd.func86.trans (congrArg some (by kernel_rfl))
  f286 := Tryd.func87.trans (congrArg some (by kernel_rfl))
  f317 := Tryd.func93.trans (congrArg some (by kernel_rfl))
  f318 := Tryd.func95.trans (congrArg some (by kernel_rfl))
  f319 := Tryd.func96.trans (congrArg some (by kernel_rfl))
  f320 := Tryd.func97.trans (congrArg some (by kernel_rfl))
  f337 := Tryd.func101.trans (congrArg some (by kernel_rfl))
  f338 := Tryd.func102.trans (congrArg some (by kernel_rfl))
  t0 := Tryd.underlying0
  a0 := Tryd.isAgg0
  z0 := Tryd.sizeOf0
  v0 := Tryd.zeroValue0
  t2 := Tryd.underlying2
  a2 := Tryd.isAgg2
  z2 := Tryd.sizeOf2
  v2 := Tryd.zeroValue2
  t3 := Tryd.underlying3
  a3 := Tryd.isAgg3
  z3 := Tryd.sizeOf3
  v3 := Tryd.zeroValue3
  t4 := Tryd.underlying4
  a4 := Tryd.isAgg4
  z4 := Tryd.sizeOf4
  v4 := Tryd.zeroValue4
  t5 := Tryd.underlying5
  a5 := Tryd.isAgg5
  z5 := Tryd.sizeOf5
  v5 := Tryd.zeroValue5
  t9 := Tryd.underlying9
  a9 := Tryd.isAgg9
  z9 := Tryd.sizeOf9
  v9 := Tryd.zeroValue9
  t20 := Tryd.underlying20
  a20 := Tryd.isAgg20
  z20 := Tryd.sizeOf20
  v20 := Tryd.zeroValue20
  t37 := Tryd.underlying87
  a37 := Tryd.isAgg87
  z37 := Tryd.sizeOf87
  v37 := Tryd.zeroValue87
  t46 := Tryd.underlying119
  a46 := Tryd.isAgg119
  z46 := Tryd.sizeOf119
  v46 := Tryd.zeroValue119
  t51 := Tryd.underlying127
  a51 := Tryd.isAgg127
  z51 := Tryd.sizeOf127
  v51 := Tryd.zeroValue127
  t53 := Tryd.underlying111
  a53 := Tryd.isAgg111
  z53 := Tryd.sizeOf111
  v53 := Tryd.zeroValue111
  t171 := Tryd.underlying110
  a171 := Tryd.isAgg110
  z171 := Tryd.sizeOf110
  v171 := Tryd.zeroValue110
  t173 := Tryd.underlying114
  a173 := Tryd.isAgg114
  z173 := Tryd.sizeOf114
  v173 := Tryd.zeroValue114
  t212 := Tryd.underlying126
  a212 := Tryd.isAgg126
  z212 := Tryd.sizeOf126
  v212 := Tryd.zeroValue126
  t213 := Tryd.underlying128
  a213 := Tryd.isAgg128
  z213 := Tryd.sizeOf128
  t232 := Tryd.underlying136
  a232 := Tryd.isAgg136
  z232 := Tryd.sizeOf136
  v232 := Tryd.zeroValue136
  t233 := Tryd.underlying137
  a233 := Tryd.isAgg137
  z233 := Tryd.sizeOf137
  v233 := Tryd.zeroValue137
  g17 := by kernel_rfl
  g18 := by kernel_rfl
  g19 := by kernel_rfl
  i0 := by kernel_rfl
  i2 := by kernel_rfl
  i3 := by kernel_rfl
  i4 := by kernel_rfl
  i5 := by kernel_rfl
  i9 := by kernel_rfl
  i20 := by kernel_rfl
  i37 := by kernel_rfl
  i46 := by kernel_rfl
  i51 := by kernel_rfl
  i53 := by kernel_rfl
  i171 := by kernel_rfl
  i173 := by kernel_rfl
  i212 := by kernel_rfl
  i232 := by kernel_rfl
  i233 := by kernel_rfl
  m17 := by kernel_rfl
  m18 := by kernel_rfl
  m19 := by kernel_rfl }
def Pow10 (w : World) : Prop := Lib.TabIs Tryd.prog w "internal/strconv.uint64pow10" .u64 Lib.pow10Tab
theorem Pow10.below {w w' : World} (h : Pow10 w) (b : Below w.heap.size w w') : Pow10 w' := Lib.tabBelow_of_tabIs h w' b
theorem below_grow (w : World) (k : Nat) (os : Array Obj) : Below w.heap.size w (Go.Sort.grow (w.drewN k) os) :=
  ⟨rfl, rfl, rfl, by simp [Go.Sort.grow], fun i hi => by
    show ((w.drewN k).heap ++ os)[i]? = _
    rw [Array.getElem?_append_left (by show i < w.heap.size; omega)]; rfl⟩
theorem impl_Decimal (n : Int) (w : World) (h0 : -9223372036854775808 ≤ n) (h1 : n ≤ 9223372036854775807) (hp : Pow10 w) :
    Calls Tryd.prog 29 #[.int .i64 n] w fun e w' => e = .returned (.string (decT n)) ∧ Below w.heap.size w w' := by
  go_enter Tryd.func29, Tryd.ntmps29
  go_wp2_with (go_at_call 51; refine (Any.strconv_FormatInt_10 Tryd.fmtInt n h0 h1 w hp).mono ?_; rintro e w' ⟨rfl, k, os, rfl⟩)
  go_ret
  exact ⟨rfl, below_grow _ _ _⟩

set_option maxHeartbeats 4000000 in
theorem spec_l01Dec (n : Int) (w : World) (h0 : 0 < n) (h1 : n ≤ 9223372036854775807) :
    Calls Tryd.prog 49 #[.int .i64 n] w fun e w' => e = .returned (.string (decT n)) ∧ Below w.heap.size w w' := by
  obtain ⟨N, rfl⟩ : ∃ N : Nat, n = (N : Int) := ⟨n.toNat, by omega⟩
  obtain ⟨i0, hi, hz0, hz1, hz2⟩ := info_parts info_u8
  have et : Hid (decT (N : Int) = ⟨(decD N).toArray⟩) := Lib.hid (by
    unfold decT Lib.itoa decD
    rw [if_neg (by omega), if_neg (by omega)]; rfl)
  have hdl := decD_len N (by omega)
  have t0 : ((N : Int) == 0) = false := beq_eq_false_iff_ne.2 (by omega)
  have t1 : decide ((N : Int) < 0) = false := decide_eq_false (by omega)
  go_enter Tryd.func49, Tryd.ntmps49
  go_wp2
  go_loopw [3, 4, 5] (fun r m _ wr => ∃ (u : Nat) (D : List UInt8), u ≤ N ∧ m = .int .i64 u ∧ decD u ++ D.reverse = decD N ∧ wr.ownsRow w.heap.size 5 1 r D.length (D.map u8v) ∧ Below w.heap.size w wr) (fun _ m _ _ => (intOf m).toNat)
  case atStart => exact ⟨N, [], Nat.le_refl _, rfl, by simp, own_empty w _ _ _ (Nat.le_refl _), by (repeat' (first | (with_reducible exact Below.refl _ _) | (with_reducible assumption) | (with_reducible refine below_dn ?_ _) | (with_reducible refine Below.drew ?_) | (with_reducible refine Below.alloc ?_ ?_ _) | (with_reducible refine Below.setCell ?_ ?_ _) | go_size))⟩
  case round =>
    obtain ⟨u, D, hu, rfl, he, hown, hb⟩ := hrel
    have hDl : D.length ≤ 20 := by
      have := congrArg List.length he
      rw [List.length_append, List.length_reverse] at this
      omega
    have HE := Lib.hid he; clear he
    have HO := Lib.hid hown; clear hown
    have HB := Lib.hid hb
    have hws := hb.size
    clear hb
    by_cases hu0 : 0 < u
    · have t2 : ((u : Int) != 0) = true := bne_iff_ne.2 (by omega)
      have e2 : Hid (decD (u / 10) ++ (D ++ [UInt8.ofNat (48 + u % 10)]).reverse = decD N) := Lib.hid (by
        rw [← HE.out, decD_step hu0, List.reverse_append, List.append_assoc]; rfl)
      have ec := Lib.hid (digit_u8 u)
      go_wp2_with (at_builtin; refine app_el rfl _ _ 87 5 i0 (.int .u8 0) 1 1 Tryd.underlying87 hi hz0 hz1 hz2 rfl (by decide) rfl wr w.heap.size _ _ (D.map u8v) (by rfl) HO.out [.int .u8 (48 + (u : Int) % 10)] rfl (by intro u hu; simp at hu; subst hu; rfl) (by rfl) (by omega) (by decide) hws ?_; intro g gc w3 hown3 hB3 hz; have HB3 := Lib.hid (hB3 w HB.out); have HO3 := Lib.hid hown3; clear hown3 hB3)
      go_roundw
      case rel => exact ⟨u / 10, D ++ [UInt8.ofNat (48 + u % 10)], by omega, by go_num, e2.out, by rw [u8_snoc, ec.out, List.length_append]; exact HO3.out, HB3.out⟩
      case measure => simp [intOf]; omega
    · have t2 : ((u : Int) != 0) = false := by
        have : u = 0 := by omega
        subst this; rfl
      have hrev : Hid (D.reverse = decD N) := Lib.hid (by
        have := HE.out
        rw [show u = 0 by omega] at this
        exact this)
      have hD0 : 0 < D.length := by
        have := congrArg List.length hrev.out
        rw [List.length_reverse] at this
        rw [this, decD_step (by omega)]; simp
      clear hu0
      obtain ⟨g4, c4, e5⟩ := (own_form HO.out).resolve_left (fun h => by omega)
      subst e5
      go_wp2_with fail
      obtain ⟨wo, rfl⟩ : ∃ wo : World, wo = wr := ⟨_, rfl⟩
      obtain ⟨hL, ao', cap', e, hcap, hmax, hnil, hsome⟩ := own_rd HO.out
      obtain ⟨b4, off4, e1, hb4, hc4⟩ := hsome (by omega)
      injection e with q1 q2 q3
      subst q1
      injection e1 with e2
      injection e2 with e3 e4 e5
      subst e3; subst e4
      clear e5 hsome hnil q2 q3
      go_loopw [6, 7] (fun r i wr => ∃ (k : Nat), k ≤ D.length ∧ i = .int .i64 ((k : Int) - 1) ∧ wr.ownsRow wo.heap.size 5 1 r (D.drop k).reverse.length ((D.drop k).reverse.map u8v) ∧ Below wo.heap.size wo wr) (fun _ i _ => (intOf i + 1).toNat)
      case atStart => exact ⟨D.length, Nat.le_refl _, rfl, by rw [List.drop_length]; exact own_empty wo wo.heap.size _ _ (Nat.le_refl _), by (repeat' (first | (with_reducible exact Below.refl _ _) | (with_reducible assumption) | (with_reducible refine below_dn ?_ _) | (with_reducible refine Below.drew ?_) | (with_reducible refine Below.alloc ?_ ?_ _) | (with_reducible refine Below.setCell ?_ ?_ _) | go_size))⟩
      case round =>
        obtain ⟨k, hk, rfl, hown2, hb2⟩ := hrel
        have HO2 := Lib.hid hown2
        have HB2 := Lib.hid hb2
        have hws2 := hb2.size
        by_cases hk0 : 0 < k
        · have hkl : k - 1 < D.length := by omega
          have c0 : wr.cell? ⟨g4, k - 1, none⟩ = some (u8v D[k - 1]) := by
            rw [hb2.cell (p := ⟨g4, k - 1, none⟩) hb4]
            have := hc4 (k - 1) (by omega)
            rw [Nat.zero_add] at this
            rw [this, List.getElem?_map, List.getElem?_eq_getElem hkl]; rfl
          have hbr4 : g4 < wr.heap.size := Nat.lt_of_lt_of_le hb4 hws2
          have e3 : Hid ((D.drop (k - 1)).reverse = (D.drop k).reverse ++ [D[k - 1]]) := Lib.hid (by
            rw [List.drop_eq_getElem_cons hkl, List.reverse_cons, show k - 1 + 1 = k by omega])
          have hdr : (D.drop k).reverse.length ≤ 20 := by rw [List.length_reverse, List.length_drop]; omega
          have t3 : decide ((0 : Int) ≤ (k : Int) - 1) = true := decide_eq_true (by omega)
          generalize (D.drop k).reverse = R at *
          unfold u8v at c0
          clear hown2 hb2
          go_wp2_with (at_builtin; refine app_el rfl _ _ 87 5 i0 (.int .u8 0) 1 1 Tryd.underlying87 hi hz0 hz1 hz2 rfl (by decide) rfl wr wo.heap.size _ _ (R.map u8v) (by rfl) HO2.out [.int .u8 (D[k - 1].toNat : Int)] rfl (by intro u hu; simp at hu; subst hu; rfl) (by rfl) (by omega) (by decide) hws2 ?_; intro g gc w3 hown3 hB3 hz; have HB3 := Lib.hid (hB3 wo HB2.out); have HO3 := Lib.hid hown3; clear hown3 hB3)
          go_roundw
          case rel => exact ⟨k - 1, by omega, by go_num, by rw [e3.out, u8_snoc, List.length_append]; exact HO3.out, HB3.out⟩
          case measure => simp [intOf]; omega
        · obtain rfl : k = 0 := by omega
          have t3 : decide ((0 : Int) ≤ ((0 : Nat) : Int) - 1) = false := by decide
          have er : Hid ((D.drop 0).reverse = decD N) := hrev
          rw [er.out] at HO2
          have kc := conv_own HO2.out
          have HBF := Lib.hid (HB.out.trans (hb2.mono hws))
          clear hown2 hb2
          go_wp2_with fail
          go_ret
          exact ⟨by rw [et.out]; try rfl, HBF.out⟩
end Go.Proofs.YtmkemjfbmnnflaaDoor
