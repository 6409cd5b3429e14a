/- Contracts and plain facts, joined: Root, Sine. -/
import Derived.Test.YtockglfoeagahaaGreatDoorRows
import Derived.Test.YtockglfoeagahaaGreatDoorZFnWarbleB
namespace Go.Proofs.YtockglfoeagahaaGreatDoor
open Go.ChangeShapes Go.WideShapes Go.ChangeAt Go.RowKit Go.Deep Go.Joins
set_option linter.unusedVariables false
set_option maxRecDepth 100000
set_option linter.unusedSimpArgs false
def IsRoot (n r : Int) : Prop := 0 ≤ r ∧ r * r ≤ n ∧ n < (r + 1) * (r + 1)
theorem sq_mono {a b : Int} (ha : 0 ≤ a) (h : a ≤ b) : a * a ≤ b * b := Int.mul_le_mul h h ha (by omega)
theorem isRoot_unique {n r s : Int} (h : IsRoot n r) (k : IsRoot n s) : r = s := by
  obtain ⟨h1, h2, h3⟩ := h
  obtain ⟨k1, k2, k3⟩ := k
  rcases Int.lt_trichotomy r s with hlt | he | hlt
  · have := sq_mono (a := r + 1) (b := s) (by omega) (by omega)
    omega
  · exact he
  · have := sq_mono (a := s + 1) (b := r) (by omega) (by omega)
    omega
open Classical in
noncomputable def rootS (n : Int) : Int := if h : ∃ r, IsRoot n r then h.choose else 0
theorem rootS_eq {n r : Int} (h : IsRoot n r) : rootS n = r := by
  unfold rootS
  have he : ∃ r, IsRoot n r := ⟨r, h⟩
  rw [dif_pos he]
  exact isRoot_unique he.choose_spec h

theorem sq_bd {a : Int} (h0 : 0 ≤ a) (h1 : a ≤ 1600000000) : 0 ≤ a * a ∧ a * a ≤ 2560000000000000000 := by
  have h2 := sq_mono h0 h1
  exact ⟨Int.mul_nonneg h0 h0, by omega⟩
theorem low_bd {n a : Int} (h0 : 0 ≤ a) (h : a * a ≤ n) (hn : n ≤ 1000000000000000) : a ≤ 31622777 := by
  rcases Int.lt_or_le 31622777 a with h1 | h1
  · have := sq_mono (a := 31622778) (b := a) (by omega) (by omega)
    omega
  · exact h1

/-- a bit: a power of two -/
inductive Pow2 : Int → Prop
  | one : Pow2 1
  | twice {b : Int} : Pow2 b → Pow2 (2 * b)
theorem Pow2.pos {b : Int} (h : Pow2 b) : 0 < b := by
  induction h with
  | one => omega
  | twice _ ih => omega
theorem Pow2.half {b : Int} (h : Pow2 b) : (b = 1 ∧ b / 2 = 0) ∨ (Pow2 (b / 2) ∧ 2 * (b / 2) = b) := by
  cases h with
  | one => left; exact ⟨rfl, rfl⟩
  | @twice c hc => right; rw [show 2 * c / 2 = c by omega]; exact ⟨hc, rfl⟩
theorem pow_top : Pow2 2147483648 := by
  have h : ∀ k : Nat, Pow2 (2 ^ k) := fun k => by
    induction k with
    | zero => exact .one
    | succ k ih => rw [Int.pow_succ, Int.mul_comm]; exact .twice ih
  exact h 31
/-- what is known of the root so far -/
def RootAt (n r b : Int) : Prop := 0 ≤ r ∧ r * r ≤ n ∧ ((b = 0 ∧ n < (r + 1) * (r + 1)) ∨ (Pow2 b ∧ n < (r + 2 * b) * (r + 2 * b)))
theorem rootAt_next {n r b s : Int} (h : RootAt n r b) (hp : Pow2 b) (hs : (s = r + b ∧ s * s ≤ n) ∨ (s = r ∧ n < (r + b) * (r + b))) : RootAt n s (b / 2) := by
  obtain ⟨h1, h2, h3⟩ := h
  have hb := hp.pos
  have h4 : n < (r + 2 * b) * (r + 2 * b) := by
    rcases h3 with h3 | h3
    · omega
    · exact h3.2
  have h5 : 0 ≤ s ∧ s * s ≤ n ∧ n < (s + b) * (s + b) := by
    rcases hs with ⟨rfl, hs⟩ | ⟨rfl, hs⟩
    · refine ⟨by omega, hs, ?_⟩
      rw [show r + b + b = r + 2 * b by omega]; exact h4
    · exact ⟨h1, h2, hs⟩
  refine ⟨h5.1, h5.2.1, ?_⟩
  rcases hp.half with ⟨rfl, h0⟩ | ⟨h6, h7⟩
  · left; exact ⟨h0, h5.2.2⟩
  · right; rw [h7]; exact ⟨h6, h5.2.2⟩
theorem le_div {n m : Int} (hm : 0 < m) : m ≤ n / m ↔ m * m ≤ n := Int.le_ediv_iff_mul_le hm

set_option maxHeartbeats 1000000 in
theorem impl_RootOf (n : Int) (w : World) (h0 : 0 ≤ n) (hn : n ≤ 1000000000000000) : Calls Tryz.prog 45 #[.int .i64 n] w fun e w' => e = .returned (.int .i64 (rootS n)) ∧ w = w' := by
  by_cases hz : n ≤ 0
  · have e := Lib.hid (rootS_eq (n := n) (r := 0) ⟨by omega, by omega, by omega⟩)
    go_enter Tryz.func45, Tryz.ntmps45
    go_wp2
    go_ret
    exact ⟨by rw [e.out]; rfl, rfl⟩
  have hz2 : 0 < n := by omega
  clear hz
  go_enter Tryz.func45, Tryz.ntmps45
  go_wp2
  go_loop [3, 4, 5] (fun r b _ => ∃ a c : Int, r = .int .i64 a ∧ b = .int .i64 c ∧ 0 ≤ a ∧ 0 ≤ c ∧ c ≤ 2147483648 ∧ RootAt n a c) (fun _ b _ => (intOf b).toNat)
  case atStart => exact ⟨0, 2147483648, rfl, rfl, by omega, by omega, by omega, by omega, by omega, .inr ⟨pow_top, by omega⟩⟩
  case round =>
    obtain ⟨a, c, rfl, rfl, ha, hc, hcb, hr⟩ := hrel
    have hab := low_bd ha hr.2.1 hn
    have HR := Lib.hid hr
    by_cases hlt : 0 < c
    · have hp : Pow2 c := by
        rcases hr.2.2 with h | h
        · omega
        · exact h.1
      have HP := Lib.hid hp
      clear hr hp
      obtain ⟨q0, q1⟩ : 0 ≤ n / (a + c) ∧ n / (a + c) ≤ 1000000000000000 := ⟨Int.ediv_nonneg h0 (by omega), by have := Int.ediv_le_self (a + c) h0; omega⟩
      have hd0 : (a + c == 0) = false := beq_eq_false_iff_ne.2 (by omega)
      have HL := Lib.hid (le_div (n := n) (m := a + c) (by omega))
      by_cases hcmp : a + c ≤ n / (a + c)
      · have HN := Lib.hid (rootAt_next HR.out HP.out (.inl ⟨rfl, HL.out.1 hcmp⟩))
        go_wp2
        go_round
        case rel => exact ⟨a + c, c / 2, rfl, rfl, by omega, by omega, by omega, HN.out⟩
        case measure => simp [intOf]; omega
      · have HN := Lib.hid (rootAt_next HR.out HP.out (.inr ⟨rfl, by have := HL.out; omega⟩))
        have hcmp2 : n / (a + c) < a + c := by omega
        go_wp2
        go_round
        case rel => exact ⟨a, c / 2, rfl, rfl, by omega, by omega, by omega, HN.out⟩
        case measure => simp [intOf]; omega
    · obtain rfl : c = 0 := by omega
      have e : Hid (rootS n = a) := rootS_eq ⟨hr.1, hr.2.1, by
        rcases hr.2.2 with h | h
        · exact h.2
        · have := h.1.pos; omega⟩
      clear hr
      go_wp2
      go_ret
      exact ⟨by rw [e.out]; rfl, rfl⟩
end Go.Proofs.YtockglfoeagahaaGreatDoor
namespace Go.Proofs.YtockglfoeagahaaGreatDoor
open Go.ChangeShapes Go.WideShapes Go.ChangeAt Go.RowKit Go.Deep Go.Joins
set_option linter.unusedVariables false
set_option maxRecDepth 100000
set_option linter.unusedSimpArgs false
def sinT : List Int := [0, 17452, 34899, 52336, 69756, 87156, 104528, 121869, 139173, 156434, 173648, 190809, 207912, 224951, 241922, 258819, 275637, 292372, 309017, 325568, 342020, 358368, 374607, 390731, 406737, 422618, 438371, 453990, 469472, 484810, 500000, 515038, 529919, 544639, 559193, 573576, 587785, 601815, 615661, 629320, 642788, 656059, 669131, 681998, 694658, 707107, 719340, 731354, 743145, 754710, 766044, 777146, 788011, 798636, 809017, 819152, 829038, 838671, 848048, 857167, 866025, 874620, 882948, 891007, 898794, 906308, 913545, 920505, 927184, 933580, 939693, 945519, 951057, 956305, 961262, 965926, 970296, 974370, 978148, 981627, 984808, 987688, 990268, 992546, 994522, 996195, 997564, 998630, 999391, 999848, 1000000]
theorem sinT_len : sinT.length = 91 := rfl
def tab (i : Nat) : Int := sinT[i]?.getD 0
theorem tab_bd (i : Nat) (h : i < 91) : 0 ≤ tab i ∧ tab i ≤ 1000000 := by
  have key : ∀ j : Fin 91, 0 ≤ tab j.1 ∧ tab j.1 ≤ 1000000 := by decide +kernel
  exact key ⟨i, h⟩
theorem tab_get (i : Nat) (h : i < 91) : (sinT.flatMap putI)[i]? = some (.int .i64 (tab i)) := by
  rw [putI_get sinT i h]
  unfold tab
  rw [List.getElem?_eq_getElem (by rw [sinT_len]; exact h)]
  rfl
/-- the sine at an angle from 0 to 359 -/
def sinN (t : Nat) : Int := if t ≤ 90 then tab t else if t ≤ 180 then tab (180 - t) else if t ≤ 270 then -tab (t - 180) else -tab (360 - t)
theorem sinN_bd (t : Nat) (h : t < 360) : -1000000 ≤ sinN t ∧ sinN t ≤ 1000000 := by
  unfold sinN
  have h1 := tab_bd t
  have h2 := tab_bd (180 - t)
  have h3 := tab_bd (t - 180)
  have h4 := tab_bd (360 - t)
  split
  · omega
  · split
    · omega
    · split <;> omega
def sineS (d : Int) : Int := sinN (d % 360).toNat
theorem sineS_bd (d : Int) : -1000000 ≤ sineS d ∧ sineS d ≤ 1000000 := sinN_bd _ (by omega)

/-- the program's table, as it lies in a world -/
def Sines (w : World) : Prop := ∀ i, i < 91 → w.cell? ⟨0, i, none⟩ = some (.int .i64 (tab i))
theorem Sines.below {B : Nat} {w w' : World} (h : Sines w) (hb : Below B w w') (hB : 0 < B) : Sines w' := fun i hi => (hb.cell (p := ⟨0, i, none⟩) hB).trans (h i hi)
theorem Sines.dn {w : World} (h : Sines w) (n : Nat) : Sines (w.drewN n) := h

theorem turn_eq (d : Int) : (d.tmod 360 + 360) % 360 = d % 360 := by
  rcases Int.le_total 0 d with h | h
  · rw [Int.tmod_eq_emod_of_nonneg h]; omega
  · obtain ⟨m, rfl⟩ : ∃ m, d = -m := ⟨-d, by omega⟩
    rw [Int.neg_tmod, Int.tmod_eq_emod_of_nonneg (by omega)]; omega
theorem turn_bd (d : Int) : -359 ≤ d.tmod 360 ∧ d.tmod 360 ≤ 359 := by
  have h1 := Int.tmod_lt_of_pos d (b := 360) (by omega)
  have h2 : -360 < d.tmod 360 := Int.lt_tmod_of_pos d (by omega)
  omega

theorem impl_turn (d : Int) (w : World) (hd : I64 d) : Calls Tryz.prog 26 #[.int .i64 d] w fun e w' => e = .returned (.int .i64 (d % 360)) ∧ w = w' := by
  have h1 := turn_bd d
  have h2 := Lib.hid (turn_eq d)
  unfold I64 at hd
  go_enter Tryz.func26, Tryz.ntmps26
  go_wp2
  go_ret
  exact ⟨by rw [← h2.out]; rfl, rfl⟩
theorem impl_WaveSine (d : Int) (w : World) (hd : I64 d) (hs : Sines w) : Calls Tryz.prog 64 #[.int .i64 d] w fun e w' => e = .returned (.int .i64 (sineS d)) ∧ w = w' := by
  have hT := Lib.hid (impl_turn d w hd)
  unfold sineS
  obtain ⟨t, ht, ht2⟩ : ∃ t : Nat, d % 360 = (t : Int) ∧ t < 360 := ⟨(d % 360).toNat, by omega, by omega⟩
  rw [ht] at hT ⊢
  rw [Int.toNat_natCast]
  clear hd
  by_cases h1 : t ≤ 90
  · have c1 := hs t (by omega)
    have e : Hid (sinN t = tab t) := (by unfold sinN; rw [if_pos h1] : sinN t = tab t)
    clear hs ht
    go_enter Tryz.func64, Tryz.ntmps64
    go_wp2_with fail
    refine hT.out.mono ?_; rintro e w' ⟨rfl, rfl⟩
    go_wp2_with fail
    go_ret
    exact ⟨by rw [e.out]; rfl, rfl⟩
  by_cases h2 : t ≤ 180
  · have c1 := hs (180 - t) (by omega)
    have e : Hid (sinN t = tab (180 - t)) := (by unfold sinN; rw [if_neg h1, if_pos h2] : sinN t = tab (180 - t))
    clear hs ht
    go_enter Tryz.func64, Tryz.ntmps64
    go_wp2_with fail
    refine hT.out.mono ?_; rintro e w' ⟨rfl, rfl⟩
    go_wp2_with fail
    go_ret
    exact ⟨by rw [e.out]; rfl, rfl⟩
  by_cases h3 : t ≤ 270
  · have c1 := hs (t - 180) (by omega)
    have e : Hid (sinN t = -tab (t - 180)) := (by unfold sinN; rw [if_neg h1, if_neg h2, if_pos h3] : sinN t = -tab (t - 180))
    have hb := tab_bd (t - 180) (by omega)
    clear hs ht
    go_enter Tryz.func64, Tryz.ntmps64
    go_wp2_with fail
    refine hT.out.mono ?_; rintro e w' ⟨rfl, rfl⟩
    go_wp2_with fail
    go_ret
    exact ⟨by rw [e.out]; rfl, rfl⟩
  · have c1 := hs (360 - t) (by omega)
    have e : Hid (sinN t = -tab (360 - t)) := (by unfold sinN; rw [if_neg h1, if_neg h2, if_neg h3] : sinN t = -tab (360 - t))
    have hb := tab_bd (360 - t) (by omega)
    clear hs ht
    go_enter Tryz.func64, Tryz.ntmps64
    go_wp2_with fail
    refine hT.out.mono ?_; rintro e w' ⟨rfl, rfl⟩
    go_wp2_with fail
    go_ret
    exact ⟨by rw [e.out]; rfl, rfl⟩

theorem impl_WaveCosine (d : Int) (w : World) (hd : I64 d) (hs : Sines w) : Calls Tryz.prog 63 #[.int .i64 d] w fun e w' => e = .returned (.int .i64 (sineS (d % 360 + 90))) ∧ w = w' := by
  have hT := Lib.hid (impl_turn d w hd)
  have hb : 0 ≤ d % 360 ∧ d % 360 < 360 := by omega
  have hS := Lib.hid (impl_WaveSine (d % 360 + 90) w ⟨by omega, by omega⟩ hs)
  clear hs hd
  generalize d % 360 = t at *
  go_enter Tryz.func63, Tryz.ntmps63
  go_wp2_with fail
  refine hT.out.mono ?_; rintro e w' ⟨rfl, rfl⟩
  go_wp2_with fail
  refine hS.out.mono ?_; rintro e w' ⟨rfl, rfl⟩
  go_wp2_with fail
  go_ret
  exact ⟨rfl, rfl⟩

/-- what the row lists of the table gives -/
theorem gSines : Tryz.prog.globalNamed "loop.example/g00952/impl.sines" = some 0 := by kernel_rfl
end Go.Proofs.YtockglfoeagahaaGreatDoor
