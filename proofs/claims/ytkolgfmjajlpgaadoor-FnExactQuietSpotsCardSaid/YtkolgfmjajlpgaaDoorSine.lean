/- The sine of an angle: both sides compute the same. -/
import Derived.Test.YtkolgfmjajlpgaaDoorRows
import Derived.Test.YtkolgfmjajlpgaaDoorCopyInts
namespace Go.Proofs.YtkolgfmjajlpgaaDoor
open Go.ChangeShapes Go.WideShapes Go.ChangeAt Go.RowKit Go.Deep Go.Joins
set_option linter.unusedVariables false
set_option maxRecDepth 100000
set_option linter.unusedSimpArgs false
def sinT : List Int := [0, 17452, 34899, 52336, 69756, 87156, 104528, 121869, 139173, 156434, 173648, 190809, 207912, 224951, 241922, 258819, 275637, 292372, 309017, 325568, 342020, 358368, 374607, 390731, 406737, 422618, 438371, 453990, 469472, 484810, 500000, 515038, 529919, 544639, 559193, 573576, 587785, 601815, 615661, 629320, 642788, 656059, 669131, 681998, 694658, 707107, 719340, 731354, 743145, 754710, 766044, 777146, 788011, 798636, 809017, 819152, 829038, 838671, 848048, 857167, 866025, 874620, 882948, 891007, 898794, 906308, 913545, 920505, 927184, 933580, 939693, 945519, 951057, 956305, 961262, 965926, 970296, 974370, 978148, 981627, 984808, 987688, 990268, 992546, 994522, 996195, 997564, 998630, 999391, 999848, 1000000]
theorem sinT_len : sinT.length = 91 := rfl
def tab (i : Nat) : Int := sinT[i]?.getD 0
theorem tab_bd (i : Nat) (h : i < 91) : 0 ≤ tab i ∧ tab i ≤ 1000000 := by
  have key : ∀ j : Fin 91, 0 ≤ tab j.1 ∧ tab j.1 ≤ 1000000 := by decide +kernel
  exact key ⟨i, h⟩
theorem tab_get (i : Nat) (h : i < 91) : (sinT.flatMap putI)[i]? = some (.int .i64 (tab i)) := by
  rw [putI_get sinT i h]
  unfold tab
  rw [List.getElem?_eq_getElem (by rw [sinT_len]; exact h)]
  rfl
/-- the sine at an angle from 0 to 359 -/
def sinN (t : Nat) : Int := if t ≤ 90 then tab t else if t ≤ 180 then tab (180 - t) else if t ≤ 270 then -tab (t - 180) else -tab (360 - t)
theorem sinN_bd (t : Nat) (h : t < 360) : -1000000 ≤ sinN t ∧ sinN t ≤ 1000000 := by
  unfold sinN
  have h1 := tab_bd t
  have h2 := tab_bd (180 - t)
  have h3 := tab_bd (t - 180)
  have h4 := tab_bd (360 - t)
  split
  · omega
  · split
    · omega
    · split <;> omega
def sineS (d : Int) : Int := sinN (d % 360).toNat
theorem sineS_bd (d : Int) : -1000000 ≤ sineS d ∧ sineS d ≤ 1000000 := sinN_bd _ (by omega)

/-- the program's table, as it lies in a world -/
def Sines (w : World) : Prop := ∀ i, i < 91 → w.cell? ⟨0, i, none⟩ = some (.int .i64 (tab i))
theorem Sines.below {B : Nat} {w w' : World} (h : Sines w) (hb : Below B w w') (hB : 0 < B) : Sines w' := fun i hi => (hb.cell (p := ⟨0, i, none⟩) hB).trans (h i hi)
theorem Sines.dn {w : World} (h : Sines w) (n : Nat) : Sines (w.drewN n) := h

theorem turn_eq (d : Int) : (d.tmod 360 + 360) % 360 = d % 360 := by
  rcases Int.le_total 0 d with h | h
  · rw [Int.tmod_eq_emod_of_nonneg h]; omega
  · obtain ⟨m, rfl⟩ : ∃ m, d = -m := ⟨-d, by omega⟩
    rw [Int.neg_tmod, Int.tmod_eq_emod_of_nonneg (by omega)]; omega
theorem turn_bd (d : Int) : -359 ≤ d.tmod 360 ∧ d.tmod 360 ≤ 359 := by
  have h1 := Int.tmod_lt_of_pos d (b := 360) (by omega)
  have h2 : -360 < d.tmod 360 := Int.lt_tmod_of_pos d (by omega)
  omega

theorem impl_turn (d : Int) (w : World) (hd : I64 d) : Calls Tryd.prog 51 #[.int .i64 d] w fun e w' => e = .returned (.int .i64 (d % 360)) ∧ w = w' := by
  have h1 := turn_bd d
  have h2 := Lib.hid (turn_eq d)
  unfold I64 at hd
  go_enter Tryd.func51, Tryd.ntmps51
  go_wp2
  go_ret
  exact ⟨by rw [← h2.out]; rfl, rfl⟩
theorem spec_l12Angle (d : Int) (w : World) (hd : I64 d) : Calls Tryd.prog 50 #[.int .i64 d] w fun e w' => e = .returned (.int .i64 (d % 360)) ∧ w = w' := by
  have h1 := turn_bd d
  have h2 := Lib.hid (turn_eq d)
  unfold I64 at hd
  go_enter Tryd.func50, Tryd.ntmps50
  go_wp2
  go_ret
  exact ⟨by rw [← h2.out]; rfl, rfl⟩

theorem impl_WaveSine (d : Int) (w : World) (hd : I64 d) (hs : Sines w) : Calls Tryd.prog 45 #[.int .i64 d] w fun e w' => e = .returned (.int .i64 (sineS d)) ∧ w = w' := by
  have hT := Lib.hid (impl_turn d w hd)
  unfold sineS
  obtain ⟨t, ht, ht2⟩ : ∃ t : Nat, d % 360 = (t : Int) ∧ t < 360 := ⟨(d % 360).toNat, by omega, by omega⟩
  rw [ht] at hT ⊢
  rw [Int.toNat_natCast]
  clear hd
  by_cases h1 : t ≤ 90
  · have c1 := hs t (by omega)
    have e : Hid (sinN t = tab t) := (by unfold sinN; rw [if_pos h1] : sinN t = tab t)
    clear hs ht
    go_enter Tryd.func45, Tryd.ntmps45
    go_wp2_with fail
    refine hT.out.mono ?_; rintro e w' ⟨rfl, rfl⟩
    go_wp2_with fail
    go_ret
    exact ⟨by rw [e.out]; rfl, rfl⟩
  by_cases h2 : t ≤ 180
  · have c1 := hs (180 - t) (by omega)
    have e : Hid (sinN t = tab (180 - t)) := (by unfold sinN; rw [if_neg h1, if_pos h2] : sinN t = tab (180 - t))
    clear hs ht
    go_enter Tryd.func45, Tryd.ntmps45
    go_wp2_with fail
    refine hT.out.mono ?_; rintro e w' ⟨rfl, rfl⟩
    go_wp2_with fail
    go_ret
    exact ⟨by rw [e.out]; rfl, rfl⟩
  by_cases h3 : t ≤ 270
  · have c1 := hs (t - 180) (by omega)
    have e : Hid (sinN t = -tab (t - 180)) := (by unfold sinN; rw [if_neg h1, if_neg h2, if_pos h3] : sinN t = -tab (t - 180))
    have hb := tab_bd (t - 180) (by omega)
    clear hs ht
    go_enter Tryd.func45, Tryd.ntmps45
    go_wp2_with fail
    refine hT.out.mono ?_; rintro e w' ⟨rfl, rfl⟩
    go_wp2_with fail
    go_ret
    exact ⟨by rw [e.out]; rfl, rfl⟩
  · have c1 := hs (360 - t) (by omega)
    have e : Hid (sinN t = -tab (360 - t)) := (by unfold sinN; rw [if_neg h1, if_neg h2, if_neg h3] : sinN t = -tab (360 - t))
    have hb := tab_bd (360 - t) (by omega)
    clear hs ht
    go_enter Tryd.func45, Tryd.ntmps45
    go_wp2_with fail
    refine hT.out.mono ?_; rintro e w' ⟨rfl, rfl⟩
    go_wp2_with fail
    go_ret
    exact ⟨by rw [e.out]; rfl, rfl⟩

theorem impl_WaveCosine (d : Int) (w : World) (hd : I64 d) (hs : Sines w) : Calls Tryd.prog 44 #[.int .i64 d] w fun e w' => e = .returned (.int .i64 (sineS (d % 360 + 90))) ∧ w = w' := by
  have hT := Lib.hid (impl_turn d w hd)
  have hb : 0 ≤ d % 360 ∧ d % 360 < 360 := by omega
  have hS := Lib.hid (impl_WaveSine (d % 360 + 90) w ⟨by omega, by omega⟩ hs)
  clear hs hd
  generalize d % 360 = t at *
  go_enter Tryd.func44, Tryd.ntmps44
  go_wp2_with fail
  refine hT.out.mono ?_; rintro e w' ⟨rfl, rfl⟩
  go_wp2_with fail
  refine hS.out.mono ?_; rintro e w' ⟨rfl, rfl⟩
  go_wp2_with fail
  go_ret
  exact ⟨rfl, rfl⟩

/-- the reference's way -/
theorem spec_l12Sine (B n : Nat) (hn : n = 91) (d : Int) (v : Value) (w : World) (hd : I64 d) (h : Rd B w v 1 n (sinT.flatMap putI)) : Calls Tryd.prog 42 #[v, .int .i64 d] w fun e w' => e = .returned (.int .i64 (sineS d)) ∧ w = w' := by
  have hT := Lib.hid (spec_l12Angle d w hd)
  unfold sineS
  obtain ⟨hL, ao, cap, rfl, hcap, hmax, hnil, hsome⟩ := h
  obtain ⟨b, off, rfl, hbB, hc⟩ := hsome (by omega)
  clear hsome hnil
  have hs : ∀ i, i < 91 → w.cell? ⟨b, off + i, none⟩ = some (.int .i64 (tab i)) := fun i hi => by rw [hc i (by omega), tab_get i hi]
  obtain ⟨t, ht, ht2⟩ : ∃ t : Nat, d % 360 = (t : Int) ∧ t < 360 := ⟨(d % 360).toNat, by omega, by omega⟩
  rw [ht] at hT ⊢
  rw [Int.toNat_natCast]
  have hn1 : 90 < n := by omega
  have hn2 : n ≤ 91 := by omega
  clear hd hc hL hn hmax hcap
  by_cases h1 : t ≤ 90
  · have c1 := hs t (by omega)
    have e : Hid (sinN t = tab t) := (by unfold sinN; rw [if_pos h1] : sinN t = tab t)
    have hb := tab_bd t (by omega)
    clear hs ht
    go_enter Tryd.func42, Tryd.ntmps42
    go_wp2_with fail
    refine hT.out.mono ?_; rintro e w' ⟨rfl, rfl⟩
    go_wp2_with fail
    go_ret
    exact ⟨by rw [e.out]; simp, rfl⟩
  by_cases h2 : t < 180
  · have c1 := hs (180 - t) (by omega)
    have e : Hid (sinN t = tab (180 - t)) := (by unfold sinN; rw [if_neg h1, if_pos (by omega)] : sinN t = tab (180 - t))
    have hb := tab_bd (180 - t) (by omega)
    clear hs ht
    go_enter Tryd.func42, Tryd.ntmps42
    go_wp2_with fail
    refine hT.out.mono ?_; rintro e w' ⟨rfl, rfl⟩
    go_wp2_with fail
    go_ret
    exact ⟨by rw [e.out]; simp, rfl⟩
  by_cases h3 : t ≤ 270
  · have c1 := hs (t - 180) (by omega)
    have e : Hid (sinN t = -tab (t - 180)) := (by
      unfold sinN
      rw [if_neg h1]
      by_cases h4 : t ≤ 180
      · obtain rfl : t = 180 := by omega
        rw [if_pos (by omega)]
        decide +kernel
      · rw [if_neg h4, if_pos h3] : sinN t = -tab (t - 180))
    have hb := tab_bd (t - 180) (by omega)
    clear hs ht
    go_enter Tryd.func42, Tryd.ntmps42
    go_wp2_with fail
    refine hT.out.mono ?_; rintro e w' ⟨rfl, rfl⟩
    go_wp2_with fail
    go_ret
    exact ⟨by rw [e.out]; simp, rfl⟩
  · have c1 : w.cell? ⟨b, off + (180 - (t - 180)), none⟩ = some (.int .i64 (tab (360 - t))) := by
      rw [show 180 - (t - 180) = 360 - t by omega]; exact hs (360 - t) (by omega)
    have e : Hid (sinN t = -tab (360 - t)) := (by unfold sinN; rw [if_neg h1, if_neg (by omega), if_neg h3] : sinN t = -tab (360 - t))
    have hb := tab_bd (360 - t) (by omega)
    clear hs ht
    go_enter Tryd.func42, Tryd.ntmps42
    go_wp2_with fail
    refine hT.out.mono ?_; rintro e w' ⟨rfl, rfl⟩
    go_wp2_with fail
    go_ret
    exact ⟨by rw [e.out]; simp, rfl⟩

set_option maxHeartbeats 2000000 in
theorem spec_l12Table (w : World) : Calls Tryd.prog 18 #[] w fun e w' => ∃ g, e = .returned (.slice (some ⟨g, 0, none⟩) 91 91) ∧ w.heap.size ≤ g ∧ Own w' g 2 (sinT.flatMap putI) ∧ Below w.heap.size w w' := by
  go_enter Tryd.func18, Tryd.ntmps18
  go_wp2
  go_ret
  exact ⟨_, rfl, Nat.le_refl _, Own.new w 2 (sinT.flatMap putI), by (repeat' (first | (with_reducible exact Below.refl _ _) | (with_reducible assumption) | (with_reducible refine below_dn ?_ _) | (with_reducible refine Below.drew ?_) | (with_reducible refine Below.alloc ?_ ?_ _) | (with_reducible refine Below.setCell ?_ ?_ _) | go_size))⟩

/-- what the row lists of the table gives -/
theorem gSines : Tryd.prog.globalNamed "loop.example/g00952/impl.sines" = some 0 := by kernel_rfl
end Go.Proofs.YtkolgfmjajlpgaaDoor
