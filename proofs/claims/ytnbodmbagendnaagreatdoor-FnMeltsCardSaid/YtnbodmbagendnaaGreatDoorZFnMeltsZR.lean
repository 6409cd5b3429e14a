/- Contracts and plain facts, joined: SameMelts. -/
import Derived.Test.YtnbodmbagendnaaGreatDoorRows
import Derived.Test.YtnbodmbagendnaaGreatDoorZFnMeltsK
import Derived.Test.YtnbodmbagendnaaGreatDoorZFnMeltsM
namespace Go.Proofs.YtnbodmbagendnaaGreatDoor
open Go.ChangeShapes Go.WideShapes Go.ChangeAt Go.RowKit Go.Deep Go.Joins
set_option linter.unusedVariables false
set_option maxRecDepth 100000
set_option linter.unusedSimpArgs false
def meltEq (x y : Melt) : Bool := strEq x.id y.id && (x.mass == y.mass && wordsS x.ingots y.ingots)
def sameMeltsS (xs ys : List Melt) : Bool := decide (xs.length = ys.length) && allK (atB meltEq xs ys) xs.length

set_option maxHeartbeats 1000000 in
theorem impl_SameMelts1 {b : Bool} (x y : Melt) (l1 l2 : Value) (w : World) (h1 : Rd w.heap.size w l1 1 x.ingots.length (x.ingots.flatMap putStr)) (h2 : Rd w.heap.size w l2 1 y.ingots.length (y.ingots.flatMap putStr)) (hn : x.ingots.length ≤ 1048576) (hb : meltEq x y = b) :
    Calls Tryz.prog 38 #[.agg #[.string x.id, l1, .int .i64 x.mass], .agg #[.string y.id, l2, .int .i64 y.mass]] w fun e w' => e = .returned (.bool b) ∧ Below w.heap.size w w' := by
  subst hb
  have H1 := Lib.hid h1; clear h1
  have H2 := Lib.hid h2; clear h2
  cases hI : strEq x.id y.id
  · have e : Hid (meltEq x y = false) := (by simp [meltEq, hI] : meltEq x y = false)
    have t1 := strEq_f hI
    clear hI
    go_enter Tryz.func38, Tryz.ntmps38
    go_wp2
    go_ret
    exact ⟨by rw [e.out]; rfl, by (repeat' (first | (with_reducible exact Below.refl _ _) | (with_reducible assumption) | (with_reducible refine below_dn ?_ _) | (with_reducible refine Below.drew ?_) | (with_reducible refine Below.alloc ?_ ?_ _) | (with_reducible refine Below.setCell ?_ ?_ _) | go_size))⟩
  have t1 := strEq_t hI
  cases hW : wordsS x.ingots y.ingots
  · have e : Hid (meltEq x y = false) := (by simp [meltEq, hW] : meltEq x y = false)
    have HW := Lib.hid hW
    clear hI hW
    go_enter Tryz.func38, Tryz.ntmps38
    go_wp2_with fail
    refine (slices_Equal_str_is _ _ _ _ _ (by exact H1.out.up (by (repeat' (first | (with_reducible exact Below.refl _ _) | (with_reducible assumption) | (with_reducible refine below_dn ?_ _) | (with_reducible refine Below.drew ?_) | (with_reducible refine Below.alloc ?_ ?_ _) | (with_reducible refine Below.setCell ?_ ?_ _) | go_size)))) (by exact H2.out.up (by (repeat' (first | (with_reducible exact Below.refl _ _) | (with_reducible assumption) | (with_reducible refine below_dn ?_ _) | (with_reducible refine Below.drew ?_) | (with_reducible refine Below.alloc ?_ ?_ _) | (with_reducible refine Below.setCell ?_ ?_ _) | go_size)))) hn HW.out).mono ?_; rintro e1 w1 ⟨rfl, b1⟩
    obtain ⟨hc, hf⟩ := bcell b1
    go_wp2_with fail
    go_ret
    exact ⟨by rw [e.out]; rfl, Below.trans (by (repeat' (first | (with_reducible exact Below.refl _ _) | (with_reducible assumption) | (with_reducible refine below_dn ?_ _) | (with_reducible refine Below.drew ?_) | (with_reducible refine Below.alloc ?_ ?_ _) | (with_reducible refine Below.setCell ?_ ?_ _) | go_size))) (b1.mono (by simp <;> omega))⟩
  have e : Hid (meltEq x y = (x.mass == y.mass)) := (by simp [meltEq, hI, hW] : meltEq x y = (x.mass == y.mass))
  have HW := Lib.hid hW
  clear hI hW
  go_enter Tryz.func38, Tryz.ntmps38
  go_wp2_with fail
  refine (slices_Equal_str_is _ _ _ _ _ (by exact H1.out.up (by (repeat' (first | (with_reducible exact Below.refl _ _) | (with_reducible assumption) | (with_reducible refine below_dn ?_ _) | (with_reducible refine Below.drew ?_) | (with_reducible refine Below.alloc ?_ ?_ _) | (with_reducible refine Below.setCell ?_ ?_ _) | go_size)))) (by exact H2.out.up (by (repeat' (first | (with_reducible exact Below.refl _ _) | (with_reducible assumption) | (with_reducible refine below_dn ?_ _) | (with_reducible refine Below.drew ?_) | (with_reducible refine Below.alloc ?_ ?_ _) | (with_reducible refine Below.setCell ?_ ?_ _) | go_size)))) hn HW.out).mono ?_; rintro e1 w1 ⟨rfl, b1⟩
  obtain ⟨hc, hf⟩ := bcell b1
  go_wp2_with fail
  go_ret
  exact ⟨by rw [e.out]; rfl, Below.trans (by (repeat' (first | (with_reducible exact Below.refl _ _) | (with_reducible assumption) | (with_reducible refine below_dn ?_ _) | (with_reducible refine Below.drew ?_) | (with_reducible refine Below.alloc ?_ ?_ _) | (with_reducible refine Below.setCell ?_ ?_ _) | go_size))) (b1.mono (by simp <;> omega))⟩

set_option maxHeartbeats 2000000 in
theorem slices_EqualFunc_Melt (w : World) (v1 v2 : Value) (xs ys : List Melt) (h1 : RdM w.heap.size w v1 xs) (h2 : RdM w.heap.size w v2 ys) (hn : xs.length ≤ 1048576) (hn2 : ys.length ≤ 1048576) (hin : ∀ x ∈ xs, x.ingots.length ≤ 1048576) :
    Calls Tryz.prog 37 #[v1, v2, .func (.func 38) #[] #[]] w fun e w' => e = .returned (.bool (sameMeltsS xs ys)) ∧ Below w.heap.size w w' := by
  obtain ⟨ao, cap, rfl, hcap, hmax, hsome⟩ := h1
  obtain ⟨ao2, cap2, rfl, hcap2, hmax2, hsome2⟩ := h2
  have Hin := Lib.hid hin; clear hin
  by_cases hl : xs.length = ys.length
  case neg =>
    have e : Hid (sameMeltsS xs ys = false) := (by simp [sameMeltsS, hl] : sameMeltsS xs ys = false)
    have hz2 : ((xs.length : Int) != (ys.length : Int)) = true := by simp; omega
    clear hsome hsome2 hl
    go_enter Tryz.func37, Tryz.ntmps37
    go_wp2
    go_ret
    exact ⟨by rw [e.out]; rfl, by (repeat' (first | (with_reducible exact Below.refl _ _) | (with_reducible assumption) | (with_reducible refine below_dn ?_ _) | (with_reducible refine Below.drew ?_) | (with_reducible refine Below.alloc ?_ ?_ _) | (with_reducible refine Below.setCell ?_ ?_ _) | go_size))⟩
  have es : Hid (sameMeltsS xs ys = allK (atB meltEq xs ys) xs.length) := (by simp [sameMeltsS, hl] : sameMeltsS xs ys = allK (atB meltEq xs ys) xs.length)
  have Hl := Lib.hid hl
  have hz2 : ((xs.length : Int) != (ys.length : Int)) = false := by simp [hl]
  have hle : xs.length ≤ ys.length := by omega
  have hge : ys.length ≤ xs.length := by omega
  clear hl
  go_enter Tryz.func37, Tryz.ntmps37
  go_wp2
  go_loopw [17] (fun i wr => ∃ (k : Nat), k ≤ xs.length ∧ i = .int .i64 k ∧ allK (atB meltEq xs ys) k = true ∧ Below w.heap.size w wr) (fun i _ => xs.length - (intOf i).toNat)
  case atStart => exact ⟨0, Nat.zero_le _, rfl, rfl, Below.refl _ _⟩
  case round =>
    obtain ⟨k, hk, rfl, hall, hb⟩ := hrel
    have Hall := Lib.hid hall; clear hall
    by_cases hlt : k < xs.length
    · have hlt2 : k < ys.length := by omega
      obtain ⟨b, off, rfl, hbB, hc⟩ := hsome (by omega)
      obtain ⟨b2, off2, rfl, hbB2, hc2⟩ := hsome2 (by omega)
      obtain ⟨l, p0, p1, p2, hr⟩ := hc k hlt
      obtain ⟨l2, q0, q1, q2, hr2⟩ := hc2 k hlt2
      obtain ⟨lo, lc, rfl⟩ := hr.form
      obtain ⟨lo2, lc2, rfl⟩ := hr2.form
      have c0 := (hb.cell (p := ⟨b, off + k * 3, none⟩) hbB).trans p0
      have c1 := (hb.cell (p := ⟨b, off + k * 3 + 1, none⟩) hbB).trans p1
      have c2 := (hb.cell (p := ⟨b, off + k * 3 + 2, none⟩) hbB).trans p2
      have d0 := (hb.cell (p := ⟨b2, off2 + k * 3, none⟩) hbB2).trans q0
      have d1 := (hb.cell (p := ⟨b2, off2 + k * 3 + 1, none⟩) hbB2).trans q1
      have d2 := (hb.cell (p := ⟨b2, off2 + k * 3 + 2, none⟩) hbB2).trans q2
      have hbr : b < wr.heap.size := Nat.lt_of_lt_of_le hbB hb.size
      have hbr2 : b2 < wr.heap.size := Nat.lt_of_lt_of_le hbB2 hb.size
      have R1 := Lib.hid (hr.up hb)
      have R2 := Lib.hid (hr2.up hb)
      have HS := Lib.hid (allK_succ (atB meltEq xs ys) k)
      have HF := Lib.hid (allK_false (atB meltEq xs ys) xs.length k hlt)
      have hin := Hin.out xs[k] (List.getElem_mem hlt)
      have hws := hb.size
      have HB := Lib.hid hb
      clear hc hc2 hsome hsome2 hb p0 p1 p2 q0 q1 q2 hr hr2
      cases hE : meltEq xs[k] ys[k]
      · have e : Hid (sameMeltsS xs ys = false) := (by rw [es.out]; exact HF.out (by rw [atB_eq hlt hlt2]; rw [hE]; try rfl) : sameMeltsS xs ys = false)
        have HE := Lib.hid hE
        clear hE
        go_wp2_with fail
        go_at_call 38
        refine (impl_SameMelts1 xs[k] ys[k] _ _ _ (by exact R1.out.up (by (repeat' (first | (with_reducible exact Below.refl _ _) | (with_reducible assumption) | (with_reducible refine below_dn ?_ _) | (with_reducible refine Below.drew ?_) | (with_reducible refine Below.alloc ?_ ?_ _) | (with_reducible refine Below.setCell ?_ ?_ _) | go_size)))) (by exact R2.out.up (by (repeat' (first | (with_reducible exact Below.refl _ _) | (with_reducible assumption) | (with_reducible refine below_dn ?_ _) | (with_reducible refine Below.drew ?_) | (with_reducible refine Below.alloc ?_ ?_ _) | (with_reducible refine Below.setCell ?_ ?_ _) | go_size)))) hin HE.out).mono ?_; rintro e1 w1 ⟨rfl, b1⟩
        have HB1 := Lib.hid (HB.out.trans (Below.trans (show Below w.heap.size wr _ by (repeat' (first | (with_reducible exact Below.refl _ _) | (with_reducible assumption) | (with_reducible refine below_dn ?_ _) | (with_reducible refine Below.drew ?_) | (with_reducible refine Below.alloc ?_ ?_ _) | (with_reducible refine Below.setCell ?_ ?_ _) | go_size))) (b1.mono (by simp <;> omega)))); clear b1 HB
        go_wp2_with fail
        go_ret
        exact ⟨by rw [e.out]; rfl, HB1.out⟩
      · have e : Hid (allK (atB meltEq xs ys) (k + 1) = true) := (by rw [HS.out, Hall.out, atB_eq hlt hlt2]; rw [hE]; try rfl : allK (atB meltEq xs ys) (k + 1) = true)
        have HE := Lib.hid hE
        clear hE
        go_wp2_with fail
        go_at_call 38
        refine (impl_SameMelts1 xs[k] ys[k] _ _ _ (by exact R1.out.up (by (repeat' (first | (with_reducible exact Below.refl _ _) | (with_reducible assumption) | (with_reducible refine below_dn ?_ _) | (with_reducible refine Below.drew ?_) | (with_reducible refine Below.alloc ?_ ?_ _) | (with_reducible refine Below.setCell ?_ ?_ _) | go_size)))) (by exact R2.out.up (by (repeat' (first | (with_reducible exact Below.refl _ _) | (with_reducible assumption) | (with_reducible refine below_dn ?_ _) | (with_reducible refine Below.drew ?_) | (with_reducible refine Below.alloc ?_ ?_ _) | (with_reducible refine Below.setCell ?_ ?_ _) | go_size)))) hin HE.out).mono ?_; rintro e1 w1 ⟨rfl, b1⟩
        have HB1 := Lib.hid (HB.out.trans (Below.trans (show Below w.heap.size wr _ by (repeat' (first | (with_reducible exact Below.refl _ _) | (with_reducible assumption) | (with_reducible refine below_dn ?_ _) | (with_reducible refine Below.drew ?_) | (with_reducible refine Below.alloc ?_ ?_ _) | (with_reducible refine Below.setCell ?_ ?_ _) | go_size))) (b1.mono (by simp <;> omega)))); clear b1 HB
        go_wp2_with fail
        go_roundw
        case rel => exact ⟨k + 1, by omega, by go_num, e.out, HB1.out⟩
        case measure => simp [intOf]; omega
    · have e : Hid (sameMeltsS xs ys = true) := (by
        obtain rfl : k = xs.length := by omega
        rw [es.out]; exact Hall.out : sameMeltsS xs ys = true)
      go_wp2
      go_ret
      exact ⟨by rw [e.out]; rfl, hb⟩

theorem impl_SameMelts (w : World) (v1 v2 : Value) (xs ys : List Melt) (h1 : RdM w.heap.size w v1 xs) (h2 : RdM w.heap.size w v2 ys) (hn : xs.length ≤ 1048576) (hn2 : ys.length ≤ 1048576) (hin : ∀ x ∈ xs, x.ingots.length ≤ 1048576) :
    Calls Tryz.prog 12 #[v1, v2] w fun e w' => e = .returned (.bool (sameMeltsS xs ys)) ∧ Below w.heap.size w w' := by
  have H := Lib.hid (slices_EqualFunc_Melt w v1 v2 xs ys h1 h2 hn hn2 hin)
  clear h1 h2 hin
  go_enter Tryz.func12, Tryz.ntmps12
  go_wp2_with fail
  refine H.out.mono ?_; rintro e w1 ⟨rfl, b1⟩
  go_wp2_with fail
  go_ret
  exact ⟨rfl, b1⟩
end Go.Proofs.YtnbodmbagendnaaGreatDoor
