/- Profiles of another size: what the program makes of them. -/
import Derived.Test.YtnbodmbagendnaaRows
import Derived.Test.YtnbodmbagendnaaMould1
import Derived.Deep.RegionLaw
import Derived.Shelf.RegionOpenPlain
namespace Go.Proofs.Ytnbodmbagendnaa
open Go.ChangeShapes Go.WideShapes Go.ChangeAt Go.RowKit Go.Deep Go.Joins
set_option linter.unusedVariables false
set_option maxRecDepth 100000
set_option linter.unusedSimpArgs false
/-- a profile and a code: the rings R if they make a profile, else nothing -/
def ShapedE (base : Nat) (w' : World) (e : Ending) (nm : ByteArray) (R : List Ring) : Prop := ∃ (n' : ByteArray) (lo : Option Addr) (lc : Nat) (R' : List Ring) (cc : Int), e = .returned (.tuple #[.agg #[.string n', .slice lo R'.length lc], .int .i64 cc]) ∧ w'.ownsRow base 94 3 (.slice lo R'.length lc) R'.length (R'.flatMap Ring.put) ∧ ((cc = 0 ∧ n' = nm ∧ R' = R ∧ profB ⟨nm, .slice none 0 0, R⟩ = true) ∨ (cc = 6 ∧ n' = ⟨#[]⟩ ∧ R' = [] ∧ profB ⟨nm, .slice none 0 0, R⟩ = false))
set_option maxHeartbeats 2000000 in
theorem impl_orState_no (w : World) (nm : ByteArray) (lo : Option Addr) (lc : Nat) (R : List Ring) (hs : nm.size ≤ maxLen) (h : Rd w.heap.size w (.slice lo R.length lc) 3 R.length (R.flatMap Ring.put)) (hn : R.length ≤ 1048576) (hB : profB ⟨nm, .slice none 0 0, R⟩ = false) :
    Calls Try.prog 146 #[.agg #[.string nm, .slice lo R.length lc]] w fun e w' => e = .returned (.tuple #[.agg #[.string ⟨#[]⟩, .slice none 0 0], .int .i64 6]) ∧ Below w.heap.size w w' := by
  obtain ⟨W1, hW1⟩ : ∃ W1, w.alloc (.cells #[.string nm, .slice lo R.length lc] 26) = W1 := ⟨_, rfl⟩
  have e1 : W1.heap.size = w.heap.size + 1 := by rw [← hW1]; simp
  obtain ⟨W2, hW2⟩ : ∃ W2, W1.alloc (.cells #[.string ⟨#[]⟩, .slice none 0 0] 26) = W2 := ⟨_, rfl⟩
  have e2 : W2.heap.size = w.heap.size + 2 := by rw [← hW2]; simp [e1]
  have B2 : Below w.heap.size w W2 := by rw [← hW2, ← hW1]; exact ((Below.refl _ _).alloc (Nat.le_refl _) _).alloc (by simp) _
  have O1 : Hid (Own W2 w.heap.size 26 [.string nm, .slice lo R.length lc]) := Lib.hid (by rw [← hW2, ← hW1]; exact (Own.new w _ _).alloc _)
  have O2 : Hid (Own W2 (w.heap.size + 1) 26 [.string ⟨#[]⟩, .slice none 0 0]) := Lib.hid (by rw [← hW2, ← e1]; exact Own.new W1 _ _)
  have HB2 := Lib.hid B2
  have HR2 := Lib.hid (h.up B2)
  have n1 : ¬ w.heap.size = w.heap.size + 1 := by omega
  have n4 : ¬ w.heap.size + 1 = w.heap.size := by omega
  have x0 : W2.cell? ⟨w.heap.size, 0, none⟩ = some (.string nm) := O1.out.cell 0
  have x1 : W2.cell? ⟨w.heap.size, 1, none⟩ = some (.slice lo R.length lc) := O1.out.cell 1
  have lx := O1.out.lt
  have HVF := Lib.hid (impl_ValidProfile W2 ⟨nm, .slice none 0 0, R⟩ lo lc hs HR2.out hn hB)
  clear hB B2 h
  go_enter Try.func146, Try.ntmps146
  go_wp2_with fail
  refine HVF.out.mono ?_; rintro e w3 ⟨rfl, b3⟩
  have B3 := Lib.hid (HB2.out.trans (b3.mono HB2.out.size))
  have o2 := O2.out.below b3 O2.out.lt
  have r0 : w3.cell? ⟨w.heap.size + 1, 0, none⟩ = some (.string ⟨#[]⟩) := o2.cell 0
  have r1 : w3.cell? ⟨w.heap.size + 1, 1, none⟩ = some (.slice none 0 0) := o2.cell 1
  have fr0 := o2.free 0
  have fr1 := o2.free 1
  have lr := o2.lt
  clear b3 o2 O1 O2 HB2 HR2 HVF x0 x1 lx
  go_wp2_with fail
  refine bodyPost_ret (v := .tuple #[.agg #[.string ⟨#[]⟩, .slice none 0 0], .int .i64 6]) (by simp [results, Try.results146, go_sem, r0, r1, lr]) rfl ?_
  refine ⟨rfl, ?_⟩
  repeat (refine Below.setCell ?_ (by show w.heap.size ≤ w.heap.size + 1; omega) _)
  exact B3.out
set_option maxHeartbeats 2000000 in
theorem impl_orState_yes (w : World) (nm : ByteArray) (lo : Option Addr) (lc : Nat) (R : List Ring) (hs : nm.size ≤ maxLen) (h : Rd w.heap.size w (.slice lo R.length lc) 3 R.length (R.flatMap Ring.put)) (hn : R.length ≤ 1048576) (hB : profB ⟨nm, .slice none 0 0, R⟩ = true) :
    Calls Try.prog 146 #[.agg #[.string nm, .slice lo R.length lc]] w fun e w' => e = .returned (.tuple #[.agg #[.string nm, .slice lo R.length lc], .int .i64 0]) ∧ Below w.heap.size w w' := by
  obtain ⟨W1, hW1⟩ : ∃ W1, w.alloc (.cells #[.string nm, .slice lo R.length lc] 26) = W1 := ⟨_, rfl⟩
  have e1 : W1.heap.size = w.heap.size + 1 := by rw [← hW1]; simp
  obtain ⟨W2, hW2⟩ : ∃ W2, W1.alloc (.cells #[.string ⟨#[]⟩, .slice none 0 0] 26) = W2 := ⟨_, rfl⟩
  have e2 : W2.heap.size = w.heap.size + 2 := by rw [← hW2]; simp [e1]
  have B2 : Below w.heap.size w W2 := by rw [← hW2, ← hW1]; exact ((Below.refl _ _).alloc (Nat.le_refl _) _).alloc (by simp) _
  have O1 : Hid (Own W2 w.heap.size 26 [.string nm, .slice lo R.length lc]) := Lib.hid (by rw [← hW2, ← hW1]; exact (Own.new w _ _).alloc _)
  have O2 : Hid (Own W2 (w.heap.size + 1) 26 [.string ⟨#[]⟩, .slice none 0 0]) := Lib.hid (by rw [← hW2, ← e1]; exact Own.new W1 _ _)
  have HB2 := Lib.hid B2
  have HR2 := Lib.hid (h.up B2)
  have n1 : ¬ w.heap.size = w.heap.size + 1 := by omega
  have n4 : ¬ w.heap.size + 1 = w.heap.size := by omega
  have x0 : W2.cell? ⟨w.heap.size, 0, none⟩ = some (.string nm) := O1.out.cell 0
  have x1 : W2.cell? ⟨w.heap.size, 1, none⟩ = some (.slice lo R.length lc) := O1.out.cell 1
  have lx := O1.out.lt
  have HVF := Lib.hid (impl_ValidProfile W2 ⟨nm, .slice none 0 0, R⟩ lo lc hs HR2.out hn hB)
  clear hB B2 h
  go_enter Try.func146, Try.ntmps146
  go_wp2_with fail
  refine HVF.out.mono ?_; rintro e w3 ⟨rfl, b3⟩
  have B3 := Lib.hid (HB2.out.trans (b3.mono HB2.out.size))
  have o2 := O2.out.below b3 O2.out.lt
  have o1 := O1.out.below b3 O1.out.lt
  have r0 : w3.cell? ⟨w.heap.size + 1, 0, none⟩ = some (.string ⟨#[]⟩) := o2.cell 0
  have r1 : w3.cell? ⟨w.heap.size + 1, 1, none⟩ = some (.slice none 0 0) := o2.cell 1
  have y0 : w3.cell? ⟨w.heap.size, 0, none⟩ = some (.string nm) := o1.cell 0
  have y1 : w3.cell? ⟨w.heap.size, 1, none⟩ = some (.slice lo R.length lc) := o1.cell 1
  have fr0 := o2.free 0
  have fr1 := o2.free 1
  have lr := o2.lt
  have ly := o1.lt
  clear b3 o1 o2 O1 O2 HB2 HR2 HVF x0 x1 lx
  go_wp2_with fail
  refine bodyPost_ret (v := .tuple #[.agg #[.string nm, .slice lo R.length lc], .int .i64 0]) (by simp [results, Try.results146, go_sem, r0, r1, y0, y1, lr, ly, n1, n4]) rfl ?_
  have bs : Below w.heap.size w3 ((w3.setCell ⟨w.heap.size + 1, 0, none⟩ (.string nm)).setCell ⟨w.heap.size + 1, 1, none⟩ (.slice lo R.length lc)) := Below.setCell (Below.setCell (Below.refl _ _) (by show w.heap.size ≤ w.heap.size + 1; omega) _) (by show w.heap.size ≤ w.heap.size + 1; omega) _
  exact ⟨rfl, B3.out.trans bs⟩
theorem map_succR (f : Ring → Ring) (rs : List Ring) (k : Nat) (h : k < rs.length) : (rs.take (k + 1)).map f = (rs.take k).map f ++ [f rs[k]] := by
  rw [List.take_succ_eq_append_getElem h, List.map_append]; rfl
set_option maxHeartbeats 4000000 in
theorem impl_reshaped (w : World) (nm : ByteArray) (lo : Option Addr) (lc : Nat) (rs : List Ring) (num den : Int) (a b : Nat) (ga : w.cell? ⟨a, 0, none⟩ = some (.int .i64 num)) (gb : w.cell? ⟨b, 0, none⟩ = some (.int .i64 den)) (ha : a < w.heap.size) (hb : b < w.heap.size) (hs : nm.size ≤ maxLen) (h : Rd w.heap.size w (.slice lo rs.length lc) 3 rs.length (rs.flatMap Ring.put)) (hl : rs.length ≤ 32) (hr : ∀ r ∈ rs, ringB r = true) (hn : 1 ≤ num ∧ num ≤ 2000) (hd : 1 ≤ den ∧ den ≤ 2000) :
    Calls Try.prog 107 #[.agg #[.string nm, .slice lo rs.length lc], .func (.func 108) #[] #[.pointer (some ⟨a, 0, none⟩), .pointer (some ⟨b, 0, none⟩)]] w fun e w' => ShapedE w.heap.size w' e nm (rs.map (scR num den)) ∧ Below w.heap.size w w' := by
  obtain ⟨i0, hi, hz0, hz1, hz2⟩ := info_parts Ring_info
  have mixed : Try.prog.follows .mixedOrders = true := by kernel_rfl
  obtain ⟨W1, hW1⟩ : ∃ W1, w.alloc (.cells #[.string nm, .slice lo rs.length lc] 26) = W1 := ⟨_, rfl⟩
  have e1 : W1.heap.size = w.heap.size + 1 := by rw [← hW1]; simp
  obtain ⟨W2, hW2⟩ : ∃ W2, W1.alloc (.cells #[.string ⟨#[]⟩, .slice none 0 0] 26) = W2 := ⟨_, rfl⟩
  have e2 : W2.heap.size = w.heap.size + 2 := by rw [← hW2]; simp [e1]
  have B2 : Below w.heap.size w W2 := by rw [← hW2, ← hW1]; exact ((Below.refl _ _).alloc (Nat.le_refl _) _).alloc (by simp) _
  have O1 : Own W2 w.heap.size 26 [.string nm, .slice lo rs.length lc] := by rw [← hW2, ← hW1]; exact (Own.new w _ _).alloc _
  have O2 : Own W2 (w.heap.size + 1) 26 [.string ⟨#[]⟩, .slice none 0 0] := by rw [← hW2, ← e1]; exact Own.new W1 _ _
  have B3 : Hid (Below w.heap.size w (W2.alloc (.cells #[.string nm, .slice none 0 0] 26))) := Lib.hid (B2.alloc (by omega) _)
  have X3 : Hid (Own (W2.alloc (.cells #[.string nm, .slice none 0 0] 26)) W2.heap.size 26 [.string nm, .slice none 0 0]) := Lib.hid (Own.new W2 _ _)
  have R3 : Hid (Own (W2.alloc (.cells #[.string nm, .slice none 0 0] 26)) (w.heap.size + 1) 26 [.string ⟨#[]⟩, .slice none 0 0]) := Lib.hid (O2.alloc _)
  have x0 : W2.cell? ⟨w.heap.size, 0, none⟩ = some (.string nm) := O1.cell 0
  have z1 : (W2.alloc (.cells #[.string nm, .slice none 0 0] 26)).cell? ⟨w.heap.size, 1, none⟩ = some (.slice lo rs.length lc) := (O1.alloc _).cell 1
  have lx : w.heap.size < W2.heap.size := by omega
  have lx3 : w.heap.size < (W2.alloc (.cells #[.string nm, .slice none 0 0] 26)).heap.size := by simp; omega
  have h21 : w.heap.size + 1 < W2.heap.size := by omega
  have HSC := Lib.hid (fun (w' : World) (hb' : Below w.heap.size w w') (k : Int) (r : Ring) (hr' : ringB r = true) => impl_scaled1 r num den k a b w' ((hb'.cell (p := ⟨a, 0, none⟩) ha).trans ga) ((hb'.cell (p := ⟨b, 0, none⟩) hb).trans gb) (Nat.lt_of_lt_of_le ha hb'.size) (Nat.lt_of_lt_of_le hb hb'.size) hr' hn hd)
  have HSZ := Lib.hid hs
  have HR := Lib.hid hr
  have H0 := Lib.hid h
  obtain ⟨_, _, _, eh, _, _, _, hsome⟩ := h
  injection eh with q1 q2 q3
  subst q1 q3
  have HSM := Lib.hid hsome
  clear O1 O2 B2 ga gb hr hsome e2
  go_enter Try.func107, Try.ntmps107
  go_wp2_with fail
  go_loopw [7, 8, 15] (fun _ _ i wr => ∃ (k : Nat) (lo2 : Option Addr) (lc2 : Nat), k ≤ rs.length ∧ i = .int .i64 k ∧ Own wr W2.heap.size 26 [.string nm, .slice lo2 k lc2] ∧ wr.ownsRow w.heap.size 94 3 (.slice lo2 k lc2) k (((rs.take k).map (scR num den)).flatMap Ring.put) ∧ Own wr (w.heap.size + 1) 26 [.string ⟨#[]⟩, .slice none 0 0] ∧ Below w.heap.size w wr) (fun _ _ i _ => rs.length - (intOf i).toNat)
  case atStart => exact ⟨0, none, 0, Nat.zero_le _, rfl, X3.out, own_nil _ _ _ _, R3.out, B3.out⟩
  case round =>
    clear X3 R3 B3 x0 z1 lx lx3 hW1 hW2
    obtain ⟨k, lo2, lc2, hk, rfl, hX, hL, hR, hb⟩ := hrel
    have XR := Lib.hid hX
    have LR := Lib.hid hL
    have RR := Lib.hid hR
    have HB := Lib.hid hb
    have hwr := hb.size
    have hxl : W2.heap.size < wr.heap.size := hX.lt
    by_cases hlt : k < rs.length
    · obtain ⟨bb, off, rfl, hbb, hcc⟩ := HSM.out (by omega)
      have c0 : wr.cell? ⟨bb, off + k * 3, none⟩ = some (.int .i64 rs[k].outer) := (hb.cell (p := ⟨bb, off + k * 3, none⟩) hbb).trans ((hcc (k * 3) (by omega)).trans (Ring_get0 rs k hlt))
      have c1 : wr.cell? ⟨bb, off + k * 3 + 1, none⟩ = some (.int .i64 rs[k].inner) := by rw [Nat.add_assoc]; exact (hb.cell (p := ⟨bb, off + (k * 3 + 1), none⟩) hbb).trans ((hcc (k * 3 + 1) (by omega)).trans (Ring_get1 rs k hlt))
      have c2 : wr.cell? ⟨bb, off + k * 3 + 2, none⟩ = some (.int .i64 rs[k].height) := by rw [Nat.add_assoc]; exact (hb.cell (p := ⟨bb, off + (k * 3 + 2), none⟩) hbb).trans ((hcc (k * 3 + 2) (by omega)).trans (Ring_get2 rs k hlt))
      have hbr : bb < wr.heap.size := Nat.lt_of_lt_of_le hbb hb.size
      have HRK := Lib.hid (HR.out rs[k] (List.getElem_mem hlt))
      have HMS := Lib.hid (map_succR (scR num den) rs k hlt)
      generalize rs[k] = r at c0 c1 c2 HRK HMS
      have HC := Lib.hid (fun (w' : World) (hb' : Below w.heap.size w w') (i : Int) => HSC.out w' hb' i r HRK.out)
      generalize scR num den r = y at HC HMS
      obtain ⟨ZL, hZL⟩ : ∃ ZL, (rs.take k).map (scR num den) = ZL := ⟨_, rfl⟩
      rw [hZL] at LR
      have HMZ : Hid ((rs.take (k + 1)).map (scR num den) = ZL ++ [y]) := Lib.hid (by rw [← hZL]; exact HMS.out)
      obtain ⟨W4, hW4⟩ : ∃ W4, wr.alloc (.cells #[.int .i64 r.outer, .int .i64 r.inner, .int .i64 r.height] 94) = W4 := ⟨_, rfl⟩
      have e4 : W4.heap.size = wr.heap.size + 1 := by rw [← hW4]; simp
      have B4 : Below wr.heap.size wr W4 := by rw [← hW4]; exact (Below.refl _ _).alloc (Nat.le_refl _) _
      have P4 : Own W4 wr.heap.size 94 [.int .i64 r.outer, .int .i64 r.inner, .int .i64 r.height] := by rw [← hW4]; exact Own.new wr _ _
      have X4 := Lib.hid (XR.out.below B4 XR.out.lt)
      have R4 := Lib.hid (RR.out.below B4 RR.out.lt)
      have L4 := Lib.hid (own_below LR.out B4 (Nat.le_refl _))
      have T4 := Lib.hid (bnext HB.out B4)
      have p0 : W4.cell? ⟨wr.heap.size, 0, none⟩ = some (.int .i64 r.outer) := P4.cell 0
      have p1 : W4.cell? ⟨wr.heap.size, 1, none⟩ = some (.int .i64 r.inner) := P4.cell 1
      have p2 : W4.cell? ⟨wr.heap.size, 2, none⟩ = some (.int .i64 r.height) := P4.cell 2
      have f1 : W4.cell? ⟨W2.heap.size, 1, none⟩ = some (.slice lo2 k lc2) := X4.out.cell 1
      have q0 : W4.drew.cell? ⟨wr.heap.size, 0, none⟩ = some (.int .i64 r.outer) := p0
      have q1 : W4.drew.cell? ⟨wr.heap.size, 1, none⟩ = some (.int .i64 r.inner) := p1
      have q2 : W4.drew.cell? ⟨wr.heap.size, 2, none⟩ = some (.int .i64 r.height) := p2
      have f2 : W4.drew.cell? ⟨W2.heap.size, 1, none⟩ = some (.slice lo2 k lc2) := f1
      have lp4 : wr.heap.size < W4.heap.size := by omega
      have lx4 : W2.heap.size < W4.heap.size := X4.out.lt
      clear B4 P4 HMS hZL hX hL hR hb XR LR RR HB HSC HR H0 HSM hcc
      go_wp2_with fail
      go_region_law_o (first
        | (rw [if_pos (by rfl)]
           refine stp_el _ _ 24 94 i0 (.agg #[.int .i64 0, .int .i64 0, .int .i64 0]) 3 24 Try.underlying24 hi hz0 hz1 hz2 rfl (by decide) rfl w5 w.heap.size (.slice lo2 k lc2) k (ZL.flatMap Ring.put) (by rfl) L5.out [.int .i64 y.outer, .int .i64 y.inner, .int .i64 y.height] rfl (one3 _ _ _) (by first | rfl | (rw [World.size_alloc]; rfl)) (by omega) (by decide) hw5 (by rfl) ?_
           intro g7 gc7 w7 hown7 hB7 hK7
           have B7 := Lib.hid (hB7 w T5.out)
           have L7 := Lib.hid hown7
           have X7 := Lib.hid (hK7 _ _ _ X5.out (own_apart_type L5.out X5.out (by decide)))
           have R7 := Lib.hid (hK7 _ _ _ R5.out (own_apart_type L5.out R5.out (by decide)))
           have yy1 : w7.cell? ⟨W2.heap.size, 1, none⟩ = some (.slice lo2 k lc2) := X7.out.cell 1
           have fy1 := X7.out.free 1
           have hly : W2.heap.size < w7.heap.size := X7.out.lt
           clear hown7 hB7 hK7)
        | (go_simp
           go_at_call 108
           go_loud (
           refine (HC.out W4.drew T4.out.drew _).mono ?_; rintro e w5 ⟨rfl, b5⟩
           have TT : Below W4.heap.size W4 w5 := (Below.refl _ _).drew.trans b5
           have X5 := Lib.hid (X4.out.below TT X4.out.lt)
           have R5 := Lib.hid (R4.out.below TT R4.out.lt)
           have L5 := Lib.hid (own_below L4.out TT (Nat.le_refl _))
           have T5 := Lib.hid (bnext T4.out TT)
           have y1 : w5.cell? ⟨W2.heap.size, 1, none⟩ = some (.slice lo2 k lc2) := X5.out.cell 1
           have lx5 := X5.out.lt
           have hw5 : w.heap.size ≤ w5.heap.size := T5.out.size
           clear b5 TT)))
      all_goals
        have hap := own_apart_type L7.out X7.out (by decide)
        obtain ⟨W8, hW8⟩ : ∃ W8, w7.setCell ⟨W2.heap.size, 1, none⟩ (.slice (some ⟨g7, 0, none⟩) (k + 1) gc7) = W8 := ⟨_, rfl⟩
        have H5 : Hid (Own W8 W2.heap.size 26 [.string nm, .slice (some ⟨g7, 0, none⟩) (k + 1) gc7]) := Lib.hid (hW8 ▸ X7.out.set 1 _)
        have H6 : Hid (W8.ownsRow w.heap.size 94 3 (.slice (some ⟨g7, 0, none⟩) (k + 1) gc7) (k + 1) (ZL.flatMap Ring.put ++ [.int .i64 y.outer, .int .i64 y.inner, .int .i64 y.height])) := Lib.hid (hW8 ▸ own_farP L7.out hap 1 _)
        have H7 : Hid (Own W8 (w.heap.size + 1) 26 [.string ⟨#[]⟩, .slice none 0 0]) := Lib.hid (hW8 ▸ R7.out.other (by show W2.heap.size ≠ w.heap.size + 1; omega) _)
        have H9 : Hid (Below w.heap.size w W8) := Lib.hid (hW8 ▸ Below.setCell B7.out (by show w.heap.size ≤ W2.heap.size; omega) _)
        clear hap L7 X7 R7 yy1 fy1 X5 L5 R5 T5 B7 X4 R4 L4 T4 f1 f2 p0 p1 p2 q0 q1 q2 HC c0 c1 c2
        go_wp2_with fail
        go_roundw
      all_goals first
        | exact ⟨k + 1, some ⟨g7, 0, none⟩, gc7, by omega, by go_num, H5.out, by rw [HMZ.out, ring_snoc]; exact H6.out, H7.out, H9.out⟩
        | (simp [intOf]; omega)
    · have em : k = rs.length := by omega
      obtain ⟨R, hR'⟩ : ∃ R, rs.map (scR num den) = R := ⟨_, rfl⟩
      have hZ : (rs.take k).map (scR num den) = R := by rw [em, List.take_length, hR']
      have hRl : k = R.length := by rw [← hR', List.length_map]; exact em
      rw [hZ] at LR
      have HRE := Lib.hid hR'
      clear hZ hR' em hX hL hR hb HSM HSC HR H0
      subst hRl
      have x0 : wr.cell? ⟨W2.heap.size, 0, none⟩ = some (.string nm) := XR.out.cell 0
      have x1 : wr.cell? ⟨W2.heap.size, 1, none⟩ = some (.slice lo2 R.length lc2) := XR.out.cell 1
      clear XR
      cases hB : profB ⟨nm, .slice none 0 0, R⟩ with
      | false =>
        have HO := Lib.hid (impl_orState_no wr nm lo2 lc2 R HSZ.out (own_rd LR.out) (by omega) hB)
        have HPB := Lib.hid hB
        clear hB
        go_wp2_with fail
        refine HO.out.mono ?_; rintro e w8 ⟨rfl, b8⟩
        have B8 := Lib.hid (bnext HB.out b8)
        have R8 := Lib.hid (RR.out.below b8 RR.out.lt)
        have L8 := Lib.hid (own_below LR.out b8 (Nat.le_refl _))
        have r0 : w8.cell? ⟨w.heap.size + 1, 0, none⟩ = some (.string ⟨#[]⟩) := R8.out.cell 0
        have r1 : w8.cell? ⟨w.heap.size + 1, 1, none⟩ = some (.slice none 0 0) := R8.out.cell 1
        have fr0 := R8.out.free 0
        have fr1 := R8.out.free 1
        have lr := R8.out.lt
        clear b8 HO RR HB LR x0 x1
        go_wp2_with fail
        refine bodyPost_ret (v := .tuple #[.agg #[.string ⟨#[]⟩, .slice none 0 0], .int .i64 6]) (by simp [results, Try.results107, go_sem, r0, r1, lr]) rfl ?_
        rw [HRE.out]
        refine ⟨⟨⟨#[]⟩, none, 0, [], 6, rfl, own_nil _ _ _ _, .inr ⟨rfl, rfl, rfl, HPB.out⟩⟩, Below.setCell (Below.setCell B8.out (by show w.heap.size ≤ w.heap.size + 1; omega) _) (by show w.heap.size ≤ w.heap.size + 1; omega) _⟩
      | true =>
        have HO := Lib.hid (impl_orState_yes wr nm lo2 lc2 R HSZ.out (own_rd LR.out) (by omega) hB)
        have HPB := Lib.hid hB
        clear hB
        go_wp2_with fail
        refine HO.out.mono ?_; rintro e w8 ⟨rfl, b8⟩
        have B8 := Lib.hid (bnext HB.out b8)
        have R8 := Lib.hid (RR.out.below b8 RR.out.lt)
        have L8 := Lib.hid (own_below LR.out b8 (Nat.le_refl _))
        have r0 : w8.cell? ⟨w.heap.size + 1, 0, none⟩ = some (.string ⟨#[]⟩) := R8.out.cell 0
        have r1 : w8.cell? ⟨w.heap.size + 1, 1, none⟩ = some (.slice none 0 0) := R8.out.cell 1
        have fr0 := R8.out.free 0
        have fr1 := R8.out.free 1
        have lr := R8.out.lt
        clear b8 HO RR HB LR x0 x1
        go_wp2_with fail
        refine bodyPost_ret (v := .tuple #[.agg #[.string nm, .slice lo2 R.length lc2], .int .i64 0]) (by simp [results, Try.results107, go_sem, r0, r1, lr]) rfl ?_
        rw [HRE.out]
        refine ⟨⟨nm, lo2, lc2, R, 0, rfl, own_farP (own_farP L8.out (own_apart_type L8.out R8.out (by decide)) 0 _) (own_apart_type L8.out R8.out (by decide)) 1 _, .inl ⟨rfl, rfl, rfl, HPB.out⟩⟩, Below.setCell (Below.setCell B8.out (by show w.heap.size ≤ w.heap.size + 1; omega) _) (by show w.heap.size ≤ w.heap.size + 1; omega) _⟩
end Go.Proofs.Ytnbodmbagendnaa
