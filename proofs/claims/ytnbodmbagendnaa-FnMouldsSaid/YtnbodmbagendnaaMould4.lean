/- What is cast from a cavity: no difference. -/
import Derived.Test.YtnbodmbagendnaaRows
import Derived.Test.YtnbodmbagendnaaMould3
import Derived.Deep.RegionHeld3
namespace Go.Proofs.Ytnbodmbagendnaa
open Go.ChangeShapes Go.WideShapes Go.ChangeAt Go.RowKit Go.Deep Go.Joins
set_option linter.unusedVariables false
set_option maxRecDepth 100000
set_option linter.unusedSimpArgs false
theorem impl_MouldFor_yes (w : World) (nm : ByteArray) (lo : Option Addr) (lc : Nat) (rs : List Ring) (s : Int) (hs : nm.size ≤ maxLen) (h : Rd w.heap.size w (.slice lo rs.length lc) 3 rs.length (rs.flatMap Ring.put)) (hv : profB ⟨nm, .slice none 0 0, rs⟩ = true) (h1 : 0 ≤ s ∧ s ≤ 50) (hM : profB ⟨nm, .slice none 0 0, rs.map (scR (1000 + s) 1000)⟩ = true) :
    Calls Try.prog 10 #[.agg #[.string nm, .slice lo rs.length lc], .int .i64 s] w fun e w' => ∃ (lo' : Option Addr) (lc' : Nat), e = .returned (.tuple #[.agg #[.string nm, .slice lo' (rs.map (scR (1000 + s) 1000)).length lc'], .int .i64 0]) ∧ Rd w'.heap.size w' (.slice lo' (rs.map (scR (1000 + s) 1000)).length lc') 3 (rs.map (scR (1000 + s) 1000)).length ((rs.map (scR (1000 + s) 1000)).flatMap Ring.put) ∧ Below w.heap.size w w' := by
  refine (impl_MouldFor w nm lo lc rs s hs h hv h1).mono ?_
  rintro e w' ⟨⟨n', lo', lc', R', cc, rfl, hown, hor⟩, hb⟩
  rcases hor with ⟨rfl, rfl, rfl, _⟩ | ⟨_, _, _, q⟩
  · exact ⟨lo', lc', rfl, own_rd hown, hb⟩
  · rw [hM] at q; cases q
theorem impl_CastFrom_yes (w : World) (nm : ByteArray) (lo : Option Addr) (lc : Nat) (rs : List Ring) (s : Int) (hs : nm.size ≤ maxLen) (h1 : 0 ≤ s ∧ s ≤ 50) (h : Rd w.heap.size w (.slice lo (rs.map (scR (1000 + s) 1000)).length lc) 3 (rs.map (scR (1000 + s) 1000)).length ((rs.map (scR (1000 + s) 1000)).flatMap Ring.put)) (hv : profB ⟨nm, .slice none 0 0, rs⟩ = true) (hM : profB ⟨nm, .slice none 0 0, rs.map (scR (1000 + s) 1000)⟩ = true) :
    Calls Try.prog 11 #[.agg #[.string nm, .slice lo (rs.map (scR (1000 + s) 1000)).length lc], .int .i64 s] w fun e w' => ∃ (lo' : Option Addr) (lc' : Nat), e = .returned (.tuple #[.agg #[.string nm, .slice lo' rs.length lc'], .int .i64 0]) ∧ Rd w'.heap.size w' (.slice lo' rs.length lc') 3 rs.length (rs.flatMap Ring.put) ∧ Below w.heap.size w w' := by
  refine (impl_CastFrom w nm lo lc _ s hs h hM h1).mono ?_
  rw [back_rings (prof_parts hv).2 h1]
  rintro e w' ⟨⟨n', lo', lc', R', cc, rfl, hown, hor⟩, hb⟩
  rcases hor with ⟨rfl, rfl, rfl, _⟩ | ⟨_, _, _, q⟩
  · exact ⟨lo', lc', rfl, own_rd hown, hb⟩
  · rw [hv] at q; cases q
theorem impl_abs0 (w : World) : Calls Try.prog 51 #[.int .i64 0] w fun e w' => e = .returned (.int .i64 0) ∧ w = w' := by
  go_enter Try.func51, Try.ntmps51
  go_wp2_with fail
  go_ret
  exact ⟨rfl, rfl⟩
theorem max4z (w : World) : (Builtin.max_ #[2, 2, 2, 2] 2 #[.int .i64 0, .int .i64 0, .int .i64 0, .int .i64 0]).run Try.prog w = .ok (.int .i64 0) w := by kernel_rfl
set_option maxHeartbeats 4000000 in
theorem impl_CastError0 (w : World) (nm : ByteArray) (lo : Option Addr) (lc : Nat) (rs : List Ring) (s : Int) (hs : nm.size ≤ maxLen) (h : Rd w.heap.size w (.slice lo rs.length lc) 3 rs.length (rs.flatMap Ring.put)) (hv : profB ⟨nm, .slice none 0 0, rs⟩ = true) (h1 : 0 ≤ s ∧ s ≤ 50) (hM : profB ⟨nm, .slice none 0 0, rs.map (scR (1000 + s) 1000)⟩ = true) :
    Calls Try.prog 12 #[.agg #[.string nm, .slice lo rs.length lc], .int .i64 s] w fun e w' => e = .returned (.tuple #[.int .i64 0, .int .i64 0]) ∧ Below w.heap.size w w' := by
  have hl32 := (prof_parts hv).1
  have HRB := Lib.hid (prof_parts hv).2
  obtain ⟨W1, hW1⟩ : ∃ W1, w.alloc (.cells #[.string nm, .slice lo rs.length lc] 26) = W1 := ⟨_, rfl⟩
  have B1 : Below w.heap.size w W1 := by rw [← hW1]; exact (Below.refl _ _).alloc (Nat.le_refl _) _
  have O1 : Own W1 w.heap.size 26 [.string nm, .slice lo rs.length lc] := by rw [← hW1]; exact Own.new w _ _
  have HB1 := Lib.hid B1
  have HO1 := Lib.hid O1
  have HR1 := Lib.hid (h.up B1)
  have HMF := Lib.hid (impl_MouldFor_yes W1 nm lo lc rs s hs HR1.out hv h1 hM)
  have HCF := Lib.hid (fun (w' : World) (lo' : Option Addr) (lc' : Nat) h' => impl_CastFrom_yes w' nm lo' lc' rs s hs h1 h' hv hM)
  have x0 : W1.cell? ⟨w.heap.size, 0, none⟩ = some (.string nm) := O1.cell 0
  have x1 : W1.cell? ⟨w.heap.size, 1, none⟩ = some (.slice lo rs.length lc) := O1.cell 1
  have lx := O1.lt
  clear B1 O1 h hv hM
  generalize rs.map (scR (1000 + s) 1000) = up at *
  go_enter Try.func12, Try.ntmps12
  go_wp2_with fail
  refine HMF.out.mono ?_; rintro e w2 ⟨lo2, lc2, rfl, h2, b2⟩
  obtain ⟨W3, hW3⟩ : ∃ W3, w2.alloc (.cells #[.string nm, .slice lo2 up.length lc2] 26) = W3 := ⟨_, rfl⟩
  have b3 : Below w2.heap.size w2 W3 := by rw [← hW3]; exact (Below.refl _ _).alloc (Nat.le_refl _) _
  have O3 : Own W3 w2.heap.size 26 [.string nm, .slice lo2 up.length lc2] := by rw [← hW3]; exact Own.new w2 _ _
  have HB3 := Lib.hid (bnext (HB1.out.trans (b2.mono HB1.out.size)) b3)
  have HR3 := Lib.hid ((HR1.out.up b2).up b3)
  have HO3 := Lib.hid ((HO1.out.below b2 HO1.out.lt).below b3 (by have := HO1.out.lt; have := b2.size; omega))
  have HC4 := Lib.hid (HCF.out W3 lo2 lc2 (h2.up b3))
  have y0 : W3.cell? ⟨w2.heap.size, 0, none⟩ = some (.string nm) := O3.cell 0
  have y1 : W3.cell? ⟨w2.heap.size, 1, none⟩ = some (.slice lo2 up.length lc2) := O3.cell 1
  have ly := O3.lt
  clear h2 b2 b3 O3 HMF HB1 HR1 HO1 HCF x0 x1 lx
  go_wp2_with fail
  refine HC4.out.mono ?_; rintro e w4 ⟨lo4, lc4, rfl, h4, b4⟩
  obtain ⟨W5, hW5⟩ : ∃ W5, w4.alloc (.cells #[.string nm, .slice lo4 rs.length lc4] 26) = W5 := ⟨_, rfl⟩
  have b5 : Below w4.heap.size w4 W5 := by rw [← hW5]; exact (Below.refl _ _).alloc (Nat.le_refl _) _
  have O5 : Own W5 w4.heap.size 26 [.string nm, .slice lo4 rs.length lc4] := by rw [← hW5]; exact Own.new w4 _ _
  have HB5 := Lib.hid (bnext (bnext HB3.out b4) b5)
  have hp5 := (HR3.out.up b4).up b5
  have hc5 := h4.up b5
  have O1' := (HO3.out.below b4 HO3.out.lt).below b5 (by have := HO3.out.lt; have := b4.size; omega)
  have z1 : W5.cell? ⟨w.heap.size, 1, none⟩ = some (.slice lo rs.length lc) := O1'.cell 1
  have lz := O1'.lt
  have g1 : W5.cell? ⟨w4.heap.size, 1, none⟩ = some (.slice lo4 rs.length lc4) := O5.cell 1
  have lg := O5.lt
  obtain ⟨_, _, _, eh, _, _, _, hsome⟩ := hp5
  injection eh with q1 q2 q3
  subst q1 q3
  obtain ⟨_, _, _, eh2, _, _, _, hsome2⟩ := hc5
  injection eh2 with q1 q2 q3
  subst q1 q3
  have H1 := Lib.hid hsome
  have H2 := Lib.hid hsome2
  clear hsome hsome2 h4 b4 b5 O5 O1' HB3 HR3 HO3 HC4 y0 y1 ly
  go_wp2_with fail
  go_loopw [9, 10, 11, 12, 34] (fun m _ _ _ i wr => ∃ (k : Nat), k ≤ rs.length ∧ m = .int .i64 0 ∧ i = .int .i64 k ∧ Below W5.heap.size W5 wr) (fun _ _ _ _ i _ => rs.length - (intOf i).toNat)
  case atStart => exact ⟨0, Nat.zero_le _, rfl, rfl, Below.refl _ _⟩
  case round =>
    obtain ⟨k, hk, rfl, rfl, hbl⟩ := hrel
    have HB := Lib.hid hbl
    by_cases hlt : k < rs.length
    · obtain ⟨b1, off1, rfl, hb1, hc1⟩ := H1.out (by omega)
      obtain ⟨b2, off2, rfl, hb2, hc2⟩ := H2.out (by omega)
      have c0 : wr.cell? ⟨b1, off1 + k * 3, none⟩ = some (.int .i64 rs[k].outer) := (hbl.cell (p := ⟨b1, off1 + k * 3, none⟩) hb1).trans ((hc1 (k * 3) (by omega)).trans (Ring_get0 rs k hlt))
      have c1 : wr.cell? ⟨b1, off1 + k * 3 + 1, none⟩ = some (.int .i64 rs[k].inner) := by rw [Nat.add_assoc]; exact (hbl.cell (p := ⟨b1, off1 + (k * 3 + 1), none⟩) hb1).trans ((hc1 (k * 3 + 1) (by omega)).trans (Ring_get1 rs k hlt))
      have c2 : wr.cell? ⟨b1, off1 + k * 3 + 2, none⟩ = some (.int .i64 rs[k].height) := by rw [Nat.add_assoc]; exact (hbl.cell (p := ⟨b1, off1 + (k * 3 + 2), none⟩) hb1).trans ((hc1 (k * 3 + 2) (by omega)).trans (Ring_get2 rs k hlt))
      have l1 : b1 < wr.heap.size := Nat.lt_of_lt_of_le hb1 hbl.size
      have hrb := HRB.out rs[k] (List.getElem_mem hlt)
      obtain ⟨W6, hW6⟩ : ∃ W6, wr.alloc (.cells #[.int .i64 rs[k].outer, .int .i64 rs[k].inner, .int .i64 rs[k].height] 94) = W6 := ⟨_, rfl⟩
      have b6 : Below wr.heap.size wr W6 := by rw [← hW6]; exact (Below.refl _ _).alloc (Nat.le_refl _) _
      have e6 : W6.heap.size = wr.heap.size + 1 := by rw [← hW6]; simp
      have B6 : Below W5.heap.size W5 W6 := bnext hbl b6
      have O6 : Own W6 wr.heap.size 94 [.int .i64 rs[k].outer, .int .i64 rs[k].inner, .int .i64 rs[k].height] := by rw [← hW6]; exact Own.new wr _ _
      have d0 : W6.cell? ⟨b2, off2 + k * 3, none⟩ = some (.int .i64 rs[k].outer) := (B6.cell (p := ⟨b2, off2 + k * 3, none⟩) hb2).trans ((hc2 (k * 3) (by omega)).trans (Ring_get0 rs k hlt))
      have d1 : W6.cell? ⟨b2, off2 + k * 3 + 1, none⟩ = some (.int .i64 rs[k].inner) := by rw [Nat.add_assoc]; exact (B6.cell (p := ⟨b2, off2 + (k * 3 + 1), none⟩) hb2).trans ((hc2 (k * 3 + 1) (by omega)).trans (Ring_get1 rs k hlt))
      have d2 : W6.cell? ⟨b2, off2 + k * 3 + 2, none⟩ = some (.int .i64 rs[k].height) := by rw [Nat.add_assoc]; exact (B6.cell (p := ⟨b2, off2 + (k * 3 + 2), none⟩) hb2).trans ((hc2 (k * 3 + 2) (by omega)).trans (Ring_get2 rs k hlt))
      have l2 : b2 < W6.heap.size := Nat.lt_of_lt_of_le hb2 B6.size
      have f1 : W6.cell? ⟨w4.heap.size, 1, none⟩ = some (.slice (some ⟨b2, off2, none⟩) rs.length lc4) := (B6.cell (p := ⟨w4.heap.size, 1, none⟩) lg).trans g1
      have lf : w4.heap.size < W6.heap.size := Nat.lt_of_lt_of_le lg B6.size
      generalize rs[k] = r at c0 c1 c2 d0 d1 d2 hrb hW6 O6
      obtain ⟨W7, hW7⟩ : ∃ W7, W6.alloc (.cells #[.int .i64 r.outer, .int .i64 r.inner, .int .i64 r.height] 94) = W7 := ⟨_, rfl⟩
      have b7 : Below W6.heap.size W6 W7 := by rw [← hW7]; exact (Below.refl _ _).alloc (Nat.le_refl _) _
      have O7 : Own W7 wr.heap.size 94 [.int .i64 r.outer, .int .i64 r.inner, .int .i64 r.height] := O6.below b7 O6.lt
      have P7 : Own W7 (wr.heap.size + 1) 94 [.int .i64 r.outer, .int .i64 r.inner, .int .i64 r.height] := by rw [← hW7, ← e6]; exact Own.new W6 _ _
      have HB7 := Lib.hid (bnext B6 b7)
      have u0 : W7.cell? ⟨wr.heap.size, 0, none⟩ = some (.int .i64 r.outer) := O7.cell 0
      have u1 : W7.cell? ⟨wr.heap.size, 1, none⟩ = some (.int .i64 r.inner) := O7.cell 1
      have u2 : W7.cell? ⟨wr.heap.size, 2, none⟩ = some (.int .i64 r.height) := O7.cell 2
      have v0 : W7.cell? ⟨wr.heap.size + 1, 0, none⟩ = some (.int .i64 r.outer) := P7.cell 0
      have v1 : W7.cell? ⟨wr.heap.size + 1, 1, none⟩ = some (.int .i64 r.inner) := P7.cell 1
      have v2 : W7.cell? ⟨wr.heap.size + 1, 2, none⟩ = some (.int .i64 r.height) := P7.cell 2
      have lu := O7.lt
      have lv := P7.lt
      have HA := Lib.hid impl_abs0
      have hmx := fun w => max4z w
      clear hbl b6 b7 B6 O6 O7 P7 hc1 hc2 H1 H2 HRB HB
      go_wp2_with fail
      go_region_held3 (fun w' => w'.cell? ⟨wr.heap.size, 0, none⟩ = some (.int .i64 r.outer) ∧ w'.cell? ⟨wr.heap.size, 1, none⟩ = some (.int .i64 r.inner) ∧ w'.cell? ⟨wr.heap.size, 2, none⟩ = some (.int .i64 r.height) ∧ w'.cell? ⟨wr.heap.size + 1, 0, none⟩ = some (.int .i64 r.outer) ∧ w'.cell? ⟨wr.heap.size + 1, 1, none⟩ = some (.int .i64 r.inner) ∧ w'.cell? ⟨wr.heap.size + 1, 2, none⟩ = some (.int .i64 r.height)) (first | (go_keep; done) | (refine ⟨?_, ?_, ?_, ?_, ?_, ?_⟩ <;> (first | (go_keep; done) | (simp [go_sem, u0, u1, u2, v0, v1, v2]; done)))) (first
        | (go_at_call 51
           refine (HA.out _).mono ?_; rintro e w' ⟨rfl, rfl⟩))
      all_goals go_wp2_with fail
      all_goals go_roundw
      all_goals first
        | exact ⟨k + 1, by omega, rfl, by go_num, by repeat' (first | exact HB7.out | refine below_dn ?_ _ | refine Below.drew ?_)⟩
        | (simp [intOf]; omega)
    · clear hbl
      go_wp2_with fail
      refine bodyPost_ret (v := .tuple #[.int .i64 0, .int .i64 0]) (by simp [results, Try.results12, go_sem]) rfl ?_
      exact ⟨rfl, HB5.out.trans (HB.out.mono HB5.out.size)⟩
end Go.Proofs.Ytnbodmbagendnaa
