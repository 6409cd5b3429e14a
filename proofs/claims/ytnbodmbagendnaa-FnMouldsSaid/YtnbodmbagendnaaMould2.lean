/- Profiles of another size: a cavity and what is cast from it. -/
import Derived.Test.YtnbodmbagendnaaRows
import Derived.Test.YtnbodmbagendnaaMould
namespace Go.Proofs.Ytnbodmbagendnaa
open Go.ChangeShapes Go.WideShapes Go.ChangeAt Go.RowKit Go.Deep Go.Joins
set_option linter.unusedVariables false
set_option maxRecDepth 100000
set_option linter.unusedSimpArgs false
theorem own_weakM {w : World} {b b' : Nat} {E : TypeId} {s n : Nat} {v : Value} {L : List Value} (h : w.ownsRow b E s v n L) (hb : b' ≤ b) : w.ownsRow b' E s v n L := by
  obtain ⟨h1, h2⟩ := h
  refine ⟨h1, ?_⟩
  rcases h2 with h2 | ⟨g1, cap, cur, rfl, hg0, rest⟩
  · exact .inl h2
  · exact .inr ⟨g1, cap, cur, rfl, Nat.le_trans hb hg0, rest⟩
theorem own_apartB {w : World} {b g : Nat} {E : TypeId} {s n : Nat} {v : Value} {L : List Value} (h : w.ownsRow b E s v n L) (hg : g < b) : ∀ g', v.ownBlock = some g' → g' ≠ g := fun g' e q => by
  have := (h.lt g' e).1
  omega
set_option maxHeartbeats 4000000 in
theorem impl_scaled (w : World) (nm : ByteArray) (lo : Option Addr) (lc : Nat) (rs : List Ring) (num den : Int) (hs : nm.size ≤ maxLen) (h : Rd w.heap.size w (.slice lo rs.length lc) 3 rs.length (rs.flatMap Ring.put)) (hl : rs.length ≤ 32) (hr : ∀ r ∈ rs, ringB r = true) (hn : 1 ≤ num ∧ num ≤ 2000) (hd : 1 ≤ den ∧ den ≤ 2000) :
    Calls Try.prog 50 #[.agg #[.string nm, .slice lo rs.length lc], .int .i64 num, .int .i64 den] w fun e w' => ShapedE w.heap.size w' e nm (rs.map (scR num den)) ∧ Below w.heap.size w w' := by
  obtain ⟨W1, hW1⟩ : ∃ W1, w.alloc (.cells #[.string nm, .slice lo rs.length lc] 26) = W1 := ⟨_, rfl⟩
  have e1 : W1.heap.size = w.heap.size + 1 := by rw [← hW1]; simp
  obtain ⟨W2, hW2⟩ : ∃ W2, W1.alloc (.cells #[.int .i64 num] 2) = W2 := ⟨_, rfl⟩
  have e2 : W2.heap.size = w.heap.size + 2 := by rw [← hW2]; simp [e1]
  obtain ⟨W3, hW3⟩ : ∃ W3, W2.alloc (.cells #[.int .i64 den] 2) = W3 := ⟨_, rfl⟩
  have e3 : W3.heap.size = w.heap.size + 3 := by rw [← hW3]; simp [e2]
  obtain ⟨W4, hW4⟩ : ∃ W4, W3.alloc (.cells #[.string ⟨#[]⟩, .slice none 0 0] 26) = W4 := ⟨_, rfl⟩
  have e4 : W4.heap.size = w.heap.size + 4 := by rw [← hW4]; simp [e3]
  have B4 : Below w.heap.size w W4 := by rw [← hW4, ← hW3, ← hW2, ← hW1]; exact ((((Below.refl _ _).alloc (Nat.le_refl _) _).alloc (by simp) _).alloc (by simp; omega) _).alloc (by simp; omega) _
  have O1 : Own W4 w.heap.size 26 [.string nm, .slice lo rs.length lc] := by rw [← hW4, ← hW3, ← hW2, ← hW1]; exact (((Own.new w _ _).alloc _).alloc _).alloc _
  have O2 : Own W4 (w.heap.size + 1) 2 [.int .i64 num] := by rw [← hW4, ← hW3, ← hW2, ← e1]; exact ((Own.new W1 _ _).alloc _).alloc _
  have O3 : Own W4 (w.heap.size + 2) 2 [.int .i64 den] := by rw [← hW4, ← hW3, ← e2]; exact (Own.new W2 _ _).alloc _
  have O4 : Own W4 (w.heap.size + 3) 26 [.string ⟨#[]⟩, .slice none 0 0] := by rw [← hW4, ← e3]; exact Own.new W3 _ _
  have HB := Lib.hid B4
  have HO := Lib.hid O4
  have HS := Lib.hid (impl_reshaped W4 nm lo lc rs num den (w.heap.size + 1) (w.heap.size + 2) (O2.cell 0) (O3.cell 0) O2.lt O3.lt hs (h.up B4) hl hr hn hd)
  have x0 : W4.cell? ⟨w.heap.size, 0, none⟩ = some (.string nm) := O1.cell 0
  have x1 : W4.cell? ⟨w.heap.size, 1, none⟩ = some (.slice lo rs.length lc) := O1.cell 1
  have lx := O1.lt
  clear O1 O2 O3 O4 B4 h hr
  go_enter Try.func50, Try.ntmps50
  go_wp2_with fail
  refine HS.out.mono ?_; rintro e w5 ⟨⟨n', lo', lc', R', cc, rfl, hown, hor⟩, b5⟩
  have L5 := Lib.hid hown
  have OR5 := Lib.hid hor
  have B5 := Lib.hid (HB.out.trans (b5.mono HB.out.size))
  have R5 := Lib.hid (HO.out.below b5 HO.out.lt)
  have r0 : w5.cell? ⟨w.heap.size + 3, 0, none⟩ = some (.string ⟨#[]⟩) := R5.out.cell 0
  have r1 : w5.cell? ⟨w.heap.size + 3, 1, none⟩ = some (.slice none 0 0) := R5.out.cell 1
  have fr0 := R5.out.free 0
  have fr1 := R5.out.free 1
  have lr := R5.out.lt
  clear hown hor b5 HS HB HO R5 x0 x1 lx
  go_wp2_with fail
  refine bodyPost_ret (v := .tuple #[.agg #[.string n', .slice lo' R'.length lc'], .int .i64 cc]) (by simp [results, Try.results50, go_sem, r0, r1, lr]) rfl ?_
  have hap := own_apartB L5.out (g := w.heap.size + 3) (by omega)
  exact ⟨⟨n', lo', lc', R', cc, rfl, own_weakM (own_farP (own_farP L5.out hap 0 _) hap 1 _) (by omega), OR5.out⟩, Below.setCell (Below.setCell B5.out (by show w.heap.size ≤ w.heap.size + 3; omega) _) (by show w.heap.size ≤ w.heap.size + 3; omega) _⟩
/-- a profile's rings are few and each is a ring -/
theorem prof_parts {nm : ByteArray} {l : Value} {rs : List Ring} (h : profB ⟨nm, l, rs⟩ = true) : rs.length ≤ 32 ∧ ∀ r ∈ rs, ringB r = true := by
  unfold profB at h
  simp only [Bool.and_eq_true, decide_eq_true_eq] at h
  obtain ⟨h1, h2, h3, h4, h5⟩ := h
  refine ⟨h3, fun r hr => ?_⟩
  obtain ⟨k, hk, rfl⟩ := List.getElem_of_mem hr
  cases hO : ringB rs[k] with
  | true => rfl
  | false =>
    have q := allK_true h4 k hk
    rw [stepB_no hk hO] at q
    cases q
theorem impl_isShrink_yes (w : World) (s : Int) (h : 0 ≤ s ∧ s ≤ 50) :
    Calls Try.prog 49 #[.int .i64 s] w fun e w' => e = .returned (.bool true) ∧ w = w' := by
  have H := Lib.hid (within_is (b := true) s 0 50 w (inB_mk h))
  go_enter Try.func49, Try.ntmps49
  go_wp2_with fail
  refine H.out.mono ?_; rintro e w' ⟨rfl, rfl⟩
  go_wp2_with fail
  go_ret
  exact ⟨rfl, rfl⟩
set_option maxHeartbeats 4000000 in
theorem impl_MouldFor (w : World) (nm : ByteArray) (lo : Option Addr) (lc : Nat) (rs : List Ring) (s : Int) (hs : nm.size ≤ maxLen) (h : Rd w.heap.size w (.slice lo rs.length lc) 3 rs.length (rs.flatMap Ring.put)) (hv : profB ⟨nm, .slice none 0 0, rs⟩ = true) (h1 : 0 ≤ s ∧ s ≤ 50) :
    Calls Try.prog 10 #[.agg #[.string nm, .slice lo rs.length lc], .int .i64 s] w fun e w' => ShapedE w.heap.size w' e nm (rs.map (scR (1000 + s) 1000)) ∧ Below w.heap.size w w' := by
  have hp := prof_parts hv
  obtain ⟨W1, hW1⟩ : ∃ W1, w.alloc (.cells #[.string nm, .slice lo rs.length lc] 26) = W1 := ⟨_, rfl⟩
  have e1 : W1.heap.size = w.heap.size + 1 := by rw [← hW1]; simp
  obtain ⟨W2, hW2⟩ : ∃ W2, W1.alloc (.cells #[.string ⟨#[]⟩, .slice none 0 0] 26) = W2 := ⟨_, rfl⟩
  have e2 : W2.heap.size = w.heap.size + 2 := by rw [← hW2]; simp [e1]
  have B2 : Below w.heap.size w W2 := by rw [← hW2, ← hW1]; exact ((Below.refl _ _).alloc (Nat.le_refl _) _).alloc (by simp) _
  have O1 : Hid (Own W2 w.heap.size 26 [.string nm, .slice lo rs.length lc]) := Lib.hid (by rw [← hW2, ← hW1]; exact (Own.new w _ _).alloc _)
  have O2 : Hid (Own W2 (w.heap.size + 1) 26 [.string ⟨#[]⟩, .slice none 0 0]) := Lib.hid (by rw [← hW2, ← e1]; exact Own.new W1 _ _)
  have HB2 := Lib.hid B2
  have HR2 := Lib.hid (h.up B2)
  have HV := Lib.hid (impl_ValidProfile W2 ⟨nm, .slice none 0 0, rs⟩ lo lc hs HR2.out (Nat.le_trans hp.1 (by decide)) hv)
  have HSC := Lib.hid (fun (w' : World) (h' : Rd w'.heap.size w' (.slice lo rs.length lc) 3 rs.length (rs.flatMap Ring.put)) => impl_scaled w' nm lo lc rs (1000 + s) 1000 hs h' hp.1 hp.2 (by omega) (by omega))
  have HIS := Lib.hid (fun (w' : World) => impl_isShrink_yes w' s h1)
  have x0 : W2.cell? ⟨w.heap.size, 0, none⟩ = some (.string nm) := O1.out.cell 0
  have x1 : W2.cell? ⟨w.heap.size, 1, none⟩ = some (.slice lo rs.length lc) := O1.out.cell 1
  have lx := O1.out.lt
  clear B2 h hv hp
  go_enter Try.func10, Try.ntmps10
  go_wp2_with fail
  refine HV.out.mono ?_; rintro e w3 ⟨rfl, b3⟩
  have B3 := Lib.hid (HB2.out.trans (b3.mono HB2.out.size))
  have O3 := Lib.hid (O1.out.below b3 O1.out.lt)
  have Q3 := Lib.hid (O2.out.below b3 O2.out.lt)
  have HR3 := Lib.hid (HR2.out.up b3)
  have y0 : w3.cell? ⟨w.heap.size, 0, none⟩ = some (.string nm) := O3.out.cell 0
  have y1 : w3.cell? ⟨w.heap.size, 1, none⟩ = some (.slice lo rs.length lc) := O3.out.cell 1
  have ly := O3.out.lt
  clear b3 HV O1 O2 HB2 HR2 x0 x1 lx O3
  go_wp2_with fail
  refine (HIS.out w3).mono ?_; rintro e w4 ⟨rfl, rfl⟩
  go_wp2_with fail
  refine (HSC.out w3 HR3.out).mono ?_; rintro e w5 ⟨⟨n', lo', lc', R', cc, rfl, hown, hor⟩, b5⟩
  have L5 := Lib.hid hown
  have OR5 := Lib.hid hor
  have zz := B3.out.size
  have hq3 := Q3.out.lt
  have R5 := Lib.hid (Q3.out.below b5 Q3.out.lt)
  have B5 := Lib.hid (B3.out.trans (b5.mono B3.out.size))
  have r0 : w5.cell? ⟨w.heap.size + 1, 0, none⟩ = some (.string ⟨#[]⟩) := R5.out.cell 0
  have r1 : w5.cell? ⟨w.heap.size + 1, 1, none⟩ = some (.slice none 0 0) := R5.out.cell 1
  have fr0 := R5.out.free 0
  have fr1 := R5.out.free 1
  have lr := R5.out.lt
  clear hown hor b5 HSC HIS B3 Q3 R5 HR3 y0 y1 ly
  go_wp2_with fail
  refine bodyPost_ret (v := .tuple #[.agg #[.string n', .slice lo' R'.length lc'], .int .i64 cc]) (by simp [results, Try.results10, go_sem, r0, r1, lr]) rfl ?_
  have hap := own_apartB L5.out (g := w.heap.size + 1) (by omega)
  exact ⟨⟨n', lo', lc', R', cc, rfl, own_weakM (own_farP (own_farP L5.out hap 0 _) hap 1 _) (by omega), OR5.out⟩, Below.setCell (Below.setCell B5.out (by show w.heap.size ≤ w.heap.size + 1; omega) _) (by show w.heap.size ≤ w.heap.size + 1; omega) _⟩
set_option maxHeartbeats 4000000 in
theorem impl_CastFrom (w : World) (nm : ByteArray) (lo : Option Addr) (lc : Nat) (rs : List Ring) (s : Int) (hs : nm.size ≤ maxLen) (h : Rd w.heap.size w (.slice lo rs.length lc) 3 rs.length (rs.flatMap Ring.put)) (hv : profB ⟨nm, .slice none 0 0, rs⟩ = true) (h1 : 0 ≤ s ∧ s ≤ 50) :
    Calls Try.prog 11 #[.agg #[.string nm, .slice lo rs.length lc], .int .i64 s] w fun e w' => ShapedE w.heap.size w' e nm (rs.map (scR 1000 (1000 + s))) ∧ Below w.heap.size w w' := by
  have hp := prof_parts hv
  obtain ⟨W1, hW1⟩ : ∃ W1, w.alloc (.cells #[.string nm, .slice lo rs.length lc] 26) = W1 := ⟨_, rfl⟩
  have e1 : W1.heap.size = w.heap.size + 1 := by rw [← hW1]; simp
  obtain ⟨W2, hW2⟩ : ∃ W2, W1.alloc (.cells #[.string ⟨#[]⟩, .slice none 0 0] 26) = W2 := ⟨_, rfl⟩
  have e2 : W2.heap.size = w.heap.size + 2 := by rw [← hW2]; simp [e1]
  have B2 : Below w.heap.size w W2 := by rw [← hW2, ← hW1]; exact ((Below.refl _ _).alloc (Nat.le_refl _) _).alloc (by simp) _
  have O1 : Hid (Own W2 w.heap.size 26 [.string nm, .slice lo rs.length lc]) := Lib.hid (by rw [← hW2, ← hW1]; exact (Own.new w _ _).alloc _)
  have O2 : Hid (Own W2 (w.heap.size + 1) 26 [.string ⟨#[]⟩, .slice none 0 0]) := Lib.hid (by rw [← hW2, ← e1]; exact Own.new W1 _ _)
  have HB2 := Lib.hid B2
  have HR2 := Lib.hid (h.up B2)
  have HV := Lib.hid (impl_ValidProfile W2 ⟨nm, .slice none 0 0, rs⟩ lo lc hs HR2.out (Nat.le_trans hp.1 (by decide)) hv)
  have HSC := Lib.hid (fun (w' : World) (h' : Rd w'.heap.size w' (.slice lo rs.length lc) 3 rs.length (rs.flatMap Ring.put)) => impl_scaled w' nm lo lc rs 1000 (1000 + s) hs h' hp.1 hp.2 (by omega) (by omega))
  have HIS := Lib.hid (fun (w' : World) => impl_isShrink_yes w' s h1)
  have x0 : W2.cell? ⟨w.heap.size, 0, none⟩ = some (.string nm) := O1.out.cell 0
  have x1 : W2.cell? ⟨w.heap.size, 1, none⟩ = some (.slice lo rs.length lc) := O1.out.cell 1
  have lx := O1.out.lt
  clear B2 h hv hp
  go_enter Try.func11, Try.ntmps11
  go_wp2_with fail
  refine HV.out.mono ?_; rintro e w3 ⟨rfl, b3⟩
  have B3 := Lib.hid (HB2.out.trans (b3.mono HB2.out.size))
  have O3 := Lib.hid (O1.out.below b3 O1.out.lt)
  have Q3 := Lib.hid (O2.out.below b3 O2.out.lt)
  have HR3 := Lib.hid (HR2.out.up b3)
  have y0 : w3.cell? ⟨w.heap.size, 0, none⟩ = some (.string nm) := O3.out.cell 0
  have y1 : w3.cell? ⟨w.heap.size, 1, none⟩ = some (.slice lo rs.length lc) := O3.out.cell 1
  have ly := O3.out.lt
  clear b3 HV O1 O2 HB2 HR2 x0 x1 lx O3
  go_wp2_with fail
  refine (HIS.out w3).mono ?_; rintro e w4 ⟨rfl, rfl⟩
  go_wp2_with fail
  refine (HSC.out w3 HR3.out).mono ?_; rintro e w5 ⟨⟨n', lo', lc', R', cc, rfl, hown, hor⟩, b5⟩
  have L5 := Lib.hid hown
  have OR5 := Lib.hid hor
  have zz := B3.out.size
  have hq3 := Q3.out.lt
  have R5 := Lib.hid (Q3.out.below b5 Q3.out.lt)
  have B5 := Lib.hid (B3.out.trans (b5.mono B3.out.size))
  have r0 : w5.cell? ⟨w.heap.size + 1, 0, none⟩ = some (.string ⟨#[]⟩) := R5.out.cell 0
  have r1 : w5.cell? ⟨w.heap.size + 1, 1, none⟩ = some (.slice none 0 0) := R5.out.cell 1
  have fr0 := R5.out.free 0
  have fr1 := R5.out.free 1
  have lr := R5.out.lt
  clear hown hor b5 HSC HIS B3 Q3 R5 HR3 y0 y1 ly
  go_wp2_with fail
  refine bodyPost_ret (v := .tuple #[.agg #[.string n', .slice lo' R'.length lc'], .int .i64 cc]) (by simp [results, Try.results11, go_sem, r0, r1, lr]) rfl ?_
  have hap := own_apartB L5.out (g := w.heap.size + 1) (by omega)
  exact ⟨⟨n', lo', lc', R', cc, rfl, own_weakM (own_farP (own_farP L5.out hap 0 _) hap 1 _) (by omega), OR5.out⟩, Below.setCell (Below.setCell B5.out (by show w.heap.size ≤ w.heap.size + 1; omega) _) (by show w.heap.size ≤ w.heap.size + 1; omega) _⟩
end Go.Proofs.Ytnbodmbagendnaa
