/- Contracts and plain facts, joined: DrawO. -/
import Derived.Test.YtnbodmbagendnaaGreatDoorRows
import Derived.Test.YtnbodmbagendnaaGreatDoorZFnMeltsU
import Derived.Test.YtnbodmbagendnaaGreatDoorZFnMeltsX
import Derived.Test.YtnbodmbagendnaaGreatDoorZFnMeltsY
import Derived.Deep.RegionLaw
namespace Go.Proofs.YtnbodmbagendnaaGreatDoor
open Go.ChangeShapes Go.WideShapes Go.ChangeAt Go.RowKit Go.Deep Go.Joins
set_option linter.unusedVariables false
set_option maxRecDepth 100000
set_option linter.unusedSimpArgs false
theorem max_one (a b : Int) (w : World) : Calls Tryz.prog 49 #[.int .i64 a, .int .i64 b] w fun e w' => ∃ z : Int, e = .returned (.int .i64 z) ∧ (z = a ∨ z = b) ∧ w = w' := by
  by_cases h : b < a
  · have t1 : decide (b < a) = true := decide_eq_true h
    go_enter Tryz.func49, Tryz.ntmps49
    go_wp2_with fail
    go_ret
    exact ⟨a, rfl, .inl rfl, rfl⟩
  · have t1 : decide (b < a) = false := decide_eq_false h
    go_enter Tryz.func49, Tryz.ntmps49
    go_wp2_with fail
    go_ret
    exact ⟨b, rfl, .inr rfl, rfl⟩
theorem str_one1 (a : ByteArray) : ∀ u ∈ [Value.string a], u.oneCell' = true := by
  intro u hu; rw [List.mem_singleton.1 hu]; rfl
theorem strs_snocO (ids : List ByteArray) (a : ByteArray) : (ids ++ [a]).flatMap putStr = ids.flatMap putStr ++ [.string a] := by rw [List.flatMap_append]; rfl
theorem own_farO {w : World} {base g : Nat} {E : TypeId} {s n : Nat} {v : Value} {L : List Value} (h : w.ownsRow base E s v n L) (ha : ∀ g', v.ownBlock = some g' → g' ≠ g) (i : Nat) (u : Value) : (w.setCell ⟨g, i, none⟩ u).ownsRow base E s v n L := own_farS h ha i u
/-- a melt that a draw may give -/
def fineX (x : Melt) : Prop := x.id.size ≤ 2 ∧ (∀ s ∈ x.ingots, s.size ≤ maxLen) ∧ -1000 ≤ x.mass ∧ x.mass ≤ 1000000000001 ∧ 1 ≤ x.ingots.length ∧ x.ingots.length ≤ 20
theorem fineX.fine {x : Melt} (h : fineX x) : x.fine := by
  obtain ⟨h1, h2, h3, h4, h5, h6⟩ := h
  exact ⟨by unfold maxLen; omega, h2, ⟨by omega, by omega⟩, by omega⟩
theorem row_one {w : World} {base g : Nat} {E : TypeId} {c : Value} (h : Own w g E [c]) (hb : base ≤ g) : w.ownsRow base E 1 (.slice (some ⟨g, 0, none⟩) 1 1) 1 [c] := by
  refine ⟨rfl, .inr ⟨g, 1, #[c], rfl, hb, ?_, Nat.le_refl _, by unfold maxLen; omega, rfl, rfl⟩⟩
  unfold Own at h
  exact h
set_option maxHeartbeats 4000000 in
theorem draw_one (w : World) (g n base : Nat) (v : Value) (xs : List Ingot) (h : Src w g n) (hn : n ≤ 60000) (ho : w.ownsRow base 77 5 v xs.length (xs.flatMap Ingot.put)) (hb : g < base) (hf : fineI xs) :
    Calls Tryz.prog 17 #[.pointer (some ⟨g, 0, none⟩), v] w fun e w' => ∃ (x : Melt) (lo : Option Addr) (lc : Nat), e = .returned (.agg #[.string x.id, .slice lo x.ingots.length lc, .int .i64 x.mass]) ∧ fineX x ∧ w'.ownsRow w.heap.size 9 1 (.slice lo x.ingots.length lc) x.ingots.length (x.ingots.flatMap putStr) ∧ Src w' g (n + 100) ∧ Turn g (g + 1) w w' := by
  have hg := h.lt
  obtain ⟨i0, hi, hz0, hz1, hz2⟩ := info_parts infoOM
  obtain ⟨W1, hW1⟩ : ∃ W1, w.alloc (.cells #[.string ⟨#[]⟩, .slice none 0 0, .int .i64 0] 28) = W1 := ⟨_, rfl⟩
  have e1 : W1.heap.size = w.heap.size + 1 := by rw [← hW1]; simp
  obtain ⟨W2, hW2⟩ : ∃ W2, W1.alloc (.cells #[.string ⟨#[109, 49]⟩, .string ⟨#[109, 50]⟩, .string ⟨#[109, 51]⟩, .string ⟨#[109, 52]⟩] 9) = W2 := ⟨_, rfl⟩
  have e2 : W2.heap.size = w.heap.size + 2 := by rw [← hW2]; simp [e1]
  have T2 : Turn g (g + 1) w W2 := by rw [← hW2, ← hW1]; exact ((Turn.refl _ _ w).allocR _).allocR _
  have R1 : Own W1 w.heap.size 28 [.string ⟨#[]⟩, .slice none 0 0, .int .i64 0] := by rw [← hW1]; exact Own.new w _ _
  have R2 : Own W2 w.heap.size 28 [.string ⟨#[]⟩, .slice none 0 0, .int .i64 0] := by rw [← hW2]; exact R1.alloc _
  have S2 : Src W2 g n := by rw [← hW2, ← hW1]; exact (h.below ((Below.refl _ _).alloc (Nat.le_refl _) _)).below ((Below.refl _ _).alloc (Nat.le_refl _) _)
  have L2 : Rd W2.heap.size W2 (.slice (some ⟨W1.heap.size, 0, none⟩) 4 4) 1 4 ([(⟨#[109, 49]⟩ : ByteArray), ⟨#[109, 50]⟩, ⟨#[109, 51]⟩, ⟨#[109, 52]⟩].flatMap putStr) := by
    have o : Own W2 W1.heap.size 9 [.string ⟨#[109, 49]⟩, .string ⟨#[109, 50]⟩, .string ⟨#[109, 51]⟩, .string ⟨#[109, 52]⟩] := by rw [← hW2]; exact Own.new W1 _ _
    exact o.rd o.lt (n := 4) rfl (by unfold maxLen; omega) _ (Nat.le_refl _) (by unfold maxLen; omega)
  rw [e1] at L2
  have HX := Lib.hid (src_text W2 g n _ _ S2 (by omega) L2 (by decide) (by decide) (by rintro b off l c e; injection e with e _ _; injection e with e; injection e with e; omega))
  have HR2 := Lib.hid R2
  have HT2 := Lib.hid T2
  have HO := Lib.hid ho
  have HF := Lib.hid hf
  obtain ⟨vo, vc, rfl⟩ := (own_rd ho).form
  have hx20 : xs.length ≤ 20 := hf.1
  have mixed : Tryz.prog.follows .mixedOrders = true := by kernel_rfl
  clear R1 R2 S2 L2 T2 h ho hf
  go_enter Tryz.func17, Tryz.ntmps17
  go_wp2_with fail
  refine HX.out.mono ?_; rintro e w3 ⟨t, rfl, ht, s3, t3⟩
  have htb : t.size ≤ 2 := by
    have h1 : t = ⟨#[109, 49]⟩ ∨ t = ⟨#[109, 50]⟩ ∨ t = ⟨#[109, 51]⟩ ∨ t = ⟨#[109, 52]⟩ := by simpa using ht
    rcases h1 with rfl | rfl | rfl | rfl <;> decide
  have z3 : W2.heap.size ≤ w3.heap.size := t3.size
  have R3 : Hid (Own (w3.alloc (.cells #[.string t, .slice none 0 0, .int .i64 0] 28)) w.heap.size 28 [.string ⟨#[]⟩, .slice none 0 0, .int .i64 0]) := Lib.hid ((HR2.out.turn t3 (.inr (by omega))).alloc _)
  have T3 : Hid (Turn g (g + 1) w (w3.alloc (.cells #[.string t, .slice none 0 0, .int .i64 0] 28))) := Lib.hid ((HT2.out.trans t3).allocR _)
  have S3 : Hid (Src (w3.alloc (.cells #[.string t, .slice none 0 0, .int .i64 0] 28)) g (n + 2)) := Lib.hid (s3.below ((Below.refl _ _).alloc (Nat.le_refl _) _))
  have X3 : Hid (Own (w3.alloc (.cells #[.string t, .slice none 0 0, .int .i64 0] 28)) w3.heap.size 28 [.string t, .slice none 0 0, .int .i64 0]) := Lib.hid (Own.new w3 _ _)
  clear ht s3 t3 HX HR2 HT2
  go_wp2_with fail
  go_loopw [6] (fun i wr => ∃ (k : Nat) (ids : List ByteArray) (lo : Option Addr) (lc : Nat), k ≤ xs.length ∧ i = .int .i64 k ∧ ids.length ≤ k ∧ (∀ s ∈ ids, s.size ≤ maxLen) ∧ Own wr w3.heap.size 28 [.string t, .slice lo ids.length lc, .int .i64 0] ∧ wr.ownsRow w.heap.size 9 1 (.slice lo ids.length lc) ids.length (ids.flatMap putStr) ∧ Own wr w.heap.size 28 [.string ⟨#[]⟩, .slice none 0 0, .int .i64 0] ∧ Src wr g (n + 2 + 2 * k) ∧ Turn g (g + 1) w wr) (fun i _ => xs.length - (intOf i).toNat)
  case atStart => exact ⟨0, [], none, 0, Nat.zero_le _, rfl, Nat.le_refl _, fun s hs => (by cases hs), X3.out, own_nil _ _ _ _, R3.out, S3.out, T3.out⟩
  case round =>
    clear R3 T3 S3 X3
    obtain ⟨k, ids, lo, lc, hk, rfl, hil, his, hX, hL, hR, hS, hT⟩ := hrel
    have HIL := Lib.hid hil
    have HIS := Lib.hid his
    have XR := Lib.hid hX
    have LR := Lib.hid hL
    have RR := Lib.hid hR
    have SR := Lib.hid hS
    have TR := Lib.hid hT
    have hxl : w3.heap.size < wr.heap.size := hX.lt
    have hgr : g < wr.heap.size := hS.lt
    have hwr : w.heap.size ≤ wr.heap.size := hT.size
    have hil20 : ids.length ≤ 20 := by omega
    have x1r : wr.cell? ⟨w3.heap.size, 1, none⟩ = some (.slice lo ids.length lc) := hX.cell 1
    clear hil his hX hL hR hS hT
    by_cases hlt : k < xs.length
    · have HON := Lib.hid (src_one wr g (n + 2 + 2 * k) 3 SR.out (by omega) (by omega))
      clear x1r
      go_wp2_with fail
      refine HON.out.mono ?_; rintro e w5 ⟨q, rfl, s5, t5⟩
      generalize (q == 0) = yes
      have zz5 : wr.heap.size ≤ w5.heap.size := t5.size
      have X5 := Lib.hid (XR.out.turn t5 (.inr (by omega)))
      have L5 := Lib.hid (own_turn LR.out t5 (by omega))
      have R5 := Lib.hid (RR.out.turn t5 (.inr (by omega)))
      have T5 := Lib.hid (TR.out.trans t5)
      have S5 := Lib.hid s5
      clear s5 t5 XR LR RR SR TR HON
      cases yes with
      | false =>
        go_wp2_with fail
        go_roundw
        case rel => exact ⟨k + 1, ids, lo, lc, by omega, by go_num, (by have := HIL.out; omega), HIS.out, X5.out, L5.out, R5.out, S5.out.mono (by omega), T5.out⟩
        case measure => simp [intOf]; omega
      | true =>
        have hrow := own_rd (own_turn HO.out T5.out (by omega))
        obtain ⟨_, ao, cap, e9, _, _, _, hsome⟩ := hrow
        injection e9 with q1 q2 q3
        subst q1
        obtain ⟨bI, off, rfl, hbI, hcc⟩ := hsome (by omega)
        have c0 : w5.cell? ⟨bI, off + k * 5, none⟩ = some (.string xs[k].id) := (hcc (k * 5) (by omega)).trans (Ingot_get0 xs k hlt)
        have x1 : w5.cell? ⟨w3.heap.size, 1, none⟩ = some (.slice lo ids.length lc) := X5.out.cell 1
        have f0 : w5.drew.cell? ⟨bI, off + k * 5, none⟩ = some (.string xs[k].id) := c0
        have f1 : w5.drew.cell? ⟨w3.heap.size, 1, none⟩ = some (.slice lo ids.length lc) := x1
        have hx5 : w3.heap.size < w5.heap.size := X5.out.lt
        have hsz : xs[k].id.size ≤ maxLen := (HF.out.2 xs[k] (List.getElem_mem hlt)).1.1
        have HSZ := Lib.hid hsz
        have LD : Hid (w5.drew.ownsRow w.heap.size 9 1 (.slice lo ids.length lc) ids.length (ids.flatMap putStr)) := Lib.hid (own_drew L5.out 1)
        have XD : Hid (Own w5.drew w3.heap.size 28 [.string t, .slice lo ids.length lc, .int .i64 0]) := Lib.hid (Own.drew1 X5.out)
        have RD : Hid (Own w5.drew w.heap.size 28 [.string ⟨#[]⟩, .slice none 0 0, .int .i64 0]) := Lib.hid (Own.drew1 R5.out)
        have hbw : w.heap.size ≤ w5.drew.heap.size := (by show w.heap.size ≤ w5.heap.size; omega)
        have hkI : (k : Int) < (xs.length : Int) := by omega
        have hkZ : (0 : Int) ≤ (k : Int) := by omega
        clear hsome hcc q2 q3 hsz X5 L5 R5
        generalize xs[k].id = ID at *
        go_wp2_with fail
        go_region_law_o (rw [if_pos (by rfl)]; refine stp_el _ _ 26 9 i0 (.string ByteArray.empty) 1 16 Tryz.underlying26 hi hz0 hz1 hz2 rfl (by decide) rfl w5.drew w.heap.size (.slice lo ids.length lc) ids.length (ids.flatMap putStr) (by rfl) LD.out [.string ID] rfl (str_one1 _) (by first | rfl | (rw [World.size_alloc]; rfl)) (by omega) (by decide) hbw (by rfl) ?_; intro g7 gc7 w7 hown7 hB7 hK7; have B7 := Lib.hid (hB7 w5.drew (Below.refl _ _)); have L7 := Lib.hid hown7; have X7 := Lib.hid (hK7 _ _ _ XD.out (own_apart_type LD.out XD.out (by decide))); have R7 := Lib.hid (hK7 _ _ _ RD.out (own_apart_type LD.out RD.out (by decide))); have y1 : w7.cell? ⟨w3.heap.size, 1, none⟩ = some (.slice lo ids.length lc) := X7.out.cell 1; have fy1 := X7.out.free 1; have hly : w3.heap.size < w7.heap.size := X7.out.lt; clear hown7 hB7 hK7)
        all_goals go_wp2_with fail
        all_goals have hap := own_apart_type L7.out X7.out (by decide)
        all_goals have H5 : Hid (Own (w7.setCell ⟨w3.heap.size, 1, none⟩ (.slice (some ⟨g7, 0, none⟩) (ids.length + 1) gc7)) w3.heap.size 28 [.string t, .slice (some ⟨g7, 0, none⟩) (ids.length + 1) gc7, .int .i64 0]) := Lib.hid (X7.out.set 1 _)
        all_goals have H6 := Lib.hid (own_farO L7.out hap 1 (.slice (some ⟨g7, 0, none⟩) (ids.length + 1) gc7))
        all_goals have H7 : Hid (Own (w7.setCell ⟨w3.heap.size, 1, none⟩ (.slice (some ⟨g7, 0, none⟩) (ids.length + 1) gc7)) w.heap.size 28 [.string ⟨#[]⟩, .slice none 0 0, .int .i64 0]) := Lib.hid (R7.out.other (by show w3.heap.size ≠ w.heap.size; omega) _)
        all_goals have H8 : Hid (Src (w7.setCell ⟨w3.heap.size, 1, none⟩ (.slice (some ⟨g7, 0, none⟩) (ids.length + 1) gc7)) g (n + 2 + 2 * k + 2)) := Lib.hid (Src.set ((S5.out.below ((Below.refl _ _).drew)).belowB B7.out hg) (by omega) 1 _)
        all_goals have H9 : Hid (Turn g (g + 1) w (w7.setCell ⟨w3.heap.size, 1, none⟩ (.slice (some ⟨g7, 0, none⟩) (ids.length + 1) gc7))) := Lib.hid (Turn.setNew ((T5.out.drewR).thenB B7.out (Nat.le_refl _)) (by omega) 1 _)
        all_goals clear hap L7 X7 R7 y1 fy1
        all_goals go_roundw
        all_goals first
          | exact ⟨k + 1, ids ++ [ID], some ⟨g7, 0, none⟩, gc7, by omega, by go_num, by rw [List.length_append, List.length_singleton]; have := HIL.out; omega, (fun s hs => by
              rcases List.mem_append.1 hs with z | z
              · exact HIS.out s z
              · rw [List.mem_singleton.1 z]; exact HSZ.out), by rw [List.length_append, List.length_singleton]; exact H5.out, by rw [strs_snocO, List.length_append, List.length_singleton]; exact H6.out, H7.out, H8.out.mono (by omega), H9.out⟩
          | (simp [intOf]; omega)
    · have SRX : Hid (Src wr g (n + 60)) := Lib.hid (SR.out.mono (by omega))
      clear SR
      by_cases h0 : ids.length = 0
      · obtain rfl : ids = [] := List.eq_nil_of_length_eq_zero h0
        obtain ⟨WA, hWA⟩ : ∃ WA, (wr.alloc (.cells #[.string ⟨#[97]⟩] 9)) = WA := ⟨_, rfl⟩
        have eA : WA.heap.size = wr.heap.size + 1 := by rw [← hWA]; simp
        have XA : Own WA w3.heap.size 28 [.string t, .slice lo 0 lc, .int .i64 0] := by rw [← hWA]; exact XR.out.alloc _
        have LA : Own WA wr.heap.size 9 [.string ⟨#[97]⟩] := by rw [← hWA]; exact Own.new wr _ _
        have RA : Own WA w.heap.size 28 [.string ⟨#[]⟩, .slice none 0 0, .int .i64 0] := by rw [← hWA]; exact RR.out.alloc _
        have SA : Src WA g (n + 60) := by rw [← hWA]; exact SRX.out.below ((Below.refl _ _).alloc (Nat.le_refl _) _)
        have TA : Turn g (g + 1) w WA := by rw [← hWA]; exact TR.out.allocR _
        have XT : Hid (Own (WA.setCell ⟨w3.heap.size, 1, none⟩ (.slice (some ⟨wr.heap.size, 0, none⟩) 1 1)) w3.heap.size 28 [.string t, .slice (some ⟨wr.heap.size, 0, none⟩) 1 1, .int .i64 0]) := Lib.hid (XA.set 1 _)
        have LT0 : Own (WA.setCell ⟨w3.heap.size, 1, none⟩ (.slice (some ⟨wr.heap.size, 0, none⟩) 1 1)) wr.heap.size 9 [.string ⟨#[97]⟩] := LA.other (by show w3.heap.size ≠ wr.heap.size; omega) _
        have LT : Hid ((WA.setCell ⟨w3.heap.size, 1, none⟩ (.slice (some ⟨wr.heap.size, 0, none⟩) 1 1)).ownsRow w.heap.size 9 1 (.slice (some ⟨wr.heap.size, 0, none⟩) 1 1) 1 ([(⟨#[97]⟩ : ByteArray)].flatMap putStr)) := Lib.hid (row_one LT0 hwr)
        have RT : Hid (Own (WA.setCell ⟨w3.heap.size, 1, none⟩ (.slice (some ⟨wr.heap.size, 0, none⟩) 1 1)) w.heap.size 28 [.string ⟨#[]⟩, .slice none 0 0, .int .i64 0]) := Lib.hid (RA.other (by show w3.heap.size ≠ w.heap.size; omega) _)
        have STT : Hid (Src (WA.setCell ⟨w3.heap.size, 1, none⟩ (.slice (some ⟨wr.heap.size, 0, none⟩) 1 1)) g (n + 60)) := Lib.hid (Src.set SA (by omega) 1 _)
        have TT : Hid (Turn g (g + 1) w (WA.setCell ⟨w3.heap.size, 1, none⟩ (.slice (some ⟨wr.heap.size, 0, none⟩) 1 1))) := Lib.hid (Turn.setNew TA (by omega) 1 _)
        have a1 : WA.cell? ⟨w3.heap.size, 1, none⟩ = some (.slice lo 0 lc) := XA.cell 1
        have fa1 := XA.free 1
        have hla : w3.heap.size < WA.heap.size := XA.lt
        have hISx : Hid (∀ s ∈ [(⟨#[97]⟩ : ByteArray)], s.size ≤ maxLen) := Lib.hid (fun s hs => by rw [List.mem_singleton.1 hs]; unfold maxLen; decide)
        clear XA LA RA SA TA LT0 XR LR RR TR SRX HIS HIL
        have HWM := Lib.hid (weak_metal (WA.setCell ⟨w3.heap.size, 1, none⟩ (.slice (some ⟨wr.heap.size, 0, none⟩) 1 1)) _ xs [(⟨#[97]⟩ : ByteArray)] w3.heap.size 0 _ (own_rd (own_turn HO.out TT.out (by omega))) HF.out (XT.out.cell 1) XT.out.lt (own_rd LT.out) (by first | decide | omega))
        go_wp2_with fail
        refine HWM.out.mono ?_; rintro e w6 ⟨m, rfl, hm0, hm1, b6⟩
        have X6 := Lib.hid (XT.out.below b6 XT.out.lt)
        have L6 := Lib.hid (own_below LT.out b6 (Nat.le_refl _))
        have R6 := Lib.hid (RT.out.below b6 RT.out.lt)
        have S6 := STT.out.below b6
        have T6 := Lib.hid (TT.out.trans (Turn.of_below b6))
        have z6 : w3.heap.size < w6.heap.size := X6.out.lt
        obtain ⟨W7, hW7⟩ : ∃ W7, w6.alloc (.cells #[.int .i64 0, .int .i64 0, .int .i64 1000, .int .i64 (-1), .int .i64 (-2), .int .i64 500] 2) = W7 := ⟨_, rfl⟩
        have e7 : W7.heap.size = w6.heap.size + 1 := by rw [← hW7]; simp
        have X7 : Own W7 w3.heap.size 28 [.string t, .slice (some ⟨wr.heap.size, 0, none⟩) 1 1, .int .i64 0] := by rw [← hW7]; exact X6.out.alloc _
        have L7 : W7.ownsRow w.heap.size 9 1 (.slice (some ⟨wr.heap.size, 0, none⟩) 1 1) 1 ([(⟨#[97]⟩ : ByteArray)].flatMap putStr) := by rw [← hW7]; exact L6.out.alloc _
        have R7 : Own W7 w.heap.size 28 [.string ⟨#[]⟩, .slice none 0 0, .int .i64 0] := by rw [← hW7]; exact R6.out.alloc _
        have S7 : Src W7 g (n + 60) := by rw [← hW7]; exact S6.below ((Below.refl _ _).alloc (Nat.le_refl _) _)
        have T7 : Turn g (g + 1) w W7 := by rw [← hW7]; exact T6.out.allocR _
        have Q7 : Rd W7.heap.size W7 (.slice (some ⟨w6.heap.size, 0, none⟩) 6 6) 1 6 ([(0 : Int), 0, 1000, -1, -2, 500].flatMap putI) := by
          have o : Own W7 w6.heap.size 2 [.int .i64 0, .int .i64 0, .int .i64 1000, .int .i64 (-1), .int .i64 (-2), .int .i64 500] := by rw [← hW7]; exact Own.new w6 _ _
          exact o.rd o.lt (n := 6) rfl (by unfold maxLen; omega) _ (Nat.le_refl _) (by unfold maxLen; omega)
        have HAM := Lib.hid (src_among W7 g (n + 60) _ _ S7 (by omega) Q7 (by decide) (by decide) (by rintro b off l c e; injection e with e _ _; injection e with e; injection e with e; omega))
        have HX7 := Lib.hid X7
        have HL7 := Lib.hid L7
        have HR7 := Lib.hid R7
        have HT7 := Lib.hid T7
        have hq : Int.tdiv m 50 = m / 50 := Int.tdiv_eq_ediv_of_nonneg hm0
        clear X7 L7 R7 S7 T7 Q7 X6 L6 R6 S6 T6 b6 HWM XT LT RT STT TT
        go_wp2_with fail
        refine HAM.out.mono ?_; rintro e w8 ⟨c, rfl, hc, s8, t8⟩
        have hcb : -2 ≤ c ∧ c ≤ 1000 := by
          have h1 : c = 0 ∨ c = 0 ∨ c = 1000 ∨ c = -1 ∨ c = -2 ∨ c = 500 := by simpa using hc
          omega
        have X8 := Lib.hid (HX7.out.turn t8 (.inr (by omega)))
        have L8 := Lib.hid (own_turn HL7.out t8 (by omega))
        have R8 := Lib.hid (HR7.out.turn t8 (.inr (by omega)))
        have T8 := Lib.hid (HT7.out.trans t8)
        have S8 := Lib.hid s8
        have z8 := t8.size
        clear hc s8 t8 HX7 HL7 HR7 HT7 HAM hW7
        obtain ⟨d, hd, hd0⟩ : ∃ d : Int, m - m / 50 - c = d ∧ (-1000 ≤ d ∧ d ≤ 1000000000001) := ⟨_, rfl, by omega⟩
        have x0 : w8.cell? ⟨w3.heap.size, 0, none⟩ = some (.string t) := X8.out.cell 0
        have x1 : w8.cell? ⟨w3.heap.size, 1, none⟩ = some (.slice (some ⟨wr.heap.size, 0, none⟩) 1 1) := X8.out.cell 1
        have x2 : w8.cell? ⟨w3.heap.size, 2, none⟩ = some (.int .i64 0) := X8.out.cell 2
        have fx2 := X8.out.free 2
        have hlx := X8.out.lt
        have r0 : w8.cell? ⟨w.heap.size, 0, none⟩ = some (.string ⟨#[]⟩) := R8.out.cell 0
        have r1 : w8.cell? ⟨w.heap.size, 1, none⟩ = some (.slice none 0 0) := R8.out.cell 1
        have r2 : w8.cell? ⟨w.heap.size, 2, none⟩ = some (.int .i64 0) := R8.out.cell 2
        have fr0 := R8.out.free 0
        have fr1 := R8.out.free 1
        have fr2 := R8.out.free 2
        have hlr := R8.out.lt
        have hne1 : ¬ w.heap.size = w3.heap.size := by omega
        have hne2 : ¬ w3.heap.size = w.heap.size := by omega
        go_wp2_with (first | (go_at_call 49; refine (max_one _ _ _).mono ?_; rintro e w9 ⟨z, rfl, hz, rfl⟩))
        have hzb : -1000 ≤ z ∧ z ≤ 1000000000001 := by rcases hz with rfl | rfl <;> omega
        refine bodyPost_ret (v := .agg #[.string t, .slice (some ⟨wr.heap.size, 0, none⟩) 1 1, .int .i64 z]) (by simp [results, Tryz.results17, go_sem, x0, x1, x2, r0, r1, r2, hlx, hlr, hne1, hne2]) rfl ?_
        refine ⟨⟨t, .slice (some ⟨wr.heap.size, 0, none⟩) 1 1, [(⟨#[97]⟩ : ByteArray)], z⟩, _, _, rfl, ⟨htb, hISx.out, hzb.1, hzb.2, by first | exact h1l | (show 1 ≤ 1; decide), by first | exact hil20 | (show 1 ≤ 20; decide)⟩, ?_, ?_, ?_⟩
        · have hap := own_apart_type L8.out X8.out (by decide)
          have hap2 := own_apart_type L8.out R8.out (by decide)
          exact own_farO (own_farO (own_farO (own_farO L8.out hap 2 _) hap2 0 _) hap2 1 _) hap2 2 _
        · repeat (refine Src.set ?_ (by omega) _ _)
          exact S8.out.mono (by omega)
        · repeat (refine Turn.setNew ?_ (by omega) _ _)
          exact T8.out
      · have tl : ((ids.length : Int) == 0) = false := beq_eq_false_iff_ne.2 (by omega)
        have h1l : 1 ≤ ids.length := by omega
        have HWM := Lib.hid (weak_metal wr _ xs ids w3.heap.size 0 _ (own_rd (own_turn HO.out TR.out (by omega))) HF.out (XR.out.cell 1) XR.out.lt (own_rd LR.out) (by first | decide | omega))
        go_wp2_with fail
        refine HWM.out.mono ?_; rintro e w6 ⟨m, rfl, hm0, hm1, b6⟩
        have X6 := Lib.hid (XR.out.below b6 XR.out.lt)
        have L6 := Lib.hid (own_below LR.out b6 (Nat.le_refl _))
        have R6 := Lib.hid (RR.out.below b6 RR.out.lt)
        have S6 := SRX.out.below b6
        have T6 := Lib.hid (TR.out.trans (Turn.of_below b6))
        have z6 : w3.heap.size < w6.heap.size := X6.out.lt
        obtain ⟨W7, hW7⟩ : ∃ W7, w6.alloc (.cells #[.int .i64 0, .int .i64 0, .int .i64 1000, .int .i64 (-1), .int .i64 (-2), .int .i64 500] 2) = W7 := ⟨_, rfl⟩
        have e7 : W7.heap.size = w6.heap.size + 1 := by rw [← hW7]; simp
        have X7 : Own W7 w3.heap.size 28 [.string t, .slice lo ids.length lc, .int .i64 0] := by rw [← hW7]; exact X6.out.alloc _
        have L7 : W7.ownsRow w.heap.size 9 1 (.slice lo ids.length lc) ids.length (ids.flatMap putStr) := by rw [← hW7]; exact L6.out.alloc _
        have R7 : Own W7 w.heap.size 28 [.string ⟨#[]⟩, .slice none 0 0, .int .i64 0] := by rw [← hW7]; exact R6.out.alloc _
        have S7 : Src W7 g (n + 60) := by rw [← hW7]; exact S6.below ((Below.refl _ _).alloc (Nat.le_refl _) _)
        have T7 : Turn g (g + 1) w W7 := by rw [← hW7]; exact T6.out.allocR _
        have Q7 : Rd W7.heap.size W7 (.slice (some ⟨w6.heap.size, 0, none⟩) 6 6) 1 6 ([(0 : Int), 0, 1000, -1, -2, 500].flatMap putI) := by
          have o : Own W7 w6.heap.size 2 [.int .i64 0, .int .i64 0, .int .i64 1000, .int .i64 (-1), .int .i64 (-2), .int .i64 500] := by rw [← hW7]; exact Own.new w6 _ _
          exact o.rd o.lt (n := 6) rfl (by unfold maxLen; omega) _ (Nat.le_refl _) (by unfold maxLen; omega)
        have HAM := Lib.hid (src_among W7 g (n + 60) _ _ S7 (by omega) Q7 (by decide) (by decide) (by rintro b off l c e; injection e with e _ _; injection e with e; injection e with e; omega))
        have HX7 := Lib.hid X7
        have HL7 := Lib.hid L7
        have HR7 := Lib.hid R7
        have HT7 := Lib.hid T7
        have hq : Int.tdiv m 50 = m / 50 := Int.tdiv_eq_ediv_of_nonneg hm0
        clear X7 L7 R7 S7 T7 Q7 X6 L6 R6 S6 T6 b6 HWM XR LR RR SRX TR
        go_wp2_with fail
        refine HAM.out.mono ?_; rintro e w8 ⟨c, rfl, hc, s8, t8⟩
        have hcb : -2 ≤ c ∧ c ≤ 1000 := by
          have h1 : c = 0 ∨ c = 0 ∨ c = 1000 ∨ c = -1 ∨ c = -2 ∨ c = 500 := by simpa using hc
          omega
        have X8 := Lib.hid (HX7.out.turn t8 (.inr (by omega)))
        have L8 := Lib.hid (own_turn HL7.out t8 (by omega))
        have R8 := Lib.hid (HR7.out.turn t8 (.inr (by omega)))
        have T8 := Lib.hid (HT7.out.trans t8)
        have S8 := Lib.hid s8
        have z8 := t8.size
        clear hc s8 t8 HX7 HL7 HR7 HT7 HAM hW7
        obtain ⟨d, hd, hd0⟩ : ∃ d : Int, m - m / 50 - c = d ∧ (-1000 ≤ d ∧ d ≤ 1000000000001) := ⟨_, rfl, by omega⟩
        have x0 : w8.cell? ⟨w3.heap.size, 0, none⟩ = some (.string t) := X8.out.cell 0
        have x1 : w8.cell? ⟨w3.heap.size, 1, none⟩ = some (.slice lo ids.length lc) := X8.out.cell 1
        have x2 : w8.cell? ⟨w3.heap.size, 2, none⟩ = some (.int .i64 0) := X8.out.cell 2
        have fx2 := X8.out.free 2
        have hlx := X8.out.lt
        have r0 : w8.cell? ⟨w.heap.size, 0, none⟩ = some (.string ⟨#[]⟩) := R8.out.cell 0
        have r1 : w8.cell? ⟨w.heap.size, 1, none⟩ = some (.slice none 0 0) := R8.out.cell 1
        have r2 : w8.cell? ⟨w.heap.size, 2, none⟩ = some (.int .i64 0) := R8.out.cell 2
        have fr0 := R8.out.free 0
        have fr1 := R8.out.free 1
        have fr2 := R8.out.free 2
        have hlr := R8.out.lt
        have hne1 : ¬ w.heap.size = w3.heap.size := by omega
        have hne2 : ¬ w3.heap.size = w.heap.size := by omega
        go_wp2_with (first | (go_at_call 49; refine (max_one _ _ _).mono ?_; rintro e w9 ⟨z, rfl, hz, rfl⟩))
        have hzb : -1000 ≤ z ∧ z ≤ 1000000000001 := by rcases hz with rfl | rfl <;> omega
        refine bodyPost_ret (v := .agg #[.string t, .slice lo ids.length lc, .int .i64 z]) (by simp [results, Tryz.results17, go_sem, x0, x1, x2, r0, r1, r2, hlx, hlr, hne1, hne2]) rfl ?_
        refine ⟨⟨t, .slice lo ids.length lc, ids, z⟩, _, _, rfl, ⟨htb, HIS.out, hzb.1, hzb.2, by first | exact h1l | (show 1 ≤ 1; decide), by first | exact hil20 | (show 1 ≤ 20; decide)⟩, ?_, ?_, ?_⟩
        · have hap := own_apart_type L8.out X8.out (by decide)
          have hap2 := own_apart_type L8.out R8.out (by decide)
          exact own_farO (own_farO (own_farO (own_farO L8.out hap 2 _) hap2 0 _) hap2 1 _) hap2 2 _
        · repeat (refine Src.set ?_ (by omega) _ _)
          exact S8.out.mono (by omega)
        · repeat (refine Turn.setNew ?_ (by omega) _ _)
          exact T8.out
end Go.Proofs.YtnbodmbagendnaaGreatDoor
