/- Contracts and plain facts, joined: DrawAM. -/
import Derived.Test.YtnbodmbagendnaaGreatDoorRows
import Derived.Test.YtnbodmbagendnaaGreatDoorZFnMeltsZF
namespace Go.Proofs.YtnbodmbagendnaaGreatDoor
open Go.ChangeShapes Go.WideShapes Go.ChangeAt Go.RowKit Go.Deep Go.Joins
set_option linter.unusedVariables false
set_option maxRecDepth 100000
set_option linter.unusedSimpArgs false
/-- what a bent melt leaves: blocks below base but the source's are as they were -/
def BentM (base g : Nat) (w w' : World) (y : Melt) (v : Value) : Prop := ∃ (lo : Option Addr) (lc : Nat) (wm : World), v = .slice lo y.ingots.length lc ∧ y.fine ∧ Held base w'.heap.size w' 9 1 v y.ingots.length (y.ingots.flatMap putStr) ∧ Turn g (g + 1) w wm ∧ Below base wm w'
theorem fine_parts {x : Melt} (h : fineX x) (id : ByteArray) (ids : List ByteArray) (m : Int) (h1 : id.size ≤ 2) (h2 : ∀ s ∈ ids, s.size ≤ maxLen) (h3 : -1000 ≤ m ∧ m ≤ 1000000000001) (h4 : ids.length ≤ 30) (v : Value) : (⟨id, v, ids, m⟩ : Melt).fine :=
  ⟨by show id.size ≤ maxLen; unfold maxLen; omega, h2, ⟨by show _ ≤ m; omega, by show m ≤ _; omega⟩, by show ids.length ≤ 1048576; omega⟩
set_option maxHeartbeats 4000000 in
theorem bend_melt (w : World) (g n base : Nat) (x : Melt) (lo : Option Addr) (lc : Nat) (h : Src w g n) (hn : n ≤ 70000) (hx : fineX x) (hl : w.ownsRow base 9 1 (.slice lo x.ingots.length lc) x.ingots.length (x.ingots.flatMap putStr)) (hb : g < base) (hbw : base ≤ w.heap.size) :
    Calls Tryz.prog 18 #[.pointer (some ⟨g, 0, none⟩), .agg #[.string x.id, .slice lo x.ingots.length lc, .int .i64 x.mass]] w fun e w' => ∃ (y : Melt) (v : Value), e = .returned (.agg #[.string y.id, v, .int .i64 y.mass]) ∧ BentM base g w w' y v := by
  have hg := h.lt
  obtain ⟨i0, hi, hz0, hz1, hz2⟩ := info_parts infoOM
  have mixed : Tryz.prog.follows .mixedOrders = true := by kernel_rfl
  obtain ⟨W1, hW1⟩ : ∃ W1, w.alloc (.cells #[.string x.id, .slice lo x.ingots.length lc, .int .i64 x.mass] 28) = W1 := ⟨_, rfl⟩
  have e1 : W1.heap.size = w.heap.size + 1 := by rw [← hW1]; simp
  obtain ⟨W2, hW2⟩ : ∃ W2, W1.alloc (.cells #[.string ⟨#[]⟩, .slice none 0 0, .int .i64 0] 28) = W2 := ⟨_, rfl⟩
  have e2 : W2.heap.size = w.heap.size + 2 := by rw [← hW2]; simp [e1]
  have B2 : Below w.heap.size w W2 := by rw [← hW2, ← hW1]; exact ((Below.refl _ _).alloc (Nat.le_refl _) _).alloc (by simp) _
  have X2 : Own W2 w.heap.size 28 [.string x.id, .slice lo x.ingots.length lc, .int .i64 x.mass] := by rw [← hW2, ← hW1]; exact (Own.new w _ _).alloc _
  have R2 : Own W2 (w.heap.size + 1) 28 [.string ⟨#[]⟩, .slice none 0 0, .int .i64 0] := by rw [← hW2, ← e1]; exact Own.new W1 _ _
  have HP := Lib.hid (src_pick W2 g n 18 (h.below B2) (by omega) (by omega))
  have HX2 := Lib.hid X2
  have HR2 := Lib.hid R2
  have HL2 := Lib.hid (own_below hl B2 (Nat.le_refl _))
  have HT2 := Lib.hid (Turn.of_below (lo := g) (hi := g + 1) B2)
  have HFX := Lib.hid hx
  have hbd := hx.2.2.1
  have hbe := hx.2.2.2.1
  have hil : x.ingots.length ≤ 20 := hx.2.2.2.2.2
  have hidz : x.id.size ≤ 2 := hx.1
  clear X2 R2 B2 h hx hl
  have n1 : ¬ w.heap.size = w.heap.size + 1 := by omega
  have n4 : ¬ w.heap.size + 1 = w.heap.size := by omega
  go_enter Tryz.func18, Tryz.ntmps18
  go_wp2_with fail
  refine HP.out.mono ?_; rintro e w3 ⟨p, rfl, p0, _, p1, s3, t3⟩
  have X3 := Lib.hid (HX2.out.turn t3 (.inr (by omega)))
  have R3 := Lib.hid (HR2.out.turn t3 (.inr (by omega)))
  have L3 := Lib.hid (own_turn HL2.out t3 (by omega))
  have T3 := Lib.hid (HT2.out.trans t3)
  have S3 := Lib.hid s3
  have zz3 : w.heap.size + 2 ≤ w3.heap.size := by have := t3.size; omega
  clear s3 t3 HX2 HR2 HL2 HT2 HP p1 hW1 hW2
  by_cases h0 : p = 0
  · subst h0
    obtain ⟨W4, hW4⟩ : ∃ W4, w3.alloc (.cells #[.string ⟨#[]⟩, .string ⟨#[77]⟩] 9) = W4 := ⟨_, rfl⟩
    have e4 : W4.heap.size = w3.heap.size + 1 := by rw [← hW4]; simp
    have B4 : Below w3.heap.size w3 W4 := by rw [← hW4]; exact (Below.refl _ _).alloc (Nat.le_refl _) _
    have L4 : Rd W4.heap.size W4 (.slice (some ⟨w3.heap.size, 0, none⟩) 2 2) 1 2 ([(⟨#[]⟩ : ByteArray), ⟨#[77]⟩].flatMap putStr) := by
      have o : Own W4 w3.heap.size 9 [.string ⟨#[]⟩, .string ⟨#[77]⟩] := by rw [← hW4]; exact Own.new w3 _ _
      exact o.rd o.lt (n := 2) rfl (by unfold maxLen; omega) _ (Nat.le_refl _) (by unfold maxLen; omega)
    have HX := Lib.hid (src_text W4 g (n + 2) _ _ (S3.out.below B4) (by omega) L4 (by decide) (by decide) (by rintro b off l c e; injection e with e _ _; injection e with e; injection e with e; omega))
    have X4 := Lib.hid (X3.out.below B4 X3.out.lt)
    have R4 := Lib.hid (R3.out.below B4 R3.out.lt)
    have Q4 := Lib.hid (own_below L3.out B4 (Nat.le_refl _))
    have T4 := Lib.hid (T3.out.trans (Turn.of_below (lo := g) (hi := g + 1) B4))
    clear L4 B4 X3 R3 L3 T3 S3
    go_wp2_with fail
    refine HX.out.mono ?_; rintro e w5 ⟨t, rfl, ht, s5, t5⟩
    have X5 := Lib.hid (X4.out.turn t5 (.inr (by omega)))
    have R5 := Lib.hid (R4.out.turn t5 (.inr (by omega)))
    have L5 := Lib.hid (own_turn Q4.out t5 (by omega))
    have T5 := Lib.hid (T4.out.trans t5)
    have zz5 := t5.size
    have htb : t.size ≤ 2 := by
      have h1 : t = ⟨#[]⟩ ∨ t = ⟨#[77]⟩ := by simpa using ht
      rcases h1 with rfl | rfl <;> decide
    clear ht
    clear s5 t5 X4 R4 Q4 T4 HX hW4
    have z0 : w5.cell? ⟨w.heap.size, 0, none⟩ = some (.string x.id) := X5.out.cell 0
    have fz := X5.out.free 0
    have lz := X5.out.lt
    obtain ⟨W6, hW6⟩ : ∃ W6, w5.setCell ⟨w.heap.size, 0, none⟩ (.string t) = W6 := ⟨_, rfl⟩
    have X6 : Hid (Own W6 w.heap.size 28 [.string t, .slice lo x.ingots.length lc, .int .i64 x.mass]) := Lib.hid (hW6 ▸ X5.out.set 0 _)
    have R6 : Hid (Own W6 (w.heap.size + 1) 28 [.string ⟨#[]⟩, .slice none 0 0, .int .i64 0]) := Lib.hid (hW6 ▸ R5.out.other (by show w.heap.size ≠ w.heap.size + 1; omega) _)
    have L6 : Hid (W6.ownsRow base 9 1 (.slice lo x.ingots.length lc) x.ingots.length (x.ingots.flatMap putStr)) := Lib.hid (hW6 ▸ own_farO L5.out (own_apart_type L5.out X5.out (by decide)) 0 _)
    have B6 : Hid (Below base w5 W6) := Lib.hid (hW6 ▸ Below.setCell (Below.refl _ _) (by show base ≤ w.heap.size; omega) _)
    have y0 : W6.cell? ⟨w.heap.size, 0, none⟩ = some (.string t) := X6.out.cell 0
    have y1 : W6.cell? ⟨w.heap.size, 1, none⟩ = some (.slice (lo) (x.ingots.length) lc) := X6.out.cell 1
    have y2 : W6.cell? ⟨w.heap.size, 2, none⟩ = some (.int .i64 x.mass) := X6.out.cell 2
    have ly := X6.out.lt
    have r0 : W6.cell? ⟨w.heap.size + 1, 0, none⟩ = some (.string ⟨#[]⟩) := R6.out.cell 0
    have r1 : W6.cell? ⟨w.heap.size + 1, 1, none⟩ = some (.slice none 0 0) := R6.out.cell 1
    have r2 : W6.cell? ⟨w.heap.size + 1, 2, none⟩ = some (.int .i64 0) := R6.out.cell 2
    have fr0 := R6.out.free 0
    have fr1 := R6.out.free 1
    have fr2 := R6.out.free 2
    have lr := R6.out.lt
    have BB : Hid (Below base w5 W6) := Lib.hid (B6.out)
    go_wp2_with fail
    refine bodyPost_ret (v := .agg #[.string t, .slice (lo) (x.ingots.length) lc, .int .i64 x.mass]) (by simp [results, Tryz.results18, go_sem, y0, y1, y2, r0, r1, r2, ly, lr, n1, n4]) rfl ?_
    refine ⟨⟨t, .slice none 0 0, x.ingots, x.mass⟩, _, rfl, lo, lc, w5, rfl, fine_parts HFX.out t x.ingots x.mass htb HFX.out.2.1 ⟨hbd, hbe⟩ (by omega) _, ?_, T5.out, ?_⟩
    · have hap := own_apart_type L6.out R6.out (by decide)
      exact Held.of_row (own_farO (own_farO (own_farO L6.out hap 0 _) hap 1 _) hap 2 _)
    · exact Below.setCell (Below.setCell (Below.setCell BB.out (by show base ≤ w.heap.size + 1; omega) _) (by show base ≤ w.heap.size + 1; omega) _) (by show base ≤ w.heap.size + 1; omega) _
  have p0f : (p == 0) = false := beq_eq_false_iff_ne.2 h0
  by_cases h1 : p = 1
  · subst h1
    obtain ⟨W4, hW4⟩ : ∃ W4, w3.alloc (.cells #[] 9) = W4 := ⟨_, rfl⟩
    have B4 : Below w3.heap.size w3 W4 := by rw [← hW4]; exact (Below.refl _ _).alloc (Nat.le_refl _) _
    have X4 := Lib.hid (X3.out.below B4 X3.out.lt)
    have R4 := Lib.hid (R3.out.below B4 R3.out.lt)
    have Q4 : Hid (W4.ownsRow base 9 1 (.slice (some ⟨w3.heap.size, 0, none⟩) 0 0) 0 []) := Lib.hid (by rw [← hW4]; exact own_empty w3 base _ 1 (by omega))
    have z0 : W4.cell? ⟨w.heap.size, 1, none⟩ = some (.slice lo x.ingots.length lc) := X4.out.cell 1
    have fz := X4.out.free 1
    have lz := X4.out.lt
    obtain ⟨W6, hW6⟩ : ∃ W6, W4.setCell ⟨w.heap.size, 1, none⟩ (.slice (some ⟨w3.heap.size, 0, none⟩) 0 0) = W6 := ⟨_, rfl⟩
    have X6 : Hid (Own W6 w.heap.size 28 [.string x.id, .slice (some ⟨w3.heap.size, 0, none⟩) ([] : List ByteArray).length 0, .int .i64 x.mass]) := Lib.hid (hW6 ▸ X4.out.set 1 _)
    have R6 : Hid (Own W6 (w.heap.size + 1) 28 [.string ⟨#[]⟩, .slice none 0 0, .int .i64 0]) := Lib.hid (hW6 ▸ R4.out.other (by show w.heap.size ≠ w.heap.size + 1; omega) _)
    have L6 : Hid (W6.ownsRow base 9 1 (.slice (some ⟨w3.heap.size, 0, none⟩) ([] : List ByteArray).length 0) ([] : List ByteArray).length (([] : List ByteArray).flatMap putStr)) := Lib.hid (hW6 ▸ own_farO Q4.out (own_apart_type Q4.out X4.out (by decide)) 1 _)
    have B6 : Hid (Below base w3 W6) := Lib.hid (hW6 ▸ Below.setCell (B4.mono (by omega)) (by show base ≤ w.heap.size; omega) _)
    clear B4 X4 R4 Q4 X3 R3 L3 S3
    have y0 : W6.cell? ⟨w.heap.size, 0, none⟩ = some (.string x.id) := X6.out.cell 0
    have y1 : W6.cell? ⟨w.heap.size, 1, none⟩ = some (.slice (some ⟨w3.heap.size, 0, none⟩) (([] : List ByteArray).length) 0) := X6.out.cell 1
    have y2 : W6.cell? ⟨w.heap.size, 2, none⟩ = some (.int .i64 x.mass) := X6.out.cell 2
    have ly := X6.out.lt
    have r0 : W6.cell? ⟨w.heap.size + 1, 0, none⟩ = some (.string ⟨#[]⟩) := R6.out.cell 0
    have r1 : W6.cell? ⟨w.heap.size + 1, 1, none⟩ = some (.slice none 0 0) := R6.out.cell 1
    have r2 : W6.cell? ⟨w.heap.size + 1, 2, none⟩ = some (.int .i64 0) := R6.out.cell 2
    have fr0 := R6.out.free 0
    have fr1 := R6.out.free 1
    have fr2 := R6.out.free 2
    have lr := R6.out.lt
    have BB : Hid (Below base w3 W6) := Lib.hid (B6.out)
    go_wp2_with fail
    refine bodyPost_ret (v := .agg #[.string x.id, .slice (some ⟨w3.heap.size, 0, none⟩) (([] : List ByteArray).length) 0, .int .i64 x.mass]) (by simp [results, Tryz.results18, go_sem, y0, y1, y2, r0, r1, r2, ly, lr, n1, n4]) rfl ?_
    refine ⟨⟨x.id, .slice none 0 0, ([] : List ByteArray), x.mass⟩, _, rfl, some ⟨w3.heap.size, 0, none⟩, 0, w3, rfl, fine_parts HFX.out x.id [] x.mass hidz (fun s hs => by cases hs) ⟨hbd, hbe⟩ (by show 0 ≤ 30; decide) _, ?_, T3.out, ?_⟩
    · have hap := own_apart_type L6.out R6.out (by decide)
      exact Held.of_row (own_farO (own_farO (own_farO L6.out hap 0 _) hap 1 _) hap 2 _)
    · exact Below.setCell (Below.setCell (Below.setCell BB.out (by show base ≤ w.heap.size + 1; omega) _) (by show base ≤ w.heap.size + 1; omega) _) (by show base ≤ w.heap.size + 1; omega) _
  have p1f : (p == 1) = false := beq_eq_false_iff_ne.2 h1
  by_cases h2 : p = 2
  · subst h2
    obtain ⟨W4, hW4⟩ : ∃ W4, w3.drew.alloc (.cells #[.string ⟨#[97]⟩, .string ⟨#[122, 122]⟩] 9) = W4 := ⟨_, rfl⟩
    have e4 : W4.heap.size = w3.heap.size + 1 := by rw [← hW4]; simp
    have B4 : Below w3.heap.size w3 W4 := by rw [← hW4]; exact ((Below.refl _ _).drew).alloc (Nat.le_refl _) _
    have L4 : Rd W4.heap.size W4 (.slice (some ⟨w3.heap.size, 0, none⟩) 2 2) 1 2 ([(⟨#[97]⟩ : ByteArray), ⟨#[122, 122]⟩].flatMap putStr) := by
      have o : Own W4 w3.heap.size 9 [.string ⟨#[97]⟩, .string ⟨#[122, 122]⟩] := by rw [← hW4]; exact Own.new w3.drew _ _
      exact o.rd o.lt (n := 2) rfl (by unfold maxLen; omega) _ (Nat.le_refl _) (by unfold maxLen; omega)
    have HX := Lib.hid (src_text W4 g (n + 2) _ _ (S3.out.below B4) (by omega) L4 (by decide) (by decide) (by rintro b off l c e; injection e with e _ _; injection e with e; injection e with e; omega))
    have X4 := Lib.hid (X3.out.below B4 X3.out.lt)
    have R4 := Lib.hid (R3.out.below B4 R3.out.lt)
    have Q4 := Lib.hid (own_below L3.out B4 (Nat.le_refl _))
    have T4 := Lib.hid (T3.out.trans (Turn.of_below (lo := g) (hi := g + 1) B4))
    have f1 : w3.drew.cell? ⟨w.heap.size, 1, none⟩ = some (.slice lo x.ingots.length lc) := X3.out.cell 1
    have f4 : W4.cell? ⟨w.heap.size, 1, none⟩ = some (.slice lo x.ingots.length lc) := X4.out.cell 1
    have lx3 := X3.out.lt
    have lx4 := X4.out.lt
    clear L4 B4 X3 R3 L3 T3 S3
    go_wp2_with fail
    go_region_law_o (first
      | (rw [if_pos (by rfl)]
         refine stp_el _ _ 26 9 i0 (.string ByteArray.empty) 1 16 Tryz.underlying26 hi hz0 hz1 hz2 rfl (by decide) rfl w5 base (.slice lo x.ingots.length lc) x.ingots.length (x.ingots.flatMap putStr) (by rfl) L5.out [.string t] rfl (str_one1 _) (by first | rfl | (rw [World.size_alloc]; rfl)) (by omega) (by decide) hbw5 (by rfl) ?_
         intro g7 gc7 w7 hown7 hB7 hK7
         have B7 := Lib.hid (hB7 w5 (Below.refl _ _))
         have L7 := Lib.hid hown7
         have X7 := Lib.hid (hK7 _ _ _ X5.out (own_apart_type L5.out X5.out (by decide)))
         have R7 := Lib.hid (hK7 _ _ _ R5.out (own_apart_type L5.out R5.out (by decide)))
         have yy1 : w7.cell? ⟨w.heap.size, 1, none⟩ = some (.slice lo x.ingots.length lc) := X7.out.cell 1
         have fy1 := X7.out.free 1
         have hly : w.heap.size < w7.heap.size := X7.out.lt
         clear hown7 hB7 hK7)
      | (go_simp
         go_at_call 46
         go_loud (
         refine HX.out.mono ?_; rintro e w5 ⟨t, rfl, ht, s5, t5⟩
         have X5 := Lib.hid (X4.out.turn t5 (.inr (by omega)))
         have R5 := Lib.hid (R4.out.turn t5 (.inr (by omega)))
         have L5 := Lib.hid (own_turn Q4.out t5 (by omega))
         have T5 := Lib.hid (T4.out.trans t5)
         have htb : t.size ≤ 2 := by
           have h1 : t = ⟨#[97]⟩ ∨ t = ⟨#[122, 122]⟩ := by simpa using ht
           rcases h1 with rfl | rfl <;> decide
         have y1 : w5.cell? ⟨w.heap.size, 1, none⟩ = some (.slice lo x.ingots.length lc) := X5.out.cell 1
         have lx5 := X5.out.lt
         have zz5 := t5.size
         have hbw5 : base ≤ w5.heap.size := (by omega)
         clear ht s5 t5)))
    all_goals
      obtain ⟨W6, hW6⟩ : ∃ W6, w7.setCell ⟨w.heap.size, 1, none⟩ (.slice (some ⟨g7, 0, none⟩) (x.ingots.length + 1) gc7) = W6 := ⟨_, rfl⟩
      have X6 : Hid (Own W6 w.heap.size 28 [.string x.id, .slice (some ⟨g7, 0, none⟩) (x.ingots ++ [t]).length gc7, .int .i64 x.mass]) := Lib.hid (by rw [List.length_append, List.length_singleton, ← hW6]; exact X7.out.set 1 _)
      have R6 : Hid (Own W6 (w.heap.size + 1) 28 [.string ⟨#[]⟩, .slice none 0 0, .int .i64 0]) := Lib.hid (hW6 ▸ R7.out.other (by show w.heap.size ≠ w.heap.size + 1; omega) _)
      have L6 : Hid (W6.ownsRow base 9 1 (.slice (some ⟨g7, 0, none⟩) (x.ingots ++ [t]).length gc7) (x.ingots ++ [t]).length ((x.ingots ++ [t]).flatMap putStr)) := Lib.hid (by rw [strs_snocO, List.length_append, List.length_singleton, ← hW6]; exact own_farO L7.out (own_apart_type L7.out X7.out (by decide)) 1 _)
      have B6 : Hid (Below base w5 W6) := Lib.hid (hW6 ▸ Below.setCell B7.out (by show base ≤ w.heap.size; omega) _)
      have hits : ∀ s ∈ x.ingots ++ [t], s.size ≤ maxLen := fun s hs => by
        rcases List.mem_append.1 hs with q | q
        · exact HFX.out.2.1 s q
        · rw [List.mem_singleton.1 q]; unfold maxLen; omega
      have HITS := Lib.hid hits
      have hnl : (x.ingots ++ [t]).length ≤ 30 := by rw [List.length_append, List.length_singleton]; omega
      have HNL := Lib.hid hnl
      rw [show x.ingots.length + 1 = (x.ingots ++ [t]).length from by rw [List.length_append, List.length_singleton]] at hW6 ⊢
      generalize x.ingots ++ [t] = IDS at *
      clear hits hnl L7 X7 R7 yy1 fy1 X4 R4 Q4 T4 X5 R5 L5 y1 f1 f4 B7
      have y0 : W6.cell? ⟨w.heap.size, 0, none⟩ = some (.string x.id) := X6.out.cell 0
      have y1 : W6.cell? ⟨w.heap.size, 1, none⟩ = some (.slice (some ⟨g7, 0, none⟩) (IDS.length) gc7) := X6.out.cell 1
      have y2 : W6.cell? ⟨w.heap.size, 2, none⟩ = some (.int .i64 x.mass) := X6.out.cell 2
      have ly := X6.out.lt
      have r0 : W6.cell? ⟨w.heap.size + 1, 0, none⟩ = some (.string ⟨#[]⟩) := R6.out.cell 0
      have r1 : W6.cell? ⟨w.heap.size + 1, 1, none⟩ = some (.slice none 0 0) := R6.out.cell 1
      have r2 : W6.cell? ⟨w.heap.size + 1, 2, none⟩ = some (.int .i64 0) := R6.out.cell 2
      have fr0 := R6.out.free 0
      have fr1 := R6.out.free 1
      have fr2 := R6.out.free 2
      have lr := R6.out.lt
      have BB : Hid (Below base w5 W6) := Lib.hid (B6.out)
      go_wp2_with fail
      refine bodyPost_ret (v := .agg #[.string x.id, .slice (some ⟨g7, 0, none⟩) (IDS.length) gc7, .int .i64 x.mass]) (by simp [results, Tryz.results18, go_sem, y0, y1, y2, r0, r1, r2, ly, lr, n1, n4]) rfl ?_
      refine ⟨⟨x.id, .slice none 0 0, IDS, x.mass⟩, _, rfl, some ⟨g7, 0, none⟩, gc7, w5, rfl, fine_parts HFX.out x.id IDS x.mass hidz HITS.out ⟨hbd, hbe⟩ HNL.out _, ?_, T5.out, ?_⟩
      · have hap := own_apart_type L6.out R6.out (by decide)
        exact Held.of_row (own_farO (own_farO (own_farO L6.out hap 0 _) hap 1 _) hap 2 _)
      · exact Below.setCell (Below.setCell (Below.setCell BB.out (by show base ≤ w.heap.size + 1; omega) _) (by show base ≤ w.heap.size + 1; omega) _) (by show base ≤ w.heap.size + 1; omega) _
  have p2f : (p == 2) = false := beq_eq_false_iff_ne.2 h2
  by_cases h3 : p = 3
  · subst h3
    obtain ⟨W4, hW4⟩ : ∃ W4, w3.alloc (.cells #[.int .i64 0, .int .i64 1, .int .i64 320000000, .int .i64 320000001] 2) = W4 := ⟨_, rfl⟩
    have e4 : W4.heap.size = w3.heap.size + 1 := by rw [← hW4]; simp
    have B4 : Below w3.heap.size w3 W4 := by rw [← hW4]; exact (Below.refl _ _).alloc (Nat.le_refl _) _
    have L4 : Rd W4.heap.size W4 (.slice (some ⟨w3.heap.size, 0, none⟩) 4 4) 1 4 ([(0 : Int), 1, 320000000, 320000001].flatMap putI) := by
      have o : Own W4 w3.heap.size 2 [.int .i64 0, .int .i64 1, .int .i64 320000000, .int .i64 320000001] := by rw [← hW4]; exact Own.new w3 _ _
      exact o.rd o.lt (n := 4) rfl (by unfold maxLen; omega) _ (Nat.le_refl _) (by unfold maxLen; omega)
    have HX := Lib.hid (src_among W4 g (n + 2) _ _ (S3.out.below B4) (by omega) L4 (by decide) (by decide) (by rintro b off l c e; injection e with e _ _; injection e with e; injection e with e; omega))
    have X4 := Lib.hid (X3.out.below B4 X3.out.lt)
    have R4 := Lib.hid (R3.out.below B4 R3.out.lt)
    have Q4 := Lib.hid (own_below L3.out B4 (Nat.le_refl _))
    have T4 := Lib.hid (T3.out.trans (Turn.of_below (lo := g) (hi := g + 1) B4))
    clear L4 B4 X3 R3 L3 T3 S3
    go_wp2_with fail
    refine HX.out.mono ?_; rintro e w5 ⟨m, rfl, ht, s5, t5⟩
    have X5 := Lib.hid (X4.out.turn t5 (.inr (by omega)))
    have R5 := Lib.hid (R4.out.turn t5 (.inr (by omega)))
    have L5 := Lib.hid (own_turn Q4.out t5 (by omega))
    have T5 := Lib.hid (T4.out.trans t5)
    have zz5 := t5.size
    have hmb : -1000 ≤ m ∧ m ≤ 1000000000001 := by
      have h1 : m = 0 ∨ m = 1 ∨ m = 320000000 ∨ m = 320000001 := by simpa using ht
      omega
    clear ht
    clear s5 t5 X4 R4 Q4 T4 HX hW4
    have z0 : w5.cell? ⟨w.heap.size, 2, none⟩ = some (.int .i64 x.mass) := X5.out.cell 2
    have fz := X5.out.free 2
    have lz := X5.out.lt
    obtain ⟨W6, hW6⟩ : ∃ W6, w5.setCell ⟨w.heap.size, 2, none⟩ (.int .i64 m) = W6 := ⟨_, rfl⟩
    have X6 : Hid (Own W6 w.heap.size 28 [.string x.id, .slice lo x.ingots.length lc, .int .i64 m]) := Lib.hid (hW6 ▸ X5.out.set 2 _)
    have R6 : Hid (Own W6 (w.heap.size + 1) 28 [.string ⟨#[]⟩, .slice none 0 0, .int .i64 0]) := Lib.hid (hW6 ▸ R5.out.other (by show w.heap.size ≠ w.heap.size + 1; omega) _)
    have L6 : Hid (W6.ownsRow base 9 1 (.slice lo x.ingots.length lc) x.ingots.length (x.ingots.flatMap putStr)) := Lib.hid (hW6 ▸ own_farO L5.out (own_apart_type L5.out X5.out (by decide)) 2 _)
    have B6 : Hid (Below base w5 W6) := Lib.hid (hW6 ▸ Below.setCell (Below.refl _ _) (by show base ≤ w.heap.size; omega) _)
    have y0 : W6.cell? ⟨w.heap.size, 0, none⟩ = some (.string x.id) := X6.out.cell 0
    have y1 : W6.cell? ⟨w.heap.size, 1, none⟩ = some (.slice (lo) (x.ingots.length) lc) := X6.out.cell 1
    have y2 : W6.cell? ⟨w.heap.size, 2, none⟩ = some (.int .i64 m) := X6.out.cell 2
    have ly := X6.out.lt
    have r0 : W6.cell? ⟨w.heap.size + 1, 0, none⟩ = some (.string ⟨#[]⟩) := R6.out.cell 0
    have r1 : W6.cell? ⟨w.heap.size + 1, 1, none⟩ = some (.slice none 0 0) := R6.out.cell 1
    have r2 : W6.cell? ⟨w.heap.size + 1, 2, none⟩ = some (.int .i64 0) := R6.out.cell 2
    have fr0 := R6.out.free 0
    have fr1 := R6.out.free 1
    have fr2 := R6.out.free 2
    have lr := R6.out.lt
    have BB : Hid (Below base w5 W6) := Lib.hid (B6.out)
    go_wp2_with fail
    refine bodyPost_ret (v := .agg #[.string x.id, .slice (lo) (x.ingots.length) lc, .int .i64 m]) (by simp [results, Tryz.results18, go_sem, y0, y1, y2, r0, r1, r2, ly, lr, n1, n4]) rfl ?_
    refine ⟨⟨x.id, .slice none 0 0, x.ingots, m⟩, _, rfl, lo, lc, w5, rfl, fine_parts HFX.out x.id x.ingots m hidz HFX.out.2.1 hmb (by omega) _, ?_, T5.out, ?_⟩
    · have hap := own_apart_type L6.out R6.out (by decide)
      exact Held.of_row (own_farO (own_farO (own_farO L6.out hap 0 _) hap 1 _) hap 2 _)
    · exact Below.setCell (Below.setCell (Below.setCell BB.out (by show base ≤ w.heap.size + 1; omega) _) (by show base ≤ w.heap.size + 1; omega) _) (by show base ≤ w.heap.size + 1; omega) _
  have p3f : (p == 3) = false := beq_eq_false_iff_ne.2 h3
  have y0 : w3.cell? ⟨w.heap.size, 0, none⟩ = some (.string x.id) := X3.out.cell 0
  have y1 : w3.cell? ⟨w.heap.size, 1, none⟩ = some (.slice (lo) (x.ingots.length) lc) := X3.out.cell 1
  have y2 : w3.cell? ⟨w.heap.size, 2, none⟩ = some (.int .i64 x.mass) := X3.out.cell 2
  have ly := X3.out.lt
  have r0 : w3.cell? ⟨w.heap.size + 1, 0, none⟩ = some (.string ⟨#[]⟩) := R3.out.cell 0
  have r1 : w3.cell? ⟨w.heap.size + 1, 1, none⟩ = some (.slice none 0 0) := R3.out.cell 1
  have r2 : w3.cell? ⟨w.heap.size + 1, 2, none⟩ = some (.int .i64 0) := R3.out.cell 2
  have fr0 := R3.out.free 0
  have fr1 := R3.out.free 1
  have fr2 := R3.out.free 2
  have lr := R3.out.lt
  have BB : Hid (Below base w3 w3) := Lib.hid (Below.refl _ _)
  go_wp2_with fail
  refine bodyPost_ret (v := .agg #[.string x.id, .slice (lo) (x.ingots.length) lc, .int .i64 x.mass]) (by simp [results, Tryz.results18, go_sem, y0, y1, y2, r0, r1, r2, ly, lr, n1, n4]) rfl ?_
  refine ⟨⟨x.id, .slice none 0 0, x.ingots, x.mass⟩, _, rfl, lo, lc, w3, rfl, fine_parts HFX.out x.id x.ingots x.mass hidz HFX.out.2.1 ⟨hbd, hbe⟩ (by omega) _, ?_, T3.out, ?_⟩
  · have hap := own_apart_type L3.out R3.out (by decide)
    exact Held.of_row (own_farO (own_farO (own_farO L3.out hap 0 _) hap 1 _) hap 2 _)
  · exact Below.setCell (Below.setCell (Below.setCell BB.out (by show base ≤ w.heap.size + 1; omega) _) (by show base ≤ w.heap.size + 1; omega) _) (by show base ≤ w.heap.size + 1; omega) _
theorem Held.rdB {lo hi s n : Nat} {w : World} {E : TypeId} {v : Value} {L : List Value} (h : Held lo hi w E s v n L) : Rd hi w v s n L := by
  obtain ⟨h1, ao, cap, e, h2, h3, h4, h5⟩ := h
  refine ⟨h1, ao, cap, e, h2, h3, h4, fun hn => ?_⟩
  obtain ⟨g, U, e1, h6, h7, h8⟩ := h5 hn
  exact ⟨g, 0, e1, h7, fun i hi' => by rw [Nat.zero_add, h8.cell, List.getElem?_append_left (by omega)]⟩
theorem Held.belowB {lo hi B s n : Nat} {w w' : World} {E : TypeId} {v : Value} {L : List Value} (h : Held lo hi w E s v n L) (b : Below B w w') (hb : hi ≤ B) : Held lo hi w' E s v n L := by
  obtain ⟨h1, ao, cap, e, h2, h3, h4, h5⟩ := h
  refine ⟨h1, ao, cap, e, h2, h3, h4, fun hn => ?_⟩
  obtain ⟨g, U, e1, h6, h7, h8⟩ := h5 hn
  exact ⟨g, U, e1, h6, h7, h8.below b (by omega)⟩
theorem Nest.belowB {lo hi B : Nat} {w w' : World} {v : Value} {xs : List Melt} (h : Nest lo hi w v xs) (b : Below B w w') (hb : hi ≤ B) : Nest lo hi w' v xs := by
  obtain ⟨h1, gs, ⟨k1, k2, k3⟩, h3⟩ := h
  refine ⟨h1.belowB b hb, gs, ⟨k1, k2, fun i hi1 hi2 => ?_⟩, h3⟩
  obtain ⟨V, c, e1, e2, e3, e4, e5⟩ := k3 i hi1 hi2
  have := h3 gs[i] (List.getElem_mem hi2)
  exact ⟨V, c, e1, e2, e3, e4, e5.below b (by omega)⟩
theorem Nest.rdmB {lo hi : Nat} {w : World} {v : Value} {xs : List Melt} (h : Nest lo hi w v xs) : RdM hi w v xs := by
  obtain ⟨hH, gs, ⟨k1, k2, k3⟩, hgs⟩ := h
  obtain ⟨hl, ao, cap, e, hc, hm, hnil, hs⟩ := hH.rdB
  refine ⟨ao, cap, e, hc, hm, fun hp => ?_⟩
  obtain ⟨b, off, e2, hb, hcell⟩ := hs hp
  refine ⟨b, off, e2, hb, fun k hk => ⟨xs[k].list, ?_, ?_, ?_, ?_⟩⟩
  · have := hcell (k * 3) (by omega); rw [this]; exact Melt_get0 xs k hk
  · have := hcell (k * 3 + 1) (by omega); rw [Nat.add_assoc, this]; exact Melt_get1 xs k hk
  · have := hcell (k * 3 + 2) (by omega); rw [Nat.add_assoc, this]; exact Melt_get2 xs k hk
  · obtain ⟨V, c, e1, e2, e3, e4, e5⟩ := k3 k hk (by omega)
    rw [e1]
    refine ⟨putStr_len _, _, _, rfl, e2, e3, (fun q => by cases q), fun hn => ⟨_, 0, rfl, hgs _ (List.getElem_mem (by omega)), fun j hj => ?_⟩⟩
    rw [Nat.zero_add, e5.cell, List.getElem?_append_left (by rw [putStr_len]; exact hj)]
/-- ingots, melts and a melt that one reads -/
def DAM (w' : World) (e : Ending) : Prop := ∃ (r u v : Value) (xs : List Ingot) (os : List Melt) (y : Melt) (lo : Option Addr) (lc : Nat), e = .returned (.tuple #[r, u, .agg #[.string y.id, v, .int .i64 y.mass]]) ∧ L14 w' r u xs os ∧ v = .slice lo y.ingots.length lc ∧ y.fine ∧ Rd w'.heap.size w' v 1 y.ingots.length (y.ingots.flatMap putStr)
set_option maxHeartbeats 4000000 in
theorem draw_AddMelt (w : World) (v : Value) (cs : List UInt8) (h : Rd w.heap.size w v 1 cs.length (cs.flatMap putB)) (hl : cs.length ≤ maxLen) :
    Calls Tryz.prog 5 #[v] w fun e w' => DAM w' e ∧ Below w.heap.size w w' := by
  have HB0 : Below w.heap.size w (w.alloc (.cells #[.string ⟨#[]⟩, .slice none 0 0, .int .i64 0] 28)) := (Below.refl _ _).alloc (Nat.le_refl _) _
  have HF := Lib.hid (src_from (w.alloc (.cells #[.string ⟨#[]⟩, .slice none 0 0, .int .i64 0] 28)) v cs (h.up HB0) hl)
  have HR0 := Lib.hid (Own.new w 28 [.string ⟨#[]⟩, .slice none 0 0, .int .i64 0])
  obtain ⟨ao, cap, rfl⟩ := h.form
  clear h
  go_enter Tryz.func5, Tryz.ntmps5
  go_wp2_with fail
  refine HF.out.mono ?_; rintro e w1 ⟨rfl, s1, b1⟩
  have eg : (w.alloc (.cells #[.string ⟨#[]⟩, .slice none 0 0, .int .i64 0] 28)).heap.size = w.heap.size + 1 := by simp
  have hg1 := s1.lt
  have HB1 := Lib.hid (HB0.trans (b1.mono (by rw [eg]; omega)))
  have HR1 := Lib.hid (HR0.out.below b1 HR0.out.lt)
  rw [eg] at s1 hg1
  have HD := Lib.hid (draw14 w1 (w.heap.size + 1) 0 s1 (by omega))
  clear s1 b1 HF HB0 HR0
  go_wp2_with fail
  refine HD.out.mono ?_; rintro e w2 ⟨r, u, rfl, xs, os, gs, hfx, ho, hu, hk, hol, hof, s2, t2⟩
  have FX := Lib.hid hfx
  have HOF := Lib.hid hof
  have O2 := Lib.hid ho
  have R2 := Lib.hid (HR1.out.turn t2 (.inl (by omega)))
  have z2 : w1.heap.size ≤ w2.heap.size := t2.size
  have HB2 := Lib.hid (HB1.out.trans (t2.below (B := w.heap.size) (by omega) (by omega)))
  have HH := Lib.hid (Held.of_row ho)
  have HN := Lib.hid (Nest.of hu hk)
  obtain ⟨ro, rc, er⟩ := (own_rd ho).form
  obtain ⟨uo, uc, eu⟩ := (own_rd hu).form
  subst er eu
  have HON := Lib.hid (draw_one w2 (w.heap.size + 1) (0 + 1200) w1.heap.size _ xs s2 (by omega) ho hg1 hfx)
  clear hfx hof ho hu hk s2 t2 HD HB1 HR1 O2
  go_wp2_with fail
  refine HON.out.mono ?_; rintro e w3 ⟨x, lo, lc, rfl, fx, lx, s3, t3⟩
  have HH3 := Lib.hid (HH.out.turn t3 (.inr (by omega)))
  have HN3 := Lib.hid (HN.out.turn t3 (.inr (by omega)))
  have R3 := Lib.hid (R2.out.turn t3 (.inl (by omega)))
  have z3 : w2.heap.size ≤ w3.heap.size := t3.size
  have HB3 := Lib.hid (HB2.out.trans (t3.below (B := w.heap.size) (by omega) (by omega)))
  obtain ⟨W4, hW4⟩ : ∃ W4, w3.alloc (.cells #[.string x.id, .slice lo x.ingots.length lc, .int .i64 x.mass] 28) = W4 := ⟨_, rfl⟩
  have e4 : W4.heap.size = w3.heap.size + 1 := by rw [← hW4]; simp
  have B4 : Below w3.heap.size w3 W4 := by rw [← hW4]; exact (Below.refl _ _).alloc (Nat.le_refl _) _
  have HH4 := Lib.hid (HH3.out.turn (Turn.of_below (lo := w3.heap.size) (hi := w3.heap.size) B4) (.inl z3))
  have HN4 := Lib.hid (HN3.out.turn (Turn.of_below (lo := w3.heap.size) (hi := w3.heap.size) B4) (.inl z3))
  have R4 := Lib.hid (R3.out.below B4 R3.out.lt)
  have HB4 := Lib.hid (bnext HB3.out B4)
  have X4 : Own W4 w3.heap.size 28 [.string x.id, .slice lo x.ingots.length lc, .int .i64 x.mass] := by rw [← hW4]; exact Own.new w3 _ _
  have x0 : W4.cell? ⟨w3.heap.size, 0, none⟩ = some (.string x.id) := X4.cell 0
  have x1 : W4.cell? ⟨w3.heap.size, 1, none⟩ = some (.slice lo x.ingots.length lc) := X4.cell 1
  have x2 : W4.cell? ⟨w3.heap.size, 2, none⟩ = some (.int .i64 x.mass) := X4.cell 2
  have xl : w3.heap.size < W4.heap.size := X4.lt
  have HBE := Lib.hid (bend_melt W4 (w.heap.size + 1) (0 + 1200 + 100) w2.heap.size x lo lc (s3.below B4) (by omega) fx (own_below lx B4 (Nat.le_refl _)) (by omega) (by omega))
  clear fx lx s3 t3 B4 X4 HON HH HN R2 HB2 HH3 HN3 R3 HB3
  go_wp2_with fail
  refine HBE.out.mono ?_; rintro e w5 ⟨y, v, rfl, lo', lc', wm, rfl, hyf, hrd, tm, bm⟩
  have zm := tm.size
  have zb := bm.size
  have R5 := Lib.hid ((R4.out.turn tm (.inl (by omega))).below bm (by omega))
  have HB5 := Lib.hid ((HB4.out.trans (tm.below (B := w.heap.size) (by omega) (by omega))).trans (bm.mono (by have := HB4.out.size; omega)))
  have HH5 := Lib.hid ((HH4.out.turn tm (.inr (by omega))).belowB bm (Nat.le_refl _))
  have HN5 := Lib.hid ((HN4.out.turn tm (.inr (by omega))).belowB bm (Nat.le_refl _))
  have HYF := Lib.hid hyf
  have HRD := Lib.hid hrd
  have r0 : w5.cell? ⟨w.heap.size, 0, none⟩ = some (.string ⟨#[]⟩) := R5.out.cell 0
  have r1 : w5.cell? ⟨w.heap.size, 1, none⟩ = some (.slice none 0 0) := R5.out.cell 1
  have r2 : w5.cell? ⟨w.heap.size, 2, none⟩ = some (.int .i64 0) := R5.out.cell 2
  have fr0 := R5.out.free 0
  have fr1 := R5.out.free 1
  have fr2 := R5.out.free 2
  have lr := R5.out.lt
  obtain ⟨vo, vc, ev⟩ := hrd.form
  clear hyf hrd tm bm HBE x0 x1 x2 xl HH4 HN4 R4 HB4 hW4
  go_wp2_with fail
  refine bodyPost_ret (v := .tuple #[.slice ro xs.length rc, .slice uo os.length uc, .agg #[.string y.id, .slice lo' y.ingots.length lc', .int .i64 y.mass]]) (by simp [results, Tryz.results5, go_sem, r0, r1, r2, lr]) rfl ?_
  have TF : Turn w.heap.size (w.heap.size + 1) w5 (((w5.setCell ⟨w.heap.size, 0, none⟩ (.string y.id)).setCell ⟨w.heap.size, 1, none⟩ (.slice lo' y.ingots.length lc')).setCell ⟨w.heap.size, 2, none⟩ (.int .i64 y.mass)) := Turn.set (Turn.set (Turn.set (Turn.refl _ _ _) (Nat.le_refl _) (Nat.lt_succ_self _) 0 _) (Nat.le_refl _) (Nat.lt_succ_self _) 1 _) (Nat.le_refl _) (Nat.lt_succ_self _) 2 _
  have zf := TF.size
  refine ⟨⟨_, _, _, xs, os, y, lo', lc', rfl, ⟨FX.out, ?_, ?_, by omega, HOF.out⟩, rfl, HYF.out, ?_⟩, ?_⟩
  · exact (HH5.out.turn TF (.inr (by omega))).rd
  · exact (HN5.out.turn TF (.inr (by omega))).rdm
  · exact (HRD.out.turn TF (.inr (by omega))).rd
  · exact Below.setCell (Below.setCell (Below.setCell HB5.out (Nat.le_refl _) _) (Nat.le_refl _) _) (Nat.le_refl _) _
end Go.Proofs.YtnbodmbagendnaaGreatDoor
