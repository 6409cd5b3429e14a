/- Profiles: their height, and that two are the same. -/
import Derived.Test.YtnbodmbagendnaaRows
import Derived.Test.YtnbodmbagendnaaMould2
import Derived.LaidEql
namespace Go.Proofs.Ytnbodmbagendnaa
open Go.ChangeShapes Go.WideShapes Go.ChangeAt Go.RowKit Go.Deep Go.Joins
set_option linter.unusedVariables false
set_option maxRecDepth 100000
set_option linter.unusedSimpArgs false
theorem eqIn_i64R {P : Program} (n : Nat) {t : TypeId} (ht : P.underlying t = some (.int .i64)) (a c : Int) (w : World) : (Op.equalIn (n + 1) t (.int .i64 a) (.int .i64 c)).run P w = .ok (a == c) w := by
  simp [Op.equalIn, run_underlying ht]
theorem part0_ring (x y z : Value) (w : World) : (part 2 #[x, y, z] 0).run Try.prog w = .ok x w := by kernel_rfl
theorem part1_ring (x y z : Value) (w : World) : (part 2 #[x, y, z] 1).run Try.prog w = .ok y w := by kernel_rfl
theorem part2_ring (x y z : Value) (w : World) : (part 2 #[x, y, z] 2).run Try.prog w = .ok z w := by kernel_rfl
theorem eqIn_ring (n : Nat) (a b c : Int) (w : World) : (Op.equalIn (n + 2) 94 (.agg #[.int .i64 a, .int .i64 b, .int .i64 c]) (.agg #[.int .i64 a, .int .i64 b, .int .i64 c])).run Try.prog w = .ok true w := by
  unfold Op.equalIn
  simp [run_underlying Try.underlying94, part0_ring, part1_ring, part2_ring, eqIn_i64R n Try.underlying2]
theorem neq_ring (r : Ring) (w : World) : (binOp .neq 94 (.agg #[.int .i64 r.outer, .int .i64 r.inner, .int .i64 r.height]) (.agg #[.int .i64 r.outer, .int .i64 r.inner, .int .i64 r.height])).run Try.prog w = .ok (.bool false) w := by
  have h := eqIn_ring 9998 r.outer r.inner r.height w
  simp only [binOp, Op.equal]
  show (Sem.run Try.prog (do let x ← Op.equalIn (9998 + 2) 94 _ _; pure (Value.bool !x)) w) = _
  simp [h]
set_option maxHeartbeats 4000000 in
theorem spec_HeightOf (w : World) (nm : ByteArray) (lo : Option Addr) (lc : Nat) (rs : List Ring) (hs : nm.size ≤ maxLen) (h : Rd w.heap.size w (.slice lo rs.length lc) 3 rs.length (rs.flatMap Ring.put)) (hv : profB ⟨nm, .slice none 0 0, rs⟩ = true) :
    Calls Try.prog 13 #[.agg #[.string nm, .slice lo rs.length lc]] w fun e w' => e = .returned (.tuple #[.int .i64 (heightS rs), .int .i64 0]) ∧ Below w.heap.size w w' := by
  have hp := prof_parts hv
  obtain ⟨W1, hW1⟩ : ∃ W1, w.alloc (.cells #[.string nm, .slice lo rs.length lc] 26) = W1 := ⟨_, rfl⟩
  have B1 : Below w.heap.size w W1 := by rw [← hW1]; exact (Below.refl _ _).alloc (Nat.le_refl _) _
  have O1 : Own W1 w.heap.size 26 [.string nm, .slice lo rs.length lc] := by rw [← hW1]; exact Own.new w _ _
  have HB := Lib.hid B1
  have HO := Lib.hid O1
  have HR := Lib.hid (h.up B1)
  have HK := Lib.hid (spec_l05Ok W1 ⟨nm, .slice none 0 0, rs⟩ w.heap.size 0 lo lc (O1.cell 0) (O1.cell 1) O1.lt hs HR.out (Nat.le_trans hp.1 (by decide)) hv)
  have HP := Lib.hid hp
  clear B1 O1 h hv hp
  go_enter Try.func13, Try.ntmps13
  go_wp2_with fail
  refine HK.out.mono ?_; rintro e w2 ⟨rfl, b2⟩
  have O2 := HO.out.below b2 HO.out.lt
  have HH := Lib.hid (spec_l05Height w2 w.heap.size 0 _ rs (O2.cell 1) O2.lt (HR.out.up b2) HP.out.1 HP.out.2)
  have B2 := Lib.hid (HB.out.trans (b2.mono HB.out.size))
  clear O2 b2 HK HR HO HB
  go_wp2_with fail
  refine HH.out.mono ?_; rintro e w3 ⟨rfl, rfl⟩
  go_wp2_with fail
  refine bodyPost_ret (v := .tuple #[.int .i64 (heightS rs), .int .i64 0]) (by simp [results, Try.results13, go_sem]) rfl ?_
  exact ⟨rfl, B2.out⟩
set_option maxHeartbeats 4000000 in
theorem spec_l05Same_yes (w : World) (a b : Nat) (nm : ByteArray) (lo lo2 : Option Addr) (lc lc2 : Nat) (rs : List Ring) (ga0 : w.cell? ⟨a, 0, none⟩ = some (.string nm)) (ga1 : w.cell? ⟨a, 1, none⟩ = some (.slice lo rs.length lc)) (gb0 : w.cell? ⟨b, 0, none⟩ = some (.string nm)) (gb1 : w.cell? ⟨b, 1, none⟩ = some (.slice lo2 rs.length lc2)) (ha : a < w.heap.size) (hb : b < w.heap.size) (h1 : Rd w.heap.size w (.slice lo rs.length lc) 3 rs.length (rs.flatMap Ring.put)) (h2 : Rd w.heap.size w (.slice lo2 rs.length lc2) 3 rs.length (rs.flatMap Ring.put)) (hl : rs.length ≤ 32) :
    Calls Try.prog 54 #[.pointer (some ⟨a, 0, none⟩), .pointer (some ⟨b, 0, none⟩)] w fun e w' => e = .returned (.bool true) ∧ Below w.heap.size w w' := by
  obtain ⟨_, _, _, eh, _, _, _, hsome⟩ := h1
  injection eh with q1 q2 q3
  subst q1 q3
  obtain ⟨_, _, _, eh2, _, _, _, hsome2⟩ := h2
  injection eh2 with q1 q2 q3
  subst q1 q3
  have H1 := Lib.hid hsome
  have H2 := Lib.hid hsome2
  clear hsome hsome2
  go_enter Try.func54, Try.ntmps54
  go_wp2_with fail
  refine wp_region_above (by kernel_rfl) (by kernel_rfl) ?_
  repeat (go_big_quiet_step (fail))
  refine wpQuiet_nil ?_
  intro w1 b1
  have HB1 := Lib.hid b1
  clear b1
  go_wp2_with fail
  go_loopw [5] (fun i wr => ∃ (k : Nat), k ≤ rs.length ∧ i = .int .i64 k ∧ Below w.heap.size w wr) (fun i _ => rs.length - (intOf i).toNat)
  case atStart => exact ⟨0, Nat.zero_le _, rfl, HB1.out⟩
  case round =>
    clear HB1
    obtain ⟨k, hk, rfl, hbl⟩ := hrel
    have y1 : wr.cell? ⟨a, 1, none⟩ = some (.slice lo rs.length lc) := (hbl.cell (p := ⟨a, 1, none⟩) ha).trans ga1
    have z1 : wr.cell? ⟨b, 1, none⟩ = some (.slice lo2 rs.length lc2) := (hbl.cell (p := ⟨b, 1, none⟩) hb).trans gb1
    have la : a < wr.heap.size := Nat.lt_of_lt_of_le ha hbl.size
    have lb : b < wr.heap.size := Nat.lt_of_lt_of_le hb hbl.size
    have HB := Lib.hid hbl
    clear ga0 ga1 gb0 gb1
    by_cases hlt : k < rs.length
    · obtain ⟨b1, off1, rfl, hb1, hc1⟩ := H1.out (by omega)
      obtain ⟨b2, off2, rfl, hb2, hc2⟩ := H2.out (by omega)
      have c0 : wr.cell? ⟨b1, off1 + k * 3, none⟩ = some (.int .i64 rs[k].outer) := (hbl.cell (p := ⟨b1, off1 + k * 3, none⟩) hb1).trans ((hc1 (k * 3) (by omega)).trans (Ring_get0 rs k hlt))
      have c1 : wr.cell? ⟨b1, off1 + k * 3 + 1, none⟩ = some (.int .i64 rs[k].inner) := by rw [Nat.add_assoc]; exact (hbl.cell (p := ⟨b1, off1 + (k * 3 + 1), none⟩) hb1).trans ((hc1 (k * 3 + 1) (by omega)).trans (Ring_get1 rs k hlt))
      have c2 : wr.cell? ⟨b1, off1 + k * 3 + 2, none⟩ = some (.int .i64 rs[k].height) := by rw [Nat.add_assoc]; exact (hbl.cell (p := ⟨b1, off1 + (k * 3 + 2), none⟩) hb1).trans ((hc1 (k * 3 + 2) (by omega)).trans (Ring_get2 rs k hlt))
      have d0 : wr.cell? ⟨b2, off2 + k * 3, none⟩ = some (.int .i64 rs[k].outer) := (hbl.cell (p := ⟨b2, off2 + k * 3, none⟩) hb2).trans ((hc2 (k * 3) (by omega)).trans (Ring_get0 rs k hlt))
      have d1 : wr.cell? ⟨b2, off2 + k * 3 + 1, none⟩ = some (.int .i64 rs[k].inner) := by rw [Nat.add_assoc]; exact (hbl.cell (p := ⟨b2, off2 + (k * 3 + 1), none⟩) hb2).trans ((hc2 (k * 3 + 1) (by omega)).trans (Ring_get1 rs k hlt))
      have d2 : wr.cell? ⟨b2, off2 + k * 3 + 2, none⟩ = some (.int .i64 rs[k].height) := by rw [Nat.add_assoc]; exact (hbl.cell (p := ⟨b2, off2 + (k * 3 + 2), none⟩) hb2).trans ((hc2 (k * 3 + 2) (by omega)).trans (Ring_get2 rs k hlt))
      have l1 : b1 < wr.heap.size := Nat.lt_of_lt_of_le hb1 hbl.size
      have l2 : b2 < wr.heap.size := Nat.lt_of_lt_of_le hb2 hbl.size
      have hne := fun w => neq_ring rs[k] w
      generalize rs[k] = r at c0 c1 c2 d0 d1 d2 hne
      clear hbl hc1 hc2 H1 H2
      go_wp2_with fail
      refine wp_region_above (by kernel_rfl) (by kernel_rfl) ?_
      repeat (go_big_quiet_step (fail))
      refine wpQuiet_nil ?_
      intro w5 b5
      have HB5 := Lib.hid (HB.out.trans (b5.mono HB.out.size))
      clear b5 HB hne
      go_wp2_with fail
      go_roundw
      case rel => exact ⟨k + 1, by omega, by go_num, HB5.out⟩
      case measure => simp [intOf]; omega
    · clear hbl
      go_wp2_with fail
      go_ret
      exact ⟨rfl, HB.out⟩
theorem spec_SameProfile_yes (w : World) (nm : ByteArray) (lo lo2 : Option Addr) (lc lc2 : Nat) (rs : List Ring) (h1 : Rd w.heap.size w (.slice lo rs.length lc) 3 rs.length (rs.flatMap Ring.put)) (h2 : Rd w.heap.size w (.slice lo2 rs.length lc2) 3 rs.length (rs.flatMap Ring.put)) (hl : rs.length ≤ 32) :
    Calls Try.prog 14 #[.agg #[.string nm, .slice lo rs.length lc], .agg #[.string nm, .slice lo2 rs.length lc2]] w fun e w' => e = .returned (.bool true) ∧ Below w.heap.size w w' := by
  obtain ⟨W1, hW1⟩ : ∃ W1, w.alloc (.cells #[.string nm, .slice lo rs.length lc] 26) = W1 := ⟨_, rfl⟩
  have e1 : W1.heap.size = w.heap.size + 1 := by rw [← hW1]; simp
  obtain ⟨W2, hW2⟩ : ∃ W2, W1.alloc (.cells #[.string nm, .slice lo2 rs.length lc2] 26) = W2 := ⟨_, rfl⟩
  have B2 : Below w.heap.size w W2 := by rw [← hW2, ← hW1]; exact ((Below.refl _ _).alloc (Nat.le_refl _) _).alloc (by simp) _
  have O1 : Own W2 w.heap.size 26 [.string nm, .slice lo rs.length lc] := by rw [← hW2, ← hW1]; exact (Own.new w _ _).alloc _
  have O2 : Own W2 (w.heap.size + 1) 26 [.string nm, .slice lo2 rs.length lc2] := by rw [← hW2, ← e1]; exact Own.new W1 _ _
  have HB := Lib.hid B2
  have HS := Lib.hid (spec_l05Same_yes W2 w.heap.size (w.heap.size + 1) nm lo lo2 lc lc2 rs (O1.cell 0) (O1.cell 1) (O2.cell 0) (O2.cell 1) O1.lt O2.lt (h1.up B2) (h2.up B2) hl)
  clear B2 O1 O2 h1 h2
  go_enter Try.func14, Try.ntmps14
  go_wp2_with fail
  refine HS.out.mono ?_; rintro e w3 ⟨rfl, b3⟩
  have B3 := Lib.hid (HB.out.trans (b3.mono HB.out.size))
  clear b3 HS HB
  go_wp2_with fail
  go_ret
  exact ⟨rfl, B3.out⟩
end Go.Proofs.Ytnbodmbagendnaa
