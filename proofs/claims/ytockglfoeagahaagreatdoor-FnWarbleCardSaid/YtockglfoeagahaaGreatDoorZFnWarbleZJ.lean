/- Contracts and plain facts, joined: Src. -/
import Derived.Test.YtockglfoeagahaaGreatDoorRows
import Derived.Test.YtockglfoeagahaaGreatDoorZFnWarbleB
import Derived.Test.YtockglfoeagahaaGreatDoorZFnWarbleD
import Derived.Test.YtockglfoeagahaaGreatDoorZFnWarbleZ
import Derived.Test.YtockglfoeagahaaGreatDoorZFnWarbleZI
import Derived.Laws.Bits64b
namespace Go.Proofs.YtockglfoeagahaaGreatDoor
open Go.ChangeShapes Go.WideShapes Go.ChangeAt Go.RowKit Go.Deep Go.Joins
set_option linter.unusedVariables false
set_option maxRecDepth 100000
set_option linter.unusedSimpArgs false
/-- block g is a source of draws, of which at most n bytes have been taken -/
def Src (w : World) (g n : Nat) : Prop := ∃ (v : Value) (cs : List UInt8) (k : Nat) (sd : Int), Own w g 72 [v, .int .i64 k, .int .u64 sd] ∧ k ≤ n ∧ 0 ≤ sd ∧ sd < 18446744073709551616 ∧ Rd g w v 1 cs.length (cs.map fun b => Value.int .u8 b.toNat) ∧ cs.length ≤ maxLen
theorem Src.lt {w : World} {g n : Nat} (h : Src w g n) : g < w.heap.size := by obtain ⟨v, cs, k, sd, o, _⟩ := h; exact o.lt
theorem Src.mono {w : World} {g n m : Nat} (h : Src w g n) (hm : n ≤ m) : Src w g m := by
  obtain ⟨v, cs, k, sd, o, h1, h2⟩ := h
  exact ⟨v, cs, k, sd, o, by omega, h2⟩
theorem Src.below {w w' : World} {g n : Nat} (h : Src w g n) (b : Below w.heap.size w w') : Src w' g n := by
  obtain ⟨v, cs, k, sd, o, h1, h2, h3, h4, h5⟩ := h
  exact ⟨v, cs, k, sd, o.below b o.lt, h1, h2, h3, h4.below (Below.mono b (Nat.le_of_lt o.lt)), h5⟩
theorem Src.set {w : World} {g n : Nat} (h : Src w g n) {b : Nat} (hb : g < b) (o : Nat) (v : Value) : Src (w.setCell ⟨b, o, none⟩ v) g n := by
  obtain ⟨u, cs, k, sd, q, h1, h2, h3, h4, h5⟩ := h
  exact ⟨u, cs, k, sd, q.other (by show b ≠ g; omega) v, h1, h2, h3, h4.below (Below.setCell (Below.refl _ _) (by show g ≤ b; omega) v), h5⟩
/-- the source's own block may be written, all else is as it was -/
theorem own_turn {lo hi : Nat} {w w' : World} {base : Nat} {E : TypeId} {s n : Nat} {v : Value} {L : List Value} (h : w.ownsRow base E s v n L) (t : Turn lo hi w w') (hh : hi ≤ base) : w'.ownsRow base E s v n L := by
  obtain ⟨h1, h2⟩ := h
  refine ⟨h1, ?_⟩
  rcases h2 with h2 | ⟨g, cap, cur, rfl, hg0, hg, rest⟩
  · exact .inl h2
  · exact .inr ⟨g, cap, cur, rfl, hg0, (t.kept (Array.getElem?_eq_some_iff.1 hg).1 (.inr (by omega))).trans hg, rest⟩
theorem Rd.turnA {lo hi B : Nat} {w w' : World} {v : Value} {s n : Nat} {L : List Value} (h : Rd B w v s n L) (t : Turn lo hi w w') (hl : B ≤ lo) (hw : B ≤ w.heap.size) : Rd B w' v s n L := h.below (t.below hl hw)
theorem byte_get (cs : List UInt8) (k : Nat) (h : k < cs.length) : (cs.map fun b => Value.int .u8 b.toNat)[k]? = some (.int .u8 cs[k].toNat) := by
  rw [List.getElem?_map, List.getElem?_eq_getElem h]; rfl

theorem u64_bd (z : Int) : 0 ≤ IntKind.u64.wrap z ∧ IntKind.u64.wrap z < 18446744073709551616 := by
  simp [IntKind.wrap, IntKind.bits, IntKind.signed]
  omega
theorem and_byte (z : Int) (h : 0 ≤ z ∧ z < 18446744073709551616) : ∃ u : Nat, bits .and .u64 (z / 1099511627776) 255 = (u : Int) ∧ u ≤ 255 := by
  obtain ⟨m, hm⟩ : ∃ m : Nat, z / 1099511627776 = (m : Int) := ⟨(z / 1099511627776).toNat, by omega⟩
  refine ⟨m &&& 255, ?_, Nat.and_le_right⟩
  rw [hm]
  exact bits_and_u64_nat m 255 (by omega) (by decide)
theorem src_step {w : World} {g n k a b : Nat} {v : Value} {cs : List UInt8} {sd sd2 : Int} (ho : Own w g 72 [v, .int .i64 k, .int .u64 sd]) (hk : k ≤ n) (h0 : 0 ≤ sd2 ∧ sd2 < 18446744073709551616) (hr : Rd g w v 1 cs.length (cs.map fun b => Value.int .u8 b.toNat)) (hl : cs.length ≤ maxLen) :
    Src ((((w.drewN a).setCell ⟨g, 1, none⟩ (.int .i64 ((k : Int) + 1))).setCell ⟨g, 2, none⟩ (.int .u64 sd2)).drewN b) g (n + 1) ∧ Turn g (g + 1) w ((((w.drewN a).setCell ⟨g, 1, none⟩ (.int .i64 ((k : Int) + 1))).setCell ⟨g, 2, none⟩ (.int .u64 sd2)).drewN b) := by
  have q1 : Below g w (w.drewN a) := below_dn (Below.refl g w) a
  have q2 : Below g w ((w.drewN a).setCell ⟨g, 1, none⟩ (.int .i64 ((k : Int) + 1))) := Below.setCell q1 (Nat.le_refl g) _
  have q3 : Below g w (((w.drewN a).setCell ⟨g, 1, none⟩ (.int .i64 ((k : Int) + 1))).setCell ⟨g, 2, none⟩ (.int .u64 sd2)) := Below.setCell q2 (Nat.le_refl g) _
  have B := q3.trans (below_dn (Below.refl g (((w.drewN a).setCell ⟨g, 1, none⟩ (.int .i64 ((k : Int) + 1))).setCell ⟨g, 2, none⟩ (.int .u64 sd2))) b)
  refine ⟨⟨v, cs, k + 1, sd2, ?_, by omega, h0.1, h0.2, hr.below B, hl⟩, ?_⟩
  · have := (((ho.dn a).set 1 (.int .i64 ((k : Int) + 1))).set 2 (.int .u64 sd2)).dn b
    simpa using this
  · exact ((Turn.set (Turn.set (Turn.of_below (below_dn (Below.refl _ _) a)) (Nat.le_refl _) (Nat.lt_succ_self _) 1 _) (Nat.le_refl _) (Nat.lt_succ_self _) 2 _)).trans (Turn.of_below (below_dn (Below.refl _ _) b))
set_option maxHeartbeats 2000000 in
theorem src_next (w : World) (g n : Nat) (h : Src w g n) (hn : n ≤ 4000000000) :
    Calls Tryz.prog 52 #[.pointer (some ⟨g, 0, none⟩)] w fun e w' => ∃ x : Int, e = .returned (.int .i64 x) ∧ 0 ≤ x ∧ x ≤ 255 ∧ Src w' g (n + 1) ∧ Turn g (g + 1) w w' := by
  obtain ⟨v, cs, k, sd, ho, hk, h0, h1, hr, hl⟩ := h
  obtain ⟨lo, lc, rfl⟩ := hr.form
  have c0 : w.cell? ⟨g, 0, none⟩ = some (.slice lo cs.length lc) := ho.cell 0
  have c1 : w.cell? ⟨g, 1, none⟩ = some (.int .i64 k) := ho.cell 1
  have c2 : w.cell? ⟨g, 2, none⟩ = some (.int .u64 sd) := ho.cell 2
  have f1 := ho.free 1
  have f2 := ho.free 2
  have hg := ho.lt
  have HO := Lib.hid ho
  have HR := Lib.hid hr
  obtain ⟨_, ao, cap, e1, _, _, hnil, hsome⟩ := hr
  cases e1
  clear ho
  by_cases hlt : k < cs.length
  · obtain ⟨b, off, rfl, hb, hc⟩ := hsome (by omega)
    have d0 : w.cell? ⟨b, off + k, none⟩ = some (.int .u8 cs[k].toNat) := by rw [hc k (by omega), byte_get cs k hlt]
    have hbl : cs[k].toNat < 256 := cs[k].toNat_lt
    clear hc hsome hnil
    go_enter Tryz.func52, Tryz.ntmps52
    have tk : decide ((k : Int) < (cs.length : Int)) = true := decide_eq_true (by omega)
    go_wp2_with fail
    go_quiet (fail)
    go_wp2_with fail
    go_quiet (fail)
    go_wp2_with fail
    have hle : decide ((k : Int) + 1 ≤ (cs.length : Int)) = true := decide_eq_true (by omega)
    have hs2 := u64_bd (IntKind.u64.wrap (IntKind.u64.wrap (sd * 6364136223846793005) + (cs[k].toNat : Int)) + 1442695040888963407)
    generalize IntKind.u64.wrap (IntKind.u64.wrap (IntKind.u64.wrap (sd * 6364136223846793005) + (cs[k].toNat : Int)) + 1442695040888963407) = sd2 at hs2 ⊢
    go_quiet (fail)
    go_wp2_with fail
    go_ret
    exact ⟨_, rfl, by omega, by omega, (src_step HO.out hk hs2 HR.out hl).1, (src_step HO.out hk hs2 HR.out hl).2⟩
  · have tk : decide ((k : Int) < (cs.length : Int)) = false := decide_eq_false (by omega)
    have hle : decide ((k : Int) + 1 ≤ (cs.length : Int)) = false := decide_eq_false (by omega)
    clear hsome hnil
    go_enter Tryz.func52, Tryz.ntmps52
    go_wp2_with fail
    go_quiet (fail)
    go_wp2_with fail
    have hs2 := u64_bd (IntKind.u64.wrap (IntKind.u64.wrap (sd * 6364136223846793005)) + 1442695040888963407)
    generalize IntKind.u64.wrap (IntKind.u64.wrap (IntKind.u64.wrap (sd * 6364136223846793005)) + 1442695040888963407) = sd2 at hs2 ⊢
    go_quiet (fail)
    go_wp2_with fail
    go_ret
    refine ⟨_, rfl, ?_, ?_, (src_step HO.out hk hs2 HR.out hl).1, (src_step HO.out hk hs2 HR.out hl).2⟩
    all_goals obtain ⟨u, hu, hu2⟩ := and_byte sd2 hs2
    all_goals rw [hu]
    all_goals unfold wrap64
    all_goals omega

set_option maxHeartbeats 2000000 in
theorem src_pick (w : World) (g n : Nat) (m : Int) (h : Src w g n) (hn : n ≤ 3000000000) (hm : m ≤ 1000000000000) :
    Calls Tryz.prog 34 #[.pointer (some ⟨g, 0, none⟩), .int .i64 m] w fun e w' => ∃ x : Int, e = .returned (.int .i64 x) ∧ 0 ≤ x ∧ (m ≤ 1 → x = 0) ∧ (1 < m → x < m) ∧ Src w' g (n + 2) ∧ Turn g (g + 1) w w' := by
  by_cases h1 : m ≤ 1
  · have t1 : decide (m ≤ 1) = true := decide_eq_true h1
    go_enter Tryz.func34, Tryz.ntmps34
    go_wp2_with fail
    go_ret
    exact ⟨0, rfl, Int.le_refl _, fun _ => rfl, fun q => by omega, h.mono (by omega), Turn.refl _ _ _⟩
  have t1 : decide (m ≤ 1) = false := decide_eq_false h1
  have hm1 : 1 < m := by omega
  have H := Lib.hid (src_next w g n h (by omega))
  by_cases h2 : 200 < m
  · have t2 : decide (200 < m) = true := decide_eq_true h2
    clear h h1
    go_enter Tryz.func34, Tryz.ntmps34
    go_wp2_with fail
    refine H.out.mono ?_; rintro e w1 ⟨x, rfl, x0, x1, hs1, tn1⟩
    have H2 := Lib.hid (src_next w1 g (n + 1) hs1 (by omega))
    have T1 := Lib.hid tn1
    clear hs1 tn1
    go_wp2_with fail
    refine H2.out.mono ?_; rintro e w2 ⟨y, rfl, y0, y1, hs2, tn2⟩
    have S2 := Lib.hid hs2
    have T2 := Lib.hid (T1.out.trans tn2)
    clear hs2 tn2
    have hz0 : 0 ≤ x * 256 + y := by omega
    have hz1 : (x * 256 + y) % m < m := Int.emod_lt_of_pos _ (by omega)
    have hz2 : 0 ≤ (x * 256 + y) % m := Int.emod_nonneg _ (by omega)
    have hz3 : Int.tmod (x * 256 + y) m = (x * 256 + y) % m := Int.tmod_eq_emod_of_nonneg hz0
    go_wp2_with fail
    go_ret
    exact ⟨_, by first | rfl | (rw [hz3]; rfl), hz2, fun q => by omega, fun _ => hz1, S2.out, T2.out⟩
  · have t2 : decide (200 < m) = false := decide_eq_false h2
    clear h h1
    go_enter Tryz.func34, Tryz.ntmps34
    go_wp2_with fail
    refine H.out.mono ?_; rintro e w1 ⟨x, rfl, x0, x1, hs1, tn1⟩
    have S1 := Lib.hid (hs1.mono (show n + 1 ≤ n + 2 by omega))
    have T1 := Lib.hid tn1
    clear hs1 tn1
    have hz1 : x % m < m := Int.emod_lt_of_pos _ (by omega)
    have hz2 : 0 ≤ x % m := Int.emod_nonneg _ (by omega)
    have hz3 : Int.tmod x m = x % m := Int.tmod_eq_emod_of_nonneg x0
    go_wp2_with fail
    go_ret
    exact ⟨_, by first | rfl | (rw [hz3]; rfl), hz2, fun q => by omega, fun _ => hz1, S1.out, T1.out⟩

theorem src_one (w : World) (g n : Nat) (m : Int) (h : Src w g n) (hn : n ≤ 3000000000) (hm : m ≤ 1000000000000) :
    Calls Tryz.prog 35 #[.pointer (some ⟨g, 0, none⟩), .int .i64 m] w fun e w' => ∃ x : Int, e = .returned (.bool (x == 0)) ∧ Src w' g (n + 2) ∧ Turn g (g + 1) w w' := by
  have H := Lib.hid (src_pick w g n m h hn hm)
  clear h
  go_enter Tryz.func35, Tryz.ntmps35
  go_wp2_with fail
  refine H.out.mono ?_; rintro e w1 ⟨x, rfl, _, _, _, hs1, tn1⟩
  have S1 := Lib.hid hs1
  have T1 := Lib.hid tn1
  clear hs1 tn1
  go_wp2_with fail
  go_ret
  exact ⟨x, rfl, S1.out, T1.out⟩
theorem src_among (w : World) (g n : Nat) (v : Value) (zs : List Int) (h : Src w g n) (hn : n ≤ 3000000000) (hv : Rd w.heap.size w v 1 zs.length (zs.flatMap putI)) (h0 : 1 ≤ zs.length) (hz : zs.length ≤ 1048576) (ha : ∀ b off l c, v = .slice (some ⟨b, off, none⟩) l c → b ≠ g) :
    Calls Tryz.prog 36 #[.pointer (some ⟨g, 0, none⟩), v] w fun e w' => ∃ x : Int, e = .returned (.int .i64 x) ∧ x ∈ zs ∧ Src w' g (n + 2) ∧ Turn g (g + 1) w w' := by
  have H := Lib.hid (src_pick w g n (zs.length : Int) h hn (by omega))
  obtain ⟨_, ao, cap, rfl, hc1, hc2, _, hsome⟩ := hv
  obtain ⟨b, off, rfl, hb, hc⟩ := hsome (by omega)
  have hne := ha b off _ _ rfl
  clear h hsome ha
  go_enter Tryz.func36, Tryz.ntmps36
  go_wp2_with fail
  refine H.out.mono ?_; rintro e w1 ⟨x, rfl, x0, x1, x2, hs1, tn1⟩
  obtain ⟨k, rfl⟩ : ∃ k : Nat, x = (k : Int) := ⟨x.toNat, by omega⟩
  have hk : k < zs.length := by
    by_cases q : (zs.length : Int) ≤ 1
    · have := x1 q; omega
    · have := x2 (by omega); omega
  have hkp : w1.heap[b]? = w.heap[b]? := tn1.kept hb (by omega)
  have d0 : w1.cell? ⟨b, off + k, none⟩ = some (.int .i64 zs[k]) := by
    have e1 : w1.cell? ⟨b, off + k, none⟩ = w.cell? ⟨b, off + k, none⟩ := by simp [World.cell?, hkp]
    rw [e1, hc k (by omega), putI_get zs k hk]
  have S1 := Lib.hid hs1
  have T1 := Lib.hid tn1
  clear hs1 tn1 x1 x2 hkp hc
  go_wp2_with fail
  go_ret
  exact ⟨zs[k], rfl, List.getElem_mem hk, S1.out, T1.out⟩
end Go.Proofs.YtockglfoeagahaaGreatDoor
