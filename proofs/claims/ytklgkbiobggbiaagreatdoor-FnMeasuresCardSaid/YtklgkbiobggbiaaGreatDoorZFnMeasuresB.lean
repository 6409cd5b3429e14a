/- Contracts and plain facts, joined: HString, Src, R8, Draw, SortI, SortOwn, SortL, HMeasure, AppSl, Steps, AtB, Values, ValuesS, In. -/
import Derived.Test.YtklgkbiobggbiaaGreatDoorRows
import Derived.Test.YtklgkbiobggbiaaGreatDoorZFnMeasuresA
import Derived.Laws.Bits64b
import Derived.Shelf.SortM.Plain
import Derived.Shelf.SortM.SortNone
import Derived.Ground.SlgmProg
import Derived.Sort.OwnSortedInts
import Derived.Laws.AppendOwnNone
namespace Go.Proofs.YtklgkbiobggbiaaGreatDoor
open Go.ChangeShapes Go.WideShapes Go.ChangeAt Go.RowKit Go.Deep Go.Joins
set_option linter.unusedVariables false
set_option maxRecDepth 100000
set_option linter.unusedSimpArgs false
theorem putStr_len (xs : List ByteArray) : (xs.flatMap putStr).length = xs.length * 1 := flat_len xs (fun _ _ => rfl)
theorem putStr_get (xs : List ByteArray) (k : Nat) (h : k < xs.length) : (xs.flatMap putStr)[k]? = some (.string xs[k]) := by
  have := flat_get (f := putStr) (s := 1) xs (fun _ _ => rfl) (j := 0) (by omega) k
  simp only [Nat.mul_one, Nat.add_zero] at this
  rw [this, List.getElem?_eq_getElem h]
  rfl
theorem info_str : (Tryz.prog.info? 9).map (fun i => (i.zero, i.size, i.bytes)) = some (some (.string ByteArray.empty), 1, 16) := by kernel_rfl

def wtStr (xs : List ByteArray) : Nat := (xs.map fun x => x.size).sum
theorem wtStr_succ (xs : List ByteArray) (k : Nat) (h : k < xs.length) : wtStr (xs.take (k + 1)) = wtStr (xs.take k) + xs[k].size := by
  unfold wtStr
  rw [List.take_succ_eq_append_getElem h, List.map_append, List.sum_append]
  simp only [List.map_cons, List.map_nil, List.sum_cons, List.sum_nil, Nat.add_zero]
theorem wtStr_le (xs : List ByteArray) (k : Nat) : wtStr (xs.take k) ≤ wtStr xs := by
  have h : wtStr xs = wtStr (xs.take k) + wtStr (xs.drop k) := by
    unfold wtStr
    rw [← List.sum_append, ← List.map_append, List.take_append_drop]
  omega
end Go.Proofs.YtklgkbiobggbiaaGreatDoor
namespace Go.Proofs.YtklgkbiobggbiaaGreatDoor
open Go.ChangeShapes Go.WideShapes Go.ChangeAt Go.RowKit Go.Deep Go.Joins
set_option linter.unusedVariables false
set_option maxRecDepth 100000
set_option linter.unusedSimpArgs false
/-- block g is a source of draws, of which at most n bytes have been taken -/
def Src (w : World) (g n : Nat) : Prop := ∃ (v : Value) (cs : List UInt8) (k : Nat) (sd : Int), Own w g 98 [v, .int .i64 k, .int .u64 sd] ∧ k ≤ n ∧ 0 ≤ sd ∧ sd < 18446744073709551616 ∧ Rd g w v 1 cs.length (cs.map fun b => Value.int .u8 b.toNat) ∧ cs.length ≤ maxLen
theorem Src.lt {w : World} {g n : Nat} (h : Src w g n) : g < w.heap.size := by obtain ⟨v, cs, k, sd, o, _⟩ := h; exact o.lt
theorem Src.mono {w : World} {g n m : Nat} (h : Src w g n) (hm : n ≤ m) : Src w g m := by
  obtain ⟨v, cs, k, sd, o, h1, h2⟩ := h
  exact ⟨v, cs, k, sd, o, by omega, h2⟩
theorem Src.below {w w' : World} {g n : Nat} (h : Src w g n) (b : Below w.heap.size w w') : Src w' g n := by
  obtain ⟨v, cs, k, sd, o, h1, h2, h3, h4, h5⟩ := h
  exact ⟨v, cs, k, sd, o.below b o.lt, h1, h2, h3, h4.below (Below.mono b (Nat.le_of_lt o.lt)), h5⟩
theorem Src.set {w : World} {g n : Nat} (h : Src w g n) {b : Nat} (hb : g < b) (o : Nat) (v : Value) : Src (w.setCell ⟨b, o, none⟩ v) g n := by
  obtain ⟨u, cs, k, sd, q, h1, h2, h3, h4, h5⟩ := h
  exact ⟨u, cs, k, sd, q.other (by show b ≠ g; omega) v, h1, h2, h3, h4.below (Below.setCell (Below.refl _ _) (by show g ≤ b; omega) v), h5⟩
/-- the source's own block may be written, all else is as it was -/
theorem own_turn {lo hi : Nat} {w w' : World} {base : Nat} {E : TypeId} {s n : Nat} {v : Value} {L : List Value} (h : w.ownsRow base E s v n L) (t : Turn lo hi w w') (hh : hi ≤ base) : w'.ownsRow base E s v n L := by
  obtain ⟨h1, h2⟩ := h
  refine ⟨h1, ?_⟩
  rcases h2 with h2 | ⟨g, cap, cur, rfl, hg0, hg, rest⟩
  · exact .inl h2
  · exact .inr ⟨g, cap, cur, rfl, hg0, (t.kept (Array.getElem?_eq_some_iff.1 hg).1 (.inr (by omega))).trans hg, rest⟩
theorem Rd.turnA {lo hi B : Nat} {w w' : World} {v : Value} {s n : Nat} {L : List Value} (h : Rd B w v s n L) (t : Turn lo hi w w') (hl : B ≤ lo) (hw : B ≤ w.heap.size) : Rd B w' v s n L := h.below (t.below hl hw)
theorem byte_get (cs : List UInt8) (k : Nat) (h : k < cs.length) : (cs.map fun b => Value.int .u8 b.toNat)[k]? = some (.int .u8 cs[k].toNat) := by
  rw [List.getElem?_map, List.getElem?_eq_getElem h]; rfl

theorem u64_bd (z : Int) : 0 ≤ IntKind.u64.wrap z ∧ IntKind.u64.wrap z < 18446744073709551616 := by
  simp [IntKind.wrap, IntKind.bits, IntKind.signed]
  omega
theorem and_byte (z : Int) (h : 0 ≤ z ∧ z < 18446744073709551616) : ∃ u : Nat, bits .and .u64 (z / 1099511627776) 255 = (u : Int) ∧ u ≤ 255 := by
  obtain ⟨m, hm⟩ : ∃ m : Nat, z / 1099511627776 = (m : Int) := ⟨(z / 1099511627776).toNat, by omega⟩
  refine ⟨m &&& 255, ?_, Nat.and_le_right⟩
  rw [hm]
  exact bits_and_u64_nat m 255 (by omega) (by decide)
theorem src_step {w : World} {g n k a b : Nat} {v : Value} {cs : List UInt8} {sd sd2 : Int} (ho : Own w g 98 [v, .int .i64 k, .int .u64 sd]) (hk : k ≤ n) (h0 : 0 ≤ sd2 ∧ sd2 < 18446744073709551616) (hr : Rd g w v 1 cs.length (cs.map fun b => Value.int .u8 b.toNat)) (hl : cs.length ≤ maxLen) :
    Src ((((w.drewN a).setCell ⟨g, 1, none⟩ (.int .i64 ((k : Int) + 1))).setCell ⟨g, 2, none⟩ (.int .u64 sd2)).drewN b) g (n + 1) ∧ Turn g (g + 1) w ((((w.drewN a).setCell ⟨g, 1, none⟩ (.int .i64 ((k : Int) + 1))).setCell ⟨g, 2, none⟩ (.int .u64 sd2)).drewN b) := by
  have q1 : Below g w (w.drewN a) := below_dn (Below.refl g w) a
  have q2 : Below g w ((w.drewN a).setCell ⟨g, 1, none⟩ (.int .i64 ((k : Int) + 1))) := Below.setCell q1 (Nat.le_refl g) _
  have q3 : Below g w (((w.drewN a).setCell ⟨g, 1, none⟩ (.int .i64 ((k : Int) + 1))).setCell ⟨g, 2, none⟩ (.int .u64 sd2)) := Below.setCell q2 (Nat.le_refl g) _
  have B := q3.trans (below_dn (Below.refl g (((w.drewN a).setCell ⟨g, 1, none⟩ (.int .i64 ((k : Int) + 1))).setCell ⟨g, 2, none⟩ (.int .u64 sd2))) b)
  refine ⟨⟨v, cs, k + 1, sd2, ?_, by omega, h0.1, h0.2, hr.below B, hl⟩, ?_⟩
  · have := (((ho.dn a).set 1 (.int .i64 ((k : Int) + 1))).set 2 (.int .u64 sd2)).dn b
    simpa using this
  · exact ((Turn.set (Turn.set (Turn.of_below (below_dn (Below.refl _ _) a)) (Nat.le_refl _) (Nat.lt_succ_self _) 1 _) (Nat.le_refl _) (Nat.lt_succ_self _) 2 _)).trans (Turn.of_below (below_dn (Below.refl _ _) b))
set_option maxHeartbeats 2000000 in
theorem src_next (w : World) (g n : Nat) (h : Src w g n) (hn : n ≤ 4000000000) :
    Calls Tryz.prog 74 #[.pointer (some ⟨g, 0, none⟩)] w fun e w' => ∃ x : Int, e = .returned (.int .i64 x) ∧ 0 ≤ x ∧ x ≤ 255 ∧ Src w' g (n + 1) ∧ Turn g (g + 1) w w' := by
  obtain ⟨v, cs, k, sd, ho, hk, h0, h1, hr, hl⟩ := h
  obtain ⟨lo, lc, rfl⟩ := hr.form
  have c0 : w.cell? ⟨g, 0, none⟩ = some (.slice lo cs.length lc) := ho.cell 0
  have c1 : w.cell? ⟨g, 1, none⟩ = some (.int .i64 k) := ho.cell 1
  have c2 : w.cell? ⟨g, 2, none⟩ = some (.int .u64 sd) := ho.cell 2
  have f1 := ho.free 1
  have f2 := ho.free 2
  have hg := ho.lt
  have HO := Lib.hid ho
  have HR := Lib.hid hr
  obtain ⟨_, ao, cap, e1, _, _, hnil, hsome⟩ := hr
  cases e1
  clear ho
  by_cases hlt : k < cs.length
  · obtain ⟨b, off, rfl, hb, hc⟩ := hsome (by omega)
    have d0 : w.cell? ⟨b, off + k, none⟩ = some (.int .u8 cs[k].toNat) := by rw [hc k (by omega), byte_get cs k hlt]
    have hbl : cs[k].toNat < 256 := cs[k].toNat_lt
    clear hc hsome hnil
    go_enter Tryz.func74, Tryz.ntmps74
    have tk : decide ((k : Int) < (cs.length : Int)) = true := decide_eq_true (by omega)
    go_wp2_with fail
    go_quiet (fail)
    go_wp2_with fail
    go_quiet (fail)
    go_wp2_with fail
    have hle : decide ((k : Int) + 1 ≤ (cs.length : Int)) = true := decide_eq_true (by omega)
    have hs2 := u64_bd (IntKind.u64.wrap (IntKind.u64.wrap (sd * 6364136223846793005) + (cs[k].toNat : Int)) + 1442695040888963407)
    generalize IntKind.u64.wrap (IntKind.u64.wrap (IntKind.u64.wrap (sd * 6364136223846793005) + (cs[k].toNat : Int)) + 1442695040888963407) = sd2 at hs2 ⊢
    go_quiet (fail)
    go_wp2_with fail
    go_ret
    exact ⟨_, rfl, by omega, by omega, (src_step HO.out hk hs2 HR.out hl).1, (src_step HO.out hk hs2 HR.out hl).2⟩
  · have tk : decide ((k : Int) < (cs.length : Int)) = false := decide_eq_false (by omega)
    have hle : decide ((k : Int) + 1 ≤ (cs.length : Int)) = false := decide_eq_false (by omega)
    clear hsome hnil
    go_enter Tryz.func74, Tryz.ntmps74
    go_wp2_with fail
    go_quiet (fail)
    go_wp2_with fail
    have hs2 := u64_bd (IntKind.u64.wrap (IntKind.u64.wrap (sd * 6364136223846793005)) + 1442695040888963407)
    generalize IntKind.u64.wrap (IntKind.u64.wrap (IntKind.u64.wrap (sd * 6364136223846793005)) + 1442695040888963407) = sd2 at hs2 ⊢
    go_quiet (fail)
    go_wp2_with fail
    go_ret
    refine ⟨_, rfl, ?_, ?_, (src_step HO.out hk hs2 HR.out hl).1, (src_step HO.out hk hs2 HR.out hl).2⟩
    all_goals obtain ⟨u, hu, hu2⟩ := and_byte sd2 hs2
    all_goals rw [hu]
    all_goals unfold wrap64
    all_goals omega

set_option maxHeartbeats 2000000 in
theorem src_pick (w : World) (g n : Nat) (m : Int) (h : Src w g n) (hn : n ≤ 3000000000) (hm : m ≤ 1000000000000) :
    Calls Tryz.prog 31 #[.pointer (some ⟨g, 0, none⟩), .int .i64 m] w fun e w' => ∃ x : Int, e = .returned (.int .i64 x) ∧ 0 ≤ x ∧ (m ≤ 1 → x = 0) ∧ (1 < m → x < m) ∧ Src w' g (n + 2) ∧ Turn g (g + 1) w w' := by
  by_cases h1 : m ≤ 1
  · have t1 : decide (m ≤ 1) = true := decide_eq_true h1
    go_enter Tryz.func31, Tryz.ntmps31
    go_wp2_with fail
    go_ret
    exact ⟨0, rfl, Int.le_refl _, fun _ => rfl, fun q => by omega, h.mono (by omega), Turn.refl _ _ _⟩
  have t1 : decide (m ≤ 1) = false := decide_eq_false h1
  have hm1 : 1 < m := by omega
  have H := Lib.hid (src_next w g n h (by omega))
  by_cases h2 : 200 < m
  · have t2 : decide (200 < m) = true := decide_eq_true h2
    clear h h1
    go_enter Tryz.func31, Tryz.ntmps31
    go_wp2_with fail
    refine H.out.mono ?_; rintro e w1 ⟨x, rfl, x0, x1, hs1, tn1⟩
    have H2 := Lib.hid (src_next w1 g (n + 1) hs1 (by omega))
    have T1 := Lib.hid tn1
    clear hs1 tn1
    go_wp2_with fail
    refine H2.out.mono ?_; rintro e w2 ⟨y, rfl, y0, y1, hs2, tn2⟩
    have S2 := Lib.hid hs2
    have T2 := Lib.hid (T1.out.trans tn2)
    clear hs2 tn2
    have hz0 : 0 ≤ x * 256 + y := by omega
    have hz1 : (x * 256 + y) % m < m := Int.emod_lt_of_pos _ (by omega)
    have hz2 : 0 ≤ (x * 256 + y) % m := Int.emod_nonneg _ (by omega)
    have hz3 : Int.tmod (x * 256 + y) m = (x * 256 + y) % m := Int.tmod_eq_emod_of_nonneg hz0
    go_wp2_with fail
    go_ret
    exact ⟨_, by first | rfl | (rw [hz3]; rfl), hz2, fun q => by omega, fun _ => hz1, S2.out, T2.out⟩
  · have t2 : decide (200 < m) = false := decide_eq_false h2
    clear h h1
    go_enter Tryz.func31, Tryz.ntmps31
    go_wp2_with fail
    refine H.out.mono ?_; rintro e w1 ⟨x, rfl, x0, x1, hs1, tn1⟩
    have S1 := Lib.hid (hs1.mono (show n + 1 ≤ n + 2 by omega))
    have T1 := Lib.hid tn1
    clear hs1 tn1
    have hz1 : x % m < m := Int.emod_lt_of_pos _ (by omega)
    have hz2 : 0 ≤ x % m := Int.emod_nonneg _ (by omega)
    have hz3 : Int.tmod x m = x % m := Int.tmod_eq_emod_of_nonneg x0
    go_wp2_with fail
    go_ret
    exact ⟨_, by first | rfl | (rw [hz3]; rfl), hz2, fun q => by omega, fun _ => hz1, S1.out, T1.out⟩

theorem src_one (w : World) (g n : Nat) (m : Int) (h : Src w g n) (hn : n ≤ 3000000000) (hm : m ≤ 1000000000000) :
    Calls Tryz.prog 96 #[.pointer (some ⟨g, 0, none⟩), .int .i64 m] w fun e w' => ∃ x : Int, e = .returned (.bool (x == 0)) ∧ Src w' g (n + 2) ∧ Turn g (g + 1) w w' := by
  have H := Lib.hid (src_pick w g n m h hn hm)
  clear h
  go_enter Tryz.func96, Tryz.ntmps96
  go_wp2_with fail
  refine H.out.mono ?_; rintro e w1 ⟨x, rfl, _, _, _, hs1, tn1⟩
  have S1 := Lib.hid hs1
  have T1 := Lib.hid tn1
  clear hs1 tn1
  go_wp2_with fail
  go_ret
  exact ⟨x, rfl, S1.out, T1.out⟩
theorem src_among (w : World) (g n : Nat) (v : Value) (zs : List Int) (h : Src w g n) (hn : n ≤ 3000000000) (hv : Rd w.heap.size w v 1 zs.length (zs.flatMap putI)) (h0 : 1 ≤ zs.length) (hz : zs.length ≤ 1048576) (ha : ∀ b off l c, v = .slice (some ⟨b, off, none⟩) l c → b ≠ g) :
    Calls Tryz.prog 95 #[.pointer (some ⟨g, 0, none⟩), v] w fun e w' => ∃ x : Int, e = .returned (.int .i64 x) ∧ x ∈ zs ∧ Src w' g (n + 2) ∧ Turn g (g + 1) w w' := by
  have H := Lib.hid (src_pick w g n (zs.length : Int) h hn (by omega))
  obtain ⟨_, ao, cap, rfl, hc1, hc2, _, hsome⟩ := hv
  obtain ⟨b, off, rfl, hb, hc⟩ := hsome (by omega)
  have hne := ha b off _ _ rfl
  clear h hsome ha
  go_enter Tryz.func95, Tryz.ntmps95
  go_wp2_with fail
  refine H.out.mono ?_; rintro e w1 ⟨x, rfl, x0, x1, x2, hs1, tn1⟩
  obtain ⟨k, rfl⟩ : ∃ k : Nat, x = (k : Int) := ⟨x.toNat, by omega⟩
  have hk : k < zs.length := by
    by_cases q : (zs.length : Int) ≤ 1
    · have := x1 q; omega
    · have := x2 (by omega); omega
  have hkp : w1.heap[b]? = w.heap[b]? := tn1.kept hb (by omega)
  have d0 : w1.cell? ⟨b, off + k, none⟩ = some (.int .i64 zs[k]) := by
    have e1 : w1.cell? ⟨b, off + k, none⟩ = w.cell? ⟨b, off + k, none⟩ := by simp [World.cell?, hkp]
    rw [e1, hc k (by omega), putI_get zs k hk]
  have S1 := Lib.hid hs1
  have T1 := Lib.hid tn1
  clear hs1 tn1 x1 x2 hkp hc
  go_wp2_with fail
  go_ret
  exact ⟨zs[k], rfl, List.getElem_mem hk, S1.out, T1.out⟩
theorem src_text (w : World) (g n : Nat) (v : Value) (zs : List ByteArray) (h : Src w g n) (hn : n ≤ 3000000000) (hv : Rd w.heap.size w v 1 zs.length (zs.flatMap putStr)) (h0 : 1 ≤ zs.length) (hz : zs.length ≤ 1048576) (ha : ∀ b off l c, v = .slice (some ⟨b, off, none⟩) l c → b ≠ g) :
    Calls Tryz.prog 75 #[.pointer (some ⟨g, 0, none⟩), v] w fun e w' => ∃ x : ByteArray, e = .returned (.string x) ∧ x ∈ zs ∧ Src w' g (n + 2) ∧ Turn g (g + 1) w w' := by
  have H := Lib.hid (src_pick w g n (zs.length : Int) h hn (by omega))
  obtain ⟨_, ao, cap, rfl, hc1, hc2, _, hsome⟩ := hv
  obtain ⟨b, off, rfl, hb, hc⟩ := hsome (by omega)
  have hne := ha b off _ _ rfl
  clear h hsome ha
  go_enter Tryz.func75, Tryz.ntmps75
  go_wp2_with fail
  refine H.out.mono ?_; rintro e w1 ⟨x, rfl, x0, x1, x2, hs1, tn1⟩
  obtain ⟨k, rfl⟩ : ∃ k : Nat, x = (k : Int) := ⟨x.toNat, by omega⟩
  have hk : k < zs.length := by
    by_cases q : (zs.length : Int) ≤ 1
    · have := x1 q; omega
    · have := x2 (by omega); omega
  have hkp : w1.heap[b]? = w.heap[b]? := tn1.kept hb (by omega)
  have d0 : w1.cell? ⟨b, off + k, none⟩ = some (.string zs[k]) := by
    have e1 : w1.cell? ⟨b, off + k, none⟩ = w.cell? ⟨b, off + k, none⟩ := by simp [World.cell?, hkp]
    rw [e1, hc k (by omega), putStr_get zs k hk]
  have S1 := Lib.hid hs1
  have T1 := Lib.hid tn1
  clear hs1 tn1 x1 x2 hkp hc
  go_wp2_with fail
  go_ret
  exact ⟨zs[k], rfl, List.getElem_mem hk, S1.out, T1.out⟩
end Go.Proofs.YtklgkbiobggbiaaGreatDoor
namespace Go.Proofs.YtklgkbiobggbiaaGreatDoor
open Go.ChangeShapes Go.WideShapes Go.ChangeAt Go.RowKit Go.Deep Go.Joins
set_option linter.unusedVariables false
set_option maxRecDepth 100000
set_option linter.unusedSimpArgs false
def putB (n : UInt8) : List Value := [.int .u8 n.toNat]
theorem putB_len (xs : List UInt8) : (xs.flatMap putB).length = xs.length * 1 := flat_len xs (fun _ _ => rfl)
theorem putB_get (xs : List UInt8) (k : Nat) (h : k < xs.length) : (xs.flatMap putB)[k]? = some (.int .u8 xs[k].toNat) := by
  have := flat_get (f := putB) (s := 1) xs (fun _ _ => rfl) (j := 0) (by omega) k
  simp only [Nat.mul_one, Nat.add_zero] at this
  rw [this, List.getElem?_eq_getElem h]
  rfl
def r8at (xs : List UInt8) (k n : Int) : Int := ((xs[k.toNat]?.getD 0).toNat : Int) % n
theorem r8at_bd (xs : List UInt8) (k n : Int) (hn : 0 < n) : 0 ≤ r8at xs k n ∧ r8at xs k n < n := ⟨Int.emod_nonneg _ (by omega), Int.emod_lt_of_pos _ hn⟩

theorem laws_r8At (w : World) (v : Value) (xs : List UInt8) (B : Nat) (h : Rd B w v 1 xs.length (xs.flatMap putB)) (hx : xs.length ≤ 1048576) (k n : Int) (hk : 0 ≤ k) (hk2 : k ≤ 1000000000) (hn : 2 ≤ n) (hn2 : n ≤ 1000000000000) :
    Calls Tryz.prog 7 #[v, .int .i64 k, .int .i64 n] w fun e w' => e = .returned (.int .i64 (r8at xs k n)) ∧ w = w' := by
  obtain ⟨hL, ao, cap, rfl, hcap, hmax, hnil, hsome⟩ := h
  obtain ⟨k, rfl⟩ := Int.eq_ofNat_of_zero_le hk
  by_cases hlt : k < xs.length
  · obtain ⟨b, off, rfl, hbB, hc⟩ := hsome (by omega)
    have c1 : w.cell? ⟨b, off + k, none⟩ = some (.int .u8 xs[k].toNat) := by rw [hc k (by omega), putB_get xs k hlt]
    have hb := xs[k].toNat_lt
    have e : Hid (r8at xs k n = (xs[k].toNat : Int) % n) := (by simp [r8at, hlt] : r8at xs k n = (xs[k].toNat : Int) % n)
    clear hc hsome hnil
    go_enter Tryz.func7, Tryz.ntmps7
    go_wp2
    go_ret
    exact ⟨by rw [e.out]; rfl, rfl⟩
  · have e : Hid (r8at xs k n = 0) := (by
      unfold r8at
      rw [Int.toNat_natCast, List.getElem?_eq_none (by omega)]
      simp : r8at xs k n = 0)
    clear hsome hnil
    go_enter Tryz.func7, Tryz.ntmps7
    go_wp2
    go_ret
    exact ⟨by rw [e.out]; rfl, rfl⟩

def r8wide (xs : List UInt8) (k n : Int) : Int := (256 * r8at xs k 256 + r8at xs (k + 1) 256) % n
theorem r8wide_bd (xs : List UInt8) (k n : Int) (hn : 0 < n) : 0 ≤ r8wide xs k n ∧ r8wide xs k n < n := ⟨Int.emod_nonneg _ (by omega), Int.emod_lt_of_pos _ hn⟩
end Go.Proofs.YtklgkbiobggbiaaGreatDoor
namespace Go.Proofs.YtklgkbiobggbiaaGreatDoor
open Go.ChangeShapes Go.WideShapes Go.ChangeAt Go.RowKit Go.Deep Go.Joins
set_option linter.unusedVariables false
set_option maxRecDepth 100000
set_option linter.unusedSimpArgs false
theorem Turn.setNew {lo hi : Nat} {a w : World} (h : Turn lo hi a w) {g : Nat} (hg : a.heap.size ≤ g) (o : Nat) (v : Value) : Turn lo hi a (w.setCell ⟨g, o, none⟩ v) := by
  obtain ⟨h1, h2, h3, h4, h5, h6⟩ := h
  have b : Below g w (w.setCell ⟨g, o, none⟩ v) := Below.setCell (Below.refl g w) (Nat.le_refl g) v
  refine ⟨b.os.trans h1, b.tape.trans h2, b.output.trans h3, Nat.le_trans h4 b.size, fun i hi' hd => ?_, fun i E L ho => ?_⟩
  · exact (b.block i (by omega)).trans (h5 i hi' hd)
  · obtain ⟨L', e, o'⟩ := h6 i E L ho
    exact ⟨L', e, o'.other (by have := ho.lt; show g ≠ i; omega) v⟩
theorem Turn.allocR {lo hi : Nat} {a w : World} (h : Turn lo hi a w) (ob : Obj) : Turn lo hi a (w.alloc ob) := h.trans (Turn.of_below ((Below.refl _ _).alloc (Nat.le_refl _) _))
theorem Turn.drewR {lo hi : Nat} {a w : World} (h : Turn lo hi a w) : Turn lo hi a w.drew := h.trans (Turn.of_below ((Below.refl _ _).drew))
theorem putB_map (cs : List UInt8) : cs.flatMap putB = cs.map fun b => Value.int .u8 b.toNat := by
  induction cs with
  | nil => rfl
  | cons c cs ih => rw [List.flatMap_cons, List.map_cons, ih]; rfl
theorem src_from (w : World) (v : Value) (cs : List UInt8) (h : Rd w.heap.size w v 1 cs.length (cs.flatMap putB)) (hl : cs.length ≤ maxLen) :
    Calls Tryz.prog 30 #[v] w fun e w' => e = .returned (.pointer (some ⟨w.heap.size, 0, none⟩)) ∧ Src w' w.heap.size 0 ∧ Below w.heap.size w w' := by
  obtain ⟨ao, cap, rfl⟩ := h.form
  have HS : Hid (Src (w.alloc (.cells #[.slice ao cs.length cap, .int .i64 0, .int .u64 0] 98)) w.heap.size 0) := Lib.hid ⟨_, cs, 0, 0, Own.new w _ _, Nat.le_refl _, by decide, by decide, by
    have hb : Below w.heap.size w (w.alloc (.cells #[.slice ao cs.length cap, .int .i64 0, .int .u64 0] 98)) := (Below.refl _ _).alloc (Nat.le_refl _) _
    rw [← putB_map]; exact h.below hb, hl⟩
  have HB : Hid (Below w.heap.size w (w.alloc (.cells #[.slice ao cs.length cap, .int .i64 0, .int .u64 0] 98))) := Lib.hid ((Below.refl _ _).alloc (Nat.le_refl _) _)
  clear h
  go_enter Tryz.func30, Tryz.ntmps30
  go_wp2_with fail
  go_ret
  exact ⟨rfl, HS.out, HB.out⟩
theorem laws_r8Long (w : World) (v u : Value) (n m : Nat) (vo uo : Option Addr) (vc uc : Nat) (hv : v = .slice vo n vc) (hu : u = .slice uo m uc) :
    Calls Tryz.prog 5 #[v, u] w fun e w' => e = .returned (.bool (decide ((1048576 : Int) < n) || decide ((1048576 : Int) < m))) ∧ w = w' := by
  subst hv hu
  by_cases h : (1048576 : Int) < n
  · have t1 : decide ((1048576 : Int) < n) = true := decide_eq_true h
    go_enter Tryz.func5, Tryz.ntmps5
    go_wp2_with fail
    go_ret
    exact ⟨by simp [t1], rfl⟩
  · have t1 : decide ((1048576 : Int) < n) = false := decide_eq_false h
    go_enter Tryz.func5, Tryz.ntmps5
    go_wp2_with fail
    go_ret
    exact ⟨by simp [t1], rfl⟩
theorem own_base {w : World} {base base' n s : Nat} {E : TypeId} {v : Value} {L : List Value} (h : w.ownsRow base E s v n L) (hb : base' ≤ base) : w.ownsRow base' E s v n L := by
  obtain ⟨h1, h2⟩ := h
  refine ⟨h1, ?_⟩
  rcases h2 with h2 | ⟨g, cap, cur, rfl, hg0, rest⟩
  · exact .inl h2
  · exact .inr ⟨g, cap, cur, rfl, Nat.le_trans hb hg0, rest⟩
theorem Src.belowB {B : Nat} {w w' : World} {g n : Nat} (h : Src w g n) (b : Below B w w') (hg : g < B) : Src w' g n := by
  obtain ⟨v, cs, k, sd, o, h1, h2, h3, h4, h5⟩ := h
  exact ⟨v, cs, k, sd, o.below b hg, h1, h2, h3, h4.below (Below.mono b (Nat.le_of_lt hg)), h5⟩
theorem laws_r8AtB (w : World) (v : Value) (xs : List UInt8) (B : Nat) (h : Rd B w v 1 xs.length (xs.flatMap putB)) (hx : xs.length ≤ 1048576) (k : Int) (n : Nat) (hk : 0 ≤ k) (hk2 : k ≤ 1000000000) (hn : 1 ≤ n) (hn2 : n ≤ 1000000000) :
    Calls Tryz.prog 7 #[v, .int .i64 k, .int .i64 n] w fun e w' => ∃ x : Nat, e = .returned (.int .i64 x) ∧ x < n ∧ w = w' := by
  by_cases h2 : 2 ≤ n
  · have hb := r8at_bd xs k n (by omega)
    refine (laws_r8At w v xs B h hx k n hk hk2 (by omega) (by omega)).mono ?_
    rintro e w' ⟨rfl, rfl⟩
    obtain ⟨x, hx⟩ : ∃ x : Nat, r8at xs k n = (x : Int) := ⟨(r8at xs k n).toNat, by omega⟩
    exact ⟨x, by rw [hx], by omega, rfl⟩
  · obtain rfl : n = 1 := by omega
    obtain ⟨ao, cap, rfl⟩ := h.form
    clear h
    go_enter Tryz.func7, Tryz.ntmps7
    go_wp2_with fail
    go_ret
    exact ⟨0, rfl, by omega, rfl⟩
theorem Turn.thenB {lo hi B : Nat} {a w w' : World} (h : Turn lo hi a w) (b : Below B w w') (hB : a.heap.size ≤ B) : Turn lo hi a w' := by
  obtain ⟨h1, h2, h3, h4, h5, h6⟩ := h
  refine ⟨b.os.trans h1, b.tape.trans h2, b.output.trans h3, Nat.le_trans h4 b.size, fun i hi' hd => ?_, fun i E L ho => ?_⟩
  · exact (b.block i (by omega)).trans (h5 i hi' hd)
  · obtain ⟨L', e, o'⟩ := h6 i E L ho
    exact ⟨L', e, o'.below b (by have := ho.lt; omega)⟩
theorem Turn.cell {lo hi : Nat} {w w' : World} (t : Turn lo hi w w') {b : Nat} (hb : b < w.heap.size) (hd : b < lo ∨ hi ≤ b) (o : Nat) : w'.cell? ⟨b, o, none⟩ = w.cell? ⟨b, o, none⟩ := by
  have := t.kept hb hd
  simp [World.cell?, this]
end Go.Proofs.YtklgkbiobggbiaaGreatDoor
namespace Go.Proofs.YtklgkbiobggbiaaGreatDoor
open Go.ChangeShapes Go.WideShapes Go.ChangeAt Go.RowKit Go.Deep Go.Joins
set_option linter.unusedVariables false
set_option maxRecDepth 100000
set_option linter.unusedSimpArgs false
/-- numbers in ascending order -/
def sortI (zs : List Int) : List Int := zs.mergeSort fun x y => decide (x ≤ y)
theorem sortI_perm (zs : List Int) : (sortI zs).Perm zs := List.mergeSort_perm zs _
theorem sortI_len (zs : List Int) : (sortI zs).length = zs.length := (sortI_perm zs).length_eq
theorem sortI_le (zs : List Int) : (sortI zs).Pairwise (· ≤ ·) :=
  (List.pairwise_mergeSort (le := fun x y => decide (x ≤ y)) (fun a b c h1 h2 => by simp only [decide_eq_true_eq] at *; omega) (fun a b => by rw [Bool.or_eq_true]; simp only [decide_eq_true_eq]; omega) zs).imp fun {a b} h => by simpa using h
theorem sortI_eq {zs ys : List Int} (hp : ys.Perm zs) (hs : ys.Pairwise (· ≤ ·)) : ys = sortI zs :=
  List.Perm.eq_of_pairwise (le := (· ≤ ·)) (fun a b _ _ h1 h2 => by omega) hs (sortI_le zs) (hp.trans (sortI_perm zs).symm)
theorem ins_sorted {out : List Int} {v : Int} {k : Nat} (hk : k ≤ out.length) (hs : out.Pairwise (· ≤ ·)) (h1 : ∀ i (h : i < out.length), k ≤ i → v < out[i]) (h2 : ∀ h : k - 1 < out.length, 0 < k → out[k - 1] ≤ v) : (out.take k ++ v :: out.drop k).Pairwise (· ≤ ·) := by
  have hd : ∀ b ∈ out.drop k, v < b := fun b hb => by
    obtain ⟨i, hi, rfl⟩ := List.mem_iff_getElem.1 hb
    rw [List.length_drop] at hi
    rw [List.getElem_drop]
    exact h1 (k + i) (by omega) (by omega)
  have ht : ∀ a ∈ out.take k, a ≤ v := fun a ha => by
    obtain ⟨i, hi, rfl⟩ := List.mem_iff_getElem.1 ha
    rw [List.length_take] at hi
    rw [List.getElem_take]
    have h3 := h2 (by omega) (by omega)
    by_cases e : i = k - 1
    · subst e; exact h3
    · have := List.pairwise_iff_getElem.1 hs i (k - 1) (by omega) (by omega) (by omega)
      omega
  rw [List.pairwise_append]
  refine ⟨hs.sublist (List.take_sublist k out), ?_, fun a ha b hb => ?_⟩
  · rw [List.pairwise_cons]
    exact ⟨fun b hb => by have := hd b hb; omega, hs.sublist (List.drop_sublist k out)⟩
  · rcases List.mem_cons.1 hb with rfl | hb
    · exact ht a ha
    · have := ht a ha; have := hd b hb; omega
theorem ins_perm {α : Type} (out : List α) (v : α) (k : Nat) : (out.take k ++ v :: out.drop k).Perm (out ++ [v]) := by
  have h1 : (out.take k ++ v :: out.drop k).Perm (v :: (out.take k ++ out.drop k)) := List.perm_middle
  rw [List.take_append_drop] at h1
  exact h1.trans (List.perm_append_singleton v out).symm
end Go.Proofs.YtklgkbiobggbiaaGreatDoor
namespace Go.Proofs.YtklgkbiobggbiaaGreatDoor
open Go.ChangeShapes Go.WideShapes Go.ChangeAt Go.RowKit Go.Deep Go.Joins
set_option linter.unusedVariables false
set_option maxRecDepth 100000
set_option linter.unusedSimpArgs false
open Go.Sort Go.Shelf in
theorem sort_own {P : Program} {ρ} (L : SlLaysM.n5 P ρ) {w : World} {base : Nat} {e : TypeId} {v : Value} {n : Nat} {zs : List Int} (h : w.ownsRow base e 1 v n (zs.flatMap putI)) (hn : n ≤ 1048576) :
    Calls P (ρ.f 5) #[v] w fun e' w' => e' = .returned (.tuple #[]) ∧ w'.ownsRow base e 1 v n ((sortI zs).flatMap putI) ∧ w.grownBy w' v.ownBlock := by
  have ef : ∀ xs : List Int, xs.flatMap putI = xs.map (Value.int .i64) := fun xs => by
    induction xs with
    | nil => rfl
    | cons x xs ih => rw [List.flatMap_cons, ih]; rfl
  rw [ef] at h
  rw [ef]
  obtain ⟨h1, h2⟩ := h
  rw [List.length_map, Nat.mul_one] at h1
  subst h1
  rcases h2 with ⟨rfl, h0⟩ | ⟨g, cap, cur, rfl, hb, hg, hnc, hm, hs, ht⟩
  · have hz : zs = [] := List.eq_nil_of_length_eq_zero h0
    subst hz
    exact (AnyM.slices_Sort_int_none L none 0 w).mono fun e' w' ⟨a, b⟩ => by
      subst b
      exact ⟨a, ⟨by simp [sortI], .inl ⟨rfl, rfl⟩⟩, World.grownBy.refl _ _⟩
  · rw [Nat.mul_one] at ht
    refine (AnyM.slices_Sort_int L g 0 cap zs w (holds_of_blockI hg ht) (Array.getElem?_eq_some_iff.1 hg).1 (by omega)).mono fun e' w' ⟨a, q, os, hw⟩ => ?_
    subst hw
    exact ⟨a, ownsRow_sortedI (sortI_len zs) hb hg hnc hm hs, grownBy_sortedI _⟩
end Go.Proofs.YtklgkbiobggbiaaGreatDoor
namespace Go.Proofs.YtklgkbiobggbiaaGreatDoor
open Go.ChangeShapes Go.WideShapes Go.ChangeAt Go.RowKit Go.Deep Go.Joins
set_option linter.unusedVariables false
set_option maxRecDepth 100000
set_option linter.unusedSimpArgs false
def Tryz.sortL_ren : Go.Shelf.Ren := ⟨fun | 5 => 79 | 8 => 86 | 7 => 125 | 19 => 136 | 20 => 137 | 10 => 162 | 11 => 163 | 12 => 164 | 13 => 165 | 14 => 166 | 15 => 167 | 16 => 168 | 17 => 169 | 18 => 170 | 30 => 206 | 31 => 172 | 32 => 173 | 33 => 207 | 34 => 208 | 35 => 209 | 40 => 229 | n => n, fun | 23 => 29 | 25 => 2 | 3 => 3 | 32 => 106 | 22 => 29 | 0 => 0 | 44 => 159 | 46 => 96 | 4 => 4 | 36 => 152 | 35 => 151 | 41 => 83 | 5 => 5 | 9 => 9 | 53 => 176 | 57 => 180 | 63 => 212 | 64 => 213 | n => n, fun | n => n⟩
theorem Tryz.sortL : Go.Proofs.SlLaysM.n5 Tryz.prog Tryz.sortL_ren := {
  mixed := by kernel_rfl
  f5 := ⟨Tryz.f79.name, by decide, Tryz.func79.trans (congrArg some (by kernel_rfl))⟩
  f7 := ⟨Tryz.f125.name, by decide, Tryz.func125.trans (congrArg some (by kernel_rfl))⟩
  f8 := Tryz.func86.trans (congrArg some (by kernel_rfl))
  f10 := ⟨Tryz.f162.name, by decide, Tryz.func162.trans (congrArg some (by kernel_rfl))⟩
  f11 := ⟨Tryz.f163.name, by decide, Tryz.func163.trans (congrArg some (by kernel_rfl))⟩
  f12 := ⟨Tryz.f164.name, by decide, Tryz.func164.trans (congrArg some (by kernel_rfl))⟩
  f13 := ⟨Tryz.f165.name, by decide, Tryz.func165.trans (congrArg some (by kernel_rfl))⟩
  f14 := ⟨Tryz.f166.name, by decide, Tryz.func166.trans (congrArg some (by kernel_rfl))⟩
  f15 := ⟨Tryz.f167.name, by decide, Tryz.func167.trans (congrArg some (by kernel_rfl))⟩
  f16 := ⟨Tryz.f168.name, by decide, Tryz.func168.trans (congrArg some (by kernel_rfl))⟩
  f17 := ⟨Tryz.f169.name, by decide, Tryz.func169.trans (congrArg some (by kernel_rfl))⟩
  f18 := ⟨Tryz.f170.name, by decide, Tryz.func170.trans (congrArg some (by kernel_rfl))⟩
  f19 := Tryz.func136.trans (congrArg some (by kernel_rfl))
  f20 := Tryz.func137.trans (congrArg some (by kernel_rfl))
  f30 := ⟨Tryz.f206.name, by decide, Tryz.func206.trans (congrArg some (by kernel_rfl))⟩
  f31 := Tryz.func172.trans (congrArg some (by kernel_rfl))
  f32 := Tryz.func173.trans (congrArg some (by kernel_rfl))
  f33 := ⟨Tryz.f207.name, by decide, Tryz.func207.trans (congrArg some (by kernel_rfl))⟩
  f34 := ⟨Tryz.f208.name, by decide, Tryz.func208.trans (congrArg some (by kernel_rfl))⟩
  f35 := ⟨Tryz.f209.name, by decide, Tryz.func209.trans (congrArg some (by kernel_rfl))⟩
  f40 := ⟨Tryz.f229.name, by decide, Tryz.func229.trans (congrArg some (by kernel_rfl))⟩
  t0 := Tryz.underlying0
  a0 := Tryz.isAgg0
  z0 := Tryz.sizeOf0
  v0 := Tryz.zeroValue0
  t3 := Tryz.underlying3
  a3 := Tryz.isAgg3
  z3 := Tryz.sizeOf3
  v3 := Tryz.zeroValue3
  t4 := Tryz.underlying4
  a4 := Tryz.isAgg4
  z4 := Tryz.sizeOf4
  v4 := Tryz.zeroValue4
  t5 := Tryz.underlying5
  a5 := Tryz.isAgg5
  z5 := Tryz.sizeOf5
  v5 := Tryz.zeroValue5
  t9 := Tryz.underlying9
  a9 := Tryz.isAgg9
  z9 := Tryz.sizeOf9
  v9 := Tryz.zeroValue9
  t22 := Tryz.underlying29
  a22 := Tryz.isAgg29
  z22 := Tryz.sizeOf29
  v22 := Tryz.zeroValue29
  t23 := Tryz.underlying29
  a23 := Tryz.isAgg29
  z23 := Tryz.sizeOf29
  v23 := Tryz.zeroValue29
  t25 := Tryz.underlying2
  a25 := Tryz.isAgg2
  z25 := Tryz.sizeOf2
  v25 := Tryz.zeroValue2
  t32 := Tryz.underlying106
  a32 := Tryz.isAgg106
  z32 := Tryz.sizeOf106
  v32 := Tryz.zeroValue106
  t35 := Tryz.underlying151
  a35 := Tryz.isAgg151
  z35 := Tryz.sizeOf151
  v35 := Tryz.zeroValue151
  t36 := Tryz.underlying152
  a36 := Tryz.isAgg152
  z36 := Tryz.sizeOf152
  v36 := Tryz.zeroValue152
  t41 := Tryz.underlying83
  a41 := Tryz.isAgg83
  z41 := Tryz.sizeOf83
  v41 := Tryz.zeroValue83
  t44 := Tryz.underlying159
  a44 := Tryz.isAgg159
  z44 := Tryz.sizeOf159
  v44 := Tryz.zeroValue159
  t46 := Tryz.underlying96
  a46 := Tryz.isAgg96
  z46 := Tryz.sizeOf96
  v46 := Tryz.zeroValue96
  t53 := Tryz.underlying176
  a53 := Tryz.isAgg176
  z53 := Tryz.sizeOf176
  v53 := Tryz.zeroValue176
  t57 := Tryz.underlying180
  a57 := Tryz.isAgg180
  z57 := Tryz.sizeOf180
  v57 := Tryz.zeroValue180
  t63 := Tryz.underlying212
  a63 := Tryz.isAgg212
  z63 := Tryz.sizeOf212
  v63 := Tryz.zeroValue212
  t64 := Tryz.underlying213
  a64 := Tryz.isAgg213
  z64 := Tryz.sizeOf213
  v64 := Tryz.zeroValue213 }
theorem slices_Sort_i64 (w : World) (base : Nat) (e : TypeId) (v : Value) (n : Nat) (zs : List Int) (h : w.ownsRow base e 1 v n (zs.flatMap putI)) (hn : n ≤ 1048576) :
    Calls Tryz.prog 79 #[v] w fun e' w' => e' = .returned (.tuple #[]) ∧ w'.ownsRow base e 1 v n ((sortI zs).flatMap putI) ∧ w.grownBy w' v.ownBlock :=
  sort_own Tryz.sortL h hn
end Go.Proofs.YtklgkbiobggbiaaGreatDoor
namespace Go.Proofs.YtklgkbiobggbiaaGreatDoor
open Go.ChangeShapes Go.WideShapes Go.ChangeAt Go.RowKit Go.Deep Go.Joins
set_option linter.unusedVariables false
set_option maxRecDepth 100000
set_option linter.unusedSimpArgs false
theorem Measure_len (xs : List Measure) : (xs.flatMap Measure.put).length = xs.length * 3 := flat_len xs (fun _ _ => rfl)
theorem Measure_get0 (xs : List Measure) (k : Nat) (h : k < xs.length) : (xs.flatMap Measure.put)[k * 3 + 0]? = some (.string xs[k].bell) := by
  rw [flat_get (f := Measure.put) (s := 3) xs (fun _ _ => rfl) (j := 0) (by omega) k, List.getElem?_eq_getElem h]
  rfl
theorem Measure_get1 (xs : List Measure) (k : Nat) (h : k < xs.length) : (xs.flatMap Measure.put)[k * 3 + 1]? = some (.int .i64 xs[k].part) := by
  rw [flat_get (f := Measure.put) (s := 3) xs (fun _ _ => rfl) (j := 1) (by omega) k, List.getElem?_eq_getElem h]
  rfl
theorem Measure_get2 (xs : List Measure) (k : Nat) (h : k < xs.length) : (xs.flatMap Measure.put)[k * 3 + 2]? = some (.int .i64 xs[k].value) := by
  rw [flat_get (f := Measure.put) (s := 3) xs (fun _ _ => rfl) (j := 2) (by omega) k, List.getElem?_eq_getElem h]
  rfl
theorem Measure_info : (Tryz.prog.info? 27).map (fun i => (i.zero, i.size, i.bytes)) = some (some (.agg #[.string ByteArray.empty, .int .i64 0, .int .i64 0]), 3, 32) := by kernel_rfl

def wtMeasure (xs : List Measure) : Nat := (xs.map fun x => x.bell.size).sum
theorem wtMeasure_succ (xs : List Measure) (k : Nat) (h : k < xs.length) : wtMeasure (xs.take (k + 1)) = wtMeasure (xs.take k) + xs[k].bell.size := by
  unfold wtMeasure
  rw [List.take_succ_eq_append_getElem h, List.map_append, List.sum_append]
  simp only [List.map_cons, List.map_nil, List.sum_cons, List.sum_nil, Nat.add_zero]
theorem wtMeasure_le (xs : List Measure) (k : Nat) : wtMeasure (xs.take k) ≤ wtMeasure xs := by
  have h : wtMeasure xs = wtMeasure (xs.take k) + wtMeasure (xs.drop k) := by
    unfold wtMeasure
    rw [← List.sum_append, ← List.map_append, List.take_append_drop]
  omega
theorem wtMeasure_mem (xs : List Measure) (x : Measure) (h : x ∈ xs) : x.bell.size ≤ wtMeasure xs := by
  unfold wtMeasure
  exact le_sum_of (List.mem_map.2 ⟨x, h, rfl⟩)
end Go.Proofs.YtklgkbiobggbiaaGreatDoor
namespace Go.Proofs.YtklgkbiobggbiaaGreatDoor
open Go.ChangeShapes Go.WideShapes Go.ChangeAt Go.RowKit Go.Deep Go.Joins
set_option linter.unusedVariables false
set_option maxRecDepth 100000
set_option linter.unusedSimpArgs false
/-- 'append(s, x...)' of a slice that can be read -/
theorem app_sl {P : Program} {ops : Array Oper} {rest : List Oper} {o : Oper} {a : Act} {Q : Exit → Act → World → Prop} (hgd : o.guard = none) (s x : Operand) (T E : TypeId) (i : TypeInfo) (z : Value) (sz bytes : Nat)
    (hT : P.underlying T = some (.slice E)) (hi : P.info? E = some i) (hz : i.zero = some z) (h1 : i.size = sz) (h2 : i.bytes = bytes) (hzs : z.cells.size = sz) (hsz : 0 < sz)
    (ho : o.op = .call { callee := .builtin .append, args := #[s, x], argTypes := #[T, T] }) (w : World) (base : Nat) (v : Value) (n : Nat) (L : List Value) (hs : a.eval s = v) (hown : w.ownsRow base E sz v n L)
    (xv : Value) (m : Nat) (cs : List Value) (hx : a.eval x = xv) (hr : Rd w.heap.size w xv sz m cs) (hone : ∀ u ∈ cs, u.oneCell' = true) (hn : n + m ≤ 2097152) (hby : bytes ≤ 64) (hbase : base ≤ w.heap.size)
    (h : ∀ ao cap w', w'.ownsRow base E sz (.slice ao (n + m) cap) (n + m) (L ++ cs) → w.grownBy w' v.ownBlock → (∀ W, Below base W w → Below base W w') → wpList P ops Q rest (a.put o.dst (.slice ao (n + m) cap)) w') :
    wpList P ops Q (o :: rest) a w := by
  have hb : (n + m) * bytes ≤ 140737488355328 := by
    have := Nat.mul_le_mul hn hby
    omega
  have fin : ∀ v' w', w'.ownsRow base E sz v' (n + m) (L ++ cs) → w.grownBy w' v.ownBlock → wpList P ops Q rest (a.put o.dst v') w' := fun v' w' hown' hg => by
    obtain ⟨ao, cap, rfl⟩ := (own_rd hown').form
    exact h ao cap w' hown' hg fun W hW => grown_below hW hown hbase hg
  obtain ⟨hl, ao, cap, rfl, hc, hmx, hnil, hsome⟩ := hr
  cases ao with
  | none =>
    obtain ⟨rfl, rfl⟩ := hnil rfl
    have e : cs = [] := List.eq_nil_of_length_eq_zero (by simpa using hl)
    subst e
    refine wpList_append_own_none hgd s x T ho base E i sz hT hi v n L hs hown hx ?_
    exact fin v w (by simpa using hown) (World.grownBy.refl w _)
  | some p =>
    refine wpList_append_own w hgd s x T ho base E i z sz bytes hT hi hz h1 h2 hzs hsz v n L hs hown p m cap cs hx hl ?_ hone (by unfold maxLen; omega) hb hbase (fun v' w' a b _ => fin v' w' a b)
    intro j u hj
    have hj' := (List.getElem?_eq_some_iff.1 hj).1
    have hm : 0 < m := by
      rcases Nat.eq_zero_or_pos m with h0 | h0
      · have h00 : cs.length = 0 := by rw [hl, h0, Nat.zero_mul]
        omega
      · exact h0
    obtain ⟨b, off, e, _, hcell⟩ := hsome hm
    cases e
    have hadd : (⟨b, off, none⟩ : Addr).add j = ⟨b, off + j, none⟩ := by unfold Addr.add; split <;> simp_all
    rw [hadd, hcell j (by rw [← hl]; exact hj'), hj]
/-- what is owned and lies apart from the slice that an append may have written -/
theorem own_apart {w w' : World} {base base' : Nat} {E E' : TypeId} {s s' n n' : Nat} {v v' : Value} {L L' : List Value} (h : w.ownsRow base E s v n L) (k : w.ownsRow base' E' s' v' n' L') (hlt : ∀ g, v.ownBlock = some g → g < base') (hg : w.grownBy w' v'.ownBlock) : w'.ownsRow base E s v n L := by
  refine h.kept hg ?_
  cases e : v.ownBlock with
  | none => exact .inl rfl
  | some g =>
    right
    intro e2
    have h1 := hlt g e
    have h2 := (k.lt g e2.symm).1
    omega
/-- a slice's first j elements -/
theorem Rd.takeS {B : Nat} {w : World} {ao : Option Addr} {n cap s j : Nat} {L : List Value} (h : Rd B w (.slice ao n cap) s n L) (hj : j ≤ n) : Rd B w (.slice ao j cap) s j (L.take (j * s)) := by
  obtain ⟨hL, ao', cap', e, hcap, hmax, hnil, hsome⟩ := h
  obtain ⟨rfl, rfl⟩ : ao = ao' ∧ cap = cap' := by cases e; exact ⟨rfl, rfl⟩
  have hm : j * s ≤ n * s := Nat.mul_le_mul_right s hj
  refine ⟨by rw [List.length_take]; omega, ao, cap, rfl, by omega, hmax, fun h0 => ⟨by have := (hnil h0).1; omega, (hnil h0).2⟩, fun h0 => ?_⟩
  obtain ⟨b, off, e1, hb, hc⟩ := hsome (by omega)
  exact ⟨b, off, e1, hb, fun i hi => by rw [hc i (by omega), List.getElem?_take_of_lt hi]⟩
/-- a slice's elements from the jth on -/
theorem Rd.dropS {B : Nat} {w : World} {b off n cap s j : Nat} {L : List Value} (h : Rd B w (.slice (some ⟨b, off, none⟩) n cap) s n L) (hj : j ≤ n) : Rd B w (.slice (some ⟨b, off + j * s, none⟩) (n - j) (cap - j)) s (n - j) (L.drop (j * s)) := by
  obtain ⟨hL, ao', cap', e, hcap, hmax, hnil, hsome⟩ := h
  obtain ⟨rfl, rfl⟩ : some ⟨b, off, none⟩ = ao' ∧ cap = cap' := by cases e; exact ⟨rfl, rfl⟩
  have hm : j * s ≤ n * s := Nat.mul_le_mul_right s hj
  refine ⟨by rw [List.length_drop, hL, Nat.sub_mul], _, _, rfl, by omega, by omega, (fun h0 => by cases h0), fun h0 => ?_⟩
  obtain ⟨b', off', e1, hb, hc⟩ := hsome (by omega)
  cases e1
  refine ⟨b, off + j * s, rfl, hb, fun i hi => ?_⟩
  rw [Nat.sub_mul] at hi
  rw [Nat.add_assoc, hc (j * s + i) (by omega), List.getElem?_drop]
theorem own_form {w : World} {base : Nat} {E : TypeId} {s n : Nat} {v : Value} {L : List Value} (h : w.ownsRow base E s v n L) : (v = .slice none 0 0 ∧ n = 0) ∨ ∃ g cap, v = .slice (some ⟨g, 0, none⟩) n cap := by
  obtain ⟨h1, h2⟩ := h
  rcases h2 with ⟨rfl, rfl⟩ | ⟨g, cap, cur, rfl, rest⟩
  · exact .inl ⟨rfl, rfl⟩
  · exact .inr ⟨g, cap, rfl⟩
/-- 'append([]T{}, x...)' -/
theorem app_slE {P : Program} {ops : Array Oper} {rest : List Oper} {o : Oper} {a : Act} {Q : Exit → Act → World → Prop} (hgd : o.guard = none) (s x : Operand) (T E : TypeId) (i : TypeInfo) (z : Value) (sz bytes : Nat)
    (hT : P.underlying T = some (.slice E)) (hi : P.info? E = some i) (hz : i.zero = some z) (h1 : i.size = sz) (h2 : i.bytes = bytes) (hzs : z.cells.size = sz) (hsz : 0 < sz)
    (ho : o.op = .call { callee := .builtin .append, args := #[s, x], argTypes := #[T, T] }) (w : World) (hs : a.eval s = .slice (some ⟨w.heap.size, 0, none⟩) 0 0)
    (xv : Value) (m : Nat) (cs : List Value) (hx : a.eval x = xv) (hr : Rd w.heap.size w xv sz m cs) (hone : ∀ u ∈ cs, u.oneCell' = true) (hn : m ≤ 2097152) (hby : bytes ≤ 64)
    (h : ∀ ao cap w', w'.ownsRow w.heap.size E sz (.slice ao m cap) m cs → Below w.heap.size w w' → wpList P ops Q rest (a.put o.dst (.slice ao m cap)) w') :
    wpList P ops Q (o :: rest) a (w.alloc (.cells #[] E)) := by
  have b0 : Below w.heap.size w (w.alloc (.cells #[] E)) := (Below.refl _ w).alloc (Nat.le_refl _) _
  refine app_sl hgd s x T E i z sz bytes hT hi hz h1 h2 hzs hsz ho _ w.heap.size _ 0 [] hs (own_empty w w.heap.size E sz (Nat.le_refl _)) xv m cs hx (hr.up b0) hone (by omega) hby b0.size ?_
  intro ao cap w' hown _ hB
  rw [Nat.zero_add, List.nil_append] at hown
  rw [Nat.zero_add]
  exact h ao cap w' hown (hB w b0)
theorem Rd.takeX {B : Nat} {w : World} {ao : Option Addr} {n cap s j n' : Nat} {L : List Value} (h : Rd B w (.slice ao n cap) s n L) (hj : j ≤ n) (e : n' = j) : Rd B w (.slice ao n' cap) s j (L.take (j * s)) := by
  subst e; exact h.takeS hj
theorem Rd.dropX {B : Nat} {w : World} {b off o' n' c' n cap s j : Nat} {L : List Value} (h : Rd B w (.slice (some ⟨b, off, none⟩) n cap) s n L) (hj : j ≤ n) (e1 : o' = off + j * s) (e2 : n' = n - j) (e3 : c' = cap - j) :
    Rd B w (.slice (some ⟨b, o', none⟩) n' c') s (n - j) (L.drop (j * s)) := by
  subst e1; subst e2; subst e3; exact h.dropS hj
/-- .. if none are left -/
theorem Rd.dropZ {B : Nat} {w : World} {v : Value} {b o' n' c' n s j : Nat} {L : List Value} (h : Rd B w v s n L) (hj : j = n) (e2 : n' = 0) (e3 : c' ≤ maxLen) :
    Rd B w (.slice (some ⟨b, o', none⟩) n' c') s (n - j) (L.drop (j * s)) := by
  subst hj; subst e2
  have e : L.drop (j * s) = [] := List.drop_eq_nil_of_le (by rw [h.1]; exact Nat.le_refl _)
  rw [e, Nat.sub_self]
  exact ⟨by simp, _, _, rfl, Nat.zero_le _, e3, (fun h0 => by cases h0), fun h0 => by omega⟩
theorem Rd.dropN {B : Nat} {w : World} {v : Value} {n' c' n s j : Nat} {L : List Value} (h : Rd B w v s n L) (hn : n = 0) (e2 : n' = 0) (e3 : c' = 0) :
    Rd B w (.slice none n' c') s (n - j) (L.drop (j * s)) := by
  subst hn; subst e2; subst e3
  have e : L = [] := List.eq_nil_of_length_eq_zero (by rw [h.1]; simp)
  rw [e, Nat.zero_sub, List.drop_nil]
  exact ⟨by simp, none, 0, rfl, Nat.le_refl _, Nat.zero_le _, fun _ => ⟨rfl, rfl⟩, fun h0 => by omega⟩
/-- .. as the walk spells it -/
theorem Rd.dropI {B : Nat} {w : World} {b off o' o'' n' c' n cap s j : Nat} {L : List Value} [Decidable (cap = j)] (h : Rd B w (.slice (some ⟨b, off, none⟩) n cap) s n L) (hj : j ≤ n) (e1 : o' = off + j * s) (e2 : n' = n - j) (e3 : c' = cap - j) :
    Rd B w (.slice (if cap = j then some ⟨b, o'', none⟩ else some ⟨b, o', none⟩) n' c') s (n - j) (L.drop (j * s)) := by
  split
  · rename_i hc
    have h4 : n ≤ cap ∧ cap ≤ maxLen := by
      obtain ⟨_, ao', cap', e, h1, h2, _⟩ := h
      injection e with q1 q2 q3
      subst q3
      exact ⟨h1, h2⟩
    exact h.dropZ (by omega) (by omega) (by omega)
  · exact h.dropX hj e1 e2 e3
end Go.Proofs.YtklgkbiobggbiaaGreatDoor
namespace Go.Proofs.YtklgkbiobggbiaaGreatDoor
open Go.ChangeShapes Go.WideShapes Go.ChangeAt Go.RowKit Go.Deep Go.Joins
set_option linter.unusedVariables false
set_option maxRecDepth 100000
set_option linter.unusedSimpArgs false
def allK (f : Nat → Bool) : Nat → Bool
  | 0 => true
  | k + 1 => allK f k && f k
theorem allK_succ (f : Nat → Bool) (k : Nat) : allK f (k + 1) = (allK f k && f k) := rfl
theorem allK_false (f : Nat → Bool) (n k : Nat) (h : k < n) (hf : f k = false) : allK f n = false := by
  induction n with
  | zero => omega
  | succ n ih =>
    rw [allK_succ]
    by_cases hk : k = n
    · subst hk; simp [hf]
    · rw [ih (by omega)]; rfl
theorem allK_true {f : Nat → Bool} {n : Nat} (h : allK f n = true) (k : Nat) (hk : k < n) : f k = true := by
  cases hf : f k with
  | true => rfl
  | false => rw [allK_false f n k hk hf] at h; cases h
theorem allK_intro {f : Nat → Bool} : ∀ {n : Nat}, (∀ k, k < n → f k = true) → allK f n = true
  | 0, _ => rfl
  | n + 1, h => by rw [allK_succ, allK_intro (fun k hk => h k (by omega)), h n (by omega)]; rfl
/-- element k is valid, and behind the one before it -/
def stepB {α : Type} (ok : α → Bool) (lt : α → α → Bool) (xs : List α) (k : Nat) : Bool :=
  match xs[k]? with
  | none => true
  | some x => ok x && (match k with
    | 0 => true
    | j + 1 => match xs[j]? with
      | none => true
      | some y => lt y x)
section
variable {α : Type} {ok : α → Bool} {lt : α → α → Bool} {xs : List α} {k : Nat}
theorem stepB_no (h : k < xs.length) (hO : ok xs[k] = false) : stepB ok lt xs k = false := by
  unfold stepB
  rw [List.getElem?_eq_getElem h]
  simp [hO]
theorem stepB_zero (h : 0 < xs.length) (hO : ok xs[0] = true) : stepB ok lt xs 0 = true := by
  unfold stepB
  rw [List.getElem?_eq_getElem h]
  simp [hO]
theorem stepB_k0 (h : k < xs.length) (h0 : k = 0) (hO : ok xs[k] = true) : stepB ok lt xs k = true := by
  subst h0; exact stepB_zero h hO
theorem stepB_pos (h : k < xs.length) (hp : 0 < k) (hO : ok xs[k] = true) : stepB ok lt xs k = lt xs[k - 1] xs[k] := by
  match k, hp with
  | j + 1, _ =>
    unfold stepB
    rw [List.getElem?_eq_getElem h]
    simp [hO, List.getElem?_eq_getElem (show j < xs.length by omega)]
theorem stepB_lt (h : k < xs.length) (hp : 0 < k) (hO : ok xs[k] = true) (hT : lt xs[k - 1] xs[k] = false) : stepB ok lt xs k = false := by rw [stepB_pos h hp hO, hT]
theorem stepB_yes (h : k < xs.length) (hp : 0 < k) (hO : ok xs[k] = true) (hT : lt xs[k - 1] xs[k] = true) : stepB ok lt xs k = true := by rw [stepB_pos h hp hO, hT]
end

theorem not_less : ∀ (a b : List UInt8), (!(Op.bytesLess b a)) = (Op.bytesLess a b || a == b)
  | [], [] => by simp [Op.bytesLess]
  | [], b :: y => by simp [Op.bytesLess]
  | a :: x, [] => by simp [Op.bytesLess]
  | a :: x, b :: y => by
    have ih := not_less x y
    simp only [Op.bytesLess]
    by_cases h1 : a < b
    · have h2 : ¬ b < a := fun h => by simp only [UInt8.lt_iff_toNat_lt] at h h1; omega
      have h3 : (b == a) = false := by
        rw [beq_eq_false_iff_ne]
        intro h
        subst h
        exact h2 h1
      simp [h1, h2, h3]
    · by_cases h2 : b < a
      · have h3 : (a == b) = false := by
          rw [beq_eq_false_iff_ne]
          intro h
          subst h
          exact h1 h2
        have h4 : a ≠ b := by simpa using h3
        simp [h1, h2, h3, h4]
      · have h3 : a = b := by
          apply UInt8.toNat_inj.1
          simp only [UInt8.lt_iff_toNat_lt] at h1 h2
          omega
        subst h3
        simp [h1, ih]
theorem less_irrefl : ∀ (a : List UInt8), Op.bytesLess a a = false
  | [] => rfl
  | a :: x => by simp [Op.bytesLess, less_irrefl x]
theorem less_trans : ∀ (a b c : List UInt8), Op.bytesLess a b = true → Op.bytesLess b c = true → Op.bytesLess a c = true
  | _, [], _, h, _ => by simp [Op.bytesLess] at h
  | _, _ :: _, [], _, h => by simp [Op.bytesLess] at h
  | [], _ :: _, _ :: _, _, _ => rfl
  | a :: x, b :: y, c :: z, h1, h2 => by
    simp only [Op.bytesLess, Bool.or_eq_true, Bool.and_eq_true, decide_eq_true_eq, beq_iff_eq] at h1 h2 ⊢
    simp only [UInt8.lt_iff_toNat_lt] at h1 h2 ⊢
    rcases h1 with h1 | ⟨rfl, h1⟩
    · rcases h2 with h2 | ⟨rfl, h2⟩
      · left; omega
      · left; exact h1
    · rcases h2 with h2 | ⟨rfl, h2⟩
      · left; exact h2
      · right; exact ⟨rfl, less_trans x y z h1 h2⟩
end Go.Proofs.YtklgkbiobggbiaaGreatDoor
namespace Go.Proofs.YtklgkbiobggbiaaGreatDoor
open Go.ChangeShapes Go.WideShapes Go.ChangeAt Go.RowKit Go.Deep Go.Joins
set_option linter.unusedVariables false
set_option maxRecDepth 100000
set_option linter.unusedSimpArgs false
/-- element k of both -/
def atB {α : Type} (f : α → α → Bool) (xs ys : List α) (k : Nat) : Bool :=
  match xs[k]?, ys[k]? with
  | some x, some y => f x y
  | _, _ => true
theorem atB_eq {α : Type} {f : α → α → Bool} {xs ys : List α} {k : Nat} (h : k < xs.length) (h2 : k < ys.length) : atB f xs ys k = f xs[k] ys[k] := by
  unfold atB
  rw [List.getElem?_eq_getElem h, List.getElem?_eq_getElem h2]
def strEq (x y : ByteArray) : Bool := x.toList == y.toList
theorem strEq_t {x y : ByteArray} (h : strEq x y = true) : (x.toList == y.toList) = true := h
theorem strEq_f {x y : ByteArray} (h : strEq x y = false) : (x.toList == y.toList) = false := h
theorem strEq_nt {x y : ByteArray} (h : strEq x y = true) : (!(x.toList == y.toList)) = false := by unfold strEq at h; rw [h]; rfl
theorem strEq_nf {x y : ByteArray} (h : strEq x y = false) : (!(x.toList == y.toList)) = true := by unfold strEq at h; rw [h]; rfl
/-- the same as lists of texts -/
def wordsS (xs ys : List ByteArray) : Bool := decide (xs.length = ys.length) && allK (atB strEq xs ys) xs.length
end Go.Proofs.YtklgkbiobggbiaaGreatDoor
namespace Go.Proofs.YtklgkbiobggbiaaGreatDoor
open Go.ChangeShapes Go.WideShapes Go.ChangeAt Go.RowKit Go.Deep Go.Joins
set_option linter.unusedVariables false
set_option maxRecDepth 100000
set_option linter.unusedSimpArgs false
def isV (bell : ByteArray) (p : Int) (m : Measure) : Bool := strEq m.bell bell && decide (m.part = p)
def valF (xs : List Measure) (bell : ByteArray) (p : Int) : List Int := (xs.filter (isV bell p)).map Measure.value
theorem valF_no {xs : List Measure} {bell : ByteArray} {p : Int} {k : Nat} (hk : k < xs.length) (h : isV bell p xs[k] = false) : valF (xs.take (k + 1)) bell p = valF (xs.take k) bell p := by
  unfold valF
  rw [List.take_succ_eq_append_getElem hk, List.filter_append, List.map_append]
  simp [h]
theorem valF_yes {xs : List Measure} {bell : ByteArray} {p : Int} {k : Nat} (hk : k < xs.length) (h : isV bell p xs[k] = true) : valF (xs.take (k + 1)) bell p = valF (xs.take k) bell p ++ [xs[k].value] := by
  unfold valF
  rw [List.take_succ_eq_append_getElem hk, List.filter_append, List.map_append]
  simp [h]
theorem valF_len (xs : List Measure) (bell : ByteArray) (p : Int) (k : Nat) : (valF (xs.take k) bell p).length ≤ k := by
  unfold valF
  rw [List.length_map]
  have := List.length_filter_le (isV bell p) (xs.take k)
  rw [List.length_take] at this
  omega
theorem int_snoc (xs : List Int) (a : Int) : (xs ++ [a]).flatMap putI = xs.flatMap putI ++ [.int .i64 a] := by rw [List.flatMap_append]; rfl

set_option maxHeartbeats 4000000 in
theorem impl_values (w : World) (v : Value) (xs : List Measure) (bell : ByteArray) (p : Int) (h : Rd w.heap.size w v 3 xs.length (xs.flatMap Measure.put)) (hn : xs.length ≤ 64) :
    Calls Tryz.prog 35 #[v, .string bell, .int .i64 p] w fun e w' => ∃ r : Value, e = .returned r ∧ w'.ownsRow w.heap.size 2 1 r (valF xs bell p).length ((sortI (valF xs bell p)).flatMap putI) ∧ Below w.heap.size w w' := by
  obtain ⟨hL, vo, vc, rfl, hcap1, hmax1, hnil1, hsome1⟩ := h
  obtain ⟨i0, hi, hz0, hz1, hz2⟩ := info_parts info_i64
  go_enter Tryz.func35, Tryz.ntmps35
  go_wp2
  go_loopw [7, 12] (fun r i wr => ∃ (k : Nat), k ≤ xs.length ∧ i = .int .i64 k ∧ wr.ownsRow w.heap.size 2 1 r (valF (xs.take k) bell p).length ((valF (xs.take k) bell p).flatMap putI) ∧ Below w.heap.size w wr) (fun _ i _ => xs.length - (intOf i).toNat)
  case atStart => exact ⟨0, Nat.zero_le _, rfl, own_nil _ _ _ _, Below.refl _ _⟩
  case round =>
    obtain ⟨k, hk, rfl, hown, hb⟩ := hrel
    have HO := Lib.hid hown; clear hown
    by_cases hlt : k < xs.length
    · have hfl := valF_len xs bell p k
      obtain ⟨b3, off3, rfl, hbB3, hc3⟩ := hsome1 (by omega)
      have c0 : wr.cell? ⟨b3, off3 + k * 3, none⟩ = some (.string xs[k].bell) := by rw [show off3 + k * 3 = off3 + (k * 3 + 0) from by omega, hb.cell (p := ⟨b3, off3 + (k * 3 + 0), none⟩) hbB3, hc3 (k * 3 + 0) (by omega), Measure_get0 xs k hlt]
      have c1 : wr.cell? ⟨b3, off3 + k * 3 + 1, none⟩ = some (.int .i64 xs[k].part) := by rw [show off3 + k * 3 + 1 = off3 + (k * 3 + 1) from by omega, hb.cell (p := ⟨b3, off3 + (k * 3 + 1), none⟩) hbB3, hc3 (k * 3 + 1) (by omega), Measure_get1 xs k hlt]
      have c2 : wr.cell? ⟨b3, off3 + k * 3 + 2, none⟩ = some (.int .i64 xs[k].value) := by rw [show off3 + k * 3 + 2 = off3 + (k * 3 + 2) from by omega, hb.cell (p := ⟨b3, off3 + (k * 3 + 2), none⟩) hbB3, hc3 (k * 3 + 2) (by omega), Measure_get2 xs k hlt]
      have hws := hb.size
      have HB := Lib.hid hb
      have HB2 := Lib.hid (hb.alloc hws (.cells #[.string xs[k].bell, .int .i64 xs[k].part, .int .i64 xs[k].value] 27))
      have HO2 := Lib.hid (HO.out.alloc (.cells #[.string xs[k].bell, .int .i64 xs[k].part, .int .i64 xs[k].value] 27))
      have hws1 : w.heap.size ≤ (wr.alloc (.cells #[.string xs[k].bell, .int .i64 xs[k].part, .int .i64 xs[k].value] 27)).heap.size := HB2.out.size
      clear hc3 hsome1 hnil1 hb
      cases hS : strEq xs[k].bell bell
      · have ef : Hid (valF (xs.take (k + 1)) bell p = valF (xs.take k) bell p) := valF_no hlt (by unfold isV; rw [hS]; rfl)
        have t1 := strEq_f hS
        clear hS hi hz0 hz1 hz2
        go_wp2_with fail
        go_roundw
        case rel => exact ⟨k + 1, by omega, by go_num, by rw [ef.out]; exact HO2.out, HB2.out⟩
        case measure => simp [intOf]; omega
      · have t1 := strEq_t hS
        by_cases hp : xs[k].part = p
        · have ef : Hid (valF (xs.take (k + 1)) bell p = valF (xs.take k) bell p ++ [xs[k].value]) := valF_yes hlt (by unfold isV; rw [hS, hp]; simp)
          have t2 : (xs[k].part == p) = true := beq_iff_eq.2 hp
          clear hS hp
          go_wp2_with (at_builtin; refine app_el rfl _ _ 29 2 i0 (.int .i64 0) 1 8 Tryz.underlying29 hi hz0 hz1 hz2 rfl (by decide) rfl (wr.alloc (.cells #[.string xs[k].bell, .int .i64 xs[k].part, .int .i64 xs[k].value] 27)) w.heap.size _ _ ((valF (xs.take k) bell p).flatMap putI) (by rfl) HO2.out [.int .i64 xs[k].value] rfl (by intro u hu; simp at hu; subst hu; rfl) (by rw [World.size_alloc]; rfl) (by omega) (by decide) hws1 ?_; intro g gc w3 hown3 hB3 hz)
          have HB3 := Lib.hid (hB3 w HB2.out)
          have HO3 := Lib.hid hown3
          clear hown3 hB3
          go_roundw
          case rel => exact ⟨k + 1, by omega, by go_num, by rw [ef.out, int_snoc, List.length_append]; exact HO3.out, HB3.out⟩
          case measure => simp [intOf]; omega
        · have ef : Hid (valF (xs.take (k + 1)) bell p = valF (xs.take k) bell p) := valF_no hlt (by unfold isV; rw [decide_eq_false hp, Bool.and_false])
          have t2 : (xs[k].part == p) = false := beq_eq_false_iff_ne.2 hp
          clear hS hp hi hz0 hz1 hz2
          go_wp2_with fail
          go_roundw
          case rel => exact ⟨k + 1, by omega, by go_num, by rw [ef.out]; exact HO2.out, HB2.out⟩
          case measure => simp [intOf]; omega
    · have em : Hid (xs.take k = xs) := (List.take_of_length_le (by omega) : xs.take k = xs)
      rw [em.out] at HO
      have hfl := valF_len xs bell p xs.length
      rw [List.take_length] at hfl
      have HB := Lib.hid hb; clear hb hsome1 hnil1 hi hz0 hz1 hz2
      have HC := Lib.hid (slices_Sort_i64 wr w.heap.size _ _ _ (valF xs bell p) HO.out (by omega))
      go_wp2_with fail
      refine HC.out.mono ?_; rintro e1 w1 ⟨rfl, o1, g1⟩
      have HB1 := Lib.hid (grown_below HB.out HO.out HB.out.size g1)
      have HO1 := Lib.hid o1
      clear o1 g1
      go_wp2_with fail
      go_ret
      exact ⟨_, rfl, HO1.out, HB1.out⟩
end Go.Proofs.YtklgkbiobggbiaaGreatDoor
namespace Go.Proofs.YtklgkbiobggbiaaGreatDoor
open Go.ChangeShapes Go.WideShapes Go.ChangeAt Go.RowKit Go.Deep Go.Joins
set_option linter.unusedVariables false
set_option maxRecDepth 100000
set_option linter.unusedSimpArgs false
theorem putI_map (xs : List Int) : xs.flatMap putI = xs.map (Value.int .i64) := by
  induction xs with
  | nil => rfl
  | cons x xs ih => rw [List.flatMap_cons, ih]; rfl
theorem putI_one (xs : List Int) : ∀ u ∈ xs.flatMap putI, u.oneCell' = true := by
  intro u hu
  rw [putI_map] at hu
  obtain ⟨x, _, rfl⟩ := List.mem_map.1 hu
  rfl
theorem ins_cells (out : List Int) (v : Int) (j : Nat) : (out.take j ++ v :: out.drop j).flatMap putI = ((out.flatMap putI).take (j * 1) ++ [.int .i64 v]) ++ (out.flatMap putI).drop (j * 1) := by
  simp only [putI_map, Nat.mul_one, List.map_append, List.map_cons, List.map_take, List.map_drop, List.append_assoc, List.singleton_append]
theorem ins_len {α : Type} (out : List α) (v : α) (j : Nat) (h : j ≤ out.length) : (out.take j ++ v :: out.drop j).length = j + 1 + (out.length - j) := by
  rw [List.length_append, List.length_take, List.length_cons, List.length_drop]; omega
end Go.Proofs.YtklgkbiobggbiaaGreatDoor
namespace Go.Proofs.YtklgkbiobggbiaaGreatDoor
open Go.ChangeShapes Go.WideShapes Go.ChangeAt Go.RowKit Go.Deep Go.Joins
set_option linter.unusedVariables false
set_option maxRecDepth 100000
set_option linter.unusedSimpArgs false
/-- low to high -/
def inB (n lo hi : Int) : Bool := decide (lo ≤ n) && decide (n ≤ hi)
theorem inB_true {n lo hi : Int} (h : inB n lo hi = true) : lo ≤ n ∧ n ≤ hi := by simpa [inB] using h
theorem inB_false {n lo hi : Int} (h : inB n lo hi = false) : ¬ (lo ≤ n ∧ n ≤ hi) := by
  intro hc
  have : inB n lo hi = true := by simpa [inB] using hc
  rw [this] at h; cases h
theorem inB_mk {n lo hi : Int} (h : lo ≤ n ∧ n ≤ hi) : inB n lo hi = true := by simpa [inB] using h

theorem l00In (n lo hi : Int) (w : World) : Calls Tryz.prog 161 #[.int .i64 n, .int .i64 lo, .int .i64 hi] w fun e w' => e = .returned (.bool (inB n lo hi)) ∧ w = w' := by
  unfold inB
  go_enter Tryz.func161, Tryz.ntmps161
  go_wp2
  all_goals go_ret
  all_goals exact ⟨by first | (simp [*]; done) | (simp [*]; omega), rfl⟩

theorem within (n lo hi : Int) (w : World) : Calls Tryz.prog 78 #[.int .i64 n, .int .i64 lo, .int .i64 hi] w fun e w' => e = .returned (.bool (inB n lo hi)) ∧ w = w' := by
  unfold inB
  go_enter Tryz.func78, Tryz.ntmps78
  go_wp2
  all_goals go_ret
  all_goals exact ⟨by first | (simp [*]; done) | (simp [*]; omega), rfl⟩

theorem l00In_is {b : Bool} (n lo hi : Int) (w : World) (h : inB n lo hi = b) : Calls Tryz.prog 161 #[.int .i64 n, .int .i64 lo, .int .i64 hi] w fun e w' => e = .returned (.bool b) ∧ w = w' := by
  rw [← h]; exact l00In n lo hi w
theorem within_is {b : Bool} (n lo hi : Int) (w : World) (h : inB n lo hi = b) : Calls Tryz.prog 78 #[.int .i64 n, .int .i64 lo, .int .i64 hi] w fun e w' => e = .returned (.bool b) ∧ w = w' := by
  rw [← h]; exact within n lo hi w
end Go.Proofs.YtklgkbiobggbiaaGreatDoor
