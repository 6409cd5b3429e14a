/- A drawn profile. -/
import Derived.Test.YtgjcmfacdnngjaaRows
import Derived.Test.YtgjcmfacdnngjaaDraw
import Derived.Test.YtgjcmfacdnngjaaOneProfile
import Derived.Test.YtgjcmfacdnngjaaStepApp
import Derived.Test.YtgjcmfacdnngjaaOwnK
import Derived.Deep.RegionLaw
import Derived.Shelf.RegionOpenPlain
namespace Go.Proofs.Ytgjcmfacdnngjaa
open Go.ChangeShapes Go.WideShapes Go.ChangeAt Go.RowKit Go.Deep Go.Joins
set_option linter.unusedVariables false
set_option maxRecDepth 100000
set_option linter.unusedSimpArgs false
/-- rings whose walls lie on each other; o is where the next one begins -/
def Chain (rs : List Ring) (o : Int) : Prop := (∀ r ∈ rs, ringB r = true ∧ r.height ≤ 2490) ∧ (∀ i (h : i + 1 < rs.length), joinB rs[i] rs[i + 1] = true) ∧ ∀ y, rs.getLast? = some y → y.outer - 790 ≤ o ∧ o ≤ y.outer ∧ y.inner ≤ y.outer - 1200
theorem chain_nil (o : Int) : Chain [] o := ⟨fun r hr => (by cases hr), fun i h => (by simp at h), fun y hy => (by simp at hy)⟩
theorem chain_snoc {rs : List Ring} {o : Int} (h : Chain rs o) {x : Ring} (hx : ringB x = true) (hh : x.height ≤ 2490) (ho : x.outer = o) (hi : x.inner ≤ x.outer - 1200) {o' : Int} (h1 : x.outer - 790 ≤ o') (h2 : o' ≤ x.outer) : Chain (rs ++ [x]) o' := by
  obtain ⟨a, b, c⟩ := h
  refine ⟨fun r hr => ?_, fun i hi2 => ?_, fun y hy => ?_⟩
  · rcases List.mem_append.1 hr with q | q
    · exact a r q
    · rw [List.mem_singleton.1 q]; exact ⟨hx, hh⟩
  · have hl : i + 1 < rs.length + 1 := by simpa using hi2
    rcases Nat.lt_or_ge (i + 1) rs.length with q | q
    · rw [List.getElem_append_left (by omega), List.getElem_append_left q]; exact b i q
    · have e : i + 1 = rs.length := by omega
      have hl2 : rs.getLast? = some rs[i] := by
        rw [List.getLast?_eq_getElem?, show rs.length - 1 = i from by omega, List.getElem?_eq_getElem (by omega)]
      obtain ⟨c1, c2, c3⟩ := c _ hl2
      rw [List.getElem_append_left (by omega), List.getElem_append_right (by omega)]
      simp only [e, Nat.sub_self, List.getElem_cons_zero]
      unfold joinB
      rw [Bool.and_eq_true, decide_eq_true_eq, decide_eq_true_eq]
      exact ⟨by omega, by omega⟩
  · rw [List.getLast?_append] at hy
    simp at hy
    subst hy
    exact ⟨h1, h2, hi⟩
theorem height_chain : ∀ {rs : List Ring}, (∀ r ∈ rs, r.height ≤ 2490) → heightS rs ≤ (rs.length : Int) * 2490
  | [], _ => by simp [heightS]
  | r :: rs, h => by
    have ih := height_chain (rs := rs) (fun y hy => h y (List.mem_cons_of_mem _ hy))
    have h1 := h r (List.mem_cons_self ..)
    have e : heightS (r :: rs) = r.height + heightS rs := by simp [heightS]
    rw [e, List.length_cons]
    push_cast; omega
theorem chain_prof {nm : ByteArray} {l : Value} {rs : List Ring} {o : Int} (h : Chain rs o) (hn : nameB nm = true) (h1 : 1 ≤ rs.length) (h2 : rs.length ≤ 9) : profB ⟨nm, l, rs⟩ = true := by
  obtain ⟨a, b, c⟩ := h
  have hh := height_chain (rs := rs) (fun r hr => (a r hr).2)
  unfold profB
  simp only [Bool.and_eq_true, decide_eq_true_eq]
  refine ⟨hn, h1, by omega, allK_intro fun k hk => ?_, by omega⟩
  have ho := (a rs[k] (List.getElem_mem hk)).1
  by_cases h0 : 0 < k
  · refine stepB_yes hk h0 ho ?_
    obtain ⟨j, rfl⟩ : ∃ j, k = j + 1 := ⟨k - 1, by omega⟩
    exact b j hk
  · exact stepB_k0 hk (by omega) ho
theorem ring_snoc (rs : List Ring) (x : Ring) : (rs ++ [x]).flatMap Ring.put = rs.flatMap Ring.put ++ [.int .i64 x.outer, .int .i64 x.inner, .int .i64 x.height] := by rw [List.flatMap_append]; rfl
theorem one3 (a b c : Int) : ∀ u ∈ [Value.int .i64 a, .int .i64 b, .int .i64 c], u.oneCell' = true := by
  intro u hu
  simp only [List.mem_cons, List.not_mem_nil, or_false] at hu
  rcases hu with rfl | rfl | rfl <;> rfl
theorem own_farP {w : World} {base g : Nat} {E : TypeId} {s n : Nat} {v : Value} {L : List Value} (h : w.ownsRow base E s v n L) (ha : ∀ g', v.ownBlock = some g' → g' ≠ g) (i : Nat) (u : Value) : (w.setCell ⟨g, i, none⟩ u).ownsRow base E s v n L := by
  obtain ⟨h1, h2⟩ := h
  refine ⟨h1, ?_⟩
  rcases h2 with h2 | ⟨g1, cap, cur, rfl, hg0, hg1, rest⟩
  · exact .inl h2
  · refine .inr ⟨g1, cap, cur, rfl, hg0, ?_, rest⟩
    rw [Below.heap_setCell _ _ _ _ (fun e => ha g1 rfl e)]
    exact hg1
/-- what a draw of a profile leaves -/
def DrewP (B g N : Nat) (w w' : World) (nm : ByteArray) (v : Value) : Prop := ∃ (lo : Option Addr) (lc : Nat) (rs : List Ring), v = .slice lo rs.length lc ∧ profB ⟨nm, v, rs⟩ = true ∧ nm.size ≤ 6 ∧ rs.length ≤ 9 ∧ w'.ownsRow B 60 3 v rs.length (rs.flatMap Ring.put) ∧ Src w' g N ∧ Turn g (g + 1) w w'
set_option maxHeartbeats 4000000 in
theorem draw_profile (w : World) (g n : Nat) (h : Src w g n) (hn : n ≤ 50000) :
    Calls Try.prog 14 #[.pointer (some ⟨g, 0, none⟩)] w fun e w' => ∃ (nm : ByteArray) (v : Value), e = .returned (.agg #[.string nm, v]) ∧ DrewP w.heap.size g (n + 80) w w' nm v := by
  have hg := h.lt
  obtain ⟨i0, hi, hz0, hz1, hz2⟩ := info_parts Ring_info
  have mixed : Try.prog.follows .mixedOrders = true := by kernel_rfl
  obtain ⟨W1, hW1⟩ : ∃ W1, w.alloc (.cells #[.string ⟨#[]⟩, .slice none 0 0] 28) = W1 := ⟨_, rfl⟩
  have e1 : W1.heap.size = w.heap.size + 1 := by rw [← hW1]; simp
  obtain ⟨W2, hW2⟩ : ∃ W2, W1.alloc (.cells #[.string ⟨#[116, 101, 110, 111, 114]⟩, .string ⟨#[116, 114, 101, 98, 108, 101]⟩, .string ⟨#[98, 101, 108, 108]⟩, .string ⟨#[103, 52]⟩] 9) = W2 := ⟨_, rfl⟩
  have e2 : W2.heap.size = w.heap.size + 2 := by rw [← hW2]; simp [e1]
  have T2 : Turn g (g + 1) w W2 := by rw [← hW2, ← hW1]; exact ((Turn.refl _ _ w).allocR _).allocR _
  have R1 : Own W1 w.heap.size 28 [.string ⟨#[]⟩, .slice none 0 0] := by rw [← hW1]; exact Own.new w _ _
  have R2 : Own W2 w.heap.size 28 [.string ⟨#[]⟩, .slice none 0 0] := by rw [← hW2]; exact R1.alloc _
  have S2 : Src W2 g n := by rw [← hW2, ← hW1]; exact (h.below ((Below.refl _ _).alloc (Nat.le_refl _) _)).below ((Below.refl _ _).alloc (Nat.le_refl _) _)
  have L2 : Rd W2.heap.size W2 (.slice (some ⟨W1.heap.size, 0, none⟩) 4 4) 1 4 ([(⟨#[116, 101, 110, 111, 114]⟩ : ByteArray), ⟨#[116, 114, 101, 98, 108, 101]⟩, ⟨#[98, 101, 108, 108]⟩, ⟨#[103, 52]⟩].flatMap putStr) := by
    have o : Own W2 W1.heap.size 9 [.string ⟨#[116, 101, 110, 111, 114]⟩, .string ⟨#[116, 114, 101, 98, 108, 101]⟩, .string ⟨#[98, 101, 108, 108]⟩, .string ⟨#[103, 52]⟩] := by rw [← hW2]; exact Own.new W1 _ _
    exact o.rd o.lt (n := 4) rfl (by unfold maxLen; omega) _ (Nat.le_refl _) (by unfold maxLen; omega)
  rw [e1] at L2
  have HX := Lib.hid (src_text W2 g n _ _ S2 (by omega) L2 (by decide) (by decide) (by rintro b off l c e; injection e with e _ _; injection e with e; injection e with e; omega))
  have HR2 := Lib.hid R2
  have HT2 := Lib.hid T2
  clear R1 R2 S2 L2 T2 h
  go_enter Try.func14, Try.ntmps14
  go_wp2_with fail
  refine HX.out.mono ?_; rintro e w3 ⟨t, rfl, ht, s3, t3⟩
  have htb : t.size ≤ 6 ∧ nameB t = true := by
    have h1 : t = ⟨#[116, 101, 110, 111, 114]⟩ ∨ t = ⟨#[116, 114, 101, 98, 108, 101]⟩ ∨ t = ⟨#[98, 101, 108, 108]⟩ ∨ t = ⟨#[103, 52]⟩ := by simpa using ht
    rcases h1 with rfl | rfl | rfl | rfl <;> exact ⟨by decide, by decide⟩
  have HTB := Lib.hid htb
  have z3 : W2.heap.size ≤ w3.heap.size := t3.size
  have R3 := (HR2.out.turn t3 (.inr (by omega))).alloc (.cells #[.string t, .slice none 0 0] 28)
  have T3 := (HT2.out.trans t3).allocR (.cells #[.string t, .slice none 0 0] 28)
  have S3 : Src (w3.alloc (.cells #[.string t, .slice none 0 0] 28)) g (n + 2) := s3.below ((Below.refl _ _).alloc (Nat.le_refl _) _)
  have X3 : Own (w3.alloc (.cells #[.string t, .slice none 0 0] 28)) w3.heap.size 28 [.string t, .slice none 0 0] := Own.new w3 _ _
  have HP4 := Lib.hid (src_pick _ g (n + 2) 3000 S3 (by omega) (by omega))
  have HX3 := Lib.hid X3
  have HR3 := Lib.hid R3
  have HT3 := Lib.hid T3
  clear ht htb s3 t3 HX HR2 HT2 R3 T3 S3 X3
  go_wp2_with fail
  refine HP4.out.mono ?_; rintro e w4 ⟨q4, rfl, a4, _, b4, s4, t4⟩
  have c4 : q4 < 3000 := b4 (by omega)
  have HP5 := Lib.hid (src_pick _ g (n + 4) 200 s4 (by omega) (by omega))
  have HX4 := Lib.hid (HX3.out.turn t4 (.inr (by omega)))
  have HR4 := Lib.hid (HR3.out.turn t4 (.inr (by omega)))
  have HT4 := Lib.hid (HT3.out.trans t4)
  clear b4 s4 t4 HP4 HX3 HR3 HT3
  go_wp2_with fail
  refine HP5.out.mono ?_; rintro e w5 ⟨q5, rfl, a5, _, b5, s5, t5⟩
  have c5 : q5 < 200 := b5 (by omega)
  have HP6 := Lib.hid (src_pick _ g (n + 6) 8 s5 (by omega) (by omega))
  have HX5 := Lib.hid (HX4.out.turn t5 (.inr (by omega)))
  have HR5 := Lib.hid (HR4.out.turn t5 (.inr (by omega)))
  have HT5 := Lib.hid (HT4.out.trans t5)
  clear b5 s5 t5 HP5 HX4 HR4 HT4
  go_wp2_with fail
  refine HP6.out.mono ?_; rintro e w6 ⟨q6, rfl, a6, _, b6, s6, t6⟩
  have c6 : q6 < 8 := b6 (by omega)
  obtain ⟨N, hN, hN9⟩ : ∃ N : Nat, 2 + q6 = (N : Int) ∧ (2 ≤ N ∧ N ≤ 9) := ⟨(2 + q6).toNat, by omega, by omega⟩
  have HS6 := Lib.hid s6
  have HX6 := Lib.hid (HX5.out.turn t6 (.inr (by omega)))
  have HR6 := Lib.hid (HR5.out.turn t6 (.inr (by omega)))
  have HT6 := Lib.hid (HT5.out.trans t6)
  have HNN := Lib.hid hN
  clear b6 s6 t6 HP6 HX5 HR5 HT5 hN
  go_wp2_with fail
  go_loopw [4, 5, 6] (fun o wl k wr => ∃ (j : Nat) (rs : List Ring) (lo : Option Addr) (lc : Nat) (O L : Int), k = .int .i64 j ∧ j + rs.length = N ∧ o = .int .i64 O ∧ wl = .int .i64 L ∧ (20000 - 790 * (rs.length : Int) ≤ O ∧ O ≤ 49990) ∧ (1200 ≤ L ∧ L ≤ 3990) ∧ Chain rs O ∧ Own wr w3.heap.size 28 [.string t, .slice lo rs.length lc] ∧ wr.ownsRow w.heap.size 60 3 (.slice lo rs.length lc) rs.length (rs.flatMap Ring.put) ∧ Own wr w.heap.size 28 [.string ⟨#[]⟩, .slice none 0 0] ∧ Src wr g (n + 8 + 6 * rs.length) ∧ Turn g (g + 1) w wr) (fun _ _ k _ => (intOf k).toNat)
  case atStart => exact ⟨N, [], none, 0, 20000 + 10 * q4, 2000 + 10 * q5, by rw [HNN.out], rfl, rfl, rfl, ⟨by simp; omega, by omega⟩, ⟨by omega, by omega⟩, chain_nil _, HX6.out, own_nil _ _ _ _, HR6.out, HS6.out, HT6.out⟩
  case round =>
    clear HX6 HR6 HS6 HT6 HNN
    obtain ⟨j, rs, lo, lc, O, L, rfl, hjn, rfl, rfl, hO, hL, hch, hX, hLs, hR, hS, hT⟩ := hrel
    have HJN := Lib.hid hjn
    have HCH := Lib.hid hch
    have XR := Lib.hid hX
    have LR := Lib.hid hLs
    have RR := Lib.hid hR
    have SR := Lib.hid hS
    have TR := Lib.hid hT
    have hrl : rs.length ≤ 9 := by omega
    have hj9 : j ≤ 9 := by omega
    have hxl : w3.heap.size < wr.heap.size := hX.lt
    have hgr : g < wr.heap.size := hS.lt
    have hwr : w.heap.size ≤ wr.heap.size := hT.size
    have x1 : wr.cell? ⟨w3.heap.size, 1, none⟩ = some (.slice lo rs.length lc) := hX.cell 1
    have x0 : wr.cell? ⟨w3.heap.size, 0, none⟩ = some (.string t) := hX.cell 0
    have hjz : 0 < j → rs.length ≤ 8 := fun q => by omega
    clear hjn hch hX hLs hR hS hT
    by_cases hlt : 0 < j
    · have tl : decide ((0 : Int) < (j : Int)) = true := decide_eq_true (by omega)
      have hr8 : rs.length ≤ 8 := hjz hlt
      have f1 : wr.drew.cell? ⟨w3.heap.size, 1, none⟩ = some (.slice lo rs.length lc) := x1
      clear x0 hjz
      have ww1 : IntKind.i64.wrap (O - L) = O - L := (by rw [IntKind.wrap_i64]; omega)
      go_wp2_with fail
      go_region_law_o (first
        | (rw [if_pos (by rfl)]
           refine stp_el _ _ 26 60 i0 (.agg #[.int .i64 0, .int .i64 0, .int .i64 0]) 3 24 Try.underlying26 hi hz0 hz1 hz2 rfl (by decide) rfl w5' w.heap.size (.slice lo rs.length lc) rs.length (rs.flatMap Ring.put) (by rfl) L5.out [.int .i64 O, .int .i64 (O - L), .int .i64 (500 + 10 * p)] rfl (one3 _ _ _) (by first | rfl | (rw [World.size_alloc]; rfl)) (by omega) (by decide) hw5' (by rfl) ?_
           intro g7 gc7 w7 hown7 hB7 hK7
           have B7 := Lib.hid (hB7 w5' (Below.refl _ _))
           have L7 := Lib.hid hown7
           have X7 := Lib.hid (hK7 _ _ _ X5.out (own_apart_type L5.out X5.out (by decide)))
           have R7 := Lib.hid (hK7 _ _ _ R5.out (own_apart_type L5.out R5.out (by decide)))
           have yy1 : w7.cell? ⟨w3.heap.size, 1, none⟩ = some (.slice lo rs.length lc) := X7.out.cell 1
           have fy1 := X7.out.free 1
           have hly : w3.heap.size < w7.heap.size := X7.out.lt
           clear hown7 hB7 hK7)
        | (go_simp
           go_at_call 13
           refine (src_pick _ g (n + 8 + 6 * rs.length) 200 (SR.out.below (by (repeat' (first | (with_reducible exact Below.refl _ _) | (with_reducible assumption) | (with_reducible refine below_dn ?_ _) | (with_reducible refine Below.drew ?_) | (with_reducible refine Below.alloc ?_ ?_ _) | (with_reducible refine Below.setCell ?_ ?_ _) | go_size)))) (by omega) (by omega)).mono ?_; rintro e w5' ⟨p, rfl, p0, _, p1, s5', t5'⟩
           have TT : Turn g (g + 1) wr w5' := Turn.trans (Turn.of_below (by (repeat' (first | (with_reducible exact Below.refl _ _) | (with_reducible assumption) | (with_reducible refine below_dn ?_ _) | (with_reducible refine Below.drew ?_) | (with_reducible refine Below.alloc ?_ ?_ _) | (with_reducible refine Below.setCell ?_ ?_ _) | go_size)))) t5'
           have X5 := Lib.hid (XR.out.turn TT (.inr (by omega)))
           have L5 := Lib.hid (own_turn LR.out TT (by omega))
           have R5 := Lib.hid (RR.out.turn TT (.inr (by omega)))
           have T5 := Lib.hid (TR.out.trans TT)
           have S5 := Lib.hid s5'
           have y1 : w5'.cell? ⟨w3.heap.size, 1, none⟩ = some (.slice lo rs.length lc) := X5.out.cell 1
           have hy5 : w3.heap.size < w5'.heap.size := X5.out.lt
           have hw5' : w.heap.size ≤ w5'.heap.size := T5.out.size
           have hp200 : p < 200 := p1 (by omega)
           have ww2 : IntKind.i64.wrap (10 * p) = 10 * p := (by rw [IntKind.wrap_i64]; omega)
           have ww3 : IntKind.i64.wrap (500 + 10 * p) = 500 + 10 * p := (by rw [IntKind.wrap_i64]; omega)
           clear s5' t5' TT p1))
      all_goals
        have hap := own_apart_type L7.out X7.out (by decide)
        obtain ⟨W8, hW8⟩ : ∃ W8, w7.setCell ⟨w3.heap.size, 1, none⟩ (.slice (some ⟨g7, 0, none⟩) (rs.length + 1) gc7) = W8 := ⟨_, rfl⟩
        have H5 : Hid (Own W8 w3.heap.size 28 [.string t, .slice (some ⟨g7, 0, none⟩) (rs.length + 1) gc7]) := Lib.hid (hW8 ▸ X7.out.set 1 _)
        have H6 : Hid (W8.ownsRow w.heap.size 60 3 (.slice (some ⟨g7, 0, none⟩) (rs.length + 1) gc7) (rs.length + 1) (rs.flatMap Ring.put ++ [.int .i64 O, .int .i64 (O - L), .int .i64 (500 + 10 * p)])) := Lib.hid (hW8 ▸ own_farP L7.out hap 1 _)
        have H7 : Hid (Own W8 w.heap.size 28 [.string ⟨#[]⟩, .slice none 0 0]) := Lib.hid (hW8 ▸ R7.out.other (by show w3.heap.size ≠ w.heap.size; omega) _)
        have H8 : Src W8 g (n + 8 + 6 * rs.length + 2) := hW8 ▸ Src.set (S5.out.belowB B7.out hg) (by omega) 1 _
        have H9 : Hid (Turn g (g + 1) w W8) := Lib.hid (hW8 ▸ Turn.setNew (T5.out.thenB B7.out (Nat.le_refl _)) (by omega) 1 _)
        have hz8 : w3.heap.size < W8.heap.size := H5.out.lt
        have HQ := Lib.hid (src_pick W8 g (n + 8 + 6 * rs.length + 2) 80 H8 (by omega) (by omega))
        clear hap L7 X7 R7 yy1 fy1 H8 X5 L5 R5 T5 S5 B7 XR LR RR SR TR
        go_wp2_with fail
        refine HQ.out.mono ?_; rintro e w9 ⟨q, rfl, qa, _, qb, s9, t9⟩
        have hq80 : q < 80 := qb (by omega)
        have I5 := Lib.hid (H5.out.turn t9 (.inr (by omega)))
        have I6 := Lib.hid (own_turn H6.out t9 (by omega))
        have I7 := Lib.hid (H7.out.turn t9 (.inr (by omega)))
        have I9 := Lib.hid (H9.out.trans t9)
        have HQ2 := Lib.hid (src_pick w9 g (n + 8 + 6 * rs.length + 4) 150 s9 (by omega) (by omega))
        clear qb s9 t9 H5 H6 H7 H9 HQ hW8
        go_wp2_with fail
        refine HQ2.out.mono ?_; rintro e wa ⟨z, rfl, za, _, zb, sa, ta⟩
        have hz150 : z < 150 := zb (by omega)
        have J5 := Lib.hid (I5.out.turn ta (.inr (by have := I5.out.lt; omega)))
        have J6 := Lib.hid (own_turn I6.out ta (by omega))
        have J7 := Lib.hid (I7.out.turn ta (.inr (by omega)))
        have J9 := Lib.hid (I9.out.trans ta)
        have JS := Lib.hid sa
        clear zb sa ta I5 I6 I7 I9 HQ2
        have hrb : ringB ⟨O, O - L, 500 + 10 * p⟩ = true := by
          unfold ringB
          rw [inB_mk ⟨by show 500 ≤ O; omega, by show O ≤ 150000; omega⟩, inB_mk ⟨by show 0 ≤ O - L; omega, by show O - L ≤ O - 100; omega⟩, inB_mk ⟨by show 10 ≤ 500 + 10 * p; omega, by show 500 + 10 * p ≤ 300000; omega⟩]; rfl
        have HC2 := Lib.hid (chain_snoc HCH.out hrb (by show 500 + 10 * p ≤ 2490; omega) rfl (by show O - L ≤ O - 1200; omega) (o' := O - 10 * q) (by show O - 790 ≤ O - 10 * q; omega) (by show O - 10 * q ≤ O; omega))
        clear hrb
        go_wp2_with fail
        go_roundw
      all_goals first
        | exact ⟨j - 1, rs ++ [⟨O, O - L, 500 + 10 * p⟩], some ⟨g7, 0, none⟩, gc7, O - 10 * q, 1200 + 10 * z, by go_num, by rw [List.length_append, List.length_singleton]; have := HJN.out; omega, rfl, rfl, ⟨by rw [List.length_append, List.length_singleton]; push_cast; omega, by omega⟩, ⟨by omega, by omega⟩, HC2.out, by rw [List.length_append, List.length_singleton]; exact J5.out, by rw [ring_snoc, List.length_append, List.length_singleton]; exact J6.out, J7.out, by rw [List.length_append, List.length_singleton]; exact JS.out.mono (by omega), J9.out⟩
        | (simp [intOf]; omega)
    · have tl : decide ((0 : Int) < (j : Int)) = false := decide_eq_false (by omega)
      have hrn : 1 ≤ rs.length := by have := HJN.out; omega
      have hlx := XR.out.lt
      have r0 : wr.cell? ⟨w.heap.size, 0, none⟩ = some (.string ⟨#[]⟩) := RR.out.cell 0
      have r1 : wr.cell? ⟨w.heap.size, 1, none⟩ = some (.slice none 0 0) := RR.out.cell 1
      have fr0 := RR.out.free 0
      have fr1 := RR.out.free 1
      have hlr := RR.out.lt
      have hne1 : ¬ w.heap.size = w3.heap.size := by omega
      have hne2 : ¬ w3.heap.size = w.heap.size := by omega
      clear hjz
      go_wp2_with fail
      refine bodyPost_ret (v := .agg #[.string t, .slice lo rs.length lc]) (by simp [results, Try.results14, go_sem, x0, x1, r0, r1, hlx, hlr, hne1, hne2]) rfl ?_
      refine ⟨t, _, rfl, lo, lc, rs, rfl, chain_prof HCH.out HTB.out.2 hrn hrl, HTB.out.1, hrl, ?_, ?_, ?_⟩
      · have hap2 := own_apart_type LR.out RR.out (by decide)
        exact own_farP (own_farP LR.out hap2 0 _) hap2 1 _
      · repeat (refine Src.set ?_ (by omega) _ _)
        exact SR.out.mono (by omega)
      · repeat (refine Turn.setNew ?_ (by omega) _ _)
        exact TR.out
/-- a profile that one reads -/
def ReadP (w' : World) (nm : ByteArray) (v : Value) : Prop := ∃ (lo : Option Addr) (lc : Nat) (rs : List Ring), v = .slice lo rs.length lc ∧ profB ⟨nm, v, rs⟩ = true ∧ nm.size ≤ 6 ∧ rs.length ≤ 9 ∧ Rd w'.heap.size w' v 3 rs.length (rs.flatMap Ring.put)
set_option maxHeartbeats 2000000 in
theorem draw_R8Profile (w : World) (v : Value) (cs : List UInt8) (h : Rd w.heap.size w v 1 cs.length (cs.flatMap putB)) (hl : cs.length ≤ maxLen) :
    Calls Try.prog 6 #[v] w fun e w' => ∃ (nm : ByteArray) (u : Value), e = .returned (.agg #[.string nm, u]) ∧ ReadP w' nm u ∧ Below w.heap.size w w' := by
  have HB0 : Below w.heap.size w (w.alloc (.cells #[.string ⟨#[]⟩, .slice none 0 0] 28)) := (Below.refl _ _).alloc (Nat.le_refl _) _
  have HF := Lib.hid (src_from (w.alloc (.cells #[.string ⟨#[]⟩, .slice none 0 0] 28)) v cs (h.up HB0) hl)
  have HR0 := Lib.hid (Own.new w 28 [.string ⟨#[]⟩, .slice none 0 0])
  obtain ⟨ao, cap, rfl⟩ := h.form
  clear h
  go_enter Try.func6, Try.ntmps6
  go_wp2_with fail
  refine HF.out.mono ?_; rintro e w1 ⟨rfl, s1, b1⟩
  have eg : (w.alloc (.cells #[.string ⟨#[]⟩, .slice none 0 0] 28)).heap.size = w.heap.size + 1 := by simp
  have hg1 := s1.lt
  have HB1 := Lib.hid (HB0.trans (b1.mono (by rw [eg]; omega)))
  have HR1 := Lib.hid (HR0.out.below b1 HR0.out.lt)
  rw [eg] at s1 hg1
  have HD := Lib.hid (draw_profile w1 (w.heap.size + 1) 0 s1 (by omega))
  clear s1 b1 HF HB0 HR0
  go_wp2_with fail
  refine HD.out.mono ?_; rintro e w2 ⟨nm, u, rfl, lo, lc, rs, rfl, hp, hnz, hrl, ho, s2, t2⟩
  have HO := Lib.hid ho
  have HPB := Lib.hid hp
  have R2 := Lib.hid (HR1.out.turn t2 (.inl (by omega)))
  have HB2 := Lib.hid (HB1.out.trans (t2.below (B := w.heap.size) (by omega) (by have := HB1.out.size; omega)))
  have r0 : w2.cell? ⟨w.heap.size, 0, none⟩ = some (.string ⟨#[]⟩) := R2.out.cell 0
  have r1 : w2.cell? ⟨w.heap.size, 1, none⟩ = some (.slice none 0 0) := R2.out.cell 1
  have fr0 := R2.out.free 0
  have fr1 := R2.out.free 1
  have hlr := R2.out.lt
  clear ho hp s2 t2 HD HB1 HR1
  go_wp2_with fail
  refine bodyPost_ret (v := .agg #[.string nm, .slice lo rs.length lc]) (by simp [results, Try.results6, go_sem, r0, r1, hlr]) rfl ?_
  have hap2 := own_apart_type HO.out R2.out (by decide)
  exact ⟨nm, _, rfl, ⟨lo, lc, rs, rfl, HPB.out, hnz, hrl, own_rd (own_farP (own_farP HO.out hap2 0 _) hap2 1 _)⟩, Below.setCell (Below.setCell HB2.out (Nat.le_refl _) _) (Nat.le_refl _) _⟩
end Go.Proofs.Ytgjcmfacdnngjaa
